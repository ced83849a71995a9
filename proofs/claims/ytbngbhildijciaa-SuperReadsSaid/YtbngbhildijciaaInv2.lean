/- Regions that draw, by an invariant: each operation is walked as a list of one. -/
import Derived.Test.YtbngbhildijciaaInv
namespace Go.Proofs.Ytbngbhildijciaa
open Go.RowKit
set_option linter.unusedVariables false

/-- Only a normal end. -/
def onlyN (K : Act → World → Prop) : Exit → Act → World → Prop
  | .normal, a, w => K a w
  | _, _, _ => False
theorem onlyN_out (K : Act → World → Prop) : ¬ LetsOut (onlyN K) := fun ⟨_, _, h⟩ => h
section
variable {P : Program} {ops : Array Oper} {Q : Exit → Act → World → Prop}
theorem Oper.wp_onlyN {o : Oper} {a : Act} {w : World} {K : Act → World → Prop} (h : o.wp P a w K (onlyN K)) : o.wp P a w K Q := by
  unfold Oper.wp at *
  generalize (execOp a.eval o).run P w = r at *
  cases r with
  | ok n w' =>
    cases n <;> simp only [Oper.upon] at h ⊢ <;>
      first
        | exact h
        | exact Calls.mono h (fun e w'' he => by cases e <;> first | exact he | exact he.elim | exact absurd he (onlyN_out K))
        | exact Rows.mono h (fun _ _ he => he)
  | halt x w' => cases x <;> simp only [Oper.upon] at h ⊢ <;> first | exact h | exact h.elim
theorem wpOp_one {i : Nat} {o : Oper} {a : Act} {w : World} {K : Act → World → Prop} (ho : ops[i]? = some o) (h : wpList P ops (onlyN K) [o] a w) : wpOp P ops Q i K a w := by
  unfold wpOp
  rw [ho]
  show if Region.wanted o (yielded ops a.tmps) = true then _ else _
  unfold wpList at h
  split
  · rename_i hw
    rw [if_pos hw] at h
    rcases h with h | h
    · exact .inl (Oper.wp_onlyN h)
    · exact absurd h.2 (onlyN_out K)
  · rename_i hw
    rw [if_neg hw] at h
    exact h
/-- What binds an operation is done. -/
def ReadyL (d : Nat → Bool) : List Edge → Prop
  | [] => True
  | e :: l => (Region.binds .any e = true → d e.on = true) ∧ ReadyL d l
theorem ReadyL.of {d : Nat → Bool} : ∀ {l : List Edge}, (∀ e ∈ l, Region.binds .any e = true → d e.on = true) → ReadyL d l
  | [], _ => trivial
  | e :: l, h => ⟨h e (by simp), ReadyL.of fun x hx => h x (List.mem_cons_of_mem _ hx)⟩
/-- Each operation keeps the invariant. -/
def InvSteps (P : Program) (ops : Array Oper) (J : (Nat → Bool) → Act → World → Prop) : Nat → List Oper → Prop
  | _, [] => True
  | k, o :: rest => (∀ d a w, d k = false → ReadyL d o.after.toList → J d a w → wpList P ops (onlyN (J (setB d k))) [o] a w) ∧ InvSteps P ops J (k + 1) rest
theorem InvSteps.get {J : (Nat → Bool) → Act → World → Prop} : ∀ {l : List Oper} {k : Nat}, InvSteps P ops J k l → ∀ {i : Nat} {o : Oper}, l[i]? = some o →
    ∀ d a w, d (k + i) = false → ReadyL d o.after.toList → J d a w → wpList P ops (onlyN (J (setB d (k + i)))) [o] a w
  | [], _, _, _, _, h => by cases h
  | x :: l, k, h, 0, o, ho => by
    cases ho
    exact h.1
  | x :: l, k, h, i + 1, o, ho => by
    have := InvSteps.get h.2 (i := i) ho
    rw [show k + (i + 1) = k + 1 + i by omega]
    exact this
theorem wp_region_steps {id : Nat} {l : List Oper} {a : Act} {w : World} (hm : P.follows .mixedOrders = true) (hB : aheadB l.toArray = true) (J : (Nat → Bool) → Act → World → Prop) (h0 : J (fun _ => false) a w.drew)
    (hs : InvSteps P l.toArray J 0 l)
    (hend : ∀ d a w, (∀ k, k < l.length → d k = true) → J d a w → Q .normal a w) : (Code.region id l.toArray true).wp P Q a w := by
  refine wp_region_inv hm hB J h0 (fun d a w hd hJ => hend d a w (fun k hk => hd k (by simpa using hk)) hJ) ?_
  intro d a w i o ho hd ha hJ
  refine wpOp_one ho ?_
  have h := InvSteps.get hs (i := i) (o := o) (by simpa using ho) d a w (by rw [Nat.zero_add]; exact hd) (.of fun e he hb => ha e (by simpa using he) hb) hJ
  rw [Nat.zero_add] at h
  exact h
theorem setB_same (d : Nat → Bool) (i : Nat) : setB d i i = true := by simp [setB]
theorem setB_ne {d : Nat → Bool} {i j : Nat} (h : j ≠ i) : setB d i j = d j := by simp [setB, h]
end
end Go.Proofs.Ytbngbhildijciaa
