/- Regions that draw their order, by an invariant: one proof an operation. -/
import Derived.Test.YtbngbhildijciaaMem
import Derived.Orders
import Derived.BigFrame
namespace Go.Proofs.Ytbngbhildijciaa
open Go.RowKit
set_option linter.unusedVariables false

/-- Done, and i too. -/
def setB (d : Nat → Bool) (i : Nat) : Nat → Bool := fun k => if k = i then true else d k
def doneOf (l : Array Bool) : Nat → Bool := fun k => l.getD k false
def undone (l : Array Bool) (n : Nat) : Nat := ((List.range n).filter fun k => !l.getD k true).length
theorem doneOf_set {l : Array Bool} {i : Nat} (h : i < l.size) : doneOf (l.setIfInBounds i true) = setB (doneOf l) i := by
  funext k
  unfold doneOf setB
  by_cases e : k = i
  · subst e; simp [Array.getD_eq_getD_getElem?, h]
  · have e' : i ≠ k := fun x => e x.symm
    simp [Array.getD_eq_getD_getElem?, Array.getElem?_setIfInBounds_ne e', e]
theorem filter_lt {p q : Nat → Bool} {i : Nat} : ∀ (L : List Nat), i ∈ L → p i = true → q i = false → (∀ k, q k = true → p k = true) → (L.filter q).length < (L.filter p).length
  | [], h, _, _, _ => by cases h
  | x :: L, h, hp, hq, hle => by
    have hL : (L.filter q).length ≤ (L.filter p).length := by
      clear h
      induction L with
      | nil => simp
      | cons y L ih =>
        simp only [List.filter_cons]
        cases e : q y with
        | true => rw [hle y e]; simp; omega
        | false => cases p y <;> simp <;> omega
    simp only [List.filter_cons]
    by_cases e : i = x
    · subst e; rw [hp, hq]; simp; omega
    · have h' : i ∈ L := by cases h with | head => exact absurd rfl e | tail _ h => exact h
      have ih := filter_lt L h' hp hq hle
      cases e2 : q x with
      | true => rw [hle x e2]; simp; omega
      | false => cases p x <;> simp <;> omega
theorem undone_set {l : Array Bool} {n i : Nat} (hi : i < n) (hl : i < l.size) (h : l.getD i true = false) : undone (l.setIfInBounds i true) n < undone l n := by
  unfold undone
  refine filter_lt _ (List.mem_range.2 hi) (by rw [h]; rfl) ?_ fun k hk => ?_
  · simp [Array.getD_eq_getD_getElem?, hl]
  · by_cases e : k = i
    · subst e; simp [Array.getD_eq_getD_getElem?, hl] at hk
    · have e' : i ≠ k := fun x => e x.symm
      simpa [Array.getD_eq_getD_getElem?, Array.getElem?_setIfInBounds_ne e'] using hk
/-- What binds an operation stands ahead of it. -/
def aheadB (ops : Array Oper) : Bool := (List.range ops.size).all fun i => ((ops[i]?).map fun o => o.after.all fun e => !Region.binds .any e || decide (e.on < i)).getD true

section
variable {P : Program} {ops : Array Oper} {Q : Exit → Act → World → Prop}
theorem wpAny_inv (hB : aheadB ops = true) (J : (Nat → Bool) → Act → World → Prop)
    (hend : ∀ d a w, (∀ k, k < ops.size → d k = true) → J d a w → Q .normal a w)
    (hstep : ∀ d a w i o, ops[i]? = some o → d i = false → (∀ e ∈ o.after, Region.binds .any e = true → d e.on = true) → J d a w → wpOp P ops Q i (fun a' w' => J (setB d i) a' w') a w) :
    ∀ (fuel : Nat) (l : Array Bool) (a : Act) (w : World), l.size = ops.size → undone l ops.size ≤ fuel → J (doneOf l) a w → wpAny P .any ops Q fuel l a w := by
  have hready : ∀ l : Array Bool, l.size = ops.size → Region.ready .any ops l = [] → ∀ k, k < ops.size → doneOf l k = true := by
    intro l hl hr k
    induction k using Nat.strongRecOn with
    | ind k ih =>
      intro hk
      cases hd : doneOf l k with
      | true => rfl
      | false =>
        exfalso
        have hg : l.getD k true = false := by
          unfold doneOf at hd
          simp [Array.getD_eq_getD_getElem?, hl, hk] at hd ⊢
          exact hd
        have ho : ops[k]? = some ops[k] := by simp [hk]
        have hB' := List.all_eq_true.1 hB k (List.mem_range.2 hk)
        rw [ho] at hB'
        simp only [Option.map_some, Option.getD_some] at hB'
        have hm : k ∈ Region.ready .any ops l := by
          unfold Region.ready
          rw [List.mem_filter]
          refine ⟨List.mem_range.2 hk, ?_⟩
          rw [hg, ho]
          simp only [Option.map_some, Option.getD_some, Bool.not_false, Bool.true_and]
          rw [Array.all_eq_true] at hB' ⊢
          intro j hj
          have h1 := hB' j hj
          rw [Bool.or_eq_true] at h1 ⊢
          rcases h1 with h1 | h1
          · exact .inl h1
          · have h1 := of_decide_eq_true h1
            exact .inr (ih _ h1 (Nat.lt_trans h1 hk))
        rw [hr] at hm; cases hm
  intro fuel
  induction fuel with
  | zero =>
    intro l a w hl hu hJ
    have hr : Region.ready .any ops l = [] := by
      cases hr : Region.ready .any ops l with
      | nil => rfl
      | cons i L =>
        exfalso
        have hi : i ∈ Region.ready .any ops l := by rw [hr]; exact List.mem_cons_self
        unfold Region.ready at hi
        rw [List.mem_filter, Bool.and_eq_true] at hi
        have : i ∈ (List.range ops.size).filter fun k => !l.getD k true := List.mem_filter.2 ⟨hi.1, hi.2.1⟩
        unfold undone at hu
        have := List.length_pos_of_mem this
        omega
    exact ⟨hr, hend _ _ _ (hready l hl hr) hJ⟩
  | succ fuel ih =>
    intro l a w hl hu hJ
    refine ⟨fun hr => hend _ _ _ (hready l hl hr) hJ, fun i hi => ?_⟩
    unfold Region.ready at hi
    rw [List.mem_filter, Bool.and_eq_true] at hi
    obtain ⟨hi1, hi2, hi3⟩ := hi
    have hk := List.mem_range.1 hi1
    have hg : l.getD i true = false := by simpa using hi2
    have ho : ops[i]? = some ops[i] := by simp [hk]
    rw [ho] at hi3
    simp only [Option.map_some, Option.getD_some] at hi3
    rw [Array.all_eq_true] at hi3
    have hd : doneOf l i = false := by
      unfold doneOf
      simp [Array.getD_eq_getD_getElem?, hl, hk] at hg ⊢
      exact hg
    refine wpOp_mono (fun a' w' h => ?_) (hstep (doneOf l) a w i _ ho hd (fun e he hb => ?_) hJ)
    · rw [← doneOf_set (by omega)] at h
      have := undone_set hk (by omega) hg
      exact ih _ a' w' (by simp [hl]) (by omega) h
    · obtain ⟨j, hj, rfl⟩ := Array.mem_iff_getElem.1 he
      have := hi3 j hj
      rw [Bool.or_eq_true] at this
      rcases this with h | h
      · rw [hb] at h; cases h
      · exact h
/-- A region that draws its order, by an invariant. -/
theorem wp_region_inv {id : Nat} {a : Act} {w : World} (hm : P.follows .mixedOrders = true) (hB : aheadB ops = true) (J : (Nat → Bool) → Act → World → Prop) (h0 : J (fun _ => false) a w.drew)
    (hend : ∀ d a w, (∀ k, k < ops.size → d k = true) → J d a w → Q .normal a w)
    (hstep : ∀ d a w i o, ops[i]? = some o → d i = false → (∀ e ∈ o.after, Region.binds .any e = true → d e.on = true) → J d a w → wpOp P ops Q i (fun a' w' => J (setB d i) a' w') a w) : (Code.region id ops true).wp P Q a w := by
  refine wp_region_any hm (wpAny_inv hB J hend hstep _ _ _ _ (by simp) ?_ ?_)
  · unfold undone
    refine Nat.le_trans (List.length_filter_le _ _) (by simp)
  · have : doneOf (Array.replicate ops.size false) = fun _ => false := by
      funext k; unfold doneOf; simp [Array.getD_eq_getD_getElem?]
      by_cases h : k < ops.size <;> simp [h]
    rw [this]; exact h0
end
end Go.Proofs.Ytbngbhildijciaa
