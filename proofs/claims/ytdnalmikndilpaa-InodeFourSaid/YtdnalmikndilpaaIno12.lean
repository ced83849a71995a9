/- The two Puts as one contract each; quiet laws for whole rows. -/
import Derived.Test.YtdnalmikndilpaaIno11
import Derived.BigQuiet
namespace Go.Proofs.Ytdnalmikndilpaa
open Go.RowKit
set_option linter.unusedVariables false

def putC (n : Int) (x : Ino) : Int := if placeP n then (if mayI x then 0 else 70) else 2
def putF (f : Nat → Int) (n : Int) (x : Ino) : Nat → Int := if placeP n ∧ mayI x then spl f n.toNat 64 (inoF x) else f
theorem placeP_nat {n : Int} (h : placeP n) : n = (n.toNat : Int) := by have := placeP_four.1 h; omega
theorem iput_any (g : Nat) (n : Int) (f : Nat → Int) (x : Ino) (w : World) (hx : InoOk x) (hr : Row w g 256 f) :
    Calls Try.prog 10 #[.pointer (some ⟨g, 0, none⟩), .int .i64 n, inoV x] w fun e w' => e = .returned (.int .i64 (putC n x)) ∧ Row w' g 256 (putF f n x) ∧ Only g w w' := by
  unfold putC putF
  by_cases h : placeP n
  · by_cases hm : mayI x
    · rw [if_pos h, if_pos hm, if_pos ⟨h, hm⟩]
      exact iput_ok g n n.toNat f x w (placeP_nat h) h hx hm hr
    · rw [if_pos h, if_neg hm, if_neg (fun k => hm k.2)]
      exact (iput_may g n x w h hm).mono fun e w' ⟨he, hb⟩ => ⟨he, hr.below hb hr.lt, (Only.refl g w).then hb⟩
  · rw [if_neg h, if_neg (fun k => h k.1)]
    exact (iput_place g n x w h).mono fun e w' ⟨he, hb⟩ => ⟨he, hr.below hb hr.lt, (Only.refl g w).then hb⟩
theorem rput_any (f : Nat → Int) (hf : IsByte f) (n : Int) (x : Ino) (w : World) (hx : InoOk x) :
    Calls Try.prog 11 #[blkV f, .int .i64 n, inoV x] w fun e w' => e = .returned (.tuple #[.agg (bytesOf 256 (putF f n x)), .int .i64 (putC n x)]) ∧ Below w.heap.size w w' := by
  unfold putC putF
  by_cases h : placeP n
  · by_cases hm : mayI x
    · rw [if_pos h, if_pos hm, if_pos ⟨h, hm⟩]
      exact rput_ok f hf n n.toNat x w (placeP_nat h) h hx hm
    · rw [if_pos h, if_neg hm, if_neg (fun k => hm k.2)]
      exact rput_may f n x w h hm
  · rw [if_neg h, if_neg (fun k => h k.1)]
    exact rput_place f n x w h
theorem imay_is {x : Ino} {b : Bool} (h : mayIB x = b) (w : World) : Calls Try.prog 12 #[inoV x] w fun e w' => e = .returned (.bool b) ∧ Below w.heap.size w w' := h ▸ imay_any x w
theorem rMay_is {x : Ino} {b : Bool} (h : mayIB x = b) (w : World) : Calls Try.prog 13 #[inoV x] w fun e w' => e = .returned (.bool b) ∧ Below w.heap.size w w' := h ▸ rMay_any x w

/-- The worlds of a class. -/
structure Of (R : World → Prop) where
  val : World
  ok : R val
/-- A region that draws its order, whose operations only read what every world of a class holds, and whose calls stay in the class. -/
theorem wp_region_sub {P : Program} (R : World → Prop) {id : Nat} {Q : Exit → Act → World → Prop} {a : Act} {w : World} {l : List Oper} (hm : P.follows .mixedOrders = true) (hB : Region.lexB .any l.toArray = true) (h0 : R w.drew)
    (h : wpQuiet P l.toArray (fun w' => ∃ s : Of R, w' = s.val) (fun a' => ∀ w', (∃ s : Of R, w' = s.val) → Q .normal a' w') l a) : (Code.region id l.toArray true).wp P Q a w :=
  wp_region_quiet (C := fun w' => ∃ s : Of R, w' = s.val) hm hB ⟨⟨_, h0⟩, rfl⟩ (by simpa using h)
theorem sub_calls {P : Program} {R : World → Prop} {f : FuncId} {args : Array Value} {v : Value} {s : Of R} (hR : ∀ w w', R w → Below w.heap.size w w' → R w')
    (h : Calls P f args s.val fun e w' => e = .returned v ∧ Below s.val.heap.size s.val w') : Calls P f args s.val fun e w' => e = .returned v ∧ ∃ s' : Of R, w' = s'.val :=
  h.mono fun e w' ⟨he, hw⟩ => ⟨he, ⟨w', hR _ _ s.ok hw⟩, rfl⟩

section
variable {R : World → Prop} {o : Oper} {a : Act} {K : Act → Prop}
theorem qldB (x : Operand) (ho : o.op = .load 23 x) (B : Nat) (f : Nat → Int) (hx : a.eval x = .pointer (some ⟨B, 0, none⟩)) (h : ∀ w, R w → Row w B 256 f)
    (k : K (a.put o.dst (.agg (bytesOf 256 f)))) : o.quiet Try.prog a (fun w' => ∃ s : Of R, w' = s.val) K := by
  refine ⟨_, ?_, k⟩
  rintro _ ⟨s, rfl⟩
  obtain ⟨t, hr⟩ := h _ s.ok
  unfold Oper.quietAt execOp
  simp only [ho, hx, Instr.loadAt, Instr.sureAddr, Sem.run_bind, Sem.run_pure, Result.andThen_ok, run_loadVar_row s.val B t 23 (bytesOf 256 f) (0, 0) _ hr Try.underlying23 rfl (by rw [bytesOf_size]; exact info256)]
  exact ⟨rfl, rfl⟩
theorem qldI (x : Operand) (ho : o.op = .load 27 x) (B : Nat) (i : Ino) (hx : a.eval x = .pointer (some ⟨B, 0, none⟩)) (h : ∀ w, R w → IAt w B i)
    (k : K (a.put o.dst (.agg (inoC i)))) : o.quiet Try.prog a (fun w' => ∃ s : Of R, w' = s.val) K := by
  refine ⟨_, ?_, k⟩
  rintro _ ⟨s, rfl⟩
  obtain ⟨t, hr⟩ := h _ s.ok
  unfold Oper.quietAt execOp
  simp only [ho, hx, Instr.loadAt, Instr.sureAddr, Sem.run_bind, Sem.run_pure, Result.andThen_ok, run_loadVar_row s.val B t 27 (inoC i) (0, 0) _ hr Try.underlying27 rfl infoI]
  exact ⟨rfl, rfl⟩
theorem qeqlB (x y : Operand) (ho : o.op = .binOp .eql 23 x y 23) (f h : Nat → Int) (hx : a.eval x = .agg (bytesOf 256 f)) (hy : a.eval y = .agg (bytesOf 256 h)) {b : Bool} (hb : sameB f h 256 = b)
    (k : K (a.put o.dst (.bool b))) : o.quiet Try.prog a (fun w' => ∃ s : Of R, w' = s.val) K := by
  subst hb
  refine ⟨_, ?_, k⟩
  rintro _ ⟨s, rfl⟩
  unfold Oper.quietAt execOp
  simp only [ho, hx, hy, Sem.run_bind, run_eqGuard_agg s.val .eql 23 x y _ _ (by kernel_rfl : Try.prog.eqGuardType Try.prog.depth 23 = false), Result.andThen_ok, eql_blk, Sem.run_pure]
  exact ⟨rfl, rfl⟩
theorem qneqB (x y : Operand) (ho : o.op = .binOp .neq 23 x y 23) (f h : Nat → Int) (hx : a.eval x = .agg (bytesOf 256 f)) (hy : a.eval y = .agg (bytesOf 256 h)) {b : Bool} (hb : (!sameB f h 256) = b)
    (k : K (a.put o.dst (.bool b))) : o.quiet Try.prog a (fun w' => ∃ s : Of R, w' = s.val) K := by
  subst hb
  refine ⟨_, ?_, k⟩
  rintro _ ⟨s, rfl⟩
  unfold Oper.quietAt execOp
  simp only [ho, hx, hy, Sem.run_bind, run_eqGuard_agg s.val .neq 23 x y _ _ (by kernel_rfl : Try.prog.eqGuardType Try.prog.depth 23 = false), Result.andThen_ok, neq_blk, Sem.run_pure]
  exact ⟨rfl, rfl⟩
theorem qeqlI (x y : Operand) (ho : o.op = .binOp .eql 27 x y 27) (i j : Ino) (hx : a.eval x = .agg (inoC i)) (hy : a.eval y = .agg (inoC j)) {b : Bool} (hb : inoE i j = b)
    (k : K (a.put o.dst (.bool b))) : o.quiet Try.prog a (fun w' => ∃ s : Of R, w' = s.val) K := by
  subst hb
  refine ⟨_, ?_, k⟩
  rintro _ ⟨s, rfl⟩
  unfold Oper.quietAt execOp
  simp only [ho, hx, hy, Sem.run_bind, run_eqGuard_agg s.val .eql 27 x y _ _ (by kernel_rfl : Try.prog.eqGuardType Try.prog.depth 27 = false), Result.andThen_ok, eql_ino, Sem.run_pure]
  exact ⟨rfl, rfl⟩
theorem qneqI (x y : Operand) (ho : o.op = .binOp .neq 27 x y 27) (i j : Ino) (hx : a.eval x = .agg (inoC i)) (hy : a.eval y = .agg (inoC j)) {b : Bool} (hb : (!inoE i j) = b)
    (k : K (a.put o.dst (.bool b))) : o.quiet Try.prog a (fun w' => ∃ s : Of R, w' = s.val) K := by
  subst hb
  refine ⟨_, ?_, k⟩
  rintro _ ⟨s, rfl⟩
  unfold Oper.quietAt execOp
  simp only [ho, hx, hy, Sem.run_bind, run_eqGuard_agg s.val .neq 27 x y _ _ (by kernel_rfl : Try.prog.eqGuardType Try.prog.depth 27 = false), Result.andThen_ok, neq_ino, Sem.run_pure]
  exact ⟨rfl, rfl⟩
end
theorem ld64' {o : Oper} {a : Act} {K : Act → Prop} {R : World → Prop} (x : Operand) (ho : o.op = .load 47 x) (B : Nat) (f : Nat → Int) (hx : a.eval x = .pointer (some ⟨B, 0, none⟩)) (h : ∀ w, R w → Row w B 64 f)
    (k : K (a.put o.dst (.agg (bytesOf 64 f)))) : o.quiet Try.prog a (fun w' => ∃ s : Of R, w' = s.val) K := by
  refine ⟨_, ?_, k⟩
  rintro _ ⟨s, rfl⟩
  obtain ⟨t, hr⟩ := h _ s.ok
  unfold Oper.quietAt execOp
  simp only [ho, hx, Instr.loadAt, Instr.sureAddr, Sem.run_bind, Sem.run_pure, Result.andThen_ok, run_loadVar_row s.val B t 47 (bytesOf 64 f) (0, 0) _ hr Try.underlying47 rfl (by rw [bytesOf_size]; exact info64)]
  exact ⟨rfl, rfl⟩
theorem qneq64 {o : Oper} {a : Act} {K : Act → Prop} {R : World → Prop} (x y : Operand) (ho : o.op = .binOp .neq 47 x y 47) (f h : Nat → Int) (hx : a.eval x = .agg (bytesOf 64 f)) (hy : a.eval y = .agg (bytesOf 64 h)) {b : Bool} (hb : (!sameB f h 64) = b)
    (k : K (a.put o.dst (.bool b))) : o.quiet Try.prog a (fun w' => ∃ s : Of R, w' = s.val) K := by
  subst hb
  refine ⟨_, ?_, k⟩
  rintro _ ⟨s, rfl⟩
  unfold Oper.quietAt execOp
  simp only [ho, hx, hy, Sem.run_bind, run_eqGuard_agg s.val .neq 47 x y _ _ (by kernel_rfl : Try.prog.eqGuardType Try.prog.depth 47 = false), Result.andThen_ok, neq_b64, Sem.run_pure]
  exact ⟨rfl, rfl⟩

theorem sameB_self (f : Nat → Int) (n : Nat) : sameB f f n = true := (sameB_iff f f n).2 fun _ _ => rfl
theorem inoE_self (x : Ino) : inoE x x = true := (inoE_iff x x).2 ⟨rfl, rfl, rfl, rfl, fun _ _ => rfl, rfl⟩
end Go.Proofs.Ytdnalmikndilpaa
