/- A row of descriptors in the making. -/
import Derived.Test.YtbngbhildijciaaSup12
import Derived.Laws.MakeOwn
namespace Go.Proofs.Ytbngbhildijciaa
open Go.RowKit
set_option linter.unusedVariables false

/-- A row of so many numbers. -/
def IRow (w : World) (L m : Nat) (h : Nat → Int) : Prop := ∃ cs t, w.heap[L]? = some (.cells cs t (0, 0)) ∧ cs.size = m ∧ ∀ i, i < m → cs[i]? = some (.int .i64 (h i))
section
variable {w w' : World} {L m : Nat} {h : Nat → Int}
theorem IRow.lt (q : IRow w L m h) : L < w.heap.size := by obtain ⟨cs, t, e, _⟩ := q; exact lt_of_block e
theorem IRow.below {n : Nat} (q : IRow w L m h) (k : Below n w w') (hb : L < n) : IRow w' L m h := by obtain ⟨cs, t, e, r⟩ := q; exact ⟨cs, t, (k.block L hb).trans e, r⟩
theorem IRow.cell (q : IRow w L m h) {i : Nat} (hi : i < m) : w.cell? ⟨L, i, none⟩ = some (.int .i64 (h i)) := by
  obtain ⟨cs, t, e, _, r⟩ := q
  rw [cell_of_row _ _ _ _ _ _ e]; exact r i hi
theorem IRow.frozen (q : IRow w L m h) (i : Nat) : w.frozen? ⟨L, i, none⟩ = false := by
  obtain ⟨cs, t, e, _⟩ := q
  simp [World.frozen?, e]
theorem IRow.set_ (q : IRow w L m h) (i : Nat) (x : Int) : IRow (w.setCell ⟨L, i, none⟩ (.int .i64 x)) L m (upd h i x) := by
  obtain ⟨cs, t, e, hs, r⟩ := q
  refine ⟨cs.setIfInBounds i (.int .i64 x), t, by simp [World.setCell, Array.getElem?_modify, e], by simp [hs], fun j hj => ?_⟩
  by_cases c : j = i
  · subst c; rw [upd_same]; simp [hs, hj]
  · rw [upd_other _ _ c, Array.getElem?_setIfInBounds_ne (fun q => c q.symm)]; exact r j hj
theorem IRow.congr {h' : Nat → Int} (q : IRow w L m h) (e : ∀ i, i < m → h i = h' i) : IRow w L m h' := by
  obtain ⟨cs, t, e1, hs, r⟩ := q
  exact ⟨cs, t, e1, hs, fun i hi => by rw [← e i hi]; exact r i hi⟩
end
def fld (x : De) (r : Nat) : Int := if r = 0 then x.bl else if r = 1 then x.ino else x.dir
/-- The first k descriptors are there. -/
def dH (D : Nat → De) (k j : Nat) : Int := if j < 3 * k then fld (D (j / 3)) (j % 3) else 0
theorem dH_step (D : Nat → De) (k j : Nat) : upd (upd (upd (dH D k) (k * 3) (D k).bl) (k * 3 + 1) (D k).ino) (k * 3 + 1 + 1) (D k).dir j = dH D (k + 1) j := by
  by_cases c2 : j = k * 3 + 1 + 1
  · subst c2
    rw [upd_same]; unfold dH
    rw [if_pos (by omega), show (k * 3 + 1 + 1) / 3 = k by omega, show (k * 3 + 1 + 1) % 3 = 2 by omega]; rfl
  rw [upd_other _ _ c2]
  by_cases c1 : j = k * 3 + 1
  · subst c1
    rw [upd_same]; unfold dH
    rw [if_pos (by omega), show (k * 3 + 1) / 3 = k by omega, show (k * 3 + 1) % 3 = 1 by omega]; rfl
  rw [upd_other _ _ c1]
  by_cases c0 : j = k * 3
  · subst c0
    rw [upd_same]; unfold dH
    rw [if_pos (by omega), show (k * 3) / 3 = k by omega, show (k * 3) % 3 = 0 by omega]; rfl
  rw [upd_other _ _ c0]
  unfold dH
  by_cases h : j < 3 * k
  · rw [if_pos h, if_pos (by omega)]
  · rw [if_neg h, if_neg (by omega)]
theorem IRow.ds {w : World} {L n : Nat} {D : Nat → De} (q : IRow w L (n * 3) (dH D n)) : Ds w (some ⟨L, 0, none⟩) n D := fun _ => ⟨L, 0, rfl, fun i hi => by
  rw [Nat.zero_add]
  refine ⟨?_, ?_, ?_⟩
  · rw [q.cell (by omega)]; unfold dH
    rw [if_pos (by omega), show i * 3 / 3 = i by omega, show i * 3 % 3 = 0 by omega]; rfl
  · rw [q.cell (by omega)]; unfold dH
    rw [if_pos (by omega), show (i * 3 + 1) / 3 = i by omega, show (i * 3 + 1) % 3 = 1 by omega]; rfl
  · rw [q.cell (by omega)]; unfold dH
    rw [if_pos (by omega), show (i * 3 + 2) / 3 = i by omega, show (i * 3 + 2) % 3 = 2 by omega]; rfl⟩
theorem desc_zero : ∃ i, Try.prog.info? 50 = some i ∧ i.zero = some (.agg #[.int .i64 0, .int .i64 0, .int .i64 0]) ∧ i.size = 3 ∧ i.bytes = 24 := by
  have h : (Try.prog.info? 50).map (fun i => (i.zero, i.size, i.bytes)) = some (some (.agg #[.int .i64 0, .int .i64 0, .int .i64 0]), 3, 24) := by kernel_rfl
  cases hi : Try.prog.info? 50 with
  | none => rw [hi] at h; cases h
  | some i =>
    rw [hi] at h
    simp only [Option.map_some, Option.some.injEq, Prod.mk.injEq] at h
    exact ⟨i, rfl, h.1, h.2.1, h.2.2⟩
section
variable {ops : Array Oper} {rest : List Oper} {o : Oper} {a : Act} {w : World} {Q : Exit → Act → World → Prop}
theorem makeD (hgd : o.guard = none) (x : Operand) (ho : o.op = .makeSlice 27 x x) (n : Nat) (hn : n ≤ 4) (hx : a.eval x = .int .i64 (n : Int))
    (k : ∀ ob, IRow (w.alloc ob) w.heap.size (n * 3) (fun _ => 0) → wpList Try.prog ops Q rest (a.put o.dst (.slice (some ⟨w.heap.size, 0, none⟩) n n)) (w.alloc ob)) : wpList Try.prog ops Q (o :: rest) a w := by
  obtain ⟨i, hi, hz, hs, hb⟩ := desc_zero
  have hm := run_makeSlice (P := Try.prog) (w := w) 27 50 i _ Try.underlying27 hi hz .i64 .i64 (n : Int) (n : Int) (by omega) (Int.le_refl _) (by rw [hs]; omega) (by rw [hb]; omega) (by omega)
  refine wpList_plain hgd fun _ hK => ?_
  unfold Oper.wp execOp
  simp only [ho, hx, hm, Sem.run_bind, Result.andThen_ok, Sem.run_pure, Int.toNat_natCast, hs]
  refine hK _ _ (k _ ⟨_, _, heap_alloc_new w _, by simp [madeCells], fun j hj => ?_⟩)
  have h3 : j % 3 < 3 := Nat.mod_lt _ (by omega)
  obtain e | e | e : j % 3 = 0 ∨ j % 3 = 1 ∨ j % 3 = 2 := by omega
  all_goals simp [madeCells, Value.cells, hj, e]
theorem storeD (hgd : o.guard = none) (x y : Operand) (ho : o.op = .store 50 x y) (L j m : Nat) (d : De) (h : Nat → Int) (hx : a.eval x = .pointer (some ⟨L, j * 3, none⟩)) (hy : a.eval y = .agg (deC d)) (hr : IRow w L m h) (hj : j * 3 + 3 ≤ m)
    (k : ∀ w', IRow w' L m (upd (upd (upd h (j * 3) d.bl) (j * 3 + 1) d.ino) (j * 3 + 1 + 1) d.dir) → Only L w w' → wpList Try.prog ops Q rest (a.put o.dst undef) w') : wpList Try.prog ops Q (o :: rest) a w := by
  refine wpList_store_mid hgd 50 x y ho L (j * 3) (deC d) hx hy (fun i hi => ?_) infoD (by simp [deC, desC, Value.oneCell']) ?_
  · have hi' : i < 3 := hi
    exact ⟨by rw [hr.cell (by omega)]; rfl, hr.frozen _⟩
  · exact k _ (((hr.set_ (j * 3) d.bl).set_ (j * 3 + 1) d.ino).set_ (j * 3 + 1 + 1) d.dir) ((((Only.refl L w).setCell _ _).setCell _ _).setCell _ _)
end
/-- What a block's descriptors are read as. -/
def rdD (f : Nat → Int) (i : Nat) : De := ⟨part f (8 * i) 2, part f (8 * i + 2) 2, part f (8 * i + 4) 2⟩
end Go.Proofs.Ytbngbhildijciaa
