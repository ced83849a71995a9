/- Plain laws: what ReadDescs reads; a list of descriptors that grows. -/
import Derived.Test.YtbngbhildijciaaSup20
import Derived.Maps.AppendAt
import Derived.OwnWalk
import Derived.Laws.OwnMore
namespace Go.Proofs.Ytbngbhildijciaa
open Go.RowKit Go.BigFrame
set_option linter.unusedVariables false

theorem okD_iff {a b c : Int} {f : Nat → Int} (hf : IsByte f) {n : Nat} (hn : a.toNat = n) (h4 : n ≤ 4) :
    okD a b c f ↔ (∀ i, i < n → part f (8 * i + 6) 2 = 0) ∧ part f 252 4 = ((sumF f 252 : Nat) : Int) ∧ sameB (fun i => f (8 * n + i)) zeroF (252 - 8 * n) = true ∧ mayDs b c n (rdD f) := by
  constructor
  · intro k
    have s := (sameB_iff _ _ _).1 k.2
    rw [hn] at s
    have at_ : ∀ j, j < 252 → f j = descF (rdD f) n j := fun j hj => by rw [← s j (by omega), sealF_lo _ hj]
    refine ⟨fun i hi => ?_, ok_sum k, (sameB_iff _ _ _).2 fun j hj => ?_, by have := k.1; rw [hn] at this; exact this⟩
    · have z : ∀ r, r < 2 → f (8 * i + 6 + r) = 0 := fun r hr => by rw [at_ _ (by omega)]; exact desc_void _ hi hr
      rw [part_2, z 1 (by omega)]
      have := z 0 (by omega)
      rw [Nat.add_zero] at this
      rw [this]; rfl
    · show f (8 * n + j) = 0
      rw [at_ _ (by omega)]; exact desc_hi _ (by omega)
  · rintro ⟨hz, hs, ht, hm⟩
    refine ⟨by rw [hn]; exact hm, (sameB_iff _ _ _).2 fun j hj => ?_⟩
    rw [hn]
    refine seal_of hf (fun j hj => ?_) hs hj
    by_cases c : j < 8 * n
    · obtain ⟨i, r, rfl, hr⟩ : ∃ i r, j = 8 * i + r ∧ r < 8 := ⟨j / 8, j % 8, by omega, by omega⟩
      have hi : i < n := by omega
      by_cases c0 : r < 2
      · rw [desc_bl _ hi c0]; exact byte_2 hf (8 * i) c0
      by_cases c1 : r < 4
      · obtain ⟨q, rfl⟩ : ∃ q, r = 2 + q := ⟨r - 2, by omega⟩
        rw [show 8 * i + (2 + q) = 8 * i + 2 + q by omega, desc_ino _ hi (by omega)]; exact byte_2 hf (8 * i + 2) (by omega)
      by_cases c2 : r < 6
      · obtain ⟨q, rfl⟩ : ∃ q, r = 4 + q := ⟨r - 4, by omega⟩
        rw [show 8 * i + (4 + q) = 8 * i + 4 + q by omega, desc_dir _ hi (by omega)]; exact byte_2 hf (8 * i + 4) (by omega)
      · obtain ⟨q, rfl⟩ : ∃ q, r = 6 + q := ⟨r - 6, by omega⟩
        rw [show 8 * i + (6 + q) = 8 * i + 6 + q by omega, desc_void _ hi (by omega)]
        have := byte_2 hf (8 * i + 6) (i := q) (by omega)
        rw [hz i hi, Int.zero_ediv] at this
        exact this
    · rw [desc_hi _ (by omega)]
      have := (sameB_iff _ _ _).1 ht (j - 8 * n) (by omega)
      rw [show 8 * n + (j - 8 * n) = j by omega] at this
      exact this.symm
/-- The cells of the first n descriptors. -/
def deL (D : Nat → De) : Nat → List Value
  | 0 => []
  | n + 1 => deL D n ++ (deC (D n)).toList
theorem deL_length (D : Nat → De) : ∀ n, (deL D n).length = n * 3
  | 0 => rfl
  | n + 1 => by simp only [deL, List.length_append, deL_length D n, deC, desC]; simp; omega
theorem deL_get (D : Nat → De) {r : Nat} (hr : r < 3) : ∀ {n i : Nat}, i < n → (deL D n)[i * 3 + r]? = (deC (D i)).toList[r]?
  | 0, i, h => absurd h (by omega)
  | n + 1, i, h => by
    simp only [deL]
    by_cases e : i < n
    · rw [List.getElem?_append_left (by rw [deL_length]; omega)]
      exact deL_get D hr e
    · obtain rfl : i = n := by omega
      rw [List.getElem?_append_right (by rw [deL_length]; omega), deL_length, Nat.add_sub_cancel_left]
/-- A list of the call's own. -/
def OwD (w : World) (base : Nat) (v : Value) (n : Nat) (D : Nat → De) : Prop := w.ownsRow base 50 3 v n (deL D n)
theorem OwD.nil (w : World) (base : Nat) (D : Nat → De) : OwD w base (.slice none 0 0) 0 D := ⟨rfl, .inl ⟨rfl, rfl⟩⟩
theorem OwD.below {w w' : World} {base n : Nat} {v : Value} {D : Nat → De} (h : OwD w base v n D) (k : Below w.heap.size w w') : OwD w' base v n D := by
  obtain ⟨h1, ⟨e, z⟩ | ⟨g, cap, cur, e, hg, hh, hc, hm, hs, ht⟩⟩ := h
  · exact ⟨h1, .inl ⟨e, z⟩⟩
  · exact ⟨h1, .inr ⟨g, cap, cur, e, hg, (k.block g (lt_of_block hh)).trans hh, hc, hm, hs, ht⟩⟩
theorem OwD.ds {w : World} {base n : Nat} {v : Value} {D : Nat → De} (h : OwD w base v n D) : ∃ A c, v = .slice A n c ∧ Ds w A n D ∧ n ≤ c := by
  obtain ⟨_, ⟨rfl, rfl⟩ | ⟨g, cap, cur, rfl, hg, hh, hc, hm, hs, ht⟩⟩ := h
  · exact ⟨none, 0, rfl, fun q => absurd q (by omega), Nat.le_refl _⟩
  · refine ⟨_, cap, rfl, fun _ => ⟨g, 0, rfl, fun i hi => ?_⟩, hc⟩
    have cell : ∀ r, r < 3 → w.cell? ⟨g, i * 3 + r, none⟩ = (deC (D i)).toList[r]? := fun r hr => by
      rw [cell_of_row _ _ _ cur 50 (0, 0) hh, ← deL_get D hr hi, ← ht, List.getElem?_take, if_pos (by omega), Array.getElem?_toList]
    rw [Nat.zero_add]
    exact ⟨cell 0 (by omega), cell 1 (by omega), cell 2 (by omega)⟩
theorem desc_info : (Try.prog.info? 50).map (fun i => (i.zero, i.size, i.bytes)) = some (some (.agg #[.int .i64 0, .int .i64 0, .int .i64 0]), 3, 24) := by kernel_rfl
/-- append of one descriptor onto a list of the call's own. -/
theorem appOne {ops : Array Oper} {rest : List Oper} {o : Oper} {a : Act} {w : World} {Q : Exit → Act → World → Prop} (hgd : o.guard = none) (s x : Operand)
    (ho : o.op = .call { callee := .builtin .append, args := #[s, x], argTypes := #[27, 27] })
    (base k c g : Nat) (t : TypeId) (V : Value) (D : Nat → De) (hs : a.eval s = V) (hx : a.eval x = .slice (some ⟨g, 0, none⟩) 1 c) (hown : OwD w base V k D) (hg : w.heap[g]? = some (.cells (deC (D k)) t (0, 0))) (hk : k ≤ 1000) (hbase : base ≤ w.heap.size)
    (K : ∀ v' w', OwD w' base v' (k + 1) D → Below base w w' → wpList Try.prog ops Q rest (a.put o.dst v') w') : wpList Try.prog ops Q (o :: rest) a w := by
  obtain ⟨i0, hi, hz0, hz1, hz2⟩ := info_parts desc_info
  obtain ⟨v', w', hrun, h2, h3, _, _⟩ := run_append_own_at (P := Try.prog) w base _ o.type _ i0 _ 3 24 Try.underlying27 hi hz0 hz1 hz2 rfl (by omega) V k (deL D k) hown ⟨g, 0, none⟩ 1 c (deC (D k)).toList rfl
    (fun j u hu => by
      have hc : w.cell? ⟨g, j, none⟩ = some u := by
        rw [cell_of_row _ _ _ _ _ (0, 0) hg, ← Array.getElem?_toList]; exact hu
      unfold Addr.add
      split
      · rename_i e; subst e; exact hc
      · simpa using hc) (by simp [deC, desC, Value.oneCell']) (by unfold maxLen; omega) (by omega) hbase
  refine wpList_plain hgd fun _ hK => ?_
  unfold Oper.wp execOp
  simp only [ho, resolve, invoke, builtin, Sem.run_bind, Sem.run_pure, Result.andThen_ok, List.map_toArray, List.map_cons, List.map_nil, hs, hx]
  rw [hrun]
  exact hK _ _ (K v' w' h2 ((Below.refl _ _).grown h3 hbase fun k hk => (World.ownsRow.lt hown k hk).1))
end Go.Proofs.Ytbngbhildijciaa
