/- The walks of geo.Blocks, Inodes, Data, Start, Number. -/
import Derived.Test.YtcigoodmkfnnfaaGeo2
namespace Go.Proofs.Ytcigoodmkfnnfaa
open Go.RowKit
set_option linter.unusedVariables false

theorem mayP.mul {a b c d : Int} (h : mayP a b c d) : 0 ≤ a * b ∧ a * b ≤ 2048 := by
  obtain ⟨h1, h2, h3, h4, h5, h6, h7⟩ := h
  exact ⟨Int.mul_nonneg (by omega) (by omega), by omega⟩
theorem mayP.mulc {a b c d : Int} (h : mayP a b c d) : 0 ≤ a * c ∧ a * c ≤ 256 := by
  obtain ⟨h1, h2, h3, h4, h5, h6, h7⟩ := h
  exact ⟨Int.mul_nonneg (by omega) (by omega), Int.le_trans (Int.mul_le_mul h1.2 h3.2 (by omega) (by omega)) (by omega)⟩

/-- Where a geometry may be: x; else 0. -/
def ifMay (a b c d x : Int) : Int := if mayP a b c d then x else 0

/-- A geometry that was boxed stays as it was laid. -/
theorem box_cells {w w1 : World} {a b c d : Int} {t : TypeId} (h : Below (w.alloc (.cells #[.int .i64 a, .int .i64 b, .int .i64 c, .int .i64 d] t)).heap.size (w.alloc (.cells #[.int .i64 a, .int .i64 b, .int .i64 c, .int .i64 d] t)) w1) :
    w1.cell? ⟨w.heap.size, 0, none⟩ = some (.int .i64 a) ∧ w1.cell? ⟨w.heap.size, 1, none⟩ = some (.int .i64 b) ∧ w1.cell? ⟨w.heap.size, 2, none⟩ = some (.int .i64 c) ∧ w1.cell? ⟨w.heap.size, 3, none⟩ = some (.int .i64 d) := by
  have hh := (h.block w.heap.size (by simp)).trans (heap_alloc_new w _)
  refine ⟨?_, ?_, ?_, ?_⟩ <;> (rw [cell_of_row _ _ _ _ _ _ hh]; rfl)
theorem box_below {w w1 : World} {o : Obj} (h : Below (w.alloc o).heap.size (w.alloc o) w1) : Below w.heap.size w w1 := ((Below.refl _ w).alloc (Nat.le_refl _) _).trans (h.mono (by simp))
theorem B_then {a w w' : World} (h : Below a.heap.size a w) (k : Below w.heap.size w w') : Below a.heap.size a w' := h.trans (k.mono h.size)

theorem blocks_any (a b c d : Int) (w : World) :
    Calls Try.prog 22 #[geoV a b c d] w fun e w' => e = .returned (.int .i64 (ifMay a b c d (2 + d + a * b))) ∧ Below w.heap.size w w' := by
  by_cases h : mayP a b c d
  · have Hr : Hid (ifMay a b c d (2 + d + a * b) = 2 + d + a * b) := if_pos h
    have Hm : Hid (mayB a b c d = true) := decide_eq_true h
    have hp := h.mul
    obtain ⟨h1, h2, h3, h4, h5, h6, h7⟩ := h
    clear h1 h2 h3 h4 h6 h7
    rw [Hr.out]
    clear Hr
    unfold geoV
    go_enter Try.func22, Try.ntmps22
    go_wp2_with (first
      | (go_at_call 20; refine (may_any a b c d _).mono ?_; rintro e w1 ⟨rfl, h1⟩; rw [Hm.out]; have H1 : Hid (Below w.heap.size w w1) := box_below h1; obtain ⟨k0, k1, k2, k3⟩ := box_cells h1; clear h1)
      | (go_at_call 31; refine (all_any a b c d _ hp.1 (by omega) (by omega) (by omega)).mono ?_; rintro e w2 ⟨rfl, hw⟩; have H2 : Hid (Below w.heap.size w w2) := B_then H1.out hw; clear hw))
    go_ret
    exact ⟨rfl, H2.out⟩
  · have Hr : Hid (ifMay a b c d (2 + d + a * b) = 0) := if_neg h
    have Hm : Hid (mayB a b c d = false) := decide_eq_false h
    clear h
    rw [Hr.out]
    unfold geoV
    go_enter Try.func22, Try.ntmps22
    go_wp2_with (go_at_call 20; refine (may_any a b c d _).mono ?_; rintro e w1 ⟨rfl, h1⟩; rw [Hm.out]; have H1 : Hid (Below w.heap.size w w1) := box_below h1; clear h1)
    go_ret
    exact ⟨rfl, H1.out⟩
end Go.Proofs.Ytcigoodmkfnnfaa
