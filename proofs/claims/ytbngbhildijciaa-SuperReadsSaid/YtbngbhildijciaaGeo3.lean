/- The walks of geo.Blocks, Inodes, Data, Start, Number. -/
import Derived.Test.YtbngbhildijciaaGeo2
namespace Go.Proofs.Ytbngbhildijciaa
open Go.RowKit
set_option linter.unusedVariables false

theorem mayP.mul {a b c d : Int} (h : mayP a b c d) : 0 ≤ a * b ∧ a * b ≤ 2048 := by
  obtain ⟨h1, h2, h3, h4, h5, h6, h7⟩ := h
  exact ⟨Int.mul_nonneg (by omega) (by omega), by omega⟩
theorem mayP.mulc {a b c d : Int} (h : mayP a b c d) : 0 ≤ a * c ∧ a * c ≤ 256 := by
  obtain ⟨h1, h2, h3, h4, h5, h6, h7⟩ := h
  exact ⟨Int.mul_nonneg (by omega) (by omega), Int.le_trans (Int.mul_le_mul h1.2 h3.2 (by omega) (by omega)) (by omega)⟩

/-- Where a geometry may be: x; else 0. -/
def ifMay (a b c d x : Int) : Int := if mayP a b c d then x else 0

/-- A geometry that was boxed stays as it was laid. -/
theorem box_cells {w w1 : World} {a b c d : Int} {t : TypeId} (h : Below (w.alloc (.cells #[.int .i64 a, .int .i64 b, .int .i64 c, .int .i64 d] t)).heap.size (w.alloc (.cells #[.int .i64 a, .int .i64 b, .int .i64 c, .int .i64 d] t)) w1) :
    w1.cell? ⟨w.heap.size, 0, none⟩ = some (.int .i64 a) ∧ w1.cell? ⟨w.heap.size, 1, none⟩ = some (.int .i64 b) ∧ w1.cell? ⟨w.heap.size, 2, none⟩ = some (.int .i64 c) ∧ w1.cell? ⟨w.heap.size, 3, none⟩ = some (.int .i64 d) := by
  have hh := (h.block w.heap.size (by simp)).trans (heap_alloc_new w _)
  refine ⟨?_, ?_, ?_, ?_⟩ <;> (rw [cell_of_row _ _ _ _ _ _ hh]; rfl)
theorem box_below {w w1 : World} {o : Obj} (h : Below (w.alloc o).heap.size (w.alloc o) w1) : Below w.heap.size w w1 := ((Below.refl _ w).alloc (Nat.le_refl _) _).trans (h.mono (by simp))
theorem B_then {a w w' : World} (h : Below a.heap.size a w) (k : Below w.heap.size w w') : Below a.heap.size a w' := h.trans (k.mono h.size)

end Go.Proofs.Ytbngbhildijciaa
