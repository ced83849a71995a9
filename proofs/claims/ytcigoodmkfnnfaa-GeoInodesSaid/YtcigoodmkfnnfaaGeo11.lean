/- quernlaw05.awake is true. -/
import Derived.Test.YtcigoodmkfnnfaaGeo10
namespace Go.Proofs.Ytcigoodmkfnnfaa
open Go.RowKit
set_option linter.unusedVariables false

/-- What lay ahead of W lies as it lay; block n is a geometry. -/
structure GAt (W : World) (n : Nat) (a b c d : Int) (w : World) : Prop where
  old : Below W.heap.size W w
  geo : w.heap[n]? = some (.cells #[.int .i64 a, .int .i64 b, .int .i64 c, .int .i64 d] 23 (0, 0))
theorem GAt.step {W w w' : World} {n : Nat} {a b c d : Int} (h : GAt W n a b c d w) (k : Below w.heap.size w w') : GAt W n a b c d w' :=
  ⟨B_then h.old k, (k.block _ (lt_of_block h.geo)).trans h.geo⟩
theorem GAt.cells {W w : World} {n : Nat} {a b c d : Int} (h : GAt W n a b c d w) :
    w.cell? ⟨n, 0, none⟩ = some (.int .i64 a) ∧ w.cell? ⟨n, 1, none⟩ = some (.int .i64 b) ∧ w.cell? ⟨n, 2, none⟩ = some (.int .i64 c) ∧ w.cell? ⟨n, 3, none⟩ = some (.int .i64 d) := by
  refine ⟨?_, ?_, ?_, ?_⟩ <;> (rw [cell_of_row _ _ _ _ _ _ h.geo]; rfl)
theorem GAt.new (W : World) (a b c d : Int) : GAt W W.heap.size a b c d (W.alloc (.cells #[.int .i64 a, .int .i64 b, .int .i64 c, .int .i64 d] 23)) :=
  ⟨(Below.refl _ W).alloc (Nat.le_refl _) _, heap_alloc_new W _⟩
theorem GAt.newer {W w : World} (h : Below W.heap.size W w) (a b c d : Int) : GAt W w.heap.size a b c d (w.alloc (.cells #[.int .i64 a, .int .i64 b, .int .i64 c, .int .i64 d] 23)) :=
  ⟨h.alloc h.size _, heap_alloc_new w _⟩

set_option maxHeartbeats 1000000 in
theorem awake05_any (w : World) : Calls Try.prog 28 #[] w fun e w' => e = .returned (.bool true) ∧ Below w.heap.size w w' := by
  have M := hide (show mayP 2 16 8 40 by decide)
  have MB := hide (show mayB 2 16 8 40 = true by decide)
  have MN := hide (show mayB 2 16 56 40 = false by decide)
  have TK := hide (show thingK 2 16 8 40 57 = 7 by decide)
  have TG := hide (show thingG 2 16 8 40 57 = 0 by decide)
  have TA := hide (show thingA 2 16 8 40 57 = 15 by decide)
  have I1 := hide (show (2 + 40 + (16 - 1) / 8 * 16 + 2 + (16 - 1) % 8 / 4 : Int) = 61 by decide)
  have I2 := hide (show ((16 - 1) % 8 % 4 * 64 : Int) = 192 by decide)
  have S1 := hide (show (2 + 40 + 1 * 16 : Int) = 58 by decide)
  have V1 := hide (show ifMay 2 16 8 40 (2 + 40 + 2 * 16) = 74 by decide)
  have V2 := hide (show ifMay 2 16 8 40 (2 * 8) = 16 by decide)
  have V3 := hide (show ifMay 2 16 8 40 (16 - 2 - 8 / 4) = 12 by decide)
  have N1 := hide (show (1 * 8 + 0 + 1 : Int) = 9 by decide)
  go_enter Try.func28, Try.ntmps28
  have G0 := hide (GAt.new w 2 16 8 40)
  obtain ⟨k0, k1, k2, k3⟩ := G0.out.cells
  go_wp2_with fail
  refine (what_any 2 16 8 40 57 _ M.out).mono ?_
  rintro e w1 ⟨rfl, hw⟩
  rw [TK.out, TG.out, TA.out]
  have G1 := hide (G0.out.step hw)
  clear hw k0 k1 k2 k3 G0
  obtain ⟨k0, k1, k2, k3⟩ := G1.out.cells
  go_wp2_with fail
  refine (inode_yes 2 16 8 40 16 _ ⟨M.out, by decide⟩).mono ?_
  rintro e w2 ⟨rfl, hw⟩
  rw [I1.out, I2.out]
  have G2 := hide (G1.out.step hw)
  clear hw k0 k1 k2 k3 G1
  obtain ⟨k0, k1, k2, k3⟩ := G2.out.cells
  go_wp2_with fail
  refine (start_yes 2 16 8 40 1 _ ⟨M.out, by decide⟩).mono ?_
  rintro e w3 ⟨rfl, hw⟩
  rw [S1.out]
  have G3 := hide (G2.out.step hw)
  clear hw k0 k1 k2 k3 G2
  obtain ⟨k0, k1, k2, k3⟩ := G3.out.cells
  go_wp2_with fail
  refine (may_any 2 16 8 40 _).mono ?_
  rintro e w4 ⟨rfl, hw⟩
  rw [MB.out]
  have G4 := hide (G3.out.step hw)
  clear hw k0 k1 k2 k3 G3
  obtain ⟨k0, k1, k2, k3⟩ := G4.out.cells
  go_wp2_with fail
  refine (may_any 2 16 56 40 _).mono ?_
  rintro e w5 ⟨rfl, hw⟩
  rw [MN.out]
  have G5 := hide (G4.out.step hw)
  clear hw k0 k1 k2 k3 G4
  obtain ⟨k0, k1, k2, k3⟩ := G5.out.cells
  go_wp2_with fail
  refine (blocks_any 2 16 8 40 _).mono ?_
  rintro e w6 ⟨rfl, hw⟩
  rw [V1.out]
  have G6 := hide (G5.out.step hw)
  clear hw k0 k1 k2 k3 G5
  obtain ⟨k0, k1, k2, k3⟩ := G6.out.cells
  go_wp2_with fail
  refine (inodes_any 2 16 8 40 _).mono ?_
  rintro e w7 ⟨rfl, hw⟩
  rw [V2.out]
  have G7 := hide (G6.out.step hw)
  clear hw k0 k1 k2 k3 G6
  obtain ⟨k0, k1, k2, k3⟩ := G7.out.cells
  go_wp2_with fail
  refine (data_any 2 16 8 40 _).mono ?_
  rintro e w8 ⟨rfl, hw⟩
  rw [V3.out]
  have G8 := hide (G7.out.step hw)
  clear hw k0 k1 k2 k3 G7
  obtain ⟨k0, k1, k2, k3⟩ := G8.out.cells
  go_wp2_with fail
  refine (number_yes 2 16 8 40 1 0 _ ⟨⟨M.out, by decide⟩, by decide⟩).mono ?_
  rintro e w9 ⟨rfl, hw⟩
  rw [N1.out]
  have G9 := hide (G8.out.step hw)
  clear hw k0 k1 k2 k3 G8
  go_wp2_with fail
  go_ret
  exact ⟨rfl, G9.out.old⟩
end Go.Proofs.Ytcigoodmkfnnfaa
