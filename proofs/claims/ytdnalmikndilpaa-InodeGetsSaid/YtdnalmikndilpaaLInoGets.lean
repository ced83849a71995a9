/- The law InodeGets. -/
import Derived.Test.YtdnalmikndilpaaIno15
namespace Go.Proofs.Ytdnalmikndilpaa
open Go.RowKit
set_option linter.unusedVariables false

set_option maxRecDepth 100000 in
set_option maxHeartbeats 2000000 in
theorem inodeGets_law (f : Nat → Int) (n : Int) (hf : IsByte f) (w : World) : Calls Try.prog 4 #[blkV f, .int .i64 n] w fun e w' => e = .returned (.bool true) ∧ Below w.heap.size w w' := by
  have HF := hide hf
  clear hf
  unfold blkV
  have R0 := hide (Row.new w 23 256 f)
  have B0 : Hid (Below w.heap.size w (w.alloc (.cells (bytesOf 256 f) 23))) := (Below.refl _ w).alloc (Nat.le_refl _) _
  go_enter Try.func4, Try.ntmps4
  go_wp2_with (refine ld256 rfl (.tmp 2) rfl _ _ rfl R0.out ?_)
  refine (iget_any f HF.out n _).mono ?_
  rintro e w1 ⟨rfl, hw⟩
  have R1 := hide (R0.out.below hw R0.out.lt)
  have B1 := hide (B0.out.trans (hw.mono B0.out.size))
  have hs1 := R1.out.lt
  clear hw R0 B0
  have HG : Hid (∀ v, Calls Try.prog 15 #[blkV f, .int .i64 n] v fun e w' => e = .returned (.tuple #[inoV (getI f n), .int .i64 (getC f n)]) ∧ Below v.heap.size v w') := fun v => rget_any f HF.out n v
  generalize getI f n = y at *
  generalize getC f n = c at *
  go_wp2_with (first
    | (refine stI rfl (.tmp 5) (.tmp 13) rfl w1.heap.size (zeroI 0) y rfl rfl (IAt.new w1 _ (zeroI 0)) ?_
       intro w2 hr ho
       have I2 := hide hr
       have R2 := hide ((R1.out.alloc (.cells (inoC (zeroI 0)) 27)).only ho (by omega))
       have B2 : Hid (Below w.heap.size w w2) := (B1.out.alloc B1.out.size _).trans (ho.below (by omega) (by simp only [World.size_alloc]; omega))
       clear hr ho R1 B1)
    | (refine ld256 rfl (.tmp 2) rfl _ _ rfl R2.out ?_))
  refine (HG.out _).mono ?_
  rintro e w3 ⟨rfl, hw⟩
  have I3 := hide (I2.out.below hw I2.out.lt)
  have B3 := hide (B2.out.trans (hw.mono B2.out.size))
  have hs3 := I3.out.lt
  have hE := inoE_self y
  clear hw I2 B2 R2
  go_wp2_with (first
    | (refine stI rfl (.tmp 7) (.tmp 19) rfl w3.heap.size (zeroI 0) y rfl rfl (IAt.new w3 _ (zeroI 0)) ?_
       intro w4 hr ho
       have J4 := hide hr
       have I4 := hide ((I3.out.alloc (.cells (inoC (zeroI 0)) 27)).only ho (by omega))
       have B4 : Hid (Below w.heap.size w w4) := (B3.out.alloc B3.out.size _).trans (ho.below (by omega) (by simp only [World.size_alloc]; omega))
       clear hr ho I3 B3)
    | (refine ldI rfl (.tmp 5) rfl _ _ rfl I4.out ?_)
    | (refine ldI rfl (.tmp 7) rfl _ _ rfl J4.out ?_)
    | (refine eqlI rfl (.tmp 21) (.tmp 22) rfl y y rfl rfl ?_))
  go_ret
  exact ⟨rfl, B4.out⟩
end Go.Proofs.Ytdnalmikndilpaa
