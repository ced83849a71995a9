/- The law GeoInodes. -/
import Derived.Test.YtcigoodmkfnnfaaGeo18
namespace Go.Proofs.Ytcigoodmkfnnfaa
open Go.RowKit
set_option linter.unusedVariables false

set_option maxRecDepth 100000 in
set_option maxHeartbeats 2000000 in
theorem geoInodes_core (a b c d n g i p q x u z : Int) (o o' : Bool) (w : World)
    (s1 : ∀ w, Calls Try.prog 10 #[geoV a b c d, .int .i64 n] w fun e w' => e = .returned (.tuple #[.int .i64 p, .int .i64 q, .bool o]) ∧ Below w.heap.size w w')
    (s2 : ∀ w, Calls Try.prog 11 #[geoV a b c d, .int .i64 n] w fun e w' => e = .returned (.tuple #[.int .i64 p, .int .i64 q, .bool o]) ∧ Below w.heap.size w w')
    (t1 : ∀ w, Calls Try.prog 12 #[geoV a b c d, .int .i64 n] w fun e w' => e = .returned (.tuple #[.int .i64 x, .int .i64 u, .bool o']) ∧ Below w.heap.size w w')
    (t2 : ∀ w, Calls Try.prog 13 #[geoV a b c d, .int .i64 n] w fun e w' => e = .returned (.tuple #[.int .i64 x, .int .i64 u, .bool o']) ∧ Below w.heap.size w w')
    (r1 : ∀ w, Calls Try.prog 15 #[geoV a b c d, .int .i64 g, .int .i64 i] w fun e w' => e = .returned (.int .i64 z) ∧ Below w.heap.size w w')
    (r2 : ∀ w, Calls Try.prog 14 #[geoV a b c d, .int .i64 g, .int .i64 i] w fun e w' => e = .returned (.int .i64 z) ∧ Below w.heap.size w w') :
    Calls Try.prog 3 #[geoV a b c d, .int .i64 n, .int .i64 g, .int .i64 i] w fun e w' => e = .returned (.bool true) ∧ Below w.heap.size w w' := by
  have S1 := hide s1
  have S2 := hide s2
  have T1 := hide t1
  have T2 := hide t2
  have R1 := hide r1
  have R2 := hide r2
  have G0 := hide (GAt.new w a b c d)
  clear s1 s2 t1 t2 r1 r2
  unfold geoV
  go_enter Try.func3, Try.ntmps3
  obtain ⟨k0, k1, k2, k3⟩ := G0.out.cells
  go_wp2_with fail
  refine (S1.out _).mono ?_
  rintro e w1 ⟨rfl, hw⟩
  have G1 := hide (G0.out.step hw)
  clear hw k0 k1 k2 k3 G0
  obtain ⟨k0, k1, k2, k3⟩ := G1.out.cells
  go_wp2_with fail
  refine (S2.out _).mono ?_
  rintro e w2 ⟨rfl, hw⟩
  have G2 := hide (G1.out.step hw)
  clear hw k0 k1 k2 k3 G1
  obtain ⟨k0, k1, k2, k3⟩ := G2.out.cells
  go_wp2_with fail
  refine (T1.out _).mono ?_
  rintro e w3 ⟨rfl, hw⟩
  have G3 := hide (G2.out.step hw)
  clear hw k0 k1 k2 k3 G2
  obtain ⟨k0, k1, k2, k3⟩ := G3.out.cells
  go_wp2_with fail
  refine (T2.out _).mono ?_
  rintro e w4 ⟨rfl, hw⟩
  have G4 := hide (G3.out.step hw)
  clear hw k0 k1 k2 k3 G3
  go_wp2_with fail
  refine wp_region_sub (GAt w w.heap.size a b c d) (by kernel_rfl) (by kernel_rfl) G4.out.drew ?_
  obtain ⟨k0, k1, k2, k3⟩ := GAt.all (W := w) (n := w.heap.size) (a := a) (b := b) (c := c) (d := d)
  have hne : Nonempty (Of (GAt w w.heap.size a b c d)) := ⟨⟨_, G4.out.drew⟩⟩
  repeat (go_big_quiet_step (first
    | (go_at_call 15; exact sub_calls GAt.steps (R1.out _))
    | (go_at_call 14; exact sub_calls GAt.steps (R2.out _))))
  refine wpQuiet_nil ?_
  rintro w5 ⟨s5, hs5⟩
  have H5 : Hid (GAt w w.heap.size a b c d w5) := by rw [hs5]; exact s5.ok
  clear hs5 s5 k0 k1 k2 k3 hne
  go_wp2_with fail
  go_ret
  exact ⟨rfl, H5.out.old⟩

theorem geoInodes_law (a b c d n g i : Int) (w : World) :
    Calls Try.prog 3 #[geoV a b c d, .int .i64 n, .int .i64 g, .int .i64 i] w fun e w' => e = .returned (.bool true) ∧ Below w.heap.size w w' := by
  have num : ∃ z, (∀ w, Calls Try.prog 15 #[geoV a b c d, .int .i64 g, .int .i64 i] w fun e w' => e = .returned (.int .i64 z) ∧ Below w.heap.size w w') ∧
      (∀ w, Calls Try.prog 14 #[geoV a b c d, .int .i64 g, .int .i64 i] w fun e w' => e = .returned (.int .i64 z) ∧ Below w.heap.size w w') := by
    by_cases h : bitP a b c d g i
    · refine ⟨_, fun w => number_yes a b c d g i w h, fun w => ?_⟩
      rw [show g * c + i + 1 = 1 + g * c + i by omega]
      exact refNumber_yes a b c d g i w h
    · exact ⟨_, fun w => number_no a b c d g i w h, fun w => refNumber_no a b c d g i w h⟩
  obtain ⟨z, r1, r2⟩ := num
  by_cases h : inoP a b c d n
  · exact geoInodes_core a b c d n g i _ _ _ _ z _ _ w (fun w => inode_yes a b c d n w h) (fun w => refInode_yes a b c d n w h) (fun w => home_yes a b c d n w h) (fun w => refHome_yes a b c d n w h) r1 r2
  · exact geoInodes_core a b c d n g i _ _ _ _ z _ _ w (fun w => inode_no a b c d n w h) (fun w => refInode_no a b c d n w h) (fun w => home_no a b c d n w h) (fun w => refHome_no a b c d n w h) r1 r2
end Go.Proofs.Ytcigoodmkfnnfaa
