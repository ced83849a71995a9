/- The law GeoTells. -/
import Derived.Test.YtcigoodmkfnnfaaGeo17
namespace Go.Proofs.Ytcigoodmkfnnfaa
open Go.RowKit
set_option linter.unusedVariables false

set_option maxRecDepth 100000 in
set_option maxHeartbeats 2000000 in
theorem geoTells_core (a b c d g n s k l m : Int) (o : Bool) (w : World)
    (s1 : ∀ w, Calls Try.prog 16 #[geoV a b c d, .int .i64 g] w fun e w' => e = .returned (.tuple #[.int .i64 s, .bool o]) ∧ Below w.heap.size w w')
    (s2 : ∀ w, Calls Try.prog 17 #[geoV a b c d, .int .i64 g] w fun e w' => e = .returned (.tuple #[.int .i64 s, .bool o]) ∧ Below w.heap.size w w')
    (t1 : ∀ w, Calls Try.prog 18 #[geoV a b c d, .int .i64 n] w fun e w' => e = .returned (.tuple #[.int .u8 k, .int .i64 l, .int .i64 m]) ∧ Below w.heap.size w w')
    (t2 : ∀ w, Calls Try.prog 19 #[geoV a b c d, .int .i64 n] w fun e w' => e = .returned (.tuple #[.int .u8 k, .int .i64 l, .int .i64 m]) ∧ Below w.heap.size w w') :
    Calls Try.prog 4 #[geoV a b c d, .int .i64 g, .int .i64 n] w fun e w' => e = .returned (.bool true) ∧ Below w.heap.size w w' := by
  have S1 := hide s1
  have S2 := hide s2
  have T1 := hide t1
  have T2 := hide t2
  have G0 := hide (GAt.new w a b c d)
  clear s1 s2 t1 t2
  unfold geoV
  go_enter Try.func4, Try.ntmps4
  obtain ⟨k0, k1, k2, k3⟩ := G0.out.cells
  go_wp2_with fail
  refine (S1.out _).mono ?_
  rintro e w1 ⟨rfl, hw⟩
  have G1 := hide (G0.out.step hw)
  clear hw k0 k1 k2 k3 G0
  obtain ⟨k0, k1, k2, k3⟩ := G1.out.cells
  go_wp2_with fail
  refine (S2.out _).mono ?_
  rintro e w2 ⟨rfl, hw⟩
  have G2 := hide (G1.out.step hw)
  clear hw k0 k1 k2 k3 G1
  obtain ⟨k0, k1, k2, k3⟩ := G2.out.cells
  go_wp2_with fail
  refine (T1.out _).mono ?_
  rintro e w3 ⟨rfl, hw⟩
  have G3 := hide (G2.out.step hw)
  clear hw k0 k1 k2 k3 G2
  obtain ⟨k0, k1, k2, k3⟩ := G3.out.cells
  go_wp2_with fail
  refine (T2.out _).mono ?_
  rintro e w4 ⟨rfl, hw⟩
  have G4 := hide (G3.out.step hw)
  clear hw k0 k1 k2 k3 G3
  go_wp2_with fail
  refine wp_region_sub (GAt w w.heap.size a b c d) (by kernel_rfl) (by kernel_rfl) G4.out.drew ?_
  obtain ⟨k0, k1, k2, k3⟩ := GAt.all (W := w) (n := w.heap.size) (a := a) (b := b) (c := c) (d := d)
  have hne : Nonempty (Of (GAt w w.heap.size a b c d)) := ⟨⟨_, G4.out.drew⟩⟩
  repeat (go_big_quiet_step (first
    | (go_at_call 20; exact sub_calls GAt.steps (may_any _ _ _ _ _))
    | (go_at_call 21; exact sub_calls GAt.steps (refMay_any _ _ _ _ _))
    | (go_at_call 22; exact sub_calls GAt.steps (blocks_any _ _ _ _ _))
    | (go_at_call 23; exact sub_calls GAt.steps (refBlocks_any _ _ _ _ _))
    | (go_at_call 24; exact sub_calls GAt.steps (inodes_any _ _ _ _ _))
    | (go_at_call 25; exact sub_calls GAt.steps (refInodes_any _ _ _ _ _))
    | (go_at_call 26; exact sub_calls GAt.steps (data_any _ _ _ _ _))
    | (go_at_call 27; exact sub_calls GAt.steps (refData_any _ _ _ _ _))))
  refine wpQuiet_nil ?_
  rintro w5 ⟨s5, hs5⟩
  have H5 : Hid (GAt w w.heap.size a b c d w5) := by rw [hs5]; exact s5.ok
  clear hs5 s5 k0 k1 k2 k3 hne
  go_wp2_with fail
  go_ret
  exact ⟨rfl, H5.out.old⟩

theorem geoTells_law (a b c d g n : Int) (w : World) :
    Calls Try.prog 4 #[geoV a b c d, .int .i64 g, .int .i64 n] w fun e w' => e = .returned (.bool true) ∧ Below w.heap.size w w' := by
  by_cases hm : mayP a b c d
  · by_cases hg : groupP a b c d g
    · exact geoTells_core a b c d g n _ _ _ _ _ w (fun w => start_yes a b c d g w hg) (fun w => refStart_yes a b c d g w hg) (fun w => what_any a b c d n w hm) (fun w => refWhat_any a b c d n w hm)
    · exact geoTells_core a b c d g n _ _ _ _ _ w (fun w => start_no a b c d g w hg) (fun w => refStart_no a b c d g w hg) (fun w => what_any a b c d n w hm) (fun w => refWhat_any a b c d n w hm)
  · have hg : ¬ groupP a b c d g := fun h => hm h.1
    exact geoTells_core a b c d g n _ _ _ _ _ w (fun w => start_no a b c d g w hg) (fun w => refStart_no a b c d g w hg) (fun w => what_not a b c d n w hm) (fun w => refWhat_not a b c d n w hm)
end Go.Proofs.Ytcigoodmkfnnfaa
