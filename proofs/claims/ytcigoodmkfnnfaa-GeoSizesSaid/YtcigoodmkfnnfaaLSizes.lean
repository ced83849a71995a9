/- The law GeoSizes. -/
import Derived.Test.YtcigoodmkfnnfaaGeo12
namespace Go.Proofs.Ytcigoodmkfnnfaa
open Go.RowKit
set_option linter.unusedVariables false

set_option maxRecDepth 100000 in
set_option maxHeartbeats 2000000 in
theorem geoSizes_law (a b c d : Int) (w : World) :
    Calls Try.prog 7 #[geoV a b c d] w fun e w' => e = .returned (.bool true) ∧ Below w.heap.size w w' := by
  have G0 := hide (GAt.new w a b c d)
  by_cases h : mayP a b c d
  · have Hm := hide h
    have hp := h.mul
    have hc := h.mulc
    have hd : 40 ≤ d ∧ d ≤ 256 := h.2.2.2.2.1
    have hb : 16 ≤ b ∧ b ≤ 512 := h.2.1
    have hc' : 4 ≤ c ∧ c ≤ 64 := h.2.2.1
    have hcb : 3 + c / 4 ≤ b := h.2.2.2.2.2.1
    have htot : 2 + d + a * b ≤ 2048 := h.2.2.2.2.2.2
    obtain ⟨p0, p1⟩ := hp
    obtain ⟨q0, q1⟩ := hc
    obtain ⟨d0, d1⟩ := hd
    obtain ⟨b0, b1⟩ := hb
    obtain ⟨c0, c1⟩ := hc'
    have v1 : decide (2 + d + a * b ≤ 2048) = true := decide_eq_true htot
    have v2 : decide (1 ≤ b - 2 - c / 4) = true := decide_eq_true (by omega)
    clear h
    unfold geoV
    go_enter Try.func7, Try.ntmps7
    go_wp2_with fail
    refine (awake05_any _).mono ?_
    rintro e w1 ⟨rfl, hw⟩
    have G1 := hide (G0.out.step hw)
    clear hw G0
    obtain ⟨k0, k1, k2, k3⟩ := G1.out.cells
    go_wp2_with fail
    refine (may_yes _ Hm.out).mono ?_
    rintro e w2 ⟨rfl, hw⟩
    have G2 := hide (G1.out.step hw)
    clear hw k0 k1 k2 k3 G1
    go_wp2_with fail
    refine wp_region_sub (GAt w w.heap.size a b c d) (by kernel_rfl) (by kernel_rfl) G2.out.drew ?_
    obtain ⟨k0, k1, k2, k3⟩ := GAt.all (W := w) (n := w.heap.size) (a := a) (b := b) (c := c) (d := d)
    have hne : Nonempty (Of (GAt w w.heap.size a b c d)) := ⟨⟨_, G2.out.drew⟩⟩
    repeat (go_big_quiet_step (first
      | (go_at_call 22; exact sub_calls GAt.steps (blocks_yes _ Hm.out))
      | (go_at_call 24; exact sub_calls GAt.steps (inodes_yes _ Hm.out))
      | (go_at_call 26; exact sub_calls GAt.steps (data_yes _ Hm.out))))
    refine wpQuiet_nil ?_
    rintro _ ⟨⟨w3, G3⟩, rfl⟩
    have H3 := hide G3
    clear G3 k0 k1 k2 k3
    go_wp2_with fail
    go_ret
    exact ⟨rfl, H3.out.old⟩
  · have Hm := hide h
    clear h
    unfold geoV
    go_enter Try.func7, Try.ntmps7
    go_wp2_with fail
    refine (awake05_any _).mono ?_
    rintro e w1 ⟨rfl, hw⟩
    have G1 := hide (G0.out.step hw)
    clear hw G0
    obtain ⟨k0, k1, k2, k3⟩ := G1.out.cells
    go_wp2_with fail
    refine (may_no _ Hm.out).mono ?_
    rintro e w2 ⟨rfl, hw⟩
    have G2 := hide (G1.out.step hw)
    clear hw k0 k1 k2 k3 G1
    obtain ⟨k0, k1, k2, k3⟩ := G2.out.cells
    go_wp2_with fail
    refine (blocks_no _ Hm.out).mono ?_
    rintro e w3 ⟨rfl, hw⟩
    have G3 := hide (G2.out.step hw)
    clear hw k0 k1 k2 k3 G2
    obtain ⟨k0, k1, k2, k3⟩ := G3.out.cells
    go_wp2_with fail
    refine (inodes_no _ Hm.out).mono ?_
    rintro e w4 ⟨rfl, hw⟩
    have G4 := hide (G3.out.step hw)
    clear hw k0 k1 k2 k3 G3
    obtain ⟨k0, k1, k2, k3⟩ := G4.out.cells
    go_wp2_with fail
    refine (data_no _ Hm.out).mono ?_
    rintro e w5 ⟨rfl, hw⟩
    have G5 := hide (G4.out.step hw)
    clear hw k0 k1 k2 k3 G4
    go_wp2_with fail
    go_ret
    exact ⟨rfl, G5.out.old⟩
end Go.Proofs.Ytcigoodmkfnnfaa
