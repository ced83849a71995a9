/- The law GeoStarts. -/
import Derived.Test.YtcigoodmkfnnfaaLNumbersG
namespace Go.Proofs.Ytcigoodmkfnnfaa
open Go.RowKit
set_option linter.unusedVariables false

theorem thing_first {a b c d g : Int} (h : groupP a b c d g) : thingK a b c d (2 + d + g * b) = 4 ∧ thingG a b c d (2 + d + g * b) = g ∧ thingA a b c d (2 + d + g * b) = 0 := by
  have hb : 16 ≤ b ∧ b ≤ 512 := h.1.2.1
  have hd : 40 ≤ d ∧ d ≤ 256 := h.1.2.2.2.2.1
  have hg := h.mul
  have h1 := h.2.1
  have h2 := h.2.2
  have hlt : g * b + b ≤ a * b := by
    have := Int.mul_le_mul_of_nonneg_right (show g + 1 ≤ a by omega) (show 0 ≤ b by omega)
    rw [Int.add_mul] at this; omega
  have e : 2 + d + g * b - (2 + d) = g * b := by omega
  have e1 : g * b % b = 0 := Int.mul_emod_left _ _
  have e2 : g * b / b = g := Int.mul_ediv_cancel _ (by omega)
  refine ⟨?_, ?_, ?_⟩
  · unfold thingK; rw [if_neg (by omega), if_neg (by omega), if_neg (by omega), if_neg (by omega), e, e1]; rfl
  · unfold thingG; rw [if_pos (by omega), e, e2]
  · unfold thingA; rw [if_neg (by omega), if_pos (by omega), e, e1]
theorem thing_last {a b c d g : Int} (h : groupP a b c d g) : thingK a b c d (2 + d + g * b + b - 1) = 7 := by
  have hb : 16 ≤ b ∧ b ≤ 512 := h.1.2.1
  have hc : 4 ≤ c ∧ c ≤ 64 := h.1.2.2.1
  have hcb : 3 + c / 4 ≤ b := h.1.2.2.2.2.2.1
  have hd : 40 ≤ d ∧ d ≤ 256 := h.1.2.2.2.2.1
  have hg := h.mul
  have h1 := h.2.1
  have h2 := h.2.2
  have hlt : g * b + b ≤ a * b := by
    have := Int.mul_le_mul_of_nonneg_right (show g + 1 ≤ a by omega) (show 0 ≤ b by omega)
    rw [Int.add_mul] at this; omega
  have e : 2 + d + g * b + b - 1 - (2 + d) = (b - 1) + b * g := by rw [Int.mul_comm b g]; omega
  have e1 : ((b - 1) + b * g) % b = b - 1 := by rw [Int.add_mul_emod_self_left]; exact Int.emod_eq_of_lt (by omega) (by omega)
  unfold thingK
  rw [if_neg (by omega), if_neg (by omega), if_neg (by omega), if_neg (by omega), e, e1]
  unfold thingAt
  rw [if_neg (by omega), if_neg (by omega), if_neg (by omega)]
theorem thing_behind {a b c d : Int} (h : mayP a b c d) : thingK a b c d (2 + d + a * b) = 0 := by
  unfold thingK; rw [if_pos (by omega)]

set_option maxRecDepth 100000 in
set_option maxHeartbeats 2000000 in
theorem geoStarts_yes (a b c d g : Int) (w : World) (h : groupP a b c d g) :
    Calls Try.prog 9 #[geoV a b c d, .int .i64 g] w fun e w' => e = .returned (.bool true) ∧ Below w.heap.size w w' := by
  have G0 := hide (GAt.new w a b c d)
  have Hg := hide h
  have Hm := hide h.1
  obtain ⟨t1, t2, t3⟩ := thing_first h
  have T1 := hide t1
  have T2 := hide t2
  have T3 := hide t3
  have T4 := hide (thing_last h)
  have T5 := hide (thing_behind h.1)
  clear t1 t2 t3
  have p := h.1.mul
  have q := h.mul
  have hd : 40 ≤ d ∧ d ≤ 256 := h.1.2.2.2.2.1
  have hb : 16 ≤ b ∧ b ≤ 512 := h.1.2.1
  have ha : 1 ≤ a ∧ a ≤ 4 := h.1.1
  obtain ⟨p0, p1⟩ := p
  obtain ⟨q0, q1⟩ := q
  obtain ⟨d0, d1⟩ := hd
  obtain ⟨b0, b1⟩ := hb
  obtain ⟨a0, a1⟩ := ha
  obtain ⟨_, g0, g1⟩ := h
  have N1 : Hid (g ≠ a - 1 → thingK a b c d (2 + d + g * b + b) = 4) := fun hne => by
    have := (thing_first (a := a) (b := b) (c := c) (d := d) (g := g + 1) ⟨Hm.out, by omega, by omega⟩).1
    rwa [show 2 + d + (g + 1) * b = 2 + d + g * b + b by rw [Int.add_mul]; omega] at this
  have N2 : Hid (g = a - 1 → 2 + d + g * b + b = 2 + d + a * b) := fun e => by subst e; rw [Int.sub_mul]; omega
  unfold geoV
  go_enter Try.func9, Try.ntmps9
  go_wp2_with fail
  refine (awake05_any _).mono ?_
  rintro e w1 ⟨rfl, hw⟩
  have G1 := hide (G0.out.step hw)
  clear hw G0
  obtain ⟨k0, k1, k2, k3⟩ := G1.out.cells
  go_wp2_with fail
  refine (start_yes a b c d g _ Hg.out).mono ?_
  rintro e w2 ⟨rfl, hw⟩
  have G2 := hide (G1.out.step hw)
  clear hw k0 k1 k2 k3 G1
  obtain ⟨k0, k1, k2, k3⟩ := G2.out.cells
  go_wp2_with fail
  refine (what_any a b c d _ _ Hm.out).mono ?_
  rintro e w3 ⟨rfl, hw⟩
  rw [T1.out, T2.out, T3.out]
  have G3 := hide (G2.out.step hw)
  clear hw k0 k1 k2 k3 G2
  obtain ⟨k0, k1, k2, k3⟩ := G3.out.cells
  go_wp2_with fail
  refine (may_yes _ Hm.out).mono ?_
  rintro e w4 ⟨rfl, hw⟩
  have G4 := hide (G3.out.step hw)
  clear hw k0 k1 k2 k3 G3
  obtain ⟨k0, k1, k2, k3⟩ := G4.out.cells
  go_wp2_with fail
  refine (what_any a b c d _ _ Hm.out).mono ?_
  rintro e w5 ⟨rfl, hw⟩
  rw [T4.out]
  have G5 := hide (G4.out.step hw)
  clear hw k0 k1 k2 k3 G4
  generalize thingG a b c d (2 + d + g * b + b - 1) = u1
  generalize thingA a b c d (2 + d + g * b + b - 1) = u2
  obtain ⟨k0, k1, k2, k3⟩ := G5.out.cells
  go_wp2_with fail
  refine (what_any a b c d _ _ Hm.out).mono ?_
  rintro e w6 ⟨rfl, hw⟩
  have G6 := hide (G5.out.step hw)
  clear hw k0 k1 k2 k3 G5
  generalize thingG a b c d (2 + d + g * b + b) = u3
  generalize thingA a b c d (2 + d + g * b + b) = u4
  by_cases e : g = a - 1
  · have N3 := hide (N2.out e)
    have z : (g == a - 1) = true := by simp [e]
    rw [N3.out, T5.out]
    clear e N1 N2
    obtain ⟨k0, k1, k2, k3⟩ := G6.out.cells
    go_wp2_with fail
    refine wp_region_sub (GAt w w.heap.size a b c d) (by kernel_rfl) (by kernel_rfl) G6.out.drew ?_
    clear k0 k1 k2 k3
    obtain ⟨k0, k1, k2, k3⟩ := GAt.all (W := w) (n := w.heap.size) (a := a) (b := b) (c := c) (d := d)
    have hne : Nonempty (Of (GAt w w.heap.size a b c d)) := ⟨⟨_, G6.out.drew⟩⟩
    have z2 : (2 + d + g * b + b == 2 + d + a * b) = true := by simp [N3.out]
    repeat (go_big_quiet_step ((go_at_call 22; exact sub_calls GAt.steps (blocks_yes _ Hm.out))))
    refine wpQuiet_nil ?_
    rintro _ ⟨⟨w7, G7⟩, rfl⟩
    have H7 := hide G7
    clear G7 k0 k1 k2 k3
    go_wp2_with fail
    go_ret
    exact ⟨rfl, H7.out.old⟩
  · have z : (g == a - 1) = false := by simp [e]
    rw [N1.out e]
    clear e N1 N2
    obtain ⟨k0, k1, k2, k3⟩ := G6.out.cells
    go_wp2_with fail
    go_ret
    exact ⟨rfl, G6.out.old⟩

set_option maxRecDepth 100000 in
set_option maxHeartbeats 2000000 in
theorem geoStarts_no (a b c d g : Int) (w : World) (h : ¬ groupP a b c d g) :
    Calls Try.prog 9 #[geoV a b c d, .int .i64 g] w fun e w' => e = .returned (.bool true) ∧ Below w.heap.size w w' := by
  have G0 := hide (GAt.new w a b c d)
  have Hg := hide h
  by_cases hm : mayP a b c d
  case neg =>
    have Hm := hide hm
    clear h hm
    unfold geoV
    go_enter Try.func9, Try.ntmps9
    go_wp2_with fail
    refine (awake05_any _).mono ?_
    rintro e w1 ⟨rfl, hw⟩
    have G1 := hide (G0.out.step hw)
    clear hw G0
    obtain ⟨k0, k1, k2, k3⟩ := G1.out.cells
    go_wp2_with fail
    refine (start_no a b c d g _ Hg.out).mono ?_
    rintro e w2 ⟨rfl, hw⟩
    have G2 := hide (G1.out.step hw)
    clear hw k0 k1 k2 k3 G1
    obtain ⟨k0, k1, k2, k3⟩ := G2.out.cells
    go_wp2_with fail
    refine (may_no _ Hm.out).mono ?_
    rintro e w4 ⟨rfl, hw⟩
    have G4 := hide (G2.out.step hw)
    clear hw k0 k1 k2 k3 G2
    obtain ⟨k0, k1, k2, k3⟩ := G4.out.cells
    go_wp2_with fail
    go_ret
    exact ⟨rfl, G4.out.old⟩
  case pos =>
    have Hm := hide hm
    by_cases l : g < 0
    case pos =>
      have z : decide (g < 0) = true := decide_eq_true l
      clear h hm l
      unfold geoV
      go_enter Try.func9, Try.ntmps9
      go_wp2_with fail
      refine (awake05_any _).mono ?_
      rintro e w1 ⟨rfl, hw⟩
      have G1 := hide (G0.out.step hw)
      clear hw G0
      obtain ⟨k0, k1, k2, k3⟩ := G1.out.cells
      go_wp2_with fail
      refine (start_no a b c d g _ Hg.out).mono ?_
      rintro e w2 ⟨rfl, hw⟩
      have G2 := hide (G1.out.step hw)
      clear hw k0 k1 k2 k3 G1
      obtain ⟨k0, k1, k2, k3⟩ := G2.out.cells
      go_wp2_with fail
      refine (may_yes _ Hm.out).mono ?_
      rintro e w4 ⟨rfl, hw⟩
      have G4 := hide (G2.out.step hw)
      clear hw k0 k1 k2 k3 G2
      obtain ⟨k0, k1, k2, k3⟩ := G4.out.cells
      go_wp2_with fail
      go_ret
      exact ⟨rfl, G4.out.old⟩
    case neg =>
      have z : decide (g < 0) = false := decide_eq_false l
      have z2 : decide (a ≤ g) = true := decide_eq_true (by
        have k : ¬ g ≤ a - 1 := fun k => h ⟨hm, by omega, k⟩
        omega)
      clear h hm l
      unfold geoV
      go_enter Try.func9, Try.ntmps9
      go_wp2_with fail
      refine (awake05_any _).mono ?_
      rintro e w1 ⟨rfl, hw⟩
      have G1 := hide (G0.out.step hw)
      clear hw G0
      obtain ⟨k0, k1, k2, k3⟩ := G1.out.cells
      go_wp2_with fail
      refine (start_no a b c d g _ Hg.out).mono ?_
      rintro e w2 ⟨rfl, hw⟩
      have G2 := hide (G1.out.step hw)
      clear hw k0 k1 k2 k3 G1
      obtain ⟨k0, k1, k2, k3⟩ := G2.out.cells
      go_wp2_with fail
      refine (may_yes _ Hm.out).mono ?_
      rintro e w4 ⟨rfl, hw⟩
      have G4 := hide (G2.out.step hw)
      clear hw k0 k1 k2 k3 G2
      obtain ⟨k0, k1, k2, k3⟩ := G4.out.cells
      go_wp2_with fail
      go_ret
      exact ⟨rfl, G4.out.old⟩

theorem geoStarts_law (a b c d g : Int) (w : World) :
    Calls Try.prog 9 #[geoV a b c d, .int .i64 g] w fun e w' => e = .returned (.bool true) ∧ Below w.heap.size w w' := by
  by_cases h : groupP a b c d g
  · exact geoStarts_yes a b c d g w h
  · exact geoStarts_no a b c d g w h
end Go.Proofs.Ytcigoodmkfnnfaa
