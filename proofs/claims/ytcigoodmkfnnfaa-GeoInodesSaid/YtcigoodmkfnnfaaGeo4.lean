/- The walks of geo.Inodes, Data, Start, Number. -/
import Derived.Test.YtcigoodmkfnnfaaGeo3
namespace Go.Proofs.Ytcigoodmkfnnfaa
open Go.RowKit
set_option linter.unusedVariables false

theorem inodes_any (a b c d : Int) (w : World) :
    Calls Try.prog 24 #[geoV a b c d] w fun e w' => e = .returned (.int .i64 (ifMay a b c d (a * c))) ∧ Below w.heap.size w w' := by
  by_cases h : mayP a b c d
  · have Hr : Hid (ifMay a b c d (a * c) = a * c) := if_pos h
    have Hm : Hid (mayB a b c d = true) := decide_eq_true h
    have hp := h.mulc
    have He : Hid (wrap64 (a * c) = a * c) := IntWalk.wrap64_in _ ⟨by omega, by omega⟩
    clear h hp
    rw [Hr.out]
    clear Hr
    unfold geoV
    go_enter Try.func24, Try.ntmps24
    go_wp2_with (go_at_call 20; refine (may_any a b c d _).mono ?_; rintro e w1 ⟨rfl, h1⟩; rw [Hm.out]; have H1 : Hid (Below w.heap.size w w1) := box_below h1; obtain ⟨k0, k1, k2, k3⟩ := box_cells h1; clear h1)
    rw [He.out]
    go_ret
    exact ⟨rfl, H1.out⟩
  · have Hr : Hid (ifMay a b c d (a * c) = 0) := if_neg h
    have Hm : Hid (mayB a b c d = false) := decide_eq_false h
    clear h
    rw [Hr.out]
    unfold geoV
    go_enter Try.func24, Try.ntmps24
    go_wp2_with (go_at_call 20; refine (may_any a b c d _).mono ?_; rintro e w1 ⟨rfl, h1⟩; rw [Hm.out]; have H1 : Hid (Below w.heap.size w w1) := box_below h1; clear h1)
    go_ret
    exact ⟨rfl, H1.out⟩

theorem data_any (a b c d : Int) (w : World) :
    Calls Try.prog 26 #[geoV a b c d] w fun e w' => e = .returned (.int .i64 (ifMay a b c d (b - 2 - c / 4))) ∧ Below w.heap.size w w' := by
  by_cases h : mayP a b c d
  · have Hr : Hid (ifMay a b c d (b - 2 - c / 4) = b - 2 - c / 4) := if_pos h
    have Hm : Hid (mayB a b c d = true) := decide_eq_true h
    obtain ⟨h1, h2, h3, h4, h5, h6, h7⟩ := h
    have q0 : 0 ≤ c := by omega
    have q1 : c ≤ 64 := by omega
    have q2 : 16 ≤ b := by omega
    have q3 : b ≤ 512 := by omega
    clear h1 h2 h3 h4 h5 h6 h7
    rw [Hr.out]
    clear Hr
    unfold geoV
    go_enter Try.func26, Try.ntmps26
    go_wp2_with (go_at_call 20; refine (may_any a b c d _).mono ?_; rintro e w1 ⟨rfl, h1⟩; rw [Hm.out]; have H1 : Hid (Below w.heap.size w w1) := box_below h1; obtain ⟨k0, k1, k2, k3⟩ := box_cells h1; clear h1)
    go_ret
    exact ⟨rfl, H1.out⟩
  · have Hr : Hid (ifMay a b c d (b - 2 - c / 4) = 0) := if_neg h
    have Hm : Hid (mayB a b c d = false) := decide_eq_false h
    clear h
    rw [Hr.out]
    unfold geoV
    go_enter Try.func26, Try.ntmps26
    go_wp2_with (go_at_call 20; refine (may_any a b c d _).mono ?_; rintro e w1 ⟨rfl, h1⟩; rw [Hm.out]; have H1 : Hid (Below w.heap.size w w1) := box_below h1; clear h1)
    go_ret
    exact ⟨rfl, H1.out⟩

/-- Is it a group? -/
def groupP (a b c d g : Int) : Prop := mayP a b c d ∧ 0 ≤ g ∧ g ≤ a - 1
theorem groupP.mul {a b c d g : Int} (h : groupP a b c d g) : 0 ≤ g * b ∧ g * b ≤ 2048 := by
  obtain ⟨h, h1, h2⟩ := h
  obtain ⟨q1, q2, q3, q4, q5, q6, q7⟩ := h
  exact ⟨Int.mul_nonneg (by omega) (by omega), Int.le_trans (Int.mul_le_mul (show g ≤ 4 by omega) q2.2 (by omega) (by omega)) (by omega)⟩

theorem start_yes (a b c d g : Int) (w : World) (h : groupP a b c d g) :
    Calls Try.prog 16 #[geoV a b c d, .int .i64 g] w fun e w' => e = .returned (.tuple #[.int .i64 (2 + d + g * b), .bool true]) ∧ Below w.heap.size w w' := by
  have Hm : Hid (mayB a b c d = true) := decide_eq_true h.1
  have hp := h.mul
  obtain ⟨⟨h1, h2, h3, h4, h5, h6, h7⟩, g1, g2⟩ := h
  have q0 : 40 ≤ d := by omega
  have q1 : d ≤ 256 := by omega
  have q2 : 1 ≤ a := by omega
  have q3 : a ≤ 4 := by omega
  have f1 := within2_yes g1 g2
  have He : Hid (wrap64 (g * b) = g * b) := IntWalk.wrap64_in _ ⟨by omega, by omega⟩
  have He2 : Hid (wrap64 (2 + d + g * b) = 2 + d + g * b) := IntWalk.wrap64_in _ ⟨by omega, by omega⟩
  clear h1 h2 h3 h4 h5 h6 h7 hp
  unfold geoV
  go_enter Try.func16, Try.ntmps16
  go_wp2_with (first | (go_at_call 20; refine (may_any a b c d _).mono ?_; rintro e w1 ⟨rfl, h1⟩; rw [Hm.out]; have H1 : Hid (Below w.heap.size w w1) := box_below h1; obtain ⟨k0, k1, k2, k3⟩ := box_cells h1; clear h1) | (go_at_call 30; refine (among_any _ _ _ _).mono ?_; rintro e w2 ⟨rfl, rfl⟩))
  rw [He.out, He2.out]
  go_ret2
  exact ⟨rfl, H1.out⟩
theorem start_no (a b c d g : Int) (w : World) (h : ¬ groupP a b c d g) :
    Calls Try.prog 16 #[geoV a b c d, .int .i64 g] w fun e w' => e = .returned (.tuple #[.int .i64 0, .bool false]) ∧ Below w.heap.size w w' := by
  by_cases hm : mayP a b c d
  · have Hm : Hid (mayB a b c d = true) := decide_eq_true hm
    have q2 : 1 ≤ a := by have := hm.1; omega
    have q3 : a ≤ 4 := by have := hm.1; omega
    have f1 : within2 g 0 (a - 1) = false := by
      cases e : within2 g 0 (a - 1) with
      | false => rfl
      | true => exact absurd ⟨hm, (within2_iff _ _ _).1 e⟩ h
    clear h hm
    unfold geoV
    go_enter Try.func16, Try.ntmps16
    go_wp2_with (first | (go_at_call 20; refine (may_any a b c d _).mono ?_; rintro e w1 ⟨rfl, h1⟩; rw [Hm.out]; have H1 : Hid (Below w.heap.size w w1) := box_below h1; obtain ⟨k0, k1, k2, k3⟩ := box_cells h1; clear h1) | (go_at_call 30; refine (among_any _ _ _ _).mono ?_; rintro e w2 ⟨rfl, rfl⟩))
    go_ret2
    exact ⟨rfl, H1.out⟩
  · have Hm : Hid (mayB a b c d = false) := decide_eq_false hm
    clear h hm
    unfold geoV
    go_enter Try.func16, Try.ntmps16
    go_wp2_with (go_at_call 20; refine (may_any a b c d _).mono ?_; rintro e w1 ⟨rfl, h1⟩; rw [Hm.out]; have H1 : Hid (Below w.heap.size w w1) := box_below h1; obtain ⟨k0, k1, k2, k3⟩ := box_cells h1; clear h1)
    go_ret2
    exact ⟨rfl, H1.out⟩
end Go.Proofs.Ytcigoodmkfnnfaa
