/- The walk of geo.May. -/
import Derived.Test.YtbngbhildijciaaGeo1
import Derived.IntWalk
namespace Go.Proofs.Ytbngbhildijciaa
open Go.RowKit
set_option linter.unusedVariables false

/-- May a geometry be? -/
def mayP (a b c d : Int) : Prop := (1 ≤ a ∧ a ≤ 4) ∧ (16 ≤ b ∧ b ≤ 512) ∧ (4 ≤ c ∧ c ≤ 64) ∧ c % 4 = 0 ∧ (40 ≤ d ∧ d ≤ 256) ∧ 3 + c / 4 ≤ b ∧ 2 + d + a * b ≤ 2048
instance (a b c d : Int) : Decidable (mayP a b c d) := by unfold mayP; infer_instance
def mayB (a b c d : Int) : Bool := decide (mayP a b c d)

set_option maxHeartbeats 2000000 in
theorem may_any (a b c d : Int) (w : World) :
    Calls Try.prog 21 #[geoV a b c d] w fun e w' => e = .returned (.bool (mayB a b c d)) ∧ Below w.heap.size w w' := by
  have HB : Hid (∀ o, Below w.heap.size w (w.alloc o)) := fun o => (Below.refl _ _).alloc (Nat.le_refl _) o
  by_cases c0 : 1 ≤ a ∧ a ≤ 4
  case neg =>
    have H : Hid (mayB a b c d = false) := decide_eq_false fun h => c0 h.1
    have f0 : within2 a 1 4 = false := within2_no (by omega)
    unfold geoV
    go_enter Try.func21, Try.ntmps21
    go_wp2_with (go_at_call 42; refine (among_any _ _ _ _).mono ?_; rintro e w1 ⟨rfl, rfl⟩)
    go_ret
    exact ⟨by rw [H.out]; rfl, HB.out _⟩
  by_cases c1 : 16 ≤ b ∧ b ≤ 512
  case neg =>
    have H : Hid (mayB a b c d = false) := decide_eq_false fun h => c1 h.2.1
    have f0 : within2 a 1 4 = true := within2_yes c0.1 c0.2
    have f1 : within2 b 16 512 = false := within2_no (by omega)
    unfold geoV
    go_enter Try.func21, Try.ntmps21
    go_wp2_with (go_at_call 42; refine (among_any _ _ _ _).mono ?_; rintro e w1 ⟨rfl, rfl⟩)
    go_ret
    exact ⟨by rw [H.out]; rfl, HB.out _⟩
  by_cases c2 : 4 ≤ c ∧ c ≤ 64
  case neg =>
    have H : Hid (mayB a b c d = false) := decide_eq_false fun h => c2 h.2.2.1
    have f0 : within2 a 1 4 = true := within2_yes c0.1 c0.2
    have f1 : within2 b 16 512 = true := within2_yes c1.1 c1.2
    have f2 : within2 c 4 64 = false := within2_no (by omega)
    unfold geoV
    go_enter Try.func21, Try.ntmps21
    go_wp2_with (go_at_call 42; refine (among_any _ _ _ _).mono ?_; rintro e w1 ⟨rfl, rfl⟩)
    go_ret
    exact ⟨by rw [H.out]; rfl, HB.out _⟩
  by_cases c3 : c % 4 = 0
  case neg =>
    have H : Hid (mayB a b c d = false) := decide_eq_false fun h => c3 h.2.2.2.1
    have f0 : within2 a 1 4 = true := within2_yes c0.1 c0.2
    have f1 : within2 b 16 512 = true := within2_yes c1.1 c1.2
    have f2 : within2 c 4 64 = true := within2_yes c2.1 c2.2
    have f3 : (c % 4 == 0) = false := by simp; omega
    have d0 : 0 ≤ c := by omega
    unfold geoV
    go_enter Try.func21, Try.ntmps21
    go_wp2_with (go_at_call 42; refine (among_any _ _ _ _).mono ?_; rintro e w1 ⟨rfl, rfl⟩)
    go_ret
    exact ⟨by rw [H.out]; rfl, HB.out _⟩
  by_cases c4 : 40 ≤ d ∧ d ≤ 256
  case neg =>
    have H : Hid (mayB a b c d = false) := decide_eq_false fun h => c4 h.2.2.2.2.1
    have f0 : within2 a 1 4 = true := within2_yes c0.1 c0.2
    have f1 : within2 b 16 512 = true := within2_yes c1.1 c1.2
    have f2 : within2 c 4 64 = true := within2_yes c2.1 c2.2
    have f3 : (c % 4 == 0) = true := by simp; omega
    have f4 : within2 d 40 256 = false := within2_no (by omega)
    have d0 : 0 ≤ c := by omega
    unfold geoV
    go_enter Try.func21, Try.ntmps21
    go_wp2_with (go_at_call 42; refine (among_any _ _ _ _).mono ?_; rintro e w1 ⟨rfl, rfl⟩)
    go_ret
    exact ⟨by rw [H.out]; rfl, HB.out _⟩
  by_cases c5 : 3 + c / 4 ≤ b
  case neg =>
    have H : Hid (mayB a b c d = false) := decide_eq_false fun h => c5 h.2.2.2.2.2.1
    have f0 : within2 a 1 4 = true := within2_yes c0.1 c0.2
    have f1 : within2 b 16 512 = true := within2_yes c1.1 c1.2
    have f2 : within2 c 4 64 = true := within2_yes c2.1 c2.2
    have f3 : (c % 4 == 0) = true := by simp; omega
    have f4 : within2 d 40 256 = true := within2_yes c4.1 c4.2
    have f5 : decide (3 + c / 4 ≤ b) = false := by simp; omega
    have d0 : 0 ≤ c := by omega
    have d1 : c ≤ 64 := by omega
    unfold geoV
    go_enter Try.func21, Try.ntmps21
    go_wp2_with (go_at_call 42; refine (among_any _ _ _ _).mono ?_; rintro e w1 ⟨rfl, rfl⟩)
    go_ret
    exact ⟨by rw [H.out]; rfl, HB.out _⟩
  by_cases c6 : 2 + d + a * b ≤ 2048
  case neg =>
    have H : Hid (mayB a b c d = false) := decide_eq_false fun h => c6 h.2.2.2.2.2.2
    have f0 : within2 a 1 4 = true := within2_yes c0.1 c0.2
    have f1 : within2 b 16 512 = true := within2_yes c1.1 c1.2
    have f2 : within2 c 4 64 = true := within2_yes c2.1 c2.2
    have f3 : (c % 4 == 0) = true := by simp; omega
    have f4 : within2 d 40 256 = true := within2_yes c4.1 c4.2
    have f5 : decide (3 + c / 4 ≤ b) = true := by simp; omega
    have p0 : 0 ≤ a * b := Int.mul_nonneg (by omega) (by omega)
    have p1 : a * b ≤ 4 * 512 := Int.mul_le_mul (by omega) (by omega) (by omega) (by omega)
    have f6 : decide (2 + d + a * b ≤ 2048) = false := by simp; omega
    have d0 : 0 ≤ c := by omega
    have d1 : c ≤ 64 := by omega
    unfold geoV
    go_enter Try.func21, Try.ntmps21
    go_wp2_with (first | (go_at_call 42; refine (among_any _ _ _ _).mono ?_; rintro e w1 ⟨rfl, rfl⟩) | (go_at_call 43; refine (all_any a b c d _ p0 (by omega) (by omega) (by omega)).mono ?_; rintro e w2 ⟨rfl, hw⟩; have Hw := hide hw; clear hw))
    go_ret
    exact ⟨by rw [H.out]; rfl, (HB.out _).trans (Hw.out.mono (by simp))⟩
  have H : Hid (mayB a b c d = true) := decide_eq_true ⟨c0, c1, c2, c3, c4, c5, c6⟩
  have f0 : within2 a 1 4 = true := within2_yes c0.1 c0.2
  have f1 : within2 b 16 512 = true := within2_yes c1.1 c1.2
  have f2 : within2 c 4 64 = true := within2_yes c2.1 c2.2
  have f3 : (c % 4 == 0) = true := by simp; omega
  have f4 : within2 d 40 256 = true := within2_yes c4.1 c4.2
  have f5 : decide (3 + c / 4 ≤ b) = true := by simp; omega
  have p0 : 0 ≤ a * b := Int.mul_nonneg (by omega) (by omega)
  have p1 : a * b ≤ 4 * 512 := Int.mul_le_mul (by omega) (by omega) (by omega) (by omega)
  have f6 : decide (2 + d + a * b ≤ 2048) = true := by simp; omega
  have d0 : 0 ≤ c := by omega
  have d1 : c ≤ 64 := by omega
  unfold geoV
  go_enter Try.func21, Try.ntmps21
  go_wp2_with (first | (go_at_call 42; refine (among_any _ _ _ _).mono ?_; rintro e w1 ⟨rfl, rfl⟩) | (go_at_call 43; refine (all_any a b c d _ p0 (by omega) (by omega) (by omega)).mono ?_; rintro e w2 ⟨rfl, hw⟩; have Hw := hide hw; clear hw))
  go_ret
  exact ⟨by rw [H.out]; rfl, (HB.out _).trans (Hw.out.mono (by simp))⟩
end Go.Proofs.Ytbngbhildijciaa
