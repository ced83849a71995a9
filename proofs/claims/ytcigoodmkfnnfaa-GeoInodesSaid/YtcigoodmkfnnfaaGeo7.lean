/- The walk of ref05.May. -/
import Derived.Test.YtcigoodmkfnnfaaGeo2
namespace Go.Proofs.Ytcigoodmkfnnfaa
open Go.RowKit
set_option linter.unusedVariables false

set_option maxHeartbeats 2000000 in
theorem refMay_any (a b c d : Int) (w : World) :
    Calls Try.prog 21 #[geoV a b c d] w fun e w' => e = .returned (.bool (mayB a b c d)) ∧ Below w.heap.size w w' := by
  have HB : Hid (∀ o, Below w.heap.size w (w.alloc o)) := fun o => (Below.refl _ _).alloc (Nat.le_refl _) o
  by_cases c0 : 1 ≤ a
  case neg =>
    have H : Hid (mayB a b c d = false) := decide_eq_false fun h => c0 h.1.1
    have n0 : a < 1 := by omega
    unfold geoV
    go_enter Try.func21, Try.ntmps21
    go_wp2
    go_ret
    exact ⟨by rw [H.out]; rfl, HB.out _⟩
  by_cases c1 : a ≤ 4
  case neg =>
    have H : Hid (mayB a b c d = false) := decide_eq_false fun h => c1 h.1.2
    have n1 : 4 < a := by omega
    unfold geoV
    go_enter Try.func21, Try.ntmps21
    go_wp2
    go_ret
    exact ⟨by rw [H.out]; rfl, HB.out _⟩
  by_cases c2 : 16 ≤ b
  case neg =>
    have H : Hid (mayB a b c d = false) := decide_eq_false fun h => c2 h.2.1.1
    have n2 : b < 16 := by omega
    unfold geoV
    go_enter Try.func21, Try.ntmps21
    go_wp2
    go_ret
    exact ⟨by rw [H.out]; rfl, HB.out _⟩
  by_cases c3 : b ≤ 512
  case neg =>
    have H : Hid (mayB a b c d = false) := decide_eq_false fun h => c3 h.2.1.2
    have n3 : 512 < b := by omega
    unfold geoV
    go_enter Try.func21, Try.ntmps21
    go_wp2
    go_ret
    exact ⟨by rw [H.out]; rfl, HB.out _⟩
  by_cases c4 : 4 ≤ c
  case neg =>
    have H : Hid (mayB a b c d = false) := decide_eq_false fun h => c4 h.2.2.1.1
    have n4 : c < 4 := by omega
    unfold geoV
    go_enter Try.func21, Try.ntmps21
    go_wp2
    go_ret
    exact ⟨by rw [H.out]; rfl, HB.out _⟩
  by_cases c5 : c ≤ 64
  case neg =>
    have H : Hid (mayB a b c d = false) := decide_eq_false fun h => c5 h.2.2.1.2
    have n5 : 64 < c := by omega
    unfold geoV
    go_enter Try.func21, Try.ntmps21
    go_wp2
    go_ret
    exact ⟨by rw [H.out]; rfl, HB.out _⟩
  by_cases c6 : c % 4 = 0
  case neg =>
    have H : Hid (mayB a b c d = false) := decide_eq_false fun h => c6 h.2.2.2.1
    have m6 : (c % 4 != 0) = true := by simp; omega
    have c0' : 0 ≤ c := by omega
    unfold geoV
    go_enter Try.func21, Try.ntmps21
    go_wp2
    go_ret
    exact ⟨by rw [H.out]; rfl, HB.out _⟩
  by_cases c7 : 40 ≤ d
  case neg =>
    have H : Hid (mayB a b c d = false) := decide_eq_false fun h => c7 h.2.2.2.2.1.1
    have n7 : d < 40 := by omega
    have m6 : (c % 4 != 0) = false := by simp; omega
    have c0' : 0 ≤ c := by omega
    unfold geoV
    go_enter Try.func21, Try.ntmps21
    go_wp2
    go_ret
    exact ⟨by rw [H.out]; rfl, HB.out _⟩
  by_cases c8 : d ≤ 256
  case neg =>
    have H : Hid (mayB a b c d = false) := decide_eq_false fun h => c8 h.2.2.2.2.1.2
    have n8 : 256 < d := by omega
    have m6 : (c % 4 != 0) = false := by simp; omega
    have c0' : 0 ≤ c := by omega
    unfold geoV
    go_enter Try.func21, Try.ntmps21
    go_wp2
    go_ret
    exact ⟨by rw [H.out]; rfl, HB.out _⟩
  by_cases c9 : 3 + c / 4 ≤ b
  case neg =>
    have H : Hid (mayB a b c d = false) := decide_eq_false fun h => c9 h.2.2.2.2.2.1
    have m6 : (c % 4 != 0) = false := by simp; omega
    have c0' : 0 ≤ c := by omega
    have f5 : decide (3 + c / 4 ≤ b) = false := by simp; omega
    unfold geoV
    go_enter Try.func21, Try.ntmps21
    go_wp2
    go_ret
    exact ⟨by rw [H.out]; rfl, HB.out _⟩
  by_cases c10 : 2 + d + a * b ≤ 2048
  case neg =>
    have H : Hid (mayB a b c d = false) := decide_eq_false fun h => c10 h.2.2.2.2.2.2
    have m6 : (c % 4 != 0) = false := by simp; omega
    have c0' : 0 ≤ c := by omega
    have f5 : decide (3 + c / 4 ≤ b) = true := by simp; omega
    have p0 : 0 ≤ a * b := Int.mul_nonneg (by omega) (by omega)
    have p1 : a * b ≤ 4 * 512 := Int.mul_le_mul (by omega) (by omega) (by omega) (by omega)
    have w0 : wrap64 (a * b) = a * b := IntWalk.wrap64_in _ ⟨by omega, by omega⟩
    have w1 : wrap64 (2 + d + a * b) = 2 + d + a * b := IntWalk.wrap64_in _ ⟨by omega, by omega⟩
    have f6 : decide (2 + d + a * b ≤ 2048) = false := by simp; omega
    unfold geoV
    go_enter Try.func21, Try.ntmps21
    go_wp2
    go_ret
    exact ⟨by rw [H.out]; rfl, HB.out _⟩
  have H : Hid (mayB a b c d = true) := decide_eq_true ⟨⟨c0, c1⟩, ⟨c2, c3⟩, ⟨c4, c5⟩, c6, ⟨c7, c8⟩, c9, c10⟩
  have m6 : (c % 4 != 0) = false := by simp; omega
  have c0' : 0 ≤ c := by omega
  have f5 : decide (3 + c / 4 ≤ b) = true := by simp; omega
  have p0 : 0 ≤ a * b := Int.mul_nonneg (by omega) (by omega)
  have p1 : a * b ≤ 4 * 512 := Int.mul_le_mul (by omega) (by omega) (by omega) (by omega)
  have w0 : wrap64 (a * b) = a * b := IntWalk.wrap64_in _ ⟨by omega, by omega⟩
  have w1 : wrap64 (2 + d + a * b) = 2 + d + a * b := IntWalk.wrap64_in _ ⟨by omega, by omega⟩
  have f6 : decide (2 + d + a * b ≤ 2048) = true := by simp; omega
  unfold geoV
  go_enter Try.func21, Try.ntmps21
  go_wp2
  go_ret
  exact ⟨by rw [H.out]; rfl, HB.out _⟩
end Go.Proofs.Ytcigoodmkfnnfaa
