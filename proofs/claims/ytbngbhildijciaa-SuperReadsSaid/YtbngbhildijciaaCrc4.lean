/- The walks of ref02.shift, ref02.Join, ref02.Sum. -/
import Derived.Test.YtbngbhildijciaaCrc1
namespace Go.Proofs.Ytbngbhildijciaa
open Go.RowKit
set_option linter.unusedVariables false

theorem ref_shift (v : Nat) (w : World) (hv : v < 4294967296) :
    Calls Try.prog 54 #[.int .u32 (v : Int)] w fun e w' => e = .returned (.int .u32 ((sh v : Nat) : Int)) ∧ w = w' := by
  by_cases h : v % 2 = 1
  · have hb : ((v : Int) % 2 == 1) = true := by simp; omega
    have Hx : Hid (bits .xor .u32 ((v : Int) / 2) 3988292384 = ((sh v : Nat) : Int)) := by
      rw [Hid]; unfold sh; rw [if_pos h]; exact u32_xor_nat (v / 2) 3988292384 (by omega) (by omega)
    clear h
    go_enter Try.func54, Try.ntmps54
    go_wp2
    go_ret
    exact ⟨by rw [← Hx.out]; rfl, rfl⟩
  · have hb : ((v : Int) % 2 == 1) = false := by simp; omega
    have Hx : Hid (((v : Int) / 2) = ((sh v : Nat) : Int)) := by
      rw [Hid]; unfold sh; rw [if_neg h]; omega
    clear h
    go_enter Try.func54, Try.ntmps54
    go_wp2
    go_ret
    exact ⟨by rw [← Hx.out]; rfl, rfl⟩

theorem ones_sub {v : Nat} (hv : v < 4294967296) : 4294967295 - v = v ^^^ ones := by
  apply Nat.eq_of_testBit_eq
  intro i
  have h1 := Nat.testBit_two_pow_sub_succ (n := 32) (x := v) (by omega) i
  have h2 := Nat.testBit_two_pow_sub_succ (n := 32) (x := 0) (by omega) i
  simp only [Nat.reducePow, Nat.zero_add, Nat.reduceSub, Nat.zero_testBit, Bool.not_false, Bool.and_true] at h1 h2
  rw [Nat.testBit_xor, ones, h2, show 4294967295 - v = 4294967296 - (v + 1) by omega, h1]
  by_cases hi : i < 32
  · simp [hi]
  · have : v.testBit i = false := Nat.testBit_lt_two_pow (Nat.lt_of_lt_of_le hv (show 2 ^ 32 ≤ 2 ^ i from Nat.pow_le_pow_right (by omega) (by omega)))
    simp [hi, this]

set_option maxHeartbeats 400000 in
theorem refSum_any (A : Option Addr) (n cap : Nat) (f : Nat → Int) (w : World) (hl : (n : Int) ≤ 9223372036854775807) (hf : IsByte f) (hA : Bs w A n f) :
    Calls Try.prog 40 #[.slice A n cap] w fun e w' => e = .returned (.int .u32 ((sumF f n : Nat) : Int)) ∧ w = w' := by
  have Ha := hide hA
  have Hf := hide hf
  clear hA hf
  go_enter Try.func40, Try.ntmps40
  go_wp2_with fail
  go_loop [3, 4, 5] (fun x i _ => ∃ k : Nat, k ≤ n ∧ i = .int .i64 k ∧ x = .int .u32 ((stF ones f k : Nat) : Int)) (fun _ i _ => n - (intOf i).toNat)
  case atStart => exact ⟨0, by omega, rfl, rfl⟩
  case round =>
    obtain ⟨k, hk, rfl, rfl⟩ := hrel
    by_cases hlt : k < n
    · obtain ⟨b, off, rfl, sA⟩ := Ha.out.at_ (by omega)
      have hc0 := sA k hlt
      have b0 : (0 : Int) ≤ k := by omega
      have b1 : (k : Int) < n := by omega
      obtain ⟨y, hy, hye⟩ : ∃ y : Nat, y < 256 ∧ f k = (y : Int) := ⟨_, (byteNat Hf.out k).1, (byteNat Hf.out k).2⟩
      have hx := stF_lt ones_lt Hf.out k
      have He : Hid (stF ones f (k + 1) = shN 8 (stF ones f k ^^^ y)) := by rw [Hid, stF, hye]; rfl
      have Hx := hide (times_bits hx (show y < 4294967296 by omega))
      have hxy : stF ones f k ^^^ y < 4294967296 := Nat.xor_lt_two_pow (n := 32) hx (by omega)
      rw [hye] at hc0
      clear hye sA Ha Hf
      generalize stF ones f k = x at *
      go_wp2_with fail
      rw [Hx.out]
      generalize x ^^^ y = z at *
      clear Hx hx
      go_loop [3, 5] (fun x i => ∃ j : Nat, j ≤ 8 ∧ i = .int .i64 j ∧ x = .int .u32 ((shN j z : Nat) : Int)) (fun _ i => 8 - (intOf i).toNat)
      case atStart => exact ⟨0, by omega, rfl, rfl⟩
      case round =>
        obtain ⟨j, hj, rfl, rfl⟩ := hrel
        by_cases hlt8 : j < 8
        · have hx := shN_lt hxy j
          have He : Hid (shN (j + 1) z = sh (shN j z)) := rfl
          generalize shN j z = x at *
          go_wp2_with (go_at_call 54; refine (ref_shift x _ hx).mono ?_; rintro e w1 ⟨rfl, rfl⟩)
          go_round
          case rel => exact ⟨j + 1, by omega, by go_num, by rw [He.out]⟩
          case measure => simp [intOf]; omega
        · obtain rfl : j = 8 := by omega
          rw [← He.out]
          go_wp2_with fail
          go_round
          case rel => exact ⟨k + 1, by omega, by go_num, rfl⟩
          case measure => simp [intOf]; omega
    · obtain rfl : k = n := by omega
      have hx := stF_lt ones_lt Hf.out k
      have Hx : Hid (sumF f k = 4294967295 - stF ones f k) := (ones_sub hx).symm
      generalize stF ones f k = x at *
      go_wp2_with fail
      go_ret
      exact ⟨by rw [Hx.out]; simp; omega, rfl⟩
end Go.Proofs.Ytbngbhildijciaa
