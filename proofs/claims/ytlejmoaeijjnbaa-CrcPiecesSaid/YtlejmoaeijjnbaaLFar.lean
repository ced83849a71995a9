/- The law CrcFar. -/
import Derived.Test.YtlejmoaeijjnbaaCrc6
namespace Go.Proofs.Ytlejmoaeijjnbaa
open Go.RowKit
set_option linter.unusedVariables false

theorem far_eq (a b n m : Nat) : shN (8 * (n + m)) a ^^^ b = shN (8 * m) (shN (8 * n) a) ^^^ b := by
  rw [Nat.mul_add, shN_add]

/-- crc.Join where the length is given as what it is. -/
theorem join_int (a b n : Nat) (x : Int) (w : World) (hx : x = (n : Int)) (ha : a < 4294967296) (hb : b < 4294967296) (hn : n < 9223372036854775808) :
    Calls Try.prog 16 #[.int .u32 (a : Int), .int .u32 (b : Int), .int .i64 x] w fun e w' => e = .returned (.int .u32 ((shN (8 * n) a ^^^ b : Nat) : Int)) ∧ Below w.heap.size w w' := by
  subst hx; exact join_any a b n w ha hb hn

set_option maxHeartbeats 1000000 in
theorem crcFar_law (a b n m : Int) (w : World) (ha0 : 0 ≤ a) (ha1 : a ≤ 4294967295) (hb0 : 0 ≤ b) (hb1 : b ≤ 4294967295) (hn0 : -9223372036854775808 ≤ n) (hn1 : n ≤ 9223372036854775807) (hm0 : -9223372036854775808 ≤ m) (hm1 : m ≤ 9223372036854775807) :
    Calls Try.prog 6 #[.int .u32 a, .int .u32 b, .int .i64 n, .int .i64 m] w fun e w' => e = .returned (.bool true) ∧ Below w.heap.size w w' := by
  obtain ⟨a, rfl⟩ := Int.eq_ofNat_of_zero_le ha0
  obtain ⟨b, rfl⟩ := Int.eq_ofNat_of_zero_le hb0
  by_cases hn : n < 0
  · go_enter Try.func6, Try.ntmps6
    go_wp2_with (go_at_call 18; refine (awake02_any _).mono ?_; rintro e w1 ⟨rfl, h1⟩; have H1 := hide h1; clear h1)
    all_goals
      refine (join_neg a b _ _ (by omega)).mono ?_
      rintro e w2 ⟨rfl, rfl⟩
      go_wp2_with fail
      go_ret
      exact ⟨rfl, H1.out⟩
  by_cases hm : m < 0
  · go_enter Try.func6, Try.ntmps6
    go_wp2_with (go_at_call 18; refine (awake02_any _).mono ?_; rintro e w1 ⟨rfl, h1⟩; have H1 := hide h1; clear h1)
    all_goals
      refine (join_neg a b _ _ (by omega)).mono ?_
      rintro e w2 ⟨rfl, rfl⟩
      go_wp2_with fail
      go_ret
      exact ⟨rfl, H1.out⟩
  by_cases gn : n > 2305843009213693952
  · go_enter Try.func6, Try.ntmps6
    go_wp2_with (go_at_call 18; refine (awake02_any _).mono ?_; rintro e w1 ⟨rfl, h1⟩; have H1 := hide h1; clear h1)
    go_ret
    exact ⟨rfl, H1.out⟩
  by_cases gm : m > 2305843009213693952
  · go_enter Try.func6, Try.ntmps6
    go_wp2_with (go_at_call 18; refine (awake02_any _).mono ?_; rintro e w1 ⟨rfl, h1⟩; have H1 := hide h1; clear h1)
    go_ret
    exact ⟨rfl, H1.out⟩
  obtain ⟨n, rfl⟩ := Int.eq_ofNat_of_zero_le (show 0 ≤ n by omega)
  obtain ⟨m, rfl⟩ := Int.eq_ofNat_of_zero_le (show 0 ≤ m by omega)
  have gn' : (n : Int) ≤ 2305843009213693952 := by omega
  have gm' : (m : Int) ≤ 2305843009213693952 := by omega
  have Hfar := hide (far_eq a b n m)
  have Hz : Hid (shN (8 * n) 0 ^^^ b = b) := by rw [Hid, shN_zero, Nat.zero_xor]
  have hl : shN (8 * n) a < 4294967296 := shN_lt (by omega) _
  clear hn hm gn gm
  go_enter Try.func6, Try.ntmps6
  go_wp2_with (go_at_call 18; refine (awake02_any _).mono ?_; rintro e w1 ⟨rfl, h1⟩; have H1 := hide h1; clear h1)
  refine (join_int a b (n + m) _ _ (by omega) (by omega) (by omega) (by omega)).mono ?_
  rintro e w2 ⟨rfl, hw⟩
  have H2 : Hid (Below w.heap.size w w2) := B_then H1.out hw
  clear hw H1
  rw [Hfar.out]
  go_wp2_with fail
  refine (join_any a 0 n _ (by omega) (by omega) (by omega)).mono ?_
  rintro e w3 ⟨rfl, hw⟩
  have H3 : Hid (Below w.heap.size w w3) := B_then H2.out hw
  clear hw H2
  rw [Nat.xor_zero]
  generalize shN (8 * n) a = x at *
  go_wp2_with fail
  refine (join_any x b m _ hl (by omega) (by omega)).mono ?_
  rintro e w4 ⟨rfl, hw⟩
  have H4 : Hid (Below w.heap.size w w4) := B_then H3.out hw
  clear hw H3
  go_wp2_with fail
  refine (join_any 0 b n _ (by omega) (by omega) (by omega)).mono ?_
  rintro e w5 ⟨rfl, hw⟩
  have H5 : Hid (Below w.heap.size w w5) := B_then H4.out hw
  clear hw H4
  rw [Hz.out]
  go_wp2_with fail
  go_ret
  exact ⟨rfl, H5.out⟩
end Go.Proofs.Ytlejmoaeijjnbaa
