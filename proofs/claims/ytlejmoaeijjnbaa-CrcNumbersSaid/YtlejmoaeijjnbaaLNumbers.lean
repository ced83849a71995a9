/- The law CrcNumbers. -/
import Derived.Test.YtlejmoaeijjnbaaCrc6
namespace Go.Proofs.Ytlejmoaeijjnbaa
open Go.RowKit
set_option linter.unusedVariables false

set_option maxHeartbeats 1000000 in
theorem crcNumbers_law (a b n : Int) (w : World) (ha0 : 0 ≤ a) (ha1 : a ≤ 4294967295) (hb0 : 0 ≤ b) (hb1 : b ≤ 4294967295) (hn0 : -9223372036854775808 ≤ n) (hn1 : n ≤ 9223372036854775807) :
    Calls Try.prog 4 #[.int .u32 a, .int .u32 b, .int .i64 n] w fun e w' => e = .returned (.bool true) ∧ Below w.heap.size w w' := by
  obtain ⟨a, rfl⟩ := Int.eq_ofNat_of_zero_le ha0
  obtain ⟨b, rfl⟩ := Int.eq_ofNat_of_zero_le hb0
  by_cases hg : n > 20000
  · go_enter Try.func4, Try.ntmps4
    go_wp2_with fail
    go_ret
    exact ⟨rfl, Below.refl _ _⟩
  · by_cases hn : n < 0
    · go_enter Try.func4, Try.ntmps4
      go_wp2_with fail
      refine (join_neg a b n _ hn).mono ?_
      rintro e w1 ⟨rfl, rfl⟩
      go_wp2_with fail
      refine (refJoin_neg a b n _ hn).mono ?_
      rintro e w1 ⟨rfl, rfl⟩
      go_wp2_with fail
      go_ret
      exact ⟨rfl, Below.refl _ _⟩
    · obtain ⟨n, rfl⟩ := Int.eq_ofNat_of_zero_le (show 0 ≤ n by omega)
      have hg' : (n : Int) ≤ 20000 := by omega
      clear hn hg
      go_enter Try.func4, Try.ntmps4
      go_wp2_with fail
      refine (join_any a b n _ (by omega) (by omega) (by omega)).mono ?_
      rintro e w1 ⟨rfl, h1⟩
      have H1 := hide h1
      clear h1
      go_wp2_with fail
      refine (refJoin_any a b n _ (by omega) (by omega) (by omega)).mono ?_
      rintro e w2 ⟨rfl, rfl⟩
      go_wp2_with fail
      go_ret
      exact ⟨rfl, H1.out⟩
end Go.Proofs.Ytlejmoaeijjnbaa
