/- quernref01.Zero, by its contract. -/
import Derived.Test.YtbngbhildijciaaNumP
import Derived.Test.YtbngbhildijciaaProg
namespace Go.Proofs.Ytbngbhildijciaa
open Go.RowKit
set_option linter.unusedVariables false

theorem rZero_any (A : Option Addr) (len cap : Nat) (f : Nat → Int) (hl : (len : Int) ≤ 9223372036854775807) (w : World) (hb : Bs w A len f) :
    Calls Try.prog 41 #[.slice A len cap] w fun e w' => e = .returned (.bool (sameB f zeroF len)) ∧ w = w' := by
  have Hb := hide hb
  clear hb
  go_enter Try.func41, Try.ntmps41
  go_wp2_with fail
  go_loop [3] (fun i => ∃ k : Nat, k ≤ len ∧ i = .int .i64 k ∧ sameB f zeroF k = true) (fun i => len - (intOf i).toNat)
  case atStart => exact ⟨0, Nat.zero_le _, rfl, rfl⟩
  case round =>
    obtain ⟨k, hk, rfl, hz⟩ := hrel
    by_cases hlt : k < len
    · obtain ⟨b, off, rfl, hs⟩ := Hb.out.at_ (by omega)
      have hc := hs k hlt
      have hkl : (k : Int) < len := by omega
      by_cases hx : f k = 0
      · have Hz : Hid (sameB f zeroF (k + 1) = true) := by simp [Hid, sameB, hz, hx, zeroF]
        have hv : (f k != 0) = false := by simp [hx]
        clear hx hz hs
        go_wp2
        go_round
        case rel => exact ⟨k + 1, by omega, by go_num, Hz.out⟩
        case measure => simp [intOf]; omega
      · have Hz : Hid (sameB f zeroF len = false) := sameB_mono f zeroF (k := k + 1) (by omega) (by simp [sameB, hx, zeroF])
        have hv : (f k != 0) = true := by simp [hx]
        clear hx hz hs
        go_wp2
        go_ret
        exact ⟨by rw [Hz.out]; rfl, rfl⟩
    · obtain rfl : k = len := by omega
      have Hz := hide hz
      clear hz
      go_wp2
      go_ret
      exact ⟨by rw [Hz.out]; rfl, rfl⟩
end Go.Proofs.Ytbngbhildijciaa
