/- The walks of nums.lies, get, put. -/
import Derived.Test.YtbngbhildijciaaNumP
import Derived.Test.YtbngbhildijciaaProg
namespace Go.Proofs.Ytbngbhildijciaa
open Go.RowKit
set_option linter.unusedVariables false

theorem lies_yes (A : Option Addr) (len cap : Nat) (at_ many : Int) (w : World) (hl : (len : Int) ≤ 9223372036854775807) (h0 : 0 ≤ at_) (hm : 0 ≤ many) (hm2 : many ≤ 65536) (h1 : at_ ≤ len - many) :
    Calls Try.prog 55 #[.slice A len cap, .int .i64 at_, .int .i64 many] w fun e w' => e = .returned (.bool true) ∧ w = w' := by
  go_enter Try.func55, Try.ntmps55
  go_wp2
  go_ret
  exact ⟨rfl, rfl⟩

theorem lies_no (A : Option Addr) (len cap : Nat) (at_ many : Int) (w : World) (hl : (len : Int) ≤ 9223372036854775807) (hm : 0 ≤ many) (hm2 : many ≤ 65536) (h1 : at_ < 0 ∨ (len : Int) - many < at_) :
    Calls Try.prog 55 #[.slice A len cap, .int .i64 at_, .int .i64 many] w fun e w' => e = .returned (.bool false) ∧ w = w' := by
  by_cases h0 : at_ < 0
  · clear h1
    have hb : decide (0 ≤ at_) = false := by simp; omega
    go_enter Try.func55, Try.ntmps55
    go_wp2
    go_ret
    exact ⟨rfl, rfl⟩
  · have h2 : (len : Int) - many < at_ := by omega
    have h3 : 0 ≤ at_ := by omega
    have hb : decide (at_ ≤ (len : Int) - many) = false := by simp; omega
    clear h1 h0
    go_enter Try.func55, Try.ntmps55
    go_wp2
    go_ret
    exact ⟨rfl, rfl⟩

theorem get32_no (A : Option Addr) (len cap : Nat) (at_ : Int) (w : World) (hl : (len : Int) ≤ 9223372036854775807) (h1 : at_ < 0 ∨ (len : Int) - 4 < at_) :
    Calls Try.prog 50 #[.slice A len cap, .int .i64 at_, .int .i64 4] w fun e w' => e = .returned (.tuple #[.int .u32 0, .bool false]) ∧ w = w' := by
  go_enter Try.func50, Try.ntmps50
  go_wp2_with (go_at_call 55; refine (lies_no _ _ _ _ _ _ (by omega) (by omega) (by omega) (by omega)).mono ?_; rintro e w' ⟨rfl, rfl⟩)
  go_ret2
  exact ⟨rfl, rfl⟩

set_option maxHeartbeats 400000 in
theorem get32_yes (b off len cap at_ : Nat) (f : Nat → Int) (w : World) (hl : (len : Int) ≤ 9223372036854775807) (hs : Seg w b off len f) (hf : IsByte f) (h1 : at_ + 4 ≤ len) :
    Calls Try.prog 50 #[.slice (some ⟨b, off, none⟩) len cap, .int .i64 at_, .int .i64 4] w fun e w' => e = .returned (.tuple #[.int .u32 (part f at_ 4), .bool true]) ∧ w = w' := by
  go_enter Try.func50, Try.ntmps50
  go_wp2_with (go_at_call 55; refine (lies_yes _ _ _ _ _ _ (by omega) (by omega) (by omega) (by omega) (by omega)).mono ?_; rintro e w' ⟨rfl, rfl⟩)
  go_loop [8, 16] (fun v i => ∃ k : Nat, k ≤ 4 ∧ i = .int .i64 k ∧ v = .int .u32 (part f at_ k)) (fun _ i => 4 - (intOf i).toNat)
  case atStart => exact ⟨0, by omega, rfl, rfl⟩
  case round =>
    obtain ⟨k, hk, rfl, rfl⟩ := hrel
    by_cases hlt : k < 4
    · have hc := hs (at_ + k) (by omega)
      have hor := hide (or_part32 hf at_ hlt)
      have hb0 := (hf (at_ + k)).1
      have hb1 := (hf (at_ + k)).2
      generalize f (at_ + k) = x at *
      clear hs hf
      go_wp2
      go_round
      case rel => exact ⟨k + 1, by omega, by go_num, by rw [hor.out]⟩
      case measure => simp [intOf]; omega
    · obtain rfl : k = 4 := by omega
      go_wp2
      go_ret2
      exact ⟨rfl, rfl⟩

theorem get16_no (A : Option Addr) (len cap : Nat) (at_ : Int) (w : World) (hl : (len : Int) ≤ 9223372036854775807) (h1 : at_ < 0 ∨ (len : Int) - 2 < at_) :
    Calls Try.prog 59 #[.slice A len cap, .int .i64 at_, .int .i64 2] w fun e w' => e = .returned (.tuple #[.int .u16 0, .bool false]) ∧ w = w' := by
  go_enter Try.func59, Try.ntmps59
  go_wp2_with (go_at_call 55; refine (lies_no _ _ _ _ _ _ (by omega) (by omega) (by omega) (by omega)).mono ?_; rintro e w' ⟨rfl, rfl⟩)
  go_ret2
  exact ⟨rfl, rfl⟩

set_option maxHeartbeats 400000 in
theorem get16_yes (b off len cap at_ : Nat) (f : Nat → Int) (w : World) (hl : (len : Int) ≤ 9223372036854775807) (hs : Seg w b off len f) (hf : IsByte f) (h1 : at_ + 2 ≤ len) :
    Calls Try.prog 59 #[.slice (some ⟨b, off, none⟩) len cap, .int .i64 at_, .int .i64 2] w fun e w' => e = .returned (.tuple #[.int .u16 (part f at_ 2), .bool true]) ∧ w = w' := by
  go_enter Try.func59, Try.ntmps59
  go_wp2_with (go_at_call 55; refine (lies_yes _ _ _ _ _ _ (by omega) (by omega) (by omega) (by omega) (by omega)).mono ?_; rintro e w' ⟨rfl, rfl⟩)
  go_loop [8, 16] (fun v i => ∃ k : Nat, k ≤ 2 ∧ i = .int .i64 k ∧ v = .int .u16 (part f at_ k)) (fun _ i => 2 - (intOf i).toNat)
  case atStart => exact ⟨0, by omega, rfl, rfl⟩
  case round =>
    obtain ⟨k, hk, rfl, rfl⟩ := hrel
    by_cases hlt : k < 2
    · have hc := hs (at_ + k) (by omega)
      have hor := hide (or_part16 hf at_ hlt)
      have hb0 := (hf (at_ + k)).1
      have hb1 := (hf (at_ + k)).2
      generalize f (at_ + k) = x at *
      clear hs hf
      go_wp2
      go_round
      case rel => exact ⟨k + 1, by omega, by go_num, by rw [IntKind.wrap_u16, hor.out]⟩
      case measure => simp [intOf]; omega
    · obtain rfl : k = 2 := by omega
      go_wp2
      go_ret2
      exact ⟨rfl, rfl⟩

end Go.Proofs.Ytbngbhildijciaa
