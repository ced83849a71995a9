/- The walks of nums.put. -/
import Derived.Test.YtbngbhildijciaaNum1
namespace Go.Proofs.Ytbngbhildijciaa
open Go.RowKit
set_option linter.unusedVariables false

theorem put32_no (A : Option Addr) (len cap : Nat) (at_ v : Int) (w : World) (hl : (len : Int) ≤ 9223372036854775807) (h1 : at_ < 0 ∨ (len : Int) - 4 < at_) :
    Calls Try.prog 44 #[.slice A len cap, .int .i64 at_, .int .i64 4, .int .u32 v] w fun e w' => e = .returned (.bool false) ∧ w = w' := by
  go_enter Try.func44, Try.ntmps44
  go_wp2_with (go_at_call 55; refine (lies_no _ _ _ _ _ _ (by omega) (by omega) (by omega) (by omega)).mono ?_; rintro e w' ⟨rfl, rfl⟩)
  go_ret
  exact ⟨rfl, rfl⟩

set_option maxHeartbeats 400000 in
theorem put32_yes (g n off len cap at_ : Nat) (f : Nat → Int) (v : Int) (w : World) (hl : (len : Int) ≤ 9223372036854775807) (hs : Row w g n f) (hn : off + len ≤ n) (hv0 : 0 ≤ v) (hv1 : v ≤ 4294967295) (h1 : at_ + 4 ≤ len) :
    Calls Try.prog 44 #[.slice (some ⟨g, off, none⟩) len cap, .int .i64 at_, .int .i64 4, .int .u32 v] w fun e w' => e = .returned (.bool true) ∧ Row w' g n (putB f (off + at_) v 4) ∧ Only g w w' := by
  go_enter Try.func44, Try.ntmps44
  go_wp2_with (go_at_call 55; refine (lies_yes _ _ _ _ _ _ (by omega) (by omega) (by omega) (by omega) (by omega)).mono ?_; rintro e w' ⟨rfl, rfl⟩)
  go_loopw [16] (fun i wr => ∃ k : Nat, k ≤ 4 ∧ i = .int .i64 k ∧ Row wr g n (putB f (off + at_) v k) ∧ Only g w wr) (fun i _ => 4 - (intOf i).toNat)
  case atStart => exact ⟨0, by omega, rfl, hs, Only.refl _ _⟩
  case round =>
    obtain ⟨k, hk, rfl, hr, ho⟩ := hrel
    by_cases hlt : k < 4
    · have hc := hr.cell (i := off + (at_ + k)) (by omega)
      have hz := hr.frozen (off + (at_ + k))
      have he := hide (putB_step f (off + at_) v k)
      clear hs
      go_wp2
      go_roundw
      case rel => exact ⟨k + 1, by omega, by go_num, by rw [he.out, Nat.add_assoc]; exact hr.set_ _ _, ho.setCell _ _⟩
      case measure => simp [intOf]; omega
    · obtain rfl : k = 4 := by omega
      go_wp2
      go_ret
      exact ⟨rfl, hr, ho⟩

theorem put16_no (A : Option Addr) (len cap : Nat) (at_ v : Int) (w : World) (hl : (len : Int) ≤ 9223372036854775807) (h1 : at_ < 0 ∨ (len : Int) - 2 < at_) :
    Calls Try.prog 56 #[.slice A len cap, .int .i64 at_, .int .i64 2, .int .u16 v] w fun e w' => e = .returned (.bool false) ∧ w = w' := by
  go_enter Try.func56, Try.ntmps56
  go_wp2_with (go_at_call 55; refine (lies_no _ _ _ _ _ _ (by omega) (by omega) (by omega) (by omega)).mono ?_; rintro e w' ⟨rfl, rfl⟩)
  go_ret
  exact ⟨rfl, rfl⟩

set_option maxHeartbeats 400000 in
theorem put16_yes (g n off len cap at_ : Nat) (f : Nat → Int) (v : Int) (w : World) (hl : (len : Int) ≤ 9223372036854775807) (hs : Row w g n f) (hn : off + len ≤ n) (hv0 : 0 ≤ v) (hv1 : v ≤ 65535) (h1 : at_ + 2 ≤ len) :
    Calls Try.prog 56 #[.slice (some ⟨g, off, none⟩) len cap, .int .i64 at_, .int .i64 2, .int .u16 v] w fun e w' => e = .returned (.bool true) ∧ Row w' g n (putB f (off + at_) v 2) ∧ Only g w w' := by
  go_enter Try.func56, Try.ntmps56
  go_wp2_with (go_at_call 55; refine (lies_yes _ _ _ _ _ _ (by omega) (by omega) (by omega) (by omega) (by omega)).mono ?_; rintro e w' ⟨rfl, rfl⟩)
  go_loopw [16] (fun i wr => ∃ k : Nat, k ≤ 2 ∧ i = .int .i64 k ∧ Row wr g n (putB f (off + at_) v k) ∧ Only g w wr) (fun i _ => 2 - (intOf i).toNat)
  case atStart => exact ⟨0, by omega, rfl, hs, Only.refl _ _⟩
  case round =>
    obtain ⟨k, hk, rfl, hr, ho⟩ := hrel
    by_cases hlt : k < 2
    · have hc := hr.cell (i := off + (at_ + k)) (by omega)
      have hz := hr.frozen (off + (at_ + k))
      have he := hide (putB_step f (off + at_) v k)
      clear hs
      go_wp2
      go_roundw
      case rel => exact ⟨k + 1, by omega, by go_num, by rw [he.out, Nat.add_assoc]; exact hr.set_ _ _, ho.setCell _ _⟩
      case measure => simp [intOf]; omega
    · obtain rfl : k = 2 := by omega
      go_wp2
      go_ret
      exact ⟨rfl, hr, ho⟩

end Go.Proofs.Ytbngbhildijciaa
