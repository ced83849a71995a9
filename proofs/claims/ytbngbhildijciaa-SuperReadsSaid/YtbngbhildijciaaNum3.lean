/- nums.Get16, Get32, Put16, Put32 and the document's answers for them, by their contracts. -/
import Derived.Test.YtbngbhildijciaaNum2
namespace Go.Proofs.Ytbngbhildijciaa
open Go.RowKit
set_option linter.unusedVariables false

theorem get32_any (A : Option Addr) (len cap : Nat) (at_ : Int) (f : Nat → Int) (w : World) (hl : (len : Int) ≤ 9223372036854775807) (hs : Bs w A len f) (hf : IsByte f) :
    Calls Try.prog 50 #[.slice A len cap, .int .i64 at_, .int .i64 4] w fun e w' => e = .returned (.tuple #[.int .u32 (read 4 f len at_), .bool (within 4 len at_)]) ∧ w = w' := by
  cases h : within 4 len at_ with
  | false => rw [read_no h]; exact get32_no A len cap at_ w hl (within_no h)
  | true =>
    obtain ⟨a, rfl, ha⟩ := within_yes h
    obtain ⟨b, off, rfl, hs'⟩ := hs.at_ (by omega)
    rw [read_yes ha]
    exact get32_yes b off len cap a f w hl hs' hf ha
theorem get16_any (A : Option Addr) (len cap : Nat) (at_ : Int) (f : Nat → Int) (w : World) (hl : (len : Int) ≤ 9223372036854775807) (hs : Bs w A len f) (hf : IsByte f) :
    Calls Try.prog 59 #[.slice A len cap, .int .i64 at_, .int .i64 2] w fun e w' => e = .returned (.tuple #[.int .u16 (read 2 f len at_), .bool (within 2 len at_)]) ∧ w = w' := by
  cases h : within 2 len at_ with
  | false => rw [read_no h]; exact get16_no A len cap at_ w hl (within_no h)
  | true =>
    obtain ⟨a, rfl, ha⟩ := within_yes h
    obtain ⟨b, off, rfl, hs'⟩ := hs.at_ (by omega)
    rw [read_yes ha]
    exact get16_yes b off len cap a f w hl hs' hf ha

theorem Get32_any (A : Option Addr) (len cap : Nat) (at_ : Int) (f : Nat → Int) (w : World) (hl : (len : Int) ≤ 9223372036854775807) (hs : Bs w A len f) (hf : IsByte f) :
    Calls Try.prog 33 #[.slice A len cap, .int .i64 at_] w fun e w' => e = .returned (.tuple #[.int .u32 (read 4 f len at_), .bool (within 4 len at_)]) ∧ w = w' := by
  have H := hide hs
  have Hf := hide hf
  clear hs hf
  go_enter Try.func33, Try.ntmps33
  go_wp2_with (go_at_call 50; refine (get32_any _ _ _ _ f _ (by omega) H.out Hf.out).mono ?_; rintro e w' ⟨rfl, rfl⟩)
  go_ret2
  exact ⟨rfl, rfl⟩
theorem Get16_any (A : Option Addr) (len cap : Nat) (at_ : Int) (f : Nat → Int) (w : World) (hl : (len : Int) ≤ 9223372036854775807) (hs : Bs w A len f) (hf : IsByte f) :
    Calls Try.prog 52 #[.slice A len cap, .int .i64 at_] w fun e w' => e = .returned (.tuple #[.int .u32 (read 2 f len at_), .bool (within 2 len at_)]) ∧ w = w' := by
  have H := hide hs
  have Hf := hide hf
  have hb0 := (read_bd hf 2 len at_).1
  have hb1 : read 2 f len at_ < 65536 := (read_bd hf 2 len at_).2
  clear hs hf
  go_enter Try.func52, Try.ntmps52
  go_wp2_with (go_at_call 59; refine (get16_any _ _ _ _ f _ (by omega) H.out Hf.out).mono ?_; rintro e w' ⟨rfl, rfl⟩)
  go_ret2
  exact ⟨rfl, rfl⟩

theorem Put32_no (A : Option Addr) (len cap : Nat) (at_ v : Int) (w : World) (hl : (len : Int) ≤ 9223372036854775807) (h1 : within 4 len at_ = false) :
    Calls Try.prog 23 #[.slice A len cap, .int .i64 at_, .int .u32 v] w fun e w' => e = .returned (.bool false) ∧ w = w' := by
  have H := hide (within_no h1)
  clear h1
  go_enter Try.func23, Try.ntmps23
  go_wp2_with (go_at_call 44; refine (put32_no _ _ _ _ _ _ (by omega) H.out).mono ?_; rintro e w' ⟨rfl, rfl⟩)
  go_ret
  exact ⟨rfl, rfl⟩
theorem Put32_yes (g n off len cap at_ : Nat) (f : Nat → Int) (v : Int) (w : World) (hl : (len : Int) ≤ 9223372036854775807) (hs : Row w g n f) (hn : off + len ≤ n) (hv0 : 0 ≤ v) (hv1 : v ≤ 4294967295) (h1 : at_ + 4 ≤ len) :
    Calls Try.prog 23 #[.slice (some ⟨g, off, none⟩) len cap, .int .i64 at_, .int .u32 v] w fun e w' => e = .returned (.bool true) ∧ Row w' g n (putB f (off + at_) v 4) ∧ Only g w w' := by
  have H := hide hs
  clear hs
  go_enter Try.func23, Try.ntmps23
  go_wp2_with (go_at_call 44; refine (put32_yes _ n _ _ _ _ f _ _ (by omega) H.out (by omega) (by omega) (by omega) (by omega)).mono ?_; rintro e w' ⟨rfl, hr, ho⟩)
  go_ret
  exact ⟨rfl, hr, ho⟩

theorem Put16_great (A : Option Addr) (len cap : Nat) (at_ v : Int) (w : World) (hv0 : 65536 ≤ v) (hv1 : v ≤ 4294967295) :
    Calls Try.prog 45 #[.slice A len cap, .int .i64 at_, .int .u32 v] w fun e w' => e = .returned (.bool false) ∧ w = w' := by
  have h0 : (v / 65536 == 0) = false := by simp; omega
  go_enter Try.func45, Try.ntmps45
  go_wp2
  go_ret
  exact ⟨rfl, rfl⟩
theorem Put16_no (A : Option Addr) (len cap : Nat) (at_ v : Int) (w : World) (hl : (len : Int) ≤ 9223372036854775807) (hv0 : 0 ≤ v) (hv1 : v ≤ 65535) (h1 : within 2 len at_ = false) :
    Calls Try.prog 45 #[.slice A len cap, .int .i64 at_, .int .u32 v] w fun e w' => e = .returned (.bool false) ∧ w = w' := by
  have H := hide (within_no h1)
  have h0 : (v / 65536 == 0) = true := by simp; omega
  clear h1
  go_enter Try.func45, Try.ntmps45
  go_wp2_with (go_at_call 56; refine (put16_no _ _ _ _ _ _ (by omega) H.out).mono ?_; rintro e w' ⟨rfl, rfl⟩)
  go_ret
  exact ⟨rfl, rfl⟩
theorem Put16_yes (g n off len cap at_ : Nat) (f : Nat → Int) (v : Int) (w : World) (hl : (len : Int) ≤ 9223372036854775807) (hs : Row w g n f) (hn : off + len ≤ n) (hv0 : 0 ≤ v) (hv1 : v ≤ 65535) (h1 : at_ + 2 ≤ len) :
    Calls Try.prog 45 #[.slice (some ⟨g, off, none⟩) len cap, .int .i64 at_, .int .u32 v] w fun e w' => e = .returned (.bool true) ∧ Row w' g n (putB f (off + at_) v 2) ∧ Only g w w' := by
  have H := hide hs
  have h0 : (v / 65536 == 0) = true := by simp; omega
  clear hs
  go_enter Try.func45, Try.ntmps45
  go_wp2_with (go_at_call 56; refine (put16_yes _ n _ _ _ _ f _ _ (by omega) H.out (by omega) (by omega) (by omega) (by omega)).mono ?_; rintro e w' ⟨rfl, hr, ho⟩)
  go_ret
  exact ⟨rfl, hr, ho⟩

theorem Put32_any (g n off len cap : Nat) (at_ : Int) (f : Nat → Int) (v : Int) (w : World) (hl : (len : Int) ≤ 9223372036854775807) (hs : Row w g n f) (hn : off + len ≤ n) (hv0 : 0 ≤ v) (hv1 : v ≤ 4294967295) :
    Calls Try.prog 23 #[.slice (some ⟨g, off, none⟩) len cap, .int .i64 at_, .int .u32 v] w fun e w' => e = .returned (.bool (within 4 len at_)) ∧ Row w' g n (put32 f off len at_ v) ∧ Only g w w' := by
  cases h : within 4 len at_ with
  | false =>
    refine (Put32_no _ len cap at_ v w hl h).mono ?_
    rintro e w' ⟨rfl, rfl⟩
    exact ⟨rfl, by simpa [put32, h] using hs, Only.refl _ _⟩
  | true =>
    obtain ⟨a, rfl, ha⟩ := within_yes h
    simp only [put32, h, if_true, Int.toNat_natCast]
    exact Put32_yes g n off len cap a f v w hl hs hn hv0 hv1 ha
theorem Put16_any (g n off len cap : Nat) (at_ : Int) (f : Nat → Int) (v : Int) (w : World) (hl : (len : Int) ≤ 9223372036854775807) (hs : Row w g n f) (hn : off + len ≤ n) (hv0 : 0 ≤ v) (hv1 : v ≤ 4294967295) :
    Calls Try.prog 45 #[.slice (some ⟨g, off, none⟩) len cap, .int .i64 at_, .int .u32 v] w fun e w' => e = .returned (.bool (may16 len at_ v)) ∧ Row w' g n (put16 f off len at_ v) ∧ Only g w w' := by
  by_cases hv : v ≤ 65535
  · cases h : within 2 len at_ with
    | false =>
      refine (Put16_no _ len cap at_ v w hl hv0 hv h).mono ?_
      rintro e w' ⟨rfl, rfl⟩
      exact ⟨by simp [may16, h], by simpa [put16, may16, h] using hs, Only.refl _ _⟩
    | true =>
      obtain ⟨a, rfl, ha⟩ := within_yes h
      simp only [put16, may16, h, hv, decide_true, Bool.and_self, if_true, Int.toNat_natCast]
      exact Put16_yes g n off len cap a f v w hl hs hn hv0 hv ha
  · refine (Put16_great _ len cap at_ v w (by omega) hv1).mono ?_
    rintro e w' ⟨rfl, rfl⟩
    exact ⟨by simp [may16, hv], by simpa [put16, may16, hv] using hs, Only.refl _ _⟩
end Go.Proofs.Ytbngbhildijciaa
