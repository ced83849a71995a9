/- The document's answers of layer 1 (quernref01), by their contracts. -/
import Derived.Test.YtbngbhildijciaaNum2
import Derived.Test.YtbngbhildijciaaNumQ
import Derived.Deep.QuietTactic
import Derived.BigQuiet
namespace Go.Proofs.Ytbngbhildijciaa
open Go.RowKit
set_option linter.unusedVariables false

theorem rGet16_no (A : Option Addr) (len cap : Nat) (at_ : Int) (w : World) (hl : (len : Int) ≤ 9223372036854775807) (ha0 : -9223372036854775808 ≤ at_) (ha1 : at_ ≤ 9223372036854775807) (h1 : at_ < 0 ∨ (len : Int) - 2 < at_) :
    Calls Try.prog 47 #[.slice A len cap, .int .i64 at_] w fun e w' => e = .returned (.tuple #[.int .u32 0, .bool false]) ∧ w = w' := by
  by_cases c1 : at_ < 0
  · clear h1
    go_enter Try.func47, Try.ntmps47
    go_wp2
    go_ret2
    exact ⟨rfl, rfl⟩
  · by_cases c2 : (len : Int) < 2
    · clear h1
      go_enter Try.func47, Try.ntmps47
      go_wp2
      go_ret2
      exact ⟨rfl, rfl⟩
    · have c3 : (len : Int) - 2 < at_ := by omega
      clear h1
      go_enter Try.func47, Try.ntmps47
      go_wp2
      go_ret2
      exact ⟨rfl, rfl⟩
theorem rGet16_yes (b off len cap at_ : Nat) (f : Nat → Int) (w : World) (hl : (len : Int) ≤ 9223372036854775807) (hs : Seg w b off len f) (hf : IsByte f) (h1 : at_ + 2 ≤ len) :
    Calls Try.prog 47 #[.slice (some ⟨b, off, none⟩) len cap, .int .i64 at_] w fun e w' => e = .returned (.tuple #[.int .u32 (part f at_ 2), .bool true]) ∧ Still w w' := by
  have hc0 := hs at_ (by omega)
  have hc1 := hs (at_ + 1) (by omega)
  rw [part_2]
  have p0 := (hf at_).1
  have p1 := (hf at_).2
  have q0 := (hf (at_ + 1)).1
  have q1 := (hf (at_ + 1)).2
  generalize f at_ = x at *
  generalize f (at_ + 1) = y at *
  clear hs hf
  go_enter Try.func47, Try.ntmps47
  go_wp2
  go_quiet (fail)
  go_wp2
  go_ret2
  exact ⟨rfl, .of _ _⟩
theorem rGet32_no (A : Option Addr) (len cap : Nat) (at_ : Int) (w : World) (hl : (len : Int) ≤ 9223372036854775807) (ha0 : -9223372036854775808 ≤ at_) (ha1 : at_ ≤ 9223372036854775807) (h1 : at_ < 0 ∨ (len : Int) - 4 < at_) :
    Calls Try.prog 46 #[.slice A len cap, .int .i64 at_] w fun e w' => e = .returned (.tuple #[.int .u32 0, .bool false]) ∧ w = w' := by
  by_cases c1 : at_ < 0
  · clear h1
    go_enter Try.func46, Try.ntmps46
    go_wp2
    go_ret2
    exact ⟨rfl, rfl⟩
  · by_cases c2 : (len : Int) < 4
    · clear h1
      go_enter Try.func46, Try.ntmps46
      go_wp2
      go_ret2
      exact ⟨rfl, rfl⟩
    · have c3 : (len : Int) - 4 < at_ := by omega
      clear h1
      go_enter Try.func46, Try.ntmps46
      go_wp2
      go_ret2
      exact ⟨rfl, rfl⟩
theorem rGet32_yes (b off len cap at_ : Nat) (f : Nat → Int) (w : World) (hl : (len : Int) ≤ 9223372036854775807) (hs : Seg w b off len f) (hf : IsByte f) (h1 : at_ + 4 ≤ len) :
    Calls Try.prog 46 #[.slice (some ⟨b, off, none⟩) len cap, .int .i64 at_] w fun e w' => e = .returned (.tuple #[.int .u32 (part f at_ 4), .bool true]) ∧ Still w w' := by
  have hc0 := hs at_ (by omega)
  have hc1 := hs (at_ + 1) (by omega)
  have hc2 := hs (at_ + 2) (by omega)
  have hc3 := hs (at_ + 3) (by omega)
  rw [part_4]
  have p0 := (hf at_).1
  have p1 := (hf at_).2
  have q0 := (hf (at_ + 1)).1
  have q1 := (hf (at_ + 1)).2
  have r0 := (hf (at_ + 2)).1
  have r1 := (hf (at_ + 2)).2
  have s0 := (hf (at_ + 3)).1
  have s1 := (hf (at_ + 3)).2
  generalize f at_ = x at *
  generalize f (at_ + 1) = y at *
  generalize f (at_ + 2) = z at *
  generalize f (at_ + 3) = u at *
  clear hs hf
  go_enter Try.func46, Try.ntmps46
  go_wp2
  go_quiet (fail)
  go_wp2
  go_ret2
  exact ⟨rfl, .of _ _⟩

theorem rGet32_any (A : Option Addr) (len cap : Nat) (at_ : Int) (f : Nat → Int) (w : World) (hl : (len : Int) ≤ 9223372036854775807) (ha0 : -9223372036854775808 ≤ at_) (ha1 : at_ ≤ 9223372036854775807) (hs : Bs w A len f) (hf : IsByte f) :
    Calls Try.prog 46 #[.slice A len cap, .int .i64 at_] w fun e w' => e = .returned (.tuple #[.int .u32 (read 4 f len at_), .bool (within 4 len at_)]) ∧ Still w w' := by
  cases h : within 4 len at_ with
  | false => rw [read_no h]; exact (rGet32_no A len cap at_ w hl ha0 ha1 (within_no h)).mono fun _ _ h => ⟨h.1, .of_eq h.2⟩
  | true =>
    obtain ⟨a, rfl, ha⟩ := within_yes h
    obtain ⟨b, off, rfl, hs'⟩ := hs.at_ (by omega)
    rw [read_yes ha]
    exact rGet32_yes b off len cap a f w hl hs' hf ha
theorem rGet16_any (A : Option Addr) (len cap : Nat) (at_ : Int) (f : Nat → Int) (w : World) (hl : (len : Int) ≤ 9223372036854775807) (ha0 : -9223372036854775808 ≤ at_) (ha1 : at_ ≤ 9223372036854775807) (hs : Bs w A len f) (hf : IsByte f) :
    Calls Try.prog 47 #[.slice A len cap, .int .i64 at_] w fun e w' => e = .returned (.tuple #[.int .u32 (read 2 f len at_), .bool (within 2 len at_)]) ∧ Still w w' := by
  cases h : within 2 len at_ with
  | false => rw [read_no h]; exact (rGet16_no A len cap at_ w hl ha0 ha1 (within_no h)).mono fun _ _ h => ⟨h.1, .of_eq h.2⟩
  | true =>
    obtain ⟨a, rfl, ha⟩ := within_yes h
    obtain ⟨b, off, rfl, hs'⟩ := hs.at_ (by omega)
    rw [read_yes ha]
    exact rGet16_yes b off len cap a f w hl hs' hf ha

theorem rPut16_great (g n off len cap at_ : Nat) (f : Nat → Int) (v : Int) (w : World) (hl : (len : Int) ≤ 9223372036854775807) (hs : Row w g n f) (hf : IsByte f) (hn : off + len ≤ n) (hv0 : 65536 ≤ v) (hv1 : v ≤ 4294967295) (h1 : at_ + 2 ≤ len) :
    Calls Try.prog 29 #[.slice (some ⟨g, off, none⟩) len cap, .int .i64 at_, .int .u32 v] w fun e w' => e = .returned (.bool false) ∧ Still w w' := by
  have H := hide ((hs.seg hn).bs)
  have Hf : Hid (IsByte fun i => f (off + i)) := fun i => hf _
  have hw := hide (within_mk h1)
  clear hs hf
  go_enter Try.func29, Try.ntmps29
  go_wp2_with (go_at_call 47; refine (rGet16_any _ _ _ _ _ _ (by omega) (by omega) (by omega) H.out Hf.out).mono ?_; rintro e w1 ⟨rfl, h1⟩; rw [hw.out])
  go_ret
  exact ⟨rfl, h1⟩
theorem rPut16_no (A : Option Addr) (len cap : Nat) (at_ : Int) (v : Int) (w : World) (hl : (len : Int) ≤ 9223372036854775807) (ha0 : -9223372036854775808 ≤ at_) (ha1 : at_ ≤ 9223372036854775807) (h1 : within 2 len at_ = false) :
    Calls Try.prog 29 #[.slice A len cap, .int .i64 at_, .int .u32 v] w fun e w' => e = .returned (.bool false) ∧ w = w' := by
  have H := hide (within_no h1)
  clear h1
  go_enter Try.func29, Try.ntmps29
  go_wp2_with (go_at_call 47; refine (rGet16_no _ _ _ _ _ (by omega) (by omega) (by omega) H.out).mono ?_; rintro e w' ⟨rfl, rfl⟩)
  go_ret
  exact ⟨rfl, rfl⟩
theorem rPut16_yes (g n off len cap at_ : Nat) (f : Nat → Int) (v : Int) (w : World) (hl : (len : Int) ≤ 9223372036854775807) (hs : Row w g n f) (hf : IsByte f) (hn : off + len ≤ n) (hv0 : 0 ≤ v) (hv1 : v ≤ 65535) (h1 : at_ + 2 ≤ len) :
    Calls Try.prog 29 #[.slice (some ⟨g, off, none⟩) len cap, .int .i64 at_, .int .u32 v] w fun e w' => e = .returned (.bool true) ∧ Row w' g n (putB f (off + at_) v 2) ∧ Only g w w' := by
  have H := hide ((hs.seg hn).bs)
  have Hf : Hid (IsByte fun i => f (off + i)) := fun i => hf _
  have hw := hide (within_mk h1)
  have Hs := hide hs
  have he := hide (show putB f (off + at_) v 2 = upd (upd f (off + at_) (v % 256)) (off + (at_ + 1)) (v / 256) by
    simp only [putB]
    rw [show v / 256 ^ 1 % 256 = v / 256 by omega, show v / 256 ^ 0 % 256 = v % 256 by omega]; rfl)
  clear hs hf
  go_enter Try.func29, Try.ntmps29
  go_wp2_with fail
  refine (rGet16_any _ _ _ _ _ _ (by omega) (by omega) (by omega) H.out Hf.out).mono ?_
  rintro e w1 ⟨rfl, h1⟩
  rw [hw.out]
  have hs := Hs.out.still h1
  have hs1 := hide (hs.set_ (off + at_) (v % 256))
  have hc0 := hs.cell (i := off + at_) (by omega)
  have hz0 := hs.frozen (off + at_)
  have hc1 := hs1.out.cell (i := off + (at_ + 1)) (by omega)
  have hz1 := hs.frozen (off + (at_ + 1))
  have Ho := hide ((((Only.refl g _).still h1).setCell (off + at_) (.int .u8 (v % 256))).setCell (off + (at_ + 1)) (.int .u8 (v / 256)))
  have H1 := hide (hs1.out.set_ (off + (at_ + 1)) (v / 256))
  clear hs h1
  go_wp2
  go_ret
  exact ⟨rfl, by rw [he.out]; exact H1.out, Ho.out⟩

theorem rPut32_no (A : Option Addr) (len cap : Nat) (at_ : Int) (v : Int) (w : World) (hl : (len : Int) ≤ 9223372036854775807) (ha0 : -9223372036854775808 ≤ at_) (ha1 : at_ ≤ 9223372036854775807) (h1 : within 4 len at_ = false) :
    Calls Try.prog 28 #[.slice A len cap, .int .i64 at_, .int .u32 v] w fun e w' => e = .returned (.bool false) ∧ w = w' := by
  have H := hide (within_no h1)
  clear h1
  go_enter Try.func28, Try.ntmps28
  go_wp2_with (go_at_call 46; refine (rGet32_no _ _ _ _ _ (by omega) (by omega) (by omega) H.out).mono ?_; rintro e w' ⟨rfl, rfl⟩)
  go_ret
  exact ⟨rfl, rfl⟩

theorem rPut32_yes (g n off len cap at_ : Nat) (f : Nat → Int) (v : Int) (w : World) (hl : (len : Int) ≤ 9223372036854775807) (hs : Row w g n f) (hf : IsByte f) (hn : off + len ≤ n) (hv0 : 0 ≤ v) (hv1 : v ≤ 4294967295) (h1 : at_ + 4 ≤ len) :
    Calls Try.prog 28 #[.slice (some ⟨g, off, none⟩) len cap, .int .i64 at_, .int .u32 v] w fun e w' => e = .returned (.bool true) ∧ Row w' g n (putB f (off + at_) v 4) ∧ Only g w w' := by
  have H := hide ((hs.seg hn).bs)
  have Hf : Hid (IsByte fun i => f (off + i)) := fun i => hf _
  have hw := hide (within_mk h1)
  have Hs := hide hs
  clear hs hf
  go_enter Try.func28, Try.ntmps28
  go_wp2_with fail
  refine (rGet32_any _ _ _ _ _ _ (by omega) (by omega) (by omega) H.out Hf.out).mono ?_
  rintro e w1 ⟨rfl, h1⟩
  rw [hw.out]
  go_wp2_with fail
  have hs := hide (Hs.out.still h1)
  have ho := hide ((Only.refl g w).still h1)
  clear h1
  go_loopw [2, 9] (fun u i wr => ∃ k : Nat, k ≤ 4 ∧ i = .int .i64 k ∧ u = .int .u32 (v / 256 ^ k) ∧ Row wr g n (putB f (off + at_) v k) ∧ Only g w wr) (fun _ i _ => 4 - (intOf i).toNat)
  case atStart => exact ⟨0, by omega, rfl, by simp, hs.out, ho.out⟩
  case round =>
    obtain ⟨k, hk, rfl, rfl, hr, ho⟩ := hrel
    by_cases hlt : k < 4
    · have hc := hr.cell (i := off + (at_ + k)) (by omega)
      have hz := hr.frozen (off + (at_ + k))
      have he := hide (show putB f (off + at_) v (k + 1) = upd (putB f (off + at_) v k) (off + (at_ + k)) (v / 256 ^ k % 256) by
        simp only [putB, Nat.add_assoc])
      have hd := hide (show v / 256 ^ (k + 1) = v / 256 ^ k / 256 by rw [Int.pow_succ, Int.ediv_ediv_of_nonneg (Int.le_of_lt (Int.pow_pos (by omega)))])
      have q0 : 0 ≤ v / 256 ^ k := Int.ediv_nonneg hv0 (Int.le_of_lt (Int.pow_pos (by omega)))
      have q1 : v / 256 ^ k ≤ 4294967295 := Int.le_trans (Int.ediv_le_self _ hv0) hv1
      have Hr := hide hr
      have Ho := hide ho
      clear hr ho
      generalize v / 256 ^ k = u at *
      go_wp2
      go_roundw
      case rel => exact ⟨k + 1, by omega, by go_num, by rw [hd.out], by rw [he.out]; exact Hr.out.set_ _ _, Ho.out.setCell _ _⟩
      case measure => simp [intOf]; omega
    · obtain rfl : k = 4 := by omega
      go_wp2
      go_ret
      exact ⟨rfl, hr, ho⟩

theorem rPut32_any (g n off len cap : Nat) (at_ : Int) (f : Nat → Int) (v : Int) (w : World) (hl : (len : Int) ≤ 9223372036854775807) (ha0 : -9223372036854775808 ≤ at_) (ha1 : at_ ≤ 9223372036854775807) (hs : Row w g n f) (hf : IsByte f) (hn : off + len ≤ n) (hv0 : 0 ≤ v) (hv1 : v ≤ 4294967295) :
    Calls Try.prog 28 #[.slice (some ⟨g, off, none⟩) len cap, .int .i64 at_, .int .u32 v] w fun e w' => e = .returned (.bool (within 4 len at_)) ∧ Row w' g n (put32 f off len at_ v) ∧ Only g w w' := by
  cases h : within 4 len at_ with
  | false =>
    refine (rPut32_no _ len cap at_ v w hl ha0 ha1 h).mono ?_
    rintro e w' ⟨rfl, rfl⟩
    exact ⟨rfl, by simpa [put32, h] using hs, Only.refl _ _⟩
  | true =>
    obtain ⟨a, rfl, ha⟩ := within_yes h
    simp only [put32, h, if_true, Int.toNat_natCast]
    exact rPut32_yes g n off len cap a f v w hl hs hf hn hv0 hv1 ha
theorem rPut16_any (g n off len cap : Nat) (at_ : Int) (f : Nat → Int) (v : Int) (w : World) (hl : (len : Int) ≤ 9223372036854775807) (ha0 : -9223372036854775808 ≤ at_) (ha1 : at_ ≤ 9223372036854775807) (hs : Row w g n f) (hf : IsByte f) (hn : off + len ≤ n) (hv0 : 0 ≤ v) (hv1 : v ≤ 4294967295) :
    Calls Try.prog 29 #[.slice (some ⟨g, off, none⟩) len cap, .int .i64 at_, .int .u32 v] w fun e w' => e = .returned (.bool (may16 len at_ v)) ∧ Row w' g n (put16 f off len at_ v) ∧ Only g w w' := by
  cases h : within 2 len at_ with
  | false =>
    refine (rPut16_no _ len cap at_ v w hl ha0 ha1 h).mono ?_
    rintro e w' ⟨rfl, rfl⟩
    exact ⟨by simp [may16, h], by simpa [put16, may16, h] using hs, Only.refl _ _⟩
  | true =>
    obtain ⟨a, rfl, ha⟩ := within_yes h
    by_cases hv : v ≤ 65535
    · simp only [put16, may16, h, hv, decide_true, Bool.and_self, if_true, Int.toNat_natCast]
      exact rPut16_yes g n off len cap a f v w hl hs hf hn hv0 hv ha
    · refine (rPut16_great g n off len cap a f v w hl hs hf hn (by omega) hv1 ha).mono ?_
      rintro e w' ⟨rfl, hst⟩
      exact ⟨by simp [may16, hv], by simpa [put16, may16, hv] using hs.still hst, Only.of_still hst⟩

end Go.Proofs.Ytbngbhildijciaa
