/- Plain lemmas on numbers in bytes. -/
import Derived.Test.YtbngbhildijciaaMem
import Derived.Laws.BitsAllLaws
namespace Go.Proofs.Ytbngbhildijciaa
open Go.RowKit

/-- What the first k bytes from a place on come to. -/
def part (f : Nat → Int) (at_ : Nat) : Nat → Int
  | 0 => 0
  | k + 1 => part f at_ k + f (at_ + k) * 256 ^ k

theorem part_bd {f : Nat → Int} (hf : IsByte f) (at_ : Nat) : ∀ k, 0 ≤ part f at_ k ∧ part f at_ k < 256 ^ k
  | 0 => by simp [part]
  | k + 1 => by
    have h := part_bd hf at_ k
    have hb := hf (at_ + k)
    have hp : (0 : Int) < 256 ^ k := Int.pow_pos (by omega)
    simp only [part]
    rw [Int.pow_succ]
    constructor
    · have := Int.mul_nonneg hb.1 (Int.le_of_lt hp); omega
    · have : f (at_ + k) * 256 ^ k ≤ 255 * 256 ^ k := Int.mul_le_mul_of_nonneg_right hb.2 (Int.le_of_lt hp)
      omega

theorem part_congr {f g : Nat → Int} {at_ bt : Nat} : ∀ {k : Nat}, (∀ i, i < k → f (at_ + i) = g (bt + i)) → part f at_ k = part g bt k
  | 0, _ => rfl
  | k + 1, h => by
    simp only [part]
    rw [part_congr (fun i hi => h i (by omega)), h k (by omega)]

theorem pow_split (k : Nat) : (2 : Int) ^ (8 * k) = 256 ^ k := by
  rw [Int.pow_mul]; rfl

theorem nat_join' (i : Nat) {a y : Nat} (hy : y % 2 ^ i = 0) (ha : a < 2 ^ i) : a ||| y = a + y := by
  rw [Nat.or_comm, nat_join i y a hy ha, Nat.add_comm]

theorem or_join32 {a x : Int} {k : Nat} (hk : k < 4) (h0 : 0 ≤ a) (h1 : a < 256 ^ k) (hx0 : 0 ≤ x) (hx1 : x ≤ 255) :
    bits .or .u32 a (x * 2 ^ (8 * k) % 4294967296) = a + x * 256 ^ k := by
  have hc : k = 0 ∨ k = 1 ∨ k = 2 ∨ k = 3 := by omega
  obtain ⟨a, rfl⟩ := Int.eq_ofNat_of_zero_le h0
  obtain ⟨x, rfl⟩ := Int.eq_ofNat_of_zero_le hx0
  rcases hc with rfl | rfl | rfl | rfl
  all_goals
    simp only [Nat.mul_zero, Nat.mul_one, Int.pow_zero, Int.reducePow, Nat.reduceMul] at h1 ⊢
  · have e : ((x : Int) * 1 % 4294967296) = ((x * 1 : Nat) : Int) := by omega
    rw [e, u32_or_nat _ _ (by omega) (by omega), nat_join' 0 (by omega) (by omega)]
    omega
  · have e : ((x : Int) * 256 % 4294967296) = ((x * 256 : Nat) : Int) := by omega
    rw [e, u32_or_nat _ _ (by omega) (by omega), nat_join' 8 (by omega) (by omega)]
    omega
  · have e : ((x : Int) * 65536 % 4294967296) = ((x * 65536 : Nat) : Int) := by omega
    rw [e, u32_or_nat _ _ (by omega) (by omega), nat_join' 16 (by omega) (by omega)]
    omega
  · have e : ((x : Int) * 16777216 % 4294967296) = ((x * 16777216 : Nat) : Int) := by omega
    rw [e, u32_or_nat _ _ (by omega) (by omega), nat_join' 24 (by omega) (by omega)]
    omega
theorem or_part32 {f : Nat → Int} (hf : IsByte f) (at_ : Nat) {k : Nat} (hk : k < 4) :
    bits .or .u32 (part f at_ k) (f (at_ + k) * 2 ^ (8 * k) % 4294967296) = part f at_ (k + 1) := by
  have h := part_bd hf at_ k
  exact or_join32 hk h.1 h.2 (hf _).1 (hf _).2

theorem or_join16 {a x : Int} {k : Nat} (hk : k < 2) (h0 : 0 ≤ a) (h1 : a < 256 ^ k) (hx0 : 0 ≤ x) (hx1 : x ≤ 255) :
    bits .or .u16 a (x * 2 ^ (8 * k) % 65536) = a + x * 256 ^ k := by
  have hc : k = 0 ∨ k = 1 := by omega
  obtain ⟨a, rfl⟩ := Int.eq_ofNat_of_zero_le h0
  obtain ⟨x, rfl⟩ := Int.eq_ofNat_of_zero_le hx0
  rcases hc with rfl | rfl
  all_goals
    simp only [Nat.mul_zero, Nat.mul_one, Int.pow_zero, Int.reducePow] at h1 ⊢
  · have e : ((x : Int) * 1 % 65536) = ((x * 1 : Nat) : Int) := by omega
    rw [e, u16_or_nat _ _ (by omega) (by omega), nat_join' 0 (by omega) (by omega)]
    omega
  · have e : ((x : Int) * 256 % 65536) = ((x * 256 : Nat) : Int) := by omega
    rw [e, u16_or_nat _ _ (by omega) (by omega), nat_join' 8 (by omega) (by omega)]
    omega

theorem or_part16 {f : Nat → Int} (hf : IsByte f) (at_ : Nat) {k : Nat} (hk : k < 2) :
    bits .or .u16 (part f at_ k) (f (at_ + k) * 2 ^ (8 * k) % 65536) = part f at_ (k + 1) := by
  have h := part_bd hf at_ k
  exact or_join16 hk h.1 h.2 (hf _).1 (hf _).2

/-- f with the first k bytes of v written from p on. -/
def putB (f : Nat → Int) (p : Nat) (v : Int) : Nat → Nat → Int
  | 0 => f
  | k + 1 => upd (putB f p v k) (p + k) (v / 256 ^ k % 256)

theorem putB_step (f : Nat → Int) (p : Nat) (v : Int) (k : Nat) : putB f p v (k + 1) = upd (putB f p v k) (p + k) (v / 2 ^ (8 * k) % 256) := by
  rw [pow_split]; rfl
theorem putB_in (f : Nat → Int) (p : Nat) (v : Int) : ∀ {k i : Nat}, i < k → putB f p v k (p + i) = v / 256 ^ i % 256
  | k + 1, i, h => by
    simp only [putB]
    by_cases e : i = k
    · subst e; rw [upd_same]
    · rw [upd_other _ _ (by omega)]; exact putB_in f p v (by omega)
theorem putB_out (f : Nat → Int) (p : Nat) (v : Int) : ∀ {k j : Nat}, j < p ∨ p + k ≤ j → putB f p v k j = f j
  | 0, _, _ => rfl
  | k + 1, j, h => by
    simp only [putB]
    rw [upd_other _ _ (by omega)]; exact putB_out f p v (by omega)
theorem putB_byte {f : Nat → Int} (hf : IsByte f) (p : Nat) (v : Int) : ∀ k, IsByte (putB f p v k)
  | 0 => hf
  | k + 1 => (putB_byte hf p v k).upd _ (by omega) (by omega)

/-- Do so many bytes lie within so many others at a place? -/
def within (many : Nat) (len : Nat) (at_ : Int) : Bool := decide (0 ≤ at_ ∧ at_ + many ≤ len)
/-- The number that is read there, 0 if none is. -/
def read (many : Nat) (f : Nat → Int) (len : Nat) (at_ : Int) : Int := if within many len at_ = true then part f at_.toNat many else 0
theorem within_yes {many len : Nat} {at_ : Int} (h : within many len at_ = true) : ∃ a : Nat, at_ = a ∧ a + many ≤ len := by
  simp only [within, decide_eq_true_eq] at h
  exact ⟨at_.toNat, by omega, by omega⟩
theorem within_no {many len : Nat} {at_ : Int} (h : within many len at_ = false) : at_ < 0 ∨ (len : Int) - many < at_ := by
  simp only [within, decide_eq_false_iff_not] at h
  omega
theorem within_mk {many len a : Nat} (h : a + many ≤ len) : within many len a = true := by
  simp only [within, decide_eq_true_eq]; omega
theorem within_not {many len : Nat} {at_ : Int} (h : at_ < 0 ∨ (len : Int) - many < at_) : within many len at_ = false := by
  simp only [within, decide_eq_false_iff_not]; omega
theorem read_yes {many len a : Nat} {f : Nat → Int} (h : a + many ≤ len) : read many f len a = part f a many := by
  simp [read, within_mk h]
theorem read_no {many len : Nat} {f : Nat → Int} {at_ : Int} (h : within many len at_ = false) : read many f len at_ = 0 := by
  simp [read, h]
theorem read_bd {f : Nat → Int} (hf : IsByte f) (many len : Nat) (at_ : Int) : 0 ≤ read many f len at_ ∧ read many f len at_ < 256 ^ many := by
  unfold read
  split
  · exact part_bd hf _ _
  · exact ⟨by omega, Int.pow_pos (by omega)⟩
theorem part_2 (f : Nat → Int) (a : Nat) : part f a 2 = f a + 256 * f (a + 1) := by simp [part]; omega
theorem part_4 (f : Nat → Int) (a : Nat) : part f a 4 = f a + 256 * f (a + 1) + 65536 * f (a + 2) + 16777216 * f (a + 3) := by simp [part]; omega

theorem part_zero {f : Nat → Int} {a : Nat} : ∀ {k : Nat}, (∀ i, i < k → f (a + i) = 0) → part f a k = 0
  | 0, _ => rfl
  | k + 1, h => by
    simp only [part]
    rw [part_zero (fun i hi => h i (by omega)), h k (by omega)]; simp
theorem read_ne {many len : Nat} {f : Nat → Int} {at_ : Int} (h : read many f len at_ ≠ 0) : sameB f zeroF len = false := by
  cases hs : sameB f zeroF len with
  | false => rfl
  | true =>
    refine absurd ?_ h
    cases hw : within many len at_ with
    | false => exact read_no hw
    | true =>
      obtain ⟨a, rfl, ha⟩ := within_yes hw
      rw [read_yes ha]
      exact part_zero fun i hi => (sameB_iff f zeroF len).1 hs _ (by omega)
theorem part_eq_zero {f : Nat → Int} (hf : IsByte f) {a : Nat} : ∀ {k : Nat}, part f a k = 0 → ∀ i, i < k → f (a + i) = 0
  | k + 1, h, i, hi => by
    simp only [part] at h
    have hp := part_bd hf a k
    have hx := (hf (a + k)).1
    have hpow : (0 : Int) < 256 ^ k := Int.pow_pos (by omega)
    have hm : 0 ≤ f (a + k) * 256 ^ k := Int.mul_nonneg hx (Int.le_of_lt hpow)
    have h1 : part f a k = 0 := by omega
    have h2 : f (a + k) * 256 ^ k = 0 := by omega
    by_cases e : i = k
    · subst e
      rcases Int.mul_eq_zero.1 h2 with h3 | h3
      · exact h3
      · omega
    · exact part_eq_zero hf h1 i (by omega)
/-- All numbers are 0 as far as they go: so are their bytes. -/
theorem zero_words {f : Nat → Int} (hf : IsByte f) {len : Nat} (h : ∀ x, x < len / 4 → read 4 f len (4 * (x : Int)) = 0) : ∀ i, i < 4 * (len / 4) → f i = 0 := fun i hi => by
  have hx := h (i / 4) (by omega)
  have e : (4 * ((i / 4 : Nat) : Int)) = ((4 * (i / 4) : Nat) : Int) := by omega
  rw [e, read_yes (by omega)] at hx
  have := part_eq_zero hf hx (i % 4) (by omega)
  rwa [show 4 * (i / 4) + i % 4 = i by omega] at this

/-- May a number of two, of four bytes be written there? What stands there then? -/
def may16 (len : Nat) (at_ v : Int) : Bool := within 2 len at_ && decide (v ≤ 65535)
def put16 (f : Nat → Int) (off len : Nat) (at_ v : Int) : Nat → Int := if may16 len at_ v = true then putB f (off + at_.toNat) v 2 else f
def put32 (f : Nat → Int) (off len : Nat) (at_ v : Int) : Nat → Int := if within 4 len at_ = true then putB f (off + at_.toNat) v 4 else f
theorem put16_byte {f : Nat → Int} (hf : IsByte f) (off len : Nat) (at_ v : Int) : IsByte (put16 f off len at_ v) := by
  unfold put16; split
  · exact putB_byte hf _ _ _
  · exact hf
theorem put32_byte {f : Nat → Int} (hf : IsByte f) (off len : Nat) (at_ v : Int) : IsByte (put32 f off len at_ v) := by
  unfold put32; split
  · exact putB_byte hf _ _ _
  · exact hf
end Go.Proofs.Ytbngbhildijciaa
