/- Plain lemmas: what was written is read; what lies apart stays. -/
import Derived.Test.YtbngbhildijciaaNumP
namespace Go.Proofs.Ytbngbhildijciaa
open Go.RowKit

theorem emod_step {v m : Int} (hv : 0 ≤ v) (hm : 0 < m) : v % m + v / m % 256 * m = v % (m * 256) := by
  obtain ⟨a, rfl⟩ := Int.eq_ofNat_of_zero_le hv
  obtain ⟨b, rfl⟩ := Int.eq_ofNat_of_zero_le (Int.le_of_lt hm)
  have h := Nat.mod_mul (x := a) (a := b) (b := 256)
  rw [Nat.mul_comm b (a / b % 256)] at h
  have e : ((a % (b * 256) : Nat) : Int) = ((a % b + a / b % 256 * b : Nat) : Int) := by rw [h]
  simp only [Int.natCast_emod, Int.natCast_mul, Int.natCast_add, Int.natCast_ediv] at e
  exact e.symm
theorem part_putB (f : Nat → Int) (p : Nat) {v : Int} (hv : 0 ≤ v) (n : Nat) : ∀ k, k ≤ n → part (putB f p v n) p k = v % 256 ^ k
  | 0, _ => by simp [part]
  | k + 1, hk => by
    simp only [part]
    rw [part_putB f p hv n k (by omega), putB_in f p v (show k < n by omega), Int.pow_succ]
    exact emod_step hv (Int.pow_pos (by omega))
theorem part_put4 (f : Nat → Int) (p : Nat) {v : Int} (h0 : 0 ≤ v) (h1 : v ≤ 4294967295) : part (putB f p v 4) p 4 = v := by
  rw [part_putB f p h0 4 4 (by omega)]
  exact Int.emod_eq_of_lt h0 (by omega)
theorem part_far {f : Nat → Int} {p q : Nat} (v : Int) {n k : Nat} (h : q + k ≤ p ∨ p + n ≤ q) : part (putB f p v n) q k = part f q k :=
  part_congr fun i hi => putB_out f p v (by omega)
theorem putB_comm (f : Nat → Int) {p q : Nat} (u v : Int) {n k : Nat} (h : p + n ≤ q) (i : Nat) : putB (putB f p u n) q v k i = putB (putB f q v k) p u n i := by
  by_cases h1 : p ≤ i ∧ i < p + n
  · rw [putB_out _ q v (by omega)]
    have e : i = p + (i - p) := by omega
    rw [e, putB_in f p u (by omega), putB_in _ p u (by omega)]
  · rw [putB_out (putB f q v k) p u (by omega)]
    by_cases h2 : q ≤ i ∧ i < q + k
    · have e : i = q + (i - q) := by omega
      rw [e, putB_in _ q v (by omega), putB_in _ q v (by omega)]
    · rw [putB_out _ q v (by omega), putB_out _ p u (by omega), putB_out _ q v (by omega)]
/-- The old number, put back by its halves: all is as it was. -/
theorem putB_back {f : Nat → Int} (hf : IsByte f) (a : Nat) (v : Int) (i : Nat) :
    putB (putB (putB f a v 4) a (part f a 4 % 65536) 2) (a + 2) (part f a 4 / 65536) 2 i = f i := by
  have h0 := hf a
  have h1 := hf (a + 1)
  have h2 := hf (a + 2)
  have h3 := hf (a + 3)
  have e4 := part_4 f a
  by_cases c3 : i = a + 3
  · subst c3
    rw [show a + 3 = a + 2 + 1 by omega, putB_in _ _ _ (by omega)]
    simp only [Int.pow_one]
    rw [show a + 2 + 1 = a + 3 by omega]
    omega
  by_cases c2 : i = a + 2
  · subst c2
    have := putB_in (putB (putB f a v 4) a (part f a 4 % 65536) 2) (a + 2) (part f a 4 / 65536) (k := 2) (i := 0) (by omega)
    rw [Nat.add_zero] at this
    rw [this]
    simp only [Int.pow_zero, Int.ediv_one]
    omega
  rw [putB_out _ (a + 2) _ (by omega)]
  by_cases c1 : i = a + 1
  · subst c1
    rw [putB_in _ _ _ (by omega)]
    simp only [Int.pow_one]
    omega
  by_cases c0 : i = a
  · subst c0
    have := putB_in (putB f i v 4) i (part f i 4 % 65536) (k := 2) (i := 0) (by omega)
    rw [Nat.add_zero] at this
    rw [this]
    simp only [Int.pow_zero, Int.ediv_one]
    omega
  rw [putB_out _ a _ (by omega), putB_out _ a _ (by omega)]
end Go.Proofs.Ytbngbhildijciaa
