/- The state behind bytes, as one number shifted; bits turned over. -/
import Derived.Test.YtlejmoaeijjnbaaCrcP
namespace Go.Proofs.Ytlejmoaeijjnbaa

theorem xor_mul_pow (a b k : Nat) : (a ^^^ b) * 2 ^ k = a * 2 ^ k ^^^ b * 2 ^ k := by
  simp only [← Nat.shiftLeft_eq]
  exact Nat.shiftLeft_xor_distrib
theorem shN_mul (x : Nat) : ∀ k, shN k (x * 2 ^ k) = x
  | 0 => by simp [shN]
  | k + 1 => by
    rw [Nat.add_comm k 1, shN_add]
    have e : shN 1 (x * 2 ^ (1 + k)) = x * 2 ^ k := by
      rw [Nat.pow_add]
      show sh (x * (2 ^ 1 * 2 ^ k)) = _
      rw [show x * (2 ^ 1 * 2 ^ k) = 2 * (x * 2 ^ k) by rw [Nat.pow_one, Nat.mul_left_comm], sh_double]
    rw [e]; exact shN_mul x k
/-- The bytes as one number, the first one lowest. -/
def num (f : Nat → Int) : Nat → Nat
  | 0 => 0
  | n + 1 => num f n ^^^ (f n).toNat * 2 ^ (8 * n)
theorem stF_num (s : Nat) (f : Nat → Int) : ∀ n, stF s f n = shN (8 * n) (s ^^^ num f n)
  | 0 => by simp [stF, num, shN]
  | n + 1 => by
    rw [stF, num, stF_num s f n]
    have hb := shN_mul (f n).toNat (8 * n)
    conv => lhs; rw [← hb]
    rw [← shN_xor, ← shN_add, Nat.xor_assoc]; rfl
theorem num_congr {f g : Nat → Int} : ∀ {n : Nat}, (∀ i, i < n → f i = g i) → num f n = num g n
  | 0, _ => rfl
  | n + 1, h => by simp only [num]; rw [num_congr (fun i hi => h i (by omega)), h n (by omega)]
theorem num_flip (f : Nat → Int) (i m : Nat) : ∀ n, i < n → num (upd f i (((f i).toNat ^^^ m : Nat) : Int)) n = num f n ^^^ m * 2 ^ (8 * i)
  | 0, h => absurd h (by omega)
  | n + 1, h => by
    simp only [num]
    by_cases e : i = n
    · subst e
      rw [upd_same, num_congr (f := upd f i _) (g := f) (fun j hj => upd_other f _ (by omega)), Int.toNat_natCast, xor_mul_pow, Nat.xor_assoc]
    · rw [num_flip f i m n (by omega), upd_other f _ (fun x => e x.symm), Nat.xor_assoc, Nat.xor_assoc, Nat.xor_comm (m * _)]
theorem num_bit (f : Nat → Int) (p n : Nat) (h : p / 8 < n) : num (upd f (p / 8) (((f (p / 8)).toNat ^^^ 2 ^ (p % 8) : Nat) : Int)) n = num f n ^^^ 2 ^ p := by
  rw [num_flip f _ _ n h, ← Nat.pow_add, show p % 8 + 8 * (p / 8) = p by omega]
theorem over_step (b v p k : Nat) : (b ^^^ (v % 2 ^ k) * 2 ^ p) ^^^ (if v / 2 ^ k % 2 = 1 then 2 ^ (p + k) else 0) = b ^^^ (v % 2 ^ (k + 1)) * 2 ^ p := by
  rw [mod_split, xor_mul_pow, Nat.xor_assoc]
  split
  · rw [← Nat.pow_add, Nat.add_comm k p]
  · rw [Nat.zero_mul]
theorem tells (f g : Nat → Int) (n p v : Nat) (hv : v < 4294967296) (hp : p + 32 ≤ 8 * n) (h : num g n = num f n ^^^ (v % 2 ^ 32) * 2 ^ p) :
    ((sumF g n == sumF f n) == (v == 0)) = true := by
  rw [Nat.mod_eq_of_lt (show v < 2 ^ 32 from hv)] at h
  have e : sumF g n = sumF f n ^^^ shN (8 * n - p) v := by
    unfold sumF
    rw [stF_num, stF_num, h, ← Nat.xor_assoc, shN_xor]
    have : shN (8 * n) (v * 2 ^ p) = shN (8 * n - p) v := by
      have := shN_add (v * 2 ^ p) p (8 * n - p)
      rw [shN_mul, show p + (8 * n - p) = 8 * n by omega] at this
      exact this
    rw [this, Nat.xor_assoc, Nat.xor_comm (shN (8 * n - p) v), ← Nat.xor_assoc]
  by_cases hz : v = 0
  · subst hz
    rw [e, shN_zero, Nat.xor_zero]; simp
  · have hne : sumF g n ≠ sumF f n := by
      intro x
      rw [x] at e
      have e2 := congrArg (sumF f n ^^^ ·) e
      simp only [← Nat.xor_assoc, Nat.xor_self, Nat.zero_xor] at e2
      exact hz (shN_eq_zero hv e2.symm)
    rw [beq_eq_false_iff_ne.2 hne, beq_eq_false_iff_ne.2 hz]; rfl
end Go.Proofs.Ytlejmoaeijjnbaa
