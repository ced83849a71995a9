/- Plain mathematics of the sum: a number shifted bit by bit, over numbers. -/
import Derived.Test.YtbngbhildijciaaMem
import Derived.Laws.BitsAllLaws
namespace Go.Proofs.Ytbngbhildijciaa

/-- A number, shifted by a bit. -/
def sh (v : Nat) : Nat := if v % 2 = 1 then v / 2 ^^^ 3988292384 else v / 2
/-- .. by so many bits. -/
def shN : Nat → Nat → Nat
  | 0, v => v
  | k + 1, v => sh (shN k v)

theorem sh_lt {v : Nat} (h : v < 4294967296) : sh v < 4294967296 := by
  unfold sh
  split
  · exact Nat.xor_lt_two_pow (n := 32) (by omega) (by omega)
  · omega
theorem shN_lt {v : Nat} (h : v < 4294967296) : ∀ k, shN k v < 4294967296
  | 0 => h
  | k + 1 => sh_lt (shN_lt h k)
theorem xor_mod2 (a b : Nat) : (a ^^^ b) % 2 = (a % 2 + b % 2) % 2 := by
  have h := Nat.xor_mod_two_pow (a := a) (b := b) (n := 1)
  simp only [Nat.pow_one] at h
  rw [h]
  have ha : a % 2 = 0 ∨ a % 2 = 1 := by omega
  have hb : b % 2 = 0 ∨ b % 2 = 1 := by omega
  rcases ha with ha | ha <;> rcases hb with hb | hb <;> rw [ha, hb] <;> rfl
theorem xor_div2 (a b : Nat) : (a ^^^ b) / 2 = a / 2 ^^^ b / 2 := by
  have h := Nat.xor_div_two_pow (a := a) (b := b) (n := 1)
  simpa only [Nat.pow_one] using h
theorem sh_xor (a b : Nat) : sh (a ^^^ b) = sh a ^^^ sh b := by
  unfold sh
  rw [xor_mod2, xor_div2]
  have ha : a % 2 = 0 ∨ a % 2 = 1 := by omega
  have hb : b % 2 = 0 ∨ b % 2 = 1 := by omega
  rcases ha with ha | ha <;> rcases hb with hb | hb <;> rw [ha, hb] <;> simp only [Nat.reduceAdd, Nat.reduceMod, if_true, if_false, Nat.zero_ne_one]
  · rw [Nat.xor_assoc]
  · rw [Nat.xor_assoc, Nat.xor_assoc, Nat.xor_comm (b / 2)]
  · have : ∀ x y p : Nat, x ^^^ y = x ^^^ p ^^^ (y ^^^ p) := fun x y p => by
      rw [Nat.xor_assoc, ← Nat.xor_assoc p y p, Nat.xor_comm p y, Nat.xor_assoc y p p, Nat.xor_self, Nat.xor_zero]
    exact this _ _ _
theorem shN_xor (a b : Nat) : ∀ k, shN k (a ^^^ b) = shN k a ^^^ shN k b
  | 0 => rfl
  | k + 1 => by simp only [shN, shN_xor a b k, sh_xor]
theorem shN_add (v : Nat) (j : Nat) : ∀ k, shN (j + k) v = shN k (shN j v)
  | 0 => rfl
  | k + 1 => by rw [← Nat.add_assoc]; simp only [shN, shN_add v j k]
theorem sh_zero : sh 0 = 0 := rfl
theorem shN_zero : ∀ k, shN k 0 = 0
  | 0 => rfl
  | k + 1 => by simp only [shN, shN_zero k, sh_zero]
theorem sh_double (x : Nat) : sh (2 * x) = x := by
  unfold sh
  rw [if_neg (by omega)]; omega
theorem sh_eq_zero {c : Nat} (hc : c < 4294967296) (h : sh c = 0) : c = 0 := by
  unfold sh at h
  split at h
  · have e : c / 2 = 3988292384 := by
      have := congrArg (· ^^^ 3988292384) h
      simp only [Nat.xor_assoc, Nat.xor_self, Nat.xor_zero, Nat.zero_xor] at this
      exact this
    omega
  · omega
theorem shN_eq_zero {c : Nat} (hc : c < 4294967296) : ∀ {k}, shN k c = 0 → c = 0
  | 0, h => h
  | k + 1, h => shN_eq_zero hc (sh_eq_zero (shN_lt hc k) h)
theorem xor_eq_zero {a b : Nat} (h : a ^^^ b = 0) : a = b := by
  have := congrArg (· ^^^ b) h
  simpa [Nat.xor_assoc] using this
theorem shN_inj {a b k : Nat} (ha : a < 4294967296) (hb : b < 4294967296) (h : shN k a = shN k b) : a = b := by
  refine xor_eq_zero (shN_eq_zero (Nat.xor_lt_two_pow (n := 32) ha hb) (k := k) ?_)
  rw [shN_xor, h, Nat.xor_self]

/-- The state behind n bytes. -/
def stF (s : Nat) (f : Nat → Int) : Nat → Nat
  | 0 => s
  | n + 1 => shN 8 (stF s f n ^^^ (f n).toNat)
theorem byteNat {f : Nat → Int} (hf : IsByte f) (i : Nat) : (f i).toNat < 256 ∧ f i = ((f i).toNat : Int) := by
  have := hf i
  omega
theorem stF_lt {s : Nat} (hs : s < 4294967296) {f : Nat → Int} (hf : IsByte f) : ∀ n, stF s f n < 4294967296
  | 0 => hs
  | n + 1 => shN_lt (Nat.xor_lt_two_pow (n := 32) (stF_lt hs hf n) (by have := byteNat hf n; omega)) 8
theorem stF_congr {s : Nat} {f g : Nat → Int} : ∀ {n : Nat}, (∀ i, i < n → f i = g i) → stF s f n = stF s g n
  | 0, _ => rfl
  | n + 1, h => by simp only [stF]; rw [stF_congr (fun i hi => h i (by omega)), h n (by omega)]
theorem stF_add (s : Nat) (f : Nat → Int) (n : Nat) : ∀ m, stF s f (n + m) = stF (stF s f n) (fun i => f (n + i)) m
  | 0 => rfl
  | m + 1 => by rw [← Nat.add_assoc]; simp only [stF, stF_add s f n m]
/-- The state is linear in what it began as. -/
theorem stF_xor (s t : Nat) (f : Nat → Int) : ∀ n, stF (s ^^^ t) f n = stF s f n ^^^ shN (8 * n) t
  | 0 => rfl
  | n + 1 => by
    simp only [stF]
    rw [stF_xor s t f n, show 8 * (n + 1) = 8 * n + 8 by omega, shN_add, ← shN_xor]
    congr 1
    rw [Nat.xor_assoc, Nat.xor_comm (shN (8 * n) t), ← Nat.xor_assoc]
/-- All ones. -/
def ones : Nat := 4294967295
theorem ones_lt : ones < 4294967296 := by decide
/-- The sum. -/
def sumF (f : Nat → Int) (n : Nat) : Nat := stF ones f n ^^^ ones
theorem sumF_lt {f : Nat → Int} (hf : IsByte f) (n : Nat) : sumF f n < 4294967296 := Nat.xor_lt_two_pow (n := 32) (stF_lt ones_lt hf n) ones_lt
/-- The sum of two pieces, out of their sums. -/
theorem sumF_add (f : Nat → Int) (n m : Nat) : sumF f (n + m) = shN (8 * m) (sumF f n) ^^^ sumF (fun i => f (n + i)) m := by
  unfold sumF
  rw [stF_add]
  have e : stF ones f n = ones ^^^ (stF ones f n ^^^ ones) := by rw [Nat.xor_comm ones, Nat.xor_assoc, Nat.xor_self, Nat.xor_zero]
  rw [e, stF_xor, ← e]
  rw [Nat.xor_comm (stF ones (fun i => f (n + i)) m), Nat.xor_assoc]

/-- Four bits at once. -/
theorem sh4 (v : Nat) : shN 4 v = shN 4 (v % 16) ^^^ v / 16 := by
  have e : v = v % 16 ^^^ 2 * (2 * (2 * (2 * (v / 16)))) := by
    have hd : v = v % 16 + 16 * (v / 16) := by omega
    have : v % 16 ^^^ 16 * (v / 16) = v % 16 + 16 * (v / 16) := by
      have h1 := Nat.two_pow_add_eq_or_of_lt (i := 4) (b := v % 16) (by omega) (v / 16)
      have h2 : v % 16 ||| 16 * (v / 16) = v % 16 ^^^ 16 * (v / 16) := by
        apply Nat.eq_of_testBit_eq
        intro i
        rw [Nat.testBit_or, Nat.testBit_xor]
        by_cases hi : i < 4
        · have : (16 * (v / 16)).testBit i = false := by
            rw [show 16 * (v / 16) = 2 ^ 4 * (v / 16) by rfl, Nat.testBit_two_pow_mul]
            simp; omega
          rw [this]; simp
        · have : (v % 16).testBit i = false := by
            rw [show v % 16 = v % 2 ^ 4 by rfl, Nat.testBit_mod_two_pow]
            simp; omega
          rw [this]; simp
      rw [← h2, Nat.or_comm]
      simp only [Nat.reducePow] at h1
      rw [← h1]; omega
    rw [show 2 * (2 * (2 * (2 * (v / 16)))) = 16 * (v / 16) by omega, this]; omega
  conv => lhs; rw [e]
  rw [shN_xor]
  simp only [shN, sh_double]

/-- The lowest i bits and the next one. -/
theorem mod_split (v i : Nat) : v % 2 ^ (i + 1) = v % 2 ^ i ^^^ (if v / 2 ^ i % 2 = 1 then 2 ^ i else 0) := by
  apply Nat.eq_of_testBit_eq
  intro j
  rw [Nat.testBit_xor, Nat.testBit_mod_two_pow, Nat.testBit_mod_two_pow]
  have hb : (if v / 2 ^ i % 2 = 1 then 2 ^ i else 0 : Nat).testBit j = (decide (j = i) && v.testBit i) := by
    have e : v.testBit i = decide (v / 2 ^ i % 2 = 1) := by rw [Nat.testBit_eq_decide_div_mod_eq]
    rw [e]
    split
    · rename_i h
      rw [Nat.testBit_two_pow]
      simp only [h, decide_true, Bool.and_true]
      by_cases hj : j = i
      · simp [hj]
      · have hj' : ¬ i = j := fun x => hj x.symm
        simp [hj, hj']
    · rename_i h
      simp [h]
  rw [hb]
  by_cases h1 : j < i
  · simp [h1, show j < i + 1 by omega, show j ≠ i by omega]
  · by_cases h2 : j = i
    · subst h2; simp
    · simp [h1, h2, show ¬ j < i + 1 by omega]
theorem shN_split (k v i : Nat) : shN k (v % 2 ^ (i + 1)) = shN k (v % 2 ^ i) ^^^ (if v / 2 ^ i % 2 = 1 then shN k (2 ^ i) else 0) := by
  rw [mod_split, shN_xor]
  split
  · rfl
  · rw [shN_zero]

/-- What a round of the program's own step comes to. -/
theorem step_bits {v : Nat} (h : v < 4294967296) : Go.bits .xor .u32 ((v : Int) / 2) (3988292384 * Go.bits .and .u32 (v : Int) 1 % 4294967296) = ((sh v : Nat) : Int) := by
  have e1 : Go.bits .and .u32 (v : Int) 1 = ((v % 2 : Nat) : Int) := by
    have := u32_and_nat v 1 h (by omega)
    rw [nat_mask1] at this
    exact this
  rw [e1]
  have e2 : ((v : Int) / 2) = ((v / 2 : Nat) : Int) := by omega
  unfold sh
  split
  · rename_i h1
    rw [h1, e2]
    exact u32_xor_nat (v / 2) 3988292384 (by omega) (by omega)
  · rename_i h1
    rw [show v % 2 = 0 by omega, e2]
    have := u32_xor_nat (v / 2) 0 (by omega) (by omega)
    rw [Nat.xor_zero] at this
    exact this
end Go.Proofs.Ytbngbhildijciaa
