/- The law CrcBytes. -/
import Derived.Test.YtlejmoaeijjnbaaCrc6
namespace Go.Proofs.Ytlejmoaeijjnbaa
open Go.RowKit
set_option linter.unusedVariables false

theorem one_byte (a b : Nat) (ha : a < 256) (hb : b < 256) : ((sumF (litF [(a : Int)]) 1 == sumF (litF [(b : Int)]) 1) == (a == b)) = true := by
  by_cases h : a = b
  · subst h; simp
  · have h2 : sumF (litF [(a : Int)]) 1 ≠ sumF (litF [(b : Int)]) 1 := by
      intro e
      unfold sumF stF stF at e
      have e2 := congrArg (· ^^^ ones) e
      simp only [Nat.xor_assoc, Nat.xor_self, Nat.xor_zero] at e2
      have ea : (litF [(a : Int)] 0).toNat = a := by simp [litF]
      have eb : (litF [(b : Int)] 0).toNat = b := by simp [litF]
      rw [ea, eb] at e2
      have e3 := shN_inj (Nat.xor_lt_two_pow (n := 32) ones_lt (by omega)) (Nat.xor_lt_two_pow (n := 32) ones_lt (by omega)) e2
      have e4 := congrArg (ones ^^^ ·) e3
      simp only [← Nat.xor_assoc, Nat.xor_self, Nat.zero_xor] at e4
      exact h e4
    rw [beq_eq_false_iff_ne.2 h2, beq_eq_false_iff_ne.2 h]; rfl

set_option maxHeartbeats 1000000 in
theorem crcBytes_law (a b : Int) (w : World) (ha0 : 0 ≤ a) (ha1 : a ≤ 255) (hb0 : 0 ≤ b) (hb1 : b ≤ 255) :
    Calls Try.prog 10 #[.int .u8 a, .int .u8 b] w fun e w' => e = .returned (.bool true) ∧ Below w.heap.size w w' := by
  obtain ⟨a, rfl⟩ := Int.eq_ofNat_of_zero_le ha0
  obtain ⟨b, rfl⟩ := Int.eq_ofNat_of_zero_le hb0
  have FA := hide (litF_byte [(a : Int)] (by simp; omega))
  have FB := hide (litF_byte [(b : Int)] (by simp; omega))
  have H : Hid (((((sumF (litF [(a : Int)]) 1 : Nat) : Int) == ((sumF (litF [(b : Int)]) 1 : Nat) : Int)) == ((a : Int) == (b : Int))) = true) := by
    have h := one_byte a b (by omega) (by omega)
    have e : ∀ x y : Nat, ((x : Int) == (y : Int)) = (x == y) := fun x y => by
      rw [Bool.eq_iff_iff]; simp; omega
    rw [Hid, e, e]; exact h
  have la : Hid ((#[Value.int IntKind.u8 (a : Int)] : Array Value).toList = bl 1 (litF [(a : Int)])) := rfl
  have lb : Hid ((#[Value.int IntKind.u8 (b : Int)] : Array Value).toList = bl 1 (litF [(b : Int)])) := rfl
  go_enter Try.func10, Try.ntmps10
  go_wp2_with (go_at_call 18; refine (awake02_any _).mono ?_; rintro e w1 ⟨rfl, h1⟩; have B1 : Hid (Below w.heap.size w w1) := h1; clear h1)
  refine (sum1_any _ _ _ 1 1 1 (litF [(a : Int)]) _ (heap_alloc_new2 _ _ _) ((Bs.lit w1 _ 1 _ _ la.out).alloc _) FA.out (Nat.le_refl _) (by decide)).mono ?_
  rintro e w2 ⟨rfl, hw⟩
  have B2 : Hid (Below w.heap.size w w2) := B_then (B_alloc (B_alloc B1.out _) _) hw
  clear hw B1
  go_wp2_with fail
  refine (sum1_any _ _ _ 1 1 1 (litF [(b : Int)]) _ (heap_alloc_new2 _ _ _) ((Bs.lit w2 _ 1 _ _ lb.out).alloc _) FB.out (Nat.le_refl _) (by decide)).mono ?_
  rintro e w3 ⟨rfl, hw⟩
  have B3 : Hid (Below w.heap.size w w3) := B_then (B_alloc (B_alloc B2.out _) _) hw
  clear hw B2
  go_wp2_with fail
  go_ret
  exact ⟨congrArg (fun b => Ending.returned (.bool b)) H.out, B3.out⟩
end Go.Proofs.Ytlejmoaeijjnbaa
