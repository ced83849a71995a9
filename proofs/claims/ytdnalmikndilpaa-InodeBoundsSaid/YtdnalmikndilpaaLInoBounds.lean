/- The law InodeBounds. -/
import Derived.Test.YtdnalmikndilpaaIno17
namespace Go.Proofs.Ytdnalmikndilpaa
open Go.RowKit
set_option linter.unusedVariables false

def bI (k a b : Int) : Ino := ⟨k, a, 0, b, fun _ => 0, 0⟩
theorem bI_1 (a b : Int) : mayI (bI 1 a b) ↔ (0 ≤ a ∧ a ≤ 1000) ∧ 0 ≤ b ∧ b ≤ 16777216 := by simp [mayI, bI]
theorem bI_2 (a b : Int) : mayI (bI 2 a b) ↔ a = 1 ∧ (0 ≤ b ∧ b ≤ 16777216) ∧ b % 256 = 0 := by simp [mayI, bI]
theorem bI_0 (a b : Int) : mayI (bI 0 a b) ↔ a = 0 ∧ b = 0 := by simp [mayI, bI]
theorem tmod_of {b : Int} (h : 0 ≤ b) : b.tmod 256 = b % 256 := Int.tmod_eq_emod_of_nonneg h

set_option maxRecDepth 100000 in
set_option maxHeartbeats 4000000 in
theorem inodeBounds_law (a b : Int) (w : World) : Calls Try.prog 9 #[.int .i64 a, .int .i64 b] w fun e w' => e = .returned (.bool true) ∧ Below w.heap.size w w' := by
  have hb : b < 0 ∨ 16777216 < b ∨ b = 0 ∨ (0 < b ∧ b ≤ 16777216 ∧ b.tmod 256 = 0 ∧ b % 256 = 0) ∨ (0 < b ∧ b ≤ 16777216 ∧ ¬ b.tmod 256 = 0 ∧ ¬ b % 256 = 0) := by
    by_cases h : 0 ≤ b
    · rw [tmod_of h]; omega
    · exact .inl (by omega)
  have ha : a < 0 ∨ a = 0 ∨ a = 1 ∨ (2 ≤ a ∧ a ≤ 1000) ∨ 1000 < a := by omega
  cases M1 : mayIB (bI 1 a b) <;> cases M2 : mayIB (bI 2 a b) <;> cases M0 : mayIB (bI 0 a b)
  all_goals
    have h1 := M1
    have h2 := M2
    have h0 := M0
    simp only [mayIB, decide_eq_true_eq, decide_eq_false_iff_not, bI_1, bI_2, bI_0] at h1 h2 h0
    rcases hb with hb | hb | rfl | ⟨hb0, hb1, ht, hr⟩ | ⟨hb0, hb1, ht, hr⟩ <;> rcases ha with ha | rfl | rfl | ⟨ha0, ha1⟩ | ha
  all_goals try (exfalso; clear M1 M2 M0; omega)
  all_goals
    clear h1 h2 h0
    have H1 := hide M1
    have H2 := hide M2
    have H0 := hide M0
    clear M1 M2 M0
    go_enter Try.func9, Try.ntmps9
    go_wp2_with fail
    refine (awake_any _).mono ?_
    rintro e w1 ⟨rfl, hw⟩
    have B1 := hide hw
    clear hw
    go_wp2_with fail
    refine (imay_is H1.out _).mono ?_
    rintro e w2 ⟨rfl, hw⟩
    have B2 := hide (B1.out.trans (hw.mono B1.out.size))
    clear hw B1
    go_wp2_with fail
    refine (imay_is H2.out _).mono ?_
    rintro e w3 ⟨rfl, hw⟩
    have B3 := hide (B2.out.trans (hw.mono B2.out.size))
    clear hw B2
    go_wp2_with fail
    refine (imay_is H0.out _).mono ?_
    rintro e w4 ⟨rfl, hw⟩
    have B4 := hide (B3.out.trans (hw.mono B3.out.size))
    clear hw B3
    go_wp2_with fail
    go_ret
    first
      | exact ⟨rfl, B4.out⟩
      | (refine ⟨?_, B4.out⟩
         show Ending.returned (Value.bool _) = Ending.returned (Value.bool true)
         refine congrArg (fun v => Ending.returned (Value.bool v)) ?_
         simp <;> omega)
end Go.Proofs.Ytdnalmikndilpaa
