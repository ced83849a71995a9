/- The walks of geo.among, geo.all, geo.May. -/
import Derived.Test.YtbngbhildijciaaMem
import Derived.Test.YtbngbhildijciaaProg
namespace Go.Proofs.Ytbngbhildijciaa
open Go.RowKit
set_option linter.unusedVariables false

/-- Does a number lie within two? -/
def within2 (n l m : Int) : Bool := decide (l ≤ n) && decide (n ≤ m)
theorem within2_yes {n l m : Int} (h1 : l ≤ n) (h2 : n ≤ m) : within2 n l m = true := by simp [within2, h1, h2]
theorem within2_no {n l m : Int} (h : n < l ∨ m < n) : within2 n l m = false := by
  unfold within2
  rcases h with h | h
  · rw [decide_eq_false (by omega)]; rfl
  · rw [decide_eq_false (p := n ≤ m) (by omega)]; simp
theorem within2_iff (n l m : Int) : within2 n l m = true ↔ l ≤ n ∧ n ≤ m := by simp [within2]

theorem among_any (n l m : Int) (w : World) :
    Calls Try.prog 42 #[.int .i64 n, .int .i64 l, .int .i64 m] w fun e w' => e = .returned (.bool (within2 n l m)) ∧ w = w' := by
  by_cases h1 : l ≤ n
  · by_cases h2 : n ≤ m
    · have H := hide (within2_yes h1 h2)
      go_enter Try.func42, Try.ntmps42
      go_wp2
      go_ret
      exact ⟨by rw [H.out]; rfl, rfl⟩
    · have h2' : m < n := by omega
      have H := hide (within2_no (n := n) (l := l) (m := m) (.inr h2'))
      go_enter Try.func42, Try.ntmps42
      go_wp2
      go_ret
      exact ⟨by rw [H.out]; rfl, rfl⟩
  · have h1' : n < l := by omega
    have H := hide (within2_no (n := n) (l := l) (m := m) (.inl h1'))
    clear h1
    go_enter Try.func42, Try.ntmps42
    go_wp2
    go_ret
    exact ⟨by rw [H.out]; rfl, rfl⟩

/-- A geometry as a value. -/
def geoV (a b c d : Int) : Value := .agg #[.int .i64 a, .int .i64 b, .int .i64 c, .int .i64 d]

theorem all_any (a b c d : Int) (w : World) (h0 : 0 ≤ a * b) (h1 : a * b ≤ 1000000) (h2 : 0 ≤ d) (h3 : d ≤ 1000000) :
    Calls Try.prog 43 #[geoV a b c d] w fun e w' => e = .returned (.int .i64 (2 + d + a * b)) ∧ Below w.heap.size w w' := by
  unfold geoV
  generalize hp : a * b = p at *
  have hp' := hide hp
  clear hp
  go_enter Try.func43, Try.ntmps43
  go_wp2
  rw [hp'.out]
  go_ret
  have e1 : wrap64 p = p := by unfold wrap64; omega
  have e2 : wrap64 (2 + d + p) = 2 + d + p := by unfold wrap64; omega
  exact ⟨by rw [e1, e2]; rfl, (Below.refl _ _).alloc (Nat.le_refl _) _⟩
end Go.Proofs.Ytbngbhildijciaa
