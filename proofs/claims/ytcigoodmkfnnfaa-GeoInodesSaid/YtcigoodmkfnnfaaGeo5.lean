/- The walks of geo.Number, Home. -/
import Derived.Test.YtcigoodmkfnnfaaGeo4
import Derived.Deep.QuietTactic
import Derived.BigQuiet
namespace Go.Proofs.Ytcigoodmkfnnfaa
open Go.RowKit
set_option linter.unusedVariables false

/-- Is it an inode's bit in a group? -/
def bitP (a b c d g i : Int) : Prop := groupP a b c d g ∧ 0 ≤ i ∧ i ≤ c - 1
theorem number_yes (a b c d g i : Int) (w : World) (h : bitP a b c d g i) :
    Calls Try.prog 15 #[geoV a b c d, .int .i64 g, .int .i64 i] w fun e w' => e = .returned (.int .i64 (g * c + i + 1)) ∧ Below w.heap.size w w' := by
  have Hm : Hid (mayB a b c d = true) := decide_eq_true h.1.1
  obtain ⟨⟨hm, g1, g2⟩, i1, i2⟩ := h
  have q1 : 1 ≤ a := hm.1.1
  have q2 : a ≤ 4 := hm.1.2
  have q3 : 4 ≤ c := hm.2.2.1.1
  have q4 : c ≤ 64 := hm.2.2.1.2
  have p0 : 0 ≤ g * c := Int.mul_nonneg g1 (by omega)
  have p1 : g * c ≤ 256 := Int.le_trans (Int.mul_le_mul (show g ≤ 4 by omega) q4 (by omega) (by omega)) (by omega)
  have f1 := within2_yes g1 g2
  have f2 := within2_yes i1 i2
  have He : Hid (wrap64 (g * c) = g * c) := IntWalk.wrap64_in _ ⟨by omega, by omega⟩
  have He2 : Hid (wrap64 (g * c + i) = g * c + i) := IntWalk.wrap64_in _ ⟨by omega, by omega⟩
  have He3 : Hid (wrap64 (g * c + i + 1) = g * c + i + 1) := IntWalk.wrap64_in _ ⟨by omega, by omega⟩
  clear hm p0 p1
  unfold geoV
  go_enter Try.func15, Try.ntmps15
  go_wp2_with (first | (go_at_call 20; refine (may_any a b c d _).mono ?_; rintro e w1 ⟨rfl, h1⟩; rw [Hm.out]; have H1 : Hid (Below w.heap.size w w1) := box_below h1; obtain ⟨k0, k1, k2, k3⟩ := box_cells h1; clear h1) | (go_at_call 30; refine (among_any _ _ _ _).mono ?_; rintro e w2 ⟨rfl, rfl⟩))
  rw [He.out, He2.out, He3.out]
  go_ret
  exact ⟨rfl, H1.out⟩
theorem number_no (a b c d g i : Int) (w : World) (h : ¬ bitP a b c d g i) :
    Calls Try.prog 15 #[geoV a b c d, .int .i64 g, .int .i64 i] w fun e w' => e = .returned (.int .i64 0) ∧ Below w.heap.size w w' := by
  by_cases hm : mayP a b c d
  · have Hm : Hid (mayB a b c d = true) := decide_eq_true hm
    have q1 : 1 ≤ a := hm.1.1
    have q2 : a ≤ 4 := hm.1.2
    have q3 : 4 ≤ c := hm.2.2.1.1
    have q4 : c ≤ 64 := hm.2.2.1.2
    cases f1 : within2 g 0 (a - 1) with
    | false =>
      clear h hm
      unfold geoV
      go_enter Try.func15, Try.ntmps15
      go_wp2_with (first | (go_at_call 20; refine (may_any a b c d _).mono ?_; rintro e w1 ⟨rfl, h1⟩; rw [Hm.out]; have H1 : Hid (Below w.heap.size w w1) := box_below h1; obtain ⟨k0, k1, k2, k3⟩ := box_cells h1; clear h1) | (go_at_call 30; refine (among_any _ _ _ _).mono ?_; rintro e w2 ⟨rfl, rfl⟩))
      go_ret
      exact ⟨rfl, H1.out⟩
    | true =>
      have f2 : within2 i 0 (c - 1) = false := by
        cases e : within2 i 0 (c - 1) with
        | false => rfl
        | true => exact absurd ⟨⟨hm, (within2_iff _ _ _).1 f1⟩, (within2_iff _ _ _).1 e⟩ h
      clear h hm
      unfold geoV
      go_enter Try.func15, Try.ntmps15
      go_wp2_with (first | (go_at_call 20; refine (may_any a b c d _).mono ?_; rintro e w1 ⟨rfl, h1⟩; rw [Hm.out]; have H1 : Hid (Below w.heap.size w w1) := box_below h1; obtain ⟨k0, k1, k2, k3⟩ := box_cells h1; clear h1) | (go_at_call 30; refine (among_any _ _ _ _).mono ?_; rintro e w2 ⟨rfl, rfl⟩))
      go_ret
      exact ⟨rfl, H1.out⟩
  · have Hm : Hid (mayB a b c d = false) := decide_eq_false hm
    clear h hm
    unfold geoV
    go_enter Try.func15, Try.ntmps15
    go_wp2_with (go_at_call 20; refine (may_any a b c d _).mono ?_; rintro e w1 ⟨rfl, h1⟩; rw [Hm.out]; have H1 : Hid (Below w.heap.size w w1) := box_below h1; obtain ⟨k0, k1, k2, k3⟩ := box_cells h1; clear h1)
    go_ret
    exact ⟨rfl, H1.out⟩

/-- Is it an inode's number? -/
def inoP (a b c d n : Int) : Prop := mayP a b c d ∧ 1 ≤ n ∧ n ≤ a * c
theorem home_no (a b c d n : Int) (w : World) (h : ¬ inoP a b c d n) :
    Calls Try.prog 12 #[geoV a b c d, .int .i64 n] w fun e w' => e = .returned (.tuple #[.int .i64 0, .int .i64 0, .bool false]) ∧ Below w.heap.size w w' := by
  have f1 : within2 n 1 (ifMay a b c d (a * c)) = false := by
    cases e : within2 n 1 (ifMay a b c d (a * c)) with
    | false => rfl
    | true =>
      have := (within2_iff _ _ _).1 e
      unfold ifMay at this
      split at this
      · rename_i hm; exact absurd ⟨hm, this⟩ h
      · omega
  clear h
  unfold geoV
  go_enter Try.func12, Try.ntmps12
  go_wp2_with (first | (go_at_call 24; refine (inodes_any a b c d _).mono ?_; rintro e w1 ⟨rfl, h1⟩; have H1 : Hid (Below w.heap.size w w1) := box_below h1; obtain ⟨k0, k1, k2, k3⟩ := box_cells h1; clear h1) | (go_at_call 30; refine (among_any _ _ _ _).mono ?_; rintro e w2 ⟨rfl, rfl⟩))
  go_ret3
  exact ⟨rfl, H1.out⟩
theorem home_yes (a b c d n : Int) (w : World) (h : inoP a b c d n) :
    Calls Try.prog 12 #[geoV a b c d, .int .i64 n] w fun e w' => e = .returned (.tuple #[.int .i64 ((n - 1) / c), .int .i64 ((n - 1) % c), .bool true]) ∧ Below w.heap.size w w' := by
  obtain ⟨hm, n1, n2⟩ := h
  have f1 : within2 n 1 (ifMay a b c d (a * c)) = true := by
    rw [ifMay, if_pos hm]; exact within2_yes n1 n2
  have q3 : 4 ≤ c := hm.2.2.1.1
  have q4 : c ≤ 64 := hm.2.2.1.2
  have n3 : n ≤ 256 := Int.le_trans n2 hm.mulc.2
  have e0 : IntKind.i64.wrap (n - 1) = n - 1 := IntWalk.i64_in _ (by omega)
  have e1 : (n - 1).tdiv c = (n - 1) / c := Int.tdiv_eq_ediv_of_nonneg (by omega)
  have e2 : (n - 1).tmod c = (n - 1) % c := Int.tmod_eq_emod_of_nonneg (by omega)
  have b0 : 0 ≤ (n - 1) / c := Int.ediv_nonneg (by omega) (by omega)
  have b1 : (n - 1) / c ≤ n - 1 := Int.ediv_le_self _ (by omega)
  have e3 : IntKind.i64.wrap ((n - 1) / c) = (n - 1) / c := IntWalk.i64_in _ (by omega)
  have c0 : (c == 0) = false := by simp; omega
  have c1 : c ≠ 0 := by omega
  clear hm n2 b0 b1
  unfold geoV
  go_enter Try.func12, Try.ntmps12
  go_wp2_with (first | (go_at_call 24; refine (inodes_any a b c d _).mono ?_; rintro e w1 ⟨rfl, h1⟩; have H1 : Hid (Below w.heap.size w w1) := box_below h1; obtain ⟨k0, k1, k2, k3⟩ := box_cells h1; clear h1) | (go_at_call 30; refine (among_any _ _ _ _).mono ?_; rintro e w2 ⟨rfl, rfl⟩))
  go_quiet (fail)
  go_wp2
  go_ret3
  exact ⟨rfl, H1.out.trans ((Still.of _ _).below _)⟩
end Go.Proofs.Ytcigoodmkfnnfaa
