/- The walk of geo.Inode. -/
import Derived.Test.YtcigoodmkfnnfaaGeo5
namespace Go.Proofs.Ytcigoodmkfnnfaa
open Go.RowKit
set_option linter.unusedVariables false

theorem inoP.group {a b c d n : Int} (h : inoP a b c d n) : groupP a b c d ((n - 1) / c) := by
  obtain ⟨hm, n1, n2⟩ := h
  have q3 : 4 ≤ c := hm.2.2.1.1
  refine ⟨hm, Int.ediv_nonneg (by omega) (by omega), ?_⟩
  have : (n - 1) / c < a := Int.ediv_lt_of_lt_mul (by omega) (by omega)
  omega
theorem inoP.bit {a b c d n : Int} (h : inoP a b c d n) : 0 ≤ (n - 1) % c ∧ (n - 1) % c ≤ 63 := by
  obtain ⟨hm, n1, n2⟩ := h
  have q3 : 4 ≤ c := hm.2.2.1.1
  have q4 : c ≤ 64 := hm.2.2.1.2
  have h1 := Int.emod_nonneg (n - 1) (show c ≠ 0 by omega)
  have h2 := Int.emod_lt_of_pos (n - 1) (show 0 < c by omega)
  omega

theorem inode_no (a b c d n : Int) (w : World) (h : ¬ inoP a b c d n) :
    Calls Try.prog 10 #[geoV a b c d, .int .i64 n] w fun e w' => e = .returned (.tuple #[.int .i64 0, .int .i64 0, .bool false]) ∧ Below w.heap.size w w' := by
  have Hh := hide h
  clear h
  unfold geoV
  go_enter Try.func10, Try.ntmps10
  go_wp2_with (go_at_call 12; refine (home_no a b c d n _ Hh.out).mono ?_; rintro e w1 ⟨rfl, h1⟩; have H1 : Hid (Below w.heap.size w w1) := box_below h1; obtain ⟨k0, k1, k2, k3⟩ := box_cells h1; clear h1)
  go_ret3
  exact ⟨rfl, H1.out⟩
theorem inode_yes (a b c d n : Int) (w : World) (h : inoP a b c d n) :
    Calls Try.prog 10 #[geoV a b c d, .int .i64 n] w fun e w' => e = .returned (.tuple #[.int .i64 (2 + d + (n - 1) / c * b + 2 + (n - 1) % c / 4), .int .i64 ((n - 1) % c % 4 * 64), .bool true]) ∧ Below w.heap.size w w' := by
  have Hh := hide h
  have Hg := hide h.group
  have hb := h.bit
  have hp := h.group.mul
  have hd : 40 ≤ d ∧ d ≤ 256 := h.1.2.2.2.2.1
  obtain ⟨b0, b1⟩ := hb
  obtain ⟨p0, p1⟩ := hp
  obtain ⟨d0, d1⟩ := hd
  clear h
  unfold geoV
  go_enter Try.func10, Try.ntmps10
  go_wp2_with (first
    | (go_at_call 12; refine (home_yes a b c d n _ Hh.out).mono ?_; rintro e w1 ⟨rfl, h1⟩; have H1 : Hid (Below w.heap.size w w1) := box_below h1; obtain ⟨k0, k1, k2, k3⟩ := box_cells h1; clear h1)
    | (go_at_call 16; refine (start_yes a b c d _ _ Hg.out).mono ?_; rintro e w2 ⟨rfl, h2⟩; have H2 : Hid (Below w.heap.size w w2) := B_then H1.out h2; clear h2; generalize hP : (n - 1) / c * b = p at *; generalize hQ : (n - 1) % c = q at *; have HP := hide hP; have HQ := hide hQ; clear hP hQ))
  go_ret3
  exact ⟨by rw [HP.out, HQ.out]; rfl, H2.out⟩
end Go.Proofs.Ytcigoodmkfnnfaa
