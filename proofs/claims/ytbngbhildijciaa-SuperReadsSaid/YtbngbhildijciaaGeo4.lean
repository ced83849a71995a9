/- The walks of geo.Inodes, Data, Start, Number. -/
import Derived.Test.YtbngbhildijciaaGeo3
namespace Go.Proofs.Ytbngbhildijciaa
open Go.RowKit
set_option linter.unusedVariables false

theorem inodes_any (a b c d : Int) (w : World) :
    Calls Try.prog 22 #[geoV a b c d] w fun e w' => e = .returned (.int .i64 (ifMay a b c d (a * c))) ∧ Below w.heap.size w w' := by
  by_cases h : mayP a b c d
  · have Hr : Hid (ifMay a b c d (a * c) = a * c) := if_pos h
    have Hm : Hid (mayB a b c d = true) := decide_eq_true h
    have hp := h.mulc
    have He : Hid (wrap64 (a * c) = a * c) := IntWalk.wrap64_in _ ⟨by omega, by omega⟩
    clear h hp
    rw [Hr.out]
    clear Hr
    unfold geoV
    go_enter Try.func22, Try.ntmps22
    go_wp2_with (go_at_call 21; refine (may_any a b c d _).mono ?_; rintro e w1 ⟨rfl, h1⟩; rw [Hm.out]; have H1 : Hid (Below w.heap.size w w1) := box_below h1; obtain ⟨k0, k1, k2, k3⟩ := box_cells h1; clear h1)
    rw [He.out]
    go_ret
    exact ⟨rfl, H1.out⟩
  · have Hr : Hid (ifMay a b c d (a * c) = 0) := if_neg h
    have Hm : Hid (mayB a b c d = false) := decide_eq_false h
    clear h
    rw [Hr.out]
    unfold geoV
    go_enter Try.func22, Try.ntmps22
    go_wp2_with (go_at_call 21; refine (may_any a b c d _).mono ?_; rintro e w1 ⟨rfl, h1⟩; rw [Hm.out]; have H1 : Hid (Below w.heap.size w w1) := box_below h1; clear h1)
    go_ret
    exact ⟨rfl, H1.out⟩

theorem data_any (a b c d : Int) (w : World) :
    Calls Try.prog 48 #[geoV a b c d] w fun e w' => e = .returned (.int .i64 (ifMay a b c d (b - 2 - c / 4))) ∧ Below w.heap.size w w' := by
  by_cases h : mayP a b c d
  · have Hr : Hid (ifMay a b c d (b - 2 - c / 4) = b - 2 - c / 4) := if_pos h
    have Hm : Hid (mayB a b c d = true) := decide_eq_true h
    obtain ⟨h1, h2, h3, h4, h5, h6, h7⟩ := h
    have q0 : 0 ≤ c := by omega
    have q1 : c ≤ 64 := by omega
    have q2 : 16 ≤ b := by omega
    have q3 : b ≤ 512 := by omega
    clear h1 h2 h3 h4 h5 h6 h7
    rw [Hr.out]
    clear Hr
    unfold geoV
    go_enter Try.func48, Try.ntmps48
    go_wp2_with (go_at_call 21; refine (may_any a b c d _).mono ?_; rintro e w1 ⟨rfl, h1⟩; rw [Hm.out]; have H1 : Hid (Below w.heap.size w w1) := box_below h1; obtain ⟨k0, k1, k2, k3⟩ := box_cells h1; clear h1)
    go_ret
    exact ⟨rfl, H1.out⟩
  · have Hr : Hid (ifMay a b c d (b - 2 - c / 4) = 0) := if_neg h
    have Hm : Hid (mayB a b c d = false) := decide_eq_false h
    clear h
    rw [Hr.out]
    unfold geoV
    go_enter Try.func48, Try.ntmps48
    go_wp2_with (go_at_call 21; refine (may_any a b c d _).mono ?_; rintro e w1 ⟨rfl, h1⟩; rw [Hm.out]; have H1 : Hid (Below w.heap.size w w1) := box_below h1; clear h1)
    go_ret
    exact ⟨rfl, H1.out⟩

end Go.Proofs.Ytbngbhildijciaa
