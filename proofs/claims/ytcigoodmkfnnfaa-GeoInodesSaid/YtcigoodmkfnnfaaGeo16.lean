/- The walks of quernref05.What, Blocks, Inodes, Number. -/
import Derived.Test.YtcigoodmkfnnfaaGeo15
namespace Go.Proofs.Ytcigoodmkfnnfaa
open Go.RowKit
set_option linter.unusedVariables false

/-- The list's cells. -/
structure ThRow (w : World) (g N : Nat) (a b c d : Int) : Prop where
  kind : ∀ i, i < N → w.cell? ⟨g, i * 4, none⟩ = some (.int .u8 (thingK a b c d i))
  group : ∀ i, i < N → w.cell? ⟨g, i * 4 + 1, none⟩ = some (.int .i64 (thingG a b c d i))
  at_ : ∀ i, i < N → w.cell? ⟨g, i * 4 + 2, none⟩ = some (.int .i64 (thingA a b c d i))
  ino : ∀ i, i < N → w.cell? ⟨g, i * 4 + 3, none⟩ = some (.int .i64 (thingI a b c d i))
theorem all_out {w : World} {base N : Nat} {v : Value} {a b c d : Int} (h : w.ownsRow base 41 4 v N (thL a b c d N)) (hN : 0 < N) :
    ∃ g cap, v = .slice (some ⟨g, 0, none⟩) N cap ∧ base ≤ g ∧ N ≤ cap ∧ (cap : Int) ≤ 9223372036854775807 ∧ ThRow w g N a b c d := by
  obtain ⟨_, ⟨_, e⟩ | ⟨g, cap, cur, rfl, hg, hh, hc, hm, hs, ht⟩⟩ := h
  · omega
  · have cell : ∀ i f, i < N → f < 4 → w.cell? ⟨g, i * 4 + f, none⟩ = (th4 a b c d i)[f]? := fun i f hi hf => by
      rw [cell_of_row _ _ _ cur 41 (0, 0) hh, ← thL_get a b c d f hf N i hi, ← ht, List.getElem?_take, if_pos (by omega), Array.getElem?_toList]
    refine ⟨g, cap, rfl, hg, hc, by unfold maxLen at hm; omega, fun i hi => (cell i 0 hi (by omega)).trans rfl, fun i hi => (cell i 1 hi (by omega)).trans rfl, fun i hi => (cell i 2 hi (by omega)).trans rfl, fun i hi => (cell i 3 hi (by omega)).trans rfl⟩
theorem total_nat {a b c d : Int} (h : mayP a b c d) : ∃ N : Nat, (2 + d + a * b).toNat = N ∧ (N : Int) = 2 + d + a * b ∧ 42 ≤ N ∧ N ≤ 2048 := by
  have hp := h.mul
  have hd : 40 ≤ d ∧ d ≤ 256 := h.2.2.2.2.1
  have ht : 2 + d + a * b ≤ 2048 := h.2.2.2.2.2.2
  exact ⟨_, rfl, Int.toNat_of_nonneg (by omega), by omega, by omega⟩
theorem refAll_some {a b c d : Int} (N : Nat) (w : World) (h : mayP a b c d) (hN : (2 + d + a * b).toNat = N) (h0 : 0 < N) :
    Calls Try.prog 29 #[geoV a b c d] w fun e w' => ∃ g cap, e = .returned (.slice (some ⟨g, 0, none⟩) N cap) ∧ w.heap.size + 1 ≤ g ∧ N ≤ cap ∧ (cap : Int) ≤ 9223372036854775807 ∧ ThRow w' g N a b c d ∧ Below w.heap.size w w' :=
  (refAll_yes a b c d w h).mono fun e w' ⟨v, he, ho, hb⟩ => by
    rw [hN] at ho
    obtain ⟨g, cap, rfl, h1, h2, h3, h4⟩ := all_out ho h0
    exact ⟨g, cap, he, h1, h2, h3, h4, hb⟩

set_option maxHeartbeats 1000000 in
theorem refWhat_in (a b c d : Int) (k : Nat) (w : World) (h : mayP a b c d) (hk : (k : Int) < 2 + d + a * b) :
    Calls Try.prog 19 #[geoV a b c d, .int .i64 k] w fun e w' => e = .returned (.tuple #[.int .u8 (thingK a b c d k), .int .i64 (thingG a b c d k), .int .i64 (thingA a b c d k)]) ∧ Below w.heap.size w w' := by
  have G0 := hide (GAt.new w a b c d)
  obtain ⟨N, hN, hN1, hN2, hN3⟩ := total_nat h
  have Hm := hide h
  have HN := hide hN
  have hkN : k < N := by omega
  have hkN' : (k : Int) < N := by omega
  clear h hN hN1 hk
  unfold geoV
  go_enter Try.func19, Try.ntmps19
  go_wp2_with fail
  refine (refAll_some N _ Hm.out HN.out (by omega)).mono ?_
  rintro e w1 ⟨g, cap, rfl, hg, hc, hm, hT, hw⟩
  have G1 := hide (G0.out.step hw)
  have t1 := hT.kind k hkN
  have t2 := hT.group k hkN
  have t3 := hT.at_ k hkN
  clear hw G0 hT
  go_wp2_with fail
  go_quiet (fail)
  have hws : Hid (Below w.heap.size w (w1.drewN nq)) := G1.out.old.trans ((Still.of w1 nq).below _)
  clear t1 t2 t3
  go_wp2_with fail
  go_ret3
  exact ⟨rfl, hws.out⟩
set_option maxHeartbeats 1000000 in
theorem refWhat_neg (a b c d n : Int) (w : World) (h : mayP a b c d) (hn : n < 0) :
    Calls Try.prog 19 #[geoV a b c d, .int .i64 n] w fun e w' => e = .returned (.tuple #[.int .u8 0, .int .i64 0, .int .i64 0]) ∧ Below w.heap.size w w' := by
  have G0 := hide (GAt.new w a b c d)
  obtain ⟨N, hN, hN1, hN2, hN3⟩ := total_nat h
  have Hm := hide h
  have HN := hide hN
  have v : decide (n < 0) = true := decide_eq_true hn
  clear h hN hN1 hn
  unfold geoV
  go_enter Try.func19, Try.ntmps19
  go_wp2_with fail
  refine (refAll_some N _ Hm.out HN.out (by omega)).mono ?_
  rintro e w1 ⟨g, cap, rfl, hg, hc, hm, hT, hw⟩
  have G1 := hide (G0.out.step hw)
  clear hw G0 hT
  go_wp2_with fail
  go_ret3
  exact ⟨rfl, G1.out.old⟩
set_option maxHeartbeats 1000000 in
theorem refWhat_far (a b c d n : Int) (w : World) (h : mayP a b c d) (hn : 2 + d + a * b ≤ n) :
    Calls Try.prog 19 #[geoV a b c d, .int .i64 n] w fun e w' => e = .returned (.tuple #[.int .u8 0, .int .i64 0, .int .i64 0]) ∧ Below w.heap.size w w' := by
  have G0 := hide (GAt.new w a b c d)
  obtain ⟨N, hN, hN1, hN2, hN3⟩ := total_nat h
  have Hm := hide h
  have HN := hide hN
  have v : decide (n < 0) = false := decide_eq_false (by omega)
  have v2 : decide ((N : Int) ≤ n) = true := decide_eq_true (by omega)
  clear h hN hN1 hn
  unfold geoV
  go_enter Try.func19, Try.ntmps19
  go_wp2_with fail
  refine (refAll_some N _ Hm.out HN.out (by omega)).mono ?_
  rintro e w1 ⟨g, cap, rfl, hg, hc, hm, hT, hw⟩
  have G1 := hide (G0.out.step hw)
  clear hw G0 hT
  go_wp2_with fail
  go_ret3
  exact ⟨rfl, G1.out.old⟩
set_option maxHeartbeats 1000000 in
theorem refWhat_not (a b c d n : Int) (w : World) (h : ¬ mayP a b c d) :
    Calls Try.prog 19 #[geoV a b c d, .int .i64 n] w fun e w' => e = .returned (.tuple #[.int .u8 0, .int .i64 0, .int .i64 0]) ∧ Below w.heap.size w w' := by
  have G0 := hide (GAt.new w a b c d)
  have Hm := hide h
  clear h
  by_cases hn : n < 0
  · have v : decide (n < 0) = true := decide_eq_true hn
    clear hn
    unfold geoV
    go_enter Try.func19, Try.ntmps19
    go_wp2_with fail
    refine (refAll_no a b c d _ Hm.out).mono ?_
    rintro e w1 ⟨rfl, hw⟩
    have G1 := hide (G0.out.step hw)
    clear hw G0
    go_wp2_with fail
    go_ret3
    exact ⟨rfl, G1.out.old⟩
  · have v : decide (n < 0) = false := decide_eq_false hn
    have v2 : decide (0 ≤ n) = true := decide_eq_true (by omega)
    unfold geoV
    go_enter Try.func19, Try.ntmps19
    go_wp2_with fail
    refine (refAll_no a b c d _ Hm.out).mono ?_
    rintro e w1 ⟨rfl, hw⟩
    have G1 := hide (G0.out.step hw)
    clear hw G0
    go_wp2_with fail
    go_ret3
    exact ⟨rfl, G1.out.old⟩
theorem refWhat_any (a b c d n : Int) (w : World) (h : mayP a b c d) :
    Calls Try.prog 19 #[geoV a b c d, .int .i64 n] w fun e w' => e = .returned (.tuple #[.int .u8 (thingK a b c d n), .int .i64 (thingG a b c d n), .int .i64 (thingA a b c d n)]) ∧ Below w.heap.size w w' := by
  have hd : 40 ≤ d ∧ d ≤ 256 := h.2.2.2.2.1
  have p0 := h.mul
  by_cases h0 : n < 0 ∨ 2 + d + a * b ≤ n
  · have z : Ending.returned (.tuple #[.int .u8 0, .int .i64 0, .int .i64 0]) = .returned (.tuple #[.int .u8 (thingK a b c d n), .int .i64 (thingG a b c d n), .int .i64 (thingA a b c d n)]) := tup_eq
      (by unfold thingK; rw [if_pos h0]) (by unfold thingG; rw [if_neg (by omega)]) (by unfold thingA; rw [if_neg (by omega), if_neg (by omega)])
    rcases h0 with h0 | h0
    · exact (refWhat_neg a b c d n w h h0).mono fun e w' ⟨he, hw⟩ => ⟨he.trans z, hw⟩
    · exact (refWhat_far a b c d n w h h0).mono fun e w' ⟨he, hw⟩ => ⟨he.trans z, hw⟩
  · obtain ⟨k, rfl⟩ := Int.eq_ofNat_of_zero_le (show 0 ≤ n by omega)
    exact refWhat_in a b c d k w h (by omega)

theorem refBlocks_any (a b c d : Int) (w : World) : Calls Try.prog 23 #[geoV a b c d] w fun e w' => e = .returned (.int .i64 (ifMay a b c d (2 + d + a * b))) ∧ Below w.heap.size w w' := by
  have G0 := hide (GAt.new w a b c d)
  by_cases h : mayP a b c d
  · obtain ⟨N, hN, hN1, hN2, hN3⟩ := total_nat h
    have Hm := hide h
    have HN := hide hN
    have HE : Hid (ifMay a b c d (2 + d + a * b) = (N : Int)) := by unfold ifMay; rw [Hid, if_pos h, hN1]
    clear h hN hN1
    rw [HE.out]
    unfold geoV
    go_enter Try.func23, Try.ntmps23
    go_wp2_with fail
    refine (refAll_some N _ Hm.out HN.out (by omega)).mono ?_
    rintro e w1 ⟨g, cap, rfl, hg, hc, hm, hT, hw⟩
    have G1 := hide (G0.out.step hw)
    clear hw G0 hT
    go_wp2_with fail
    go_ret
    exact ⟨rfl, G1.out.old⟩
  · have Hm := hide h
    have HE : Hid (ifMay a b c d (2 + d + a * b) = 0) := by unfold ifMay; rw [Hid, if_neg h]
    clear h
    rw [HE.out]
    unfold geoV
    go_enter Try.func23, Try.ntmps23
    go_wp2_with fail
    refine (refAll_no a b c d _ Hm.out).mono ?_
    rintro e w1 ⟨rfl, hw⟩
    have G1 := hide (G0.out.step hw)
    clear hw G0
    go_wp2_with fail
    go_ret
    exact ⟨rfl, G1.out.old⟩
theorem refInodes_any (a b c d : Int) (w : World) : Calls Try.prog 25 #[geoV a b c d] w fun e w' => e = .returned (.int .i64 (ifMay a b c d (a * c))) ∧ Below w.heap.size w w' := by
  have G0 := hide (GAt.new w a b c d)
  by_cases h : mayP a b c d
  · have Hm : Hid (mayB a b c d = true) := decide_eq_true h
    have HE : Hid (ifMay a b c d (a * c) = a * c) := by unfold ifMay; rw [Hid, if_pos h]
    have hc := h.mulc
    obtain ⟨c0, c1⟩ := hc
    clear h
    rw [HE.out]
    unfold geoV
    go_enter Try.func25, Try.ntmps25
    go_wp2_with fail
    refine (refMay_any a b c d _).mono ?_
    rintro e w1 ⟨rfl, hw⟩
    rw [Hm.out]
    have G1 := hide (G0.out.step hw)
    clear hw G0
    obtain ⟨k0, k1, k2, k3⟩ := G1.out.cells
    go_wp2_with fail
    go_ret
    exact ⟨rfl, G1.out.old⟩
  · have Hm : Hid (mayB a b c d = false) := decide_eq_false h
    have HE : Hid (ifMay a b c d (a * c) = 0) := by unfold ifMay; rw [Hid, if_neg h]
    clear h
    rw [HE.out]
    unfold geoV
    go_enter Try.func25, Try.ntmps25
    go_wp2_with fail
    refine (refMay_any a b c d _).mono ?_
    rintro e w1 ⟨rfl, hw⟩
    rw [Hm.out]
    have G1 := hide (G0.out.step hw)
    clear hw G0
    go_wp2_with fail
    go_ret
    exact ⟨rfl, G1.out.old⟩
set_option maxHeartbeats 1000000 in
theorem refNumber_yes (a b c d g i : Int) (w : World) (h : bitP a b c d g i) :
    Calls Try.prog 14 #[geoV a b c d, .int .i64 g, .int .i64 i] w fun e w' => e = .returned (.int .i64 (1 + g * c + i)) ∧ Below w.heap.size w w' := by
  have G0 := hide (GAt.new w a b c d)
  have Hm : Hid (mayB a b c d = true) := decide_eq_true h.1.1
  have hc : 4 ≤ c ∧ c ≤ 64 := h.1.1.2.2.1
  have ha : 1 ≤ a ∧ a ≤ 4 := h.1.1.1
  have m0 : 0 ≤ g * c := Int.mul_nonneg h.1.2.1 (by omega)
  have m1 : g * c ≤ 256 := Int.le_trans (Int.mul_le_mul_of_nonneg_right (show g ≤ a by have := h.1.2.2; omega) (by omega)) h.1.1.mulc.2
  obtain ⟨⟨hm, g0, g1⟩, i0, i1⟩ := h
  have t1 : decide (g < 0) = false := decide_eq_false (by omega)
  have t2 : decide (a ≤ g) = false := decide_eq_false (by omega)
  have t3 : decide (i < 0) = false := decide_eq_false (by omega)
  have t4 : decide (c ≤ i) = false := decide_eq_false (by omega)
  have i2 : i ≤ 64 := by omega
  clear hm hc ha
  unfold geoV
  go_enter Try.func14, Try.ntmps14
  go_wp2_with fail
  refine (refMay_any a b c d _).mono ?_
  rintro e w1 ⟨rfl, hw⟩
  rw [Hm.out]
  have G1 := hide (G0.out.step hw)
  clear hw G0
  obtain ⟨k0, k1, k2, k3⟩ := G1.out.cells
  go_wp2_with fail
  go_ret
  exact ⟨rfl, G1.out.old⟩
set_option maxHeartbeats 1000000 in
theorem refNumber_no (a b c d g i : Int) (w : World) (h : ¬ bitP a b c d g i) :
    Calls Try.prog 14 #[geoV a b c d, .int .i64 g, .int .i64 i] w fun e w' => e = .returned (.int .i64 0) ∧ Below w.heap.size w w' := by
  have G0 := hide (GAt.new w a b c d)
  by_cases hm : mayP a b c d
  case neg =>
    have Hm : Hid (mayB a b c d = false) := decide_eq_false hm
    clear h hm
    unfold geoV
    go_enter Try.func14, Try.ntmps14
    go_wp2_with fail
    refine (refMay_any a b c d _).mono ?_
    rintro e w1 ⟨rfl, hw⟩
    rw [Hm.out]
    have G1 := hide (G0.out.step hw)
    clear hw G0
    go_wp2_with fail
    go_ret
    exact ⟨rfl, G1.out.old⟩
  case pos =>
    have Hm : Hid (mayB a b c d = true) := decide_eq_true hm
    by_cases t1 : g < 0
    case pos =>
      have v1 : decide (g < 0) = true := decide_eq_true t1
      clear h hm t1
      unfold geoV
      go_enter Try.func14, Try.ntmps14
      go_wp2_with fail
      refine (refMay_any a b c d _).mono ?_
      rintro e w1 ⟨rfl, hw⟩
      rw [Hm.out]
      have G1 := hide (G0.out.step hw)
      clear hw G0
      go_wp2_with fail
      go_ret
      exact ⟨rfl, G1.out.old⟩
    have v1 : decide (g < 0) = false := decide_eq_false t1
    by_cases t2 : a ≤ g
    case pos =>
      have v2 : decide (a ≤ g) = true := decide_eq_true t2
      clear h hm t1 t2
      unfold geoV
      go_enter Try.func14, Try.ntmps14
      go_wp2_with fail
      refine (refMay_any a b c d _).mono ?_
      rintro e w1 ⟨rfl, hw⟩
      rw [Hm.out]
      have G1 := hide (G0.out.step hw)
      clear hw G0
      obtain ⟨k0, k1, k2, k3⟩ := G1.out.cells
      go_wp2_with fail
      go_ret
      exact ⟨rfl, G1.out.old⟩
    have v2 : decide (a ≤ g) = false := decide_eq_false t2
    by_cases t3 : i < 0
    case pos =>
      have v3 : decide (i < 0) = true := decide_eq_true t3
      clear h hm t1 t2 t3
      unfold geoV
      go_enter Try.func14, Try.ntmps14
      go_wp2_with fail
      refine (refMay_any a b c d _).mono ?_
      rintro e w1 ⟨rfl, hw⟩
      rw [Hm.out]
      have G1 := hide (G0.out.step hw)
      clear hw G0
      obtain ⟨k0, k1, k2, k3⟩ := G1.out.cells
      go_wp2_with fail
      go_ret
      exact ⟨rfl, G1.out.old⟩
    have v3 : decide (i < 0) = false := decide_eq_false t3
    have v4 : decide (c ≤ i) = true := decide_eq_true (by
      have k : ¬ i ≤ c - 1 := fun k => h ⟨⟨hm, by omega, by omega⟩, by omega, k⟩
      omega)
    clear h hm t1 t2 t3
    unfold geoV
    go_enter Try.func14, Try.ntmps14
    go_wp2_with fail
    refine (refMay_any a b c d _).mono ?_
    rintro e w1 ⟨rfl, hw⟩
    rw [Hm.out]
    have G1 := hide (G0.out.step hw)
    clear hw G0
    obtain ⟨k0, k1, k2, k3⟩ := G1.out.cells
    go_wp2_with fail
    go_ret
    exact ⟨rfl, G1.out.old⟩
end Go.Proofs.Ytcigoodmkfnnfaa
