/- The law GeoNumbers. -/
import Derived.Test.YtcigoodmkfnnfaaGeo12
namespace Go.Proofs.Ytcigoodmkfnnfaa
open Go.RowKit
set_option linter.unusedVariables false

theorem ino_iff {a b c d n : Int} : inoP a b c d n ↔ 1 ≤ n ∧ n ≤ ifMay a b c d (a * c) := by
  unfold inoP ifMay
  by_cases h : mayP a b c d
  · rw [if_pos h]; exact ⟨fun k => k.2, fun k => ⟨h, k⟩⟩
  · rw [if_neg h]; exact ⟨fun k => absurd k.1 h, fun k => by omega⟩
theorem inoP.bitP {a b c d n : Int} (h : inoP a b c d n) : bitP a b c d ((n - 1) / c) ((n - 1) % c) := by
  have hc : 4 ≤ c ∧ c ≤ 64 := h.1.2.2.1
  exact ⟨h.group, Int.emod_nonneg _ (by omega), by have := Int.emod_lt_of_pos (n - 1) (show 0 < c by omega); omega⟩
theorem home_back (c n : Int) : (n - 1) / c * c + (n - 1) % c + 1 = n := by
  have := Int.mul_ediv_add_emod (n - 1) c
  rw [Int.mul_comm] at this
  omega
theorem row_inj {b x y r s : Int} (hr0 : 0 ≤ r) (hr : r < b) (hs0 : 0 ≤ s) (hs : s < b) (h : x * b + r = y * b + s) : x = y ∧ r = s := by
  rcases Int.lt_trichotomy x y with hl | hl | hl
  · have := Int.mul_le_mul_of_nonneg_right (show x + 1 ≤ y by omega) (show 0 ≤ b by omega)
    rw [Int.add_mul] at this; omega
  · subst hl; exact ⟨rfl, by omega⟩
  · have := Int.mul_le_mul_of_nonneg_right (show y + 1 ≤ x by omega) (show 0 ≤ b by omega)
    rw [Int.add_mul] at this; omega
theorem home_inj {c m n : Int} (h1 : (m - 1) / c = (n - 1) / c) (h2 : (m - 1) % c = (n - 1) % c) : m = n := by
  have e1 := home_back c m
  have e2 := home_back c n
  rw [h1, h2] at e1
  omega
theorem ino_inj {a b c d m n : Int} (hm : inoP a b c d m) (hn : inoP a b c d n)
    (h1 : 2 + d + (m - 1) / c * b + 2 + (m - 1) % c / 4 = 2 + d + (n - 1) / c * b + 2 + (n - 1) % c / 4) (h2 : (m - 1) % c % 4 * 64 = (n - 1) % c % 4 * 64) : m = n := by
  have hc : 4 ≤ c ∧ c ≤ 64 := hm.1.2.2.1
  have hcb : 3 + c / 4 ≤ b := hm.1.2.2.2.2.2.1
  have m0 := Int.emod_nonneg (m - 1) (show c ≠ 0 by omega)
  have m1 := Int.emod_lt_of_pos (m - 1) (show 0 < c by omega)
  have n0 := Int.emod_nonneg (n - 1) (show c ≠ 0 by omega)
  have n1 := Int.emod_lt_of_pos (n - 1) (show 0 < c by omega)
  obtain ⟨e1, e2⟩ := row_inj (b := b) (x := (m - 1) / c) (y := (n - 1) / c) (r := (m - 1) % c / 4) (s := (n - 1) % c / 4) (by omega) (by omega) (by omega) (by omega) (by omega)
  exact home_inj e1 (by omega)

set_option maxRecDepth 100000 in
set_option maxHeartbeats 2000000 in
theorem numbers_AA (a b c d m n : Int) (w : World) (hm : inoP a b c d m) (hn : inoP a b c d n) :
    Calls Try.prog 8 #[geoV a b c d, .int .i64 m, .int .i64 n] w fun e w' => e = .returned (.bool true) ∧ Below w.heap.size w w' := by
  have G0 := hide (GAt.new w a b c d)
  have Hm := hide hm
  obtain ⟨hm1, hm2⟩ := ino_iff.1 hm
  have Bm := hide (home_back c m)
  clear hm
  have Hn := hide hn
  obtain ⟨hn1, hn2⟩ := ino_iff.1 hn
  have Bn := hide (home_back c n)
  clear hn
  generalize hI : ifMay a b c d (a * c) = I at *
  have HI := hide hI
  clear hI
  unfold geoV
  go_enter Try.func8, Try.ntmps8
  go_wp2_with fail
  refine (awake05_any _).mono ?_
  rintro e w1 ⟨rfl, hw⟩
  have G1 := hide (G0.out.step hw)
  clear hw G0
  obtain ⟨k0, k1, k2, k3⟩ := G1.out.cells
  go_wp2_with fail
  refine (home_yes a b c d m _ Hm.out).mono ?_
  rintro e w2 ⟨rfl, hw⟩
  have G2 := hide (G1.out.step hw)
  clear hw G1 k0 k1 k2 k3
  generalize hXm : (m - 1) / c = X at *
  generalize hUm : (m - 1) % c = U at *
  have HXm := hide hXm
  have HUm := hide hUm
  clear hXm hUm
  obtain ⟨k0, k1, k2, k3⟩ := G2.out.cells
  go_wp2_with fail
  refine (home_yes a b c d n _ Hn.out).mono ?_
  rintro e w3 ⟨rfl, hw⟩
  have G3 := hide (G2.out.step hw)
  clear hw G2 k0 k1 k2 k3
  generalize hXn : (n - 1) / c = Y at *
  generalize hUn : (n - 1) % c = V at *
  have HXn := hide hXn
  have HUn := hide hUn
  clear hXn hUn
  obtain ⟨k0, k1, k2, k3⟩ := G3.out.cells
  go_wp2_with fail
  refine (inodes_any a b c d _).mono ?_
  rintro e w4 ⟨rfl, hw⟩
  rw [HI.out]
  have G4 := hide (G3.out.step hw)
  clear hw G3 k0 k1 k2 k3
  obtain ⟨k0, k1, k2, k3⟩ := G4.out.cells
  go_wp2_with fail
  refine (inodes_any a b c d _).mono ?_
  rintro e w5 ⟨rfl, hw⟩
  rw [HI.out]
  have G5 := hide (G4.out.step hw)
  clear hw G4 k0 k1 k2 k3
  obtain ⟨k0, k1, k2, k3⟩ := G5.out.cells
  go_wp2_with fail
  refine (number_yes a b c d X U _ (by rw [← HXm.out, ← HUm.out]; exact Hm.out.bitP)).mono ?_
  rintro e w6 ⟨rfl, hw⟩
  rw [Bm.out]
  have G6 := hide (G5.out.step hw)
  clear hw G5 k0 k1 k2 k3
  obtain ⟨k0, k1, k2, k3⟩ := G6.out.cells
  go_wp2_with fail
  refine (inode_yes a b c d m _ Hm.out).mono ?_
  rintro e w7 ⟨rfl, hw⟩
  rw [HXm.out, HUm.out]
  have G7 := hide (G6.out.step hw)
  clear hw G6 k0 k1 k2 k3
  obtain ⟨k0, k1, k2, k3⟩ := G7.out.cells
  go_wp2_with fail
  refine (inode_yes a b c d n _ Hn.out).mono ?_
  rintro e w8 ⟨rfl, hw⟩
  rw [HXn.out, HUn.out]
  have G8 := hide (G7.out.step hw)
  clear hw G7 k0 k1 k2 k3
  have L1 : Hid (X = Y → U = V → m = n) := fun e1 e2 => home_inj (c := c) (by rw [HXm.out, HXn.out]; exact e1) (by rw [HUm.out, HUn.out]; exact e2)
  have L2 : Hid (2 + d + X * b + 2 + U / 4 = 2 + d + Y * b + 2 + V / 4 → U % 4 * 64 = V % 4 * 64 → m = n) := fun e1 e2 => ino_inj Hm.out Hn.out (by rw [HXm.out, HXn.out, HUm.out, HUn.out]; exact e1) (by rw [HUm.out, HUn.out]; exact e2)
  have L3 : Hid (m = n → X = Y ∧ U = V) := fun e => by rw [← HXm.out, ← HXn.out, ← HUm.out, ← HUn.out, e]; exact ⟨rfl, rfl⟩
  by_cases e : m = n
  · obtain ⟨rfl, rfl⟩ := L3.out e
    subst e
    clear L1 L2 L3
    go_wp2_with fail
    go_ret
    exact ⟨rfl, G8.out.old⟩
  · generalize 2 + d + X * b + 2 + U / 4 = p at *
    generalize 2 + d + Y * b + 2 + V / 4 = q at *
    generalize U % 4 * 64 = r at *
    generalize V % 4 * 64 = s at *
    have e1 : (m == n) = false := by simp [e]
    by_cases f1 : X = Y
    all_goals by_cases f2 : p = q
    · have g1 : (U == V) = false := by simp; exact fun h => e (L1.out f1 h)
      have g0 : (X == Y) = true := by simp [f1]
      have g2 : (r == s) = false := by simp; exact fun h => e (L2.out f2 h)
      have g3 : (p == q) = true := by simp [f2]
      clear L1 L2 L3 e f1 f2
      go_wp2_with fail
      go_ret
      exact ⟨rfl, G8.out.old⟩
    · have g1 : (U == V) = false := by simp; exact fun h => e (L1.out f1 h)
      have g0 : (X == Y) = true := by simp [f1]
      have g3 : (p == q) = false := by simp [f2]
      clear L1 L2 L3 e f1 f2
      go_wp2_with fail
      go_ret
      exact ⟨rfl, G8.out.old⟩
    · have g0 : (X == Y) = false := by simp [f1]
      have g2 : (r == s) = false := by simp; exact fun h => e (L2.out f2 h)
      have g3 : (p == q) = true := by simp [f2]
      clear L1 L2 L3 e f1 f2
      go_wp2_with fail
      go_ret
      exact ⟨rfl, G8.out.old⟩
    · have g0 : (X == Y) = false := by simp [f1]
      have g3 : (p == q) = false := by simp [f2]
      clear L1 L2 L3 e f1 f2
      go_wp2_with fail
      go_ret
      exact ⟨rfl, G8.out.old⟩

set_option maxRecDepth 100000 in
set_option maxHeartbeats 2000000 in
theorem numbers_AB (a b c d m n : Int) (w : World) (hm : inoP a b c d m) (hn : ¬ inoP a b c d n) (hn1 : n < 1) :
    Calls Try.prog 8 #[geoV a b c d, .int .i64 m, .int .i64 n] w fun e w' => e = .returned (.bool true) ∧ Below w.heap.size w w' := by
  have G0 := hide (GAt.new w a b c d)
  have Hm := hide hm
  obtain ⟨hm1, hm2⟩ := ino_iff.1 hm
  have Bm := hide (home_back c m)
  clear hm
  have Hn := hide hn
  have vn : decide (1 ≤ n) = false := decide_eq_false (by omega)
  clear hn
  generalize hI : ifMay a b c d (a * c) = I at *
  have HI := hide hI
  clear hI
  unfold geoV
  go_enter Try.func8, Try.ntmps8
  go_wp2_with fail
  refine (awake05_any _).mono ?_
  rintro e w1 ⟨rfl, hw⟩
  have G1 := hide (G0.out.step hw)
  clear hw G0
  obtain ⟨k0, k1, k2, k3⟩ := G1.out.cells
  go_wp2_with fail
  refine (home_yes a b c d m _ Hm.out).mono ?_
  rintro e w2 ⟨rfl, hw⟩
  have G2 := hide (G1.out.step hw)
  clear hw G1 k0 k1 k2 k3
  generalize hXm : (m - 1) / c = X at *
  generalize hUm : (m - 1) % c = U at *
  have HXm := hide hXm
  have HUm := hide hUm
  clear hXm hUm
  obtain ⟨k0, k1, k2, k3⟩ := G2.out.cells
  go_wp2_with fail
  refine (home_no a b c d n _ Hn.out).mono ?_
  rintro e w3 ⟨rfl, hw⟩
  have G3 := hide (G2.out.step hw)
  clear hw G2 k0 k1 k2 k3
  obtain ⟨k0, k1, k2, k3⟩ := G3.out.cells
  go_wp2_with fail
  refine (inodes_any a b c d _).mono ?_
  rintro e w4 ⟨rfl, hw⟩
  rw [HI.out]
  have G4 := hide (G3.out.step hw)
  clear hw G3 k0 k1 k2 k3
  obtain ⟨k0, k1, k2, k3⟩ := G4.out.cells
  go_wp2_with fail
  refine (number_yes a b c d X U _ (by rw [← HXm.out, ← HUm.out]; exact Hm.out.bitP)).mono ?_
  rintro e w5 ⟨rfl, hw⟩
  rw [Bm.out]
  have G5 := hide (G4.out.step hw)
  clear hw G4 k0 k1 k2 k3
  go_wp2_with fail
  go_ret
  exact ⟨rfl, G5.out.old⟩

set_option maxRecDepth 100000 in
set_option maxHeartbeats 2000000 in
theorem numbers_AC (a b c d m n : Int) (w : World) (hm : inoP a b c d m) (hn : ¬ inoP a b c d n) (hn1 : 1 ≤ n) (hn2 : ifMay a b c d (a * c) < n) :
    Calls Try.prog 8 #[geoV a b c d, .int .i64 m, .int .i64 n] w fun e w' => e = .returned (.bool true) ∧ Below w.heap.size w w' := by
  have G0 := hide (GAt.new w a b c d)
  have Hm := hide hm
  obtain ⟨hm1, hm2⟩ := ino_iff.1 hm
  have Bm := hide (home_back c m)
  clear hm
  have Hn := hide hn
  have vn : decide (n ≤ ifMay a b c d (a * c)) = false := decide_eq_false (by omega)
  clear hn
  generalize hI : ifMay a b c d (a * c) = I at *
  have HI := hide hI
  clear hI
  unfold geoV
  go_enter Try.func8, Try.ntmps8
  go_wp2_with fail
  refine (awake05_any _).mono ?_
  rintro e w1 ⟨rfl, hw⟩
  have G1 := hide (G0.out.step hw)
  clear hw G0
  obtain ⟨k0, k1, k2, k3⟩ := G1.out.cells
  go_wp2_with fail
  refine (home_yes a b c d m _ Hm.out).mono ?_
  rintro e w2 ⟨rfl, hw⟩
  have G2 := hide (G1.out.step hw)
  clear hw G1 k0 k1 k2 k3
  generalize hXm : (m - 1) / c = X at *
  generalize hUm : (m - 1) % c = U at *
  have HXm := hide hXm
  have HUm := hide hUm
  clear hXm hUm
  obtain ⟨k0, k1, k2, k3⟩ := G2.out.cells
  go_wp2_with fail
  refine (home_no a b c d n _ Hn.out).mono ?_
  rintro e w3 ⟨rfl, hw⟩
  have G3 := hide (G2.out.step hw)
  clear hw G2 k0 k1 k2 k3
  obtain ⟨k0, k1, k2, k3⟩ := G3.out.cells
  go_wp2_with fail
  refine (inodes_any a b c d _).mono ?_
  rintro e w4 ⟨rfl, hw⟩
  rw [HI.out]
  have G4 := hide (G3.out.step hw)
  clear hw G3 k0 k1 k2 k3
  obtain ⟨k0, k1, k2, k3⟩ := G4.out.cells
  go_wp2_with fail
  refine (inodes_any a b c d _).mono ?_
  rintro e w5 ⟨rfl, hw⟩
  rw [HI.out]
  have G5 := hide (G4.out.step hw)
  clear hw G4 k0 k1 k2 k3
  obtain ⟨k0, k1, k2, k3⟩ := G5.out.cells
  go_wp2_with fail
  refine (number_yes a b c d X U _ (by rw [← HXm.out, ← HUm.out]; exact Hm.out.bitP)).mono ?_
  rintro e w6 ⟨rfl, hw⟩
  rw [Bm.out]
  have G6 := hide (G5.out.step hw)
  clear hw G5 k0 k1 k2 k3
  go_wp2_with fail
  go_ret
  exact ⟨rfl, G6.out.old⟩

set_option maxRecDepth 100000 in
set_option maxHeartbeats 2000000 in
theorem numbers_BA (a b c d m n : Int) (w : World) (hm : ¬ inoP a b c d m) (hm1 : m < 1) (hn : inoP a b c d n) :
    Calls Try.prog 8 #[geoV a b c d, .int .i64 m, .int .i64 n] w fun e w' => e = .returned (.bool true) ∧ Below w.heap.size w w' := by
  have G0 := hide (GAt.new w a b c d)
  have Hm := hide hm
  have vm : decide (1 ≤ m) = false := decide_eq_false (by omega)
  clear hm
  have Hn := hide hn
  obtain ⟨hn1, hn2⟩ := ino_iff.1 hn
  have Bn := hide (home_back c n)
  clear hn
  generalize hI : ifMay a b c d (a * c) = I at *
  have HI := hide hI
  clear hI
  unfold geoV
  go_enter Try.func8, Try.ntmps8
  go_wp2_with fail
  refine (awake05_any _).mono ?_
  rintro e w1 ⟨rfl, hw⟩
  have G1 := hide (G0.out.step hw)
  clear hw G0
  obtain ⟨k0, k1, k2, k3⟩ := G1.out.cells
  go_wp2_with fail
  refine (home_no a b c d m _ Hm.out).mono ?_
  rintro e w2 ⟨rfl, hw⟩
  have G2 := hide (G1.out.step hw)
  clear hw G1 k0 k1 k2 k3
  obtain ⟨k0, k1, k2, k3⟩ := G2.out.cells
  go_wp2_with fail
  refine (home_yes a b c d n _ Hn.out).mono ?_
  rintro e w3 ⟨rfl, hw⟩
  have G3 := hide (G2.out.step hw)
  clear hw G2 k0 k1 k2 k3
  generalize hXn : (n - 1) / c = Y at *
  generalize hUn : (n - 1) % c = V at *
  have HXn := hide hXn
  have HUn := hide hUn
  clear hXn hUn
  obtain ⟨k0, k1, k2, k3⟩ := G3.out.cells
  go_wp2_with fail
  refine (inodes_any a b c d _).mono ?_
  rintro e w4 ⟨rfl, hw⟩
  rw [HI.out]
  have G4 := hide (G3.out.step hw)
  clear hw G3 k0 k1 k2 k3
  go_wp2_with fail
  go_ret
  exact ⟨rfl, G4.out.old⟩

set_option maxRecDepth 100000 in
set_option maxHeartbeats 2000000 in
theorem numbers_BB (a b c d m n : Int) (w : World) (hm : ¬ inoP a b c d m) (hm1 : m < 1) (hn : ¬ inoP a b c d n) (hn1 : n < 1) :
    Calls Try.prog 8 #[geoV a b c d, .int .i64 m, .int .i64 n] w fun e w' => e = .returned (.bool true) ∧ Below w.heap.size w w' := by
  have G0 := hide (GAt.new w a b c d)
  have Hm := hide hm
  have vm : decide (1 ≤ m) = false := decide_eq_false (by omega)
  clear hm
  have Hn := hide hn
  have vn : decide (1 ≤ n) = false := decide_eq_false (by omega)
  clear hn
  unfold geoV
  go_enter Try.func8, Try.ntmps8
  go_wp2_with fail
  refine (awake05_any _).mono ?_
  rintro e w1 ⟨rfl, hw⟩
  have G1 := hide (G0.out.step hw)
  clear hw G0
  obtain ⟨k0, k1, k2, k3⟩ := G1.out.cells
  go_wp2_with fail
  refine (home_no a b c d m _ Hm.out).mono ?_
  rintro e w2 ⟨rfl, hw⟩
  have G2 := hide (G1.out.step hw)
  clear hw G1 k0 k1 k2 k3
  obtain ⟨k0, k1, k2, k3⟩ := G2.out.cells
  go_wp2_with fail
  refine (home_no a b c d n _ Hn.out).mono ?_
  rintro e w3 ⟨rfl, hw⟩
  have G3 := hide (G2.out.step hw)
  clear hw G2 k0 k1 k2 k3
  go_wp2_with fail
  go_ret
  exact ⟨rfl, G3.out.old⟩

set_option maxRecDepth 100000 in
set_option maxHeartbeats 2000000 in
theorem numbers_BC (a b c d m n : Int) (w : World) (hm : ¬ inoP a b c d m) (hm1 : m < 1) (hn : ¬ inoP a b c d n) (hn1 : 1 ≤ n) (hn2 : ifMay a b c d (a * c) < n) :
    Calls Try.prog 8 #[geoV a b c d, .int .i64 m, .int .i64 n] w fun e w' => e = .returned (.bool true) ∧ Below w.heap.size w w' := by
  have G0 := hide (GAt.new w a b c d)
  have Hm := hide hm
  have vm : decide (1 ≤ m) = false := decide_eq_false (by omega)
  clear hm
  have Hn := hide hn
  have vn : decide (n ≤ ifMay a b c d (a * c)) = false := decide_eq_false (by omega)
  clear hn
  generalize hI : ifMay a b c d (a * c) = I at *
  have HI := hide hI
  clear hI
  unfold geoV
  go_enter Try.func8, Try.ntmps8
  go_wp2_with fail
  refine (awake05_any _).mono ?_
  rintro e w1 ⟨rfl, hw⟩
  have G1 := hide (G0.out.step hw)
  clear hw G0
  obtain ⟨k0, k1, k2, k3⟩ := G1.out.cells
  go_wp2_with fail
  refine (home_no a b c d m _ Hm.out).mono ?_
  rintro e w2 ⟨rfl, hw⟩
  have G2 := hide (G1.out.step hw)
  clear hw G1 k0 k1 k2 k3
  obtain ⟨k0, k1, k2, k3⟩ := G2.out.cells
  go_wp2_with fail
  refine (home_no a b c d n _ Hn.out).mono ?_
  rintro e w3 ⟨rfl, hw⟩
  have G3 := hide (G2.out.step hw)
  clear hw G2 k0 k1 k2 k3
  obtain ⟨k0, k1, k2, k3⟩ := G3.out.cells
  go_wp2_with fail
  refine (inodes_any a b c d _).mono ?_
  rintro e w4 ⟨rfl, hw⟩
  rw [HI.out]
  have G4 := hide (G3.out.step hw)
  clear hw G3 k0 k1 k2 k3
  go_wp2_with fail
  go_ret
  exact ⟨rfl, G4.out.old⟩

set_option maxRecDepth 100000 in
set_option maxHeartbeats 2000000 in
theorem numbers_CA (a b c d m n : Int) (w : World) (hm : ¬ inoP a b c d m) (hm1 : 1 ≤ m) (hm2 : ifMay a b c d (a * c) < m) (hn : inoP a b c d n) :
    Calls Try.prog 8 #[geoV a b c d, .int .i64 m, .int .i64 n] w fun e w' => e = .returned (.bool true) ∧ Below w.heap.size w w' := by
  have G0 := hide (GAt.new w a b c d)
  have Hm := hide hm
  have vm : decide (m ≤ ifMay a b c d (a * c)) = false := decide_eq_false (by omega)
  clear hm
  have Hn := hide hn
  obtain ⟨hn1, hn2⟩ := ino_iff.1 hn
  have Bn := hide (home_back c n)
  clear hn
  generalize hI : ifMay a b c d (a * c) = I at *
  have HI := hide hI
  clear hI
  unfold geoV
  go_enter Try.func8, Try.ntmps8
  go_wp2_with fail
  refine (awake05_any _).mono ?_
  rintro e w1 ⟨rfl, hw⟩
  have G1 := hide (G0.out.step hw)
  clear hw G0
  obtain ⟨k0, k1, k2, k3⟩ := G1.out.cells
  go_wp2_with fail
  refine (home_no a b c d m _ Hm.out).mono ?_
  rintro e w2 ⟨rfl, hw⟩
  have G2 := hide (G1.out.step hw)
  clear hw G1 k0 k1 k2 k3
  obtain ⟨k0, k1, k2, k3⟩ := G2.out.cells
  go_wp2_with fail
  refine (home_yes a b c d n _ Hn.out).mono ?_
  rintro e w3 ⟨rfl, hw⟩
  have G3 := hide (G2.out.step hw)
  clear hw G2 k0 k1 k2 k3
  generalize hXn : (n - 1) / c = Y at *
  generalize hUn : (n - 1) % c = V at *
  have HXn := hide hXn
  have HUn := hide hUn
  clear hXn hUn
  obtain ⟨k0, k1, k2, k3⟩ := G3.out.cells
  go_wp2_with fail
  refine (inodes_any a b c d _).mono ?_
  rintro e w4 ⟨rfl, hw⟩
  rw [HI.out]
  have G4 := hide (G3.out.step hw)
  clear hw G3 k0 k1 k2 k3
  obtain ⟨k0, k1, k2, k3⟩ := G4.out.cells
  go_wp2_with fail
  refine (inodes_any a b c d _).mono ?_
  rintro e w5 ⟨rfl, hw⟩
  rw [HI.out]
  have G5 := hide (G4.out.step hw)
  clear hw G4 k0 k1 k2 k3
  go_wp2_with fail
  go_ret
  exact ⟨rfl, G5.out.old⟩

set_option maxRecDepth 100000 in
set_option maxHeartbeats 2000000 in
theorem numbers_CB (a b c d m n : Int) (w : World) (hm : ¬ inoP a b c d m) (hm1 : 1 ≤ m) (hm2 : ifMay a b c d (a * c) < m) (hn : ¬ inoP a b c d n) (hn1 : n < 1) :
    Calls Try.prog 8 #[geoV a b c d, .int .i64 m, .int .i64 n] w fun e w' => e = .returned (.bool true) ∧ Below w.heap.size w w' := by
  have G0 := hide (GAt.new w a b c d)
  have Hm := hide hm
  have vm : decide (m ≤ ifMay a b c d (a * c)) = false := decide_eq_false (by omega)
  clear hm
  have Hn := hide hn
  have vn : decide (1 ≤ n) = false := decide_eq_false (by omega)
  clear hn
  generalize hI : ifMay a b c d (a * c) = I at *
  have HI := hide hI
  clear hI
  unfold geoV
  go_enter Try.func8, Try.ntmps8
  go_wp2_with fail
  refine (awake05_any _).mono ?_
  rintro e w1 ⟨rfl, hw⟩
  have G1 := hide (G0.out.step hw)
  clear hw G0
  obtain ⟨k0, k1, k2, k3⟩ := G1.out.cells
  go_wp2_with fail
  refine (home_no a b c d m _ Hm.out).mono ?_
  rintro e w2 ⟨rfl, hw⟩
  have G2 := hide (G1.out.step hw)
  clear hw G1 k0 k1 k2 k3
  obtain ⟨k0, k1, k2, k3⟩ := G2.out.cells
  go_wp2_with fail
  refine (home_no a b c d n _ Hn.out).mono ?_
  rintro e w3 ⟨rfl, hw⟩
  have G3 := hide (G2.out.step hw)
  clear hw G2 k0 k1 k2 k3
  obtain ⟨k0, k1, k2, k3⟩ := G3.out.cells
  go_wp2_with fail
  refine (inodes_any a b c d _).mono ?_
  rintro e w4 ⟨rfl, hw⟩
  rw [HI.out]
  have G4 := hide (G3.out.step hw)
  clear hw G3 k0 k1 k2 k3
  go_wp2_with fail
  go_ret
  exact ⟨rfl, G4.out.old⟩

set_option maxRecDepth 100000 in
set_option maxHeartbeats 2000000 in
theorem numbers_CC (a b c d m n : Int) (w : World) (hm : ¬ inoP a b c d m) (hm1 : 1 ≤ m) (hm2 : ifMay a b c d (a * c) < m) (hn : ¬ inoP a b c d n) (hn1 : 1 ≤ n) (hn2 : ifMay a b c d (a * c) < n) :
    Calls Try.prog 8 #[geoV a b c d, .int .i64 m, .int .i64 n] w fun e w' => e = .returned (.bool true) ∧ Below w.heap.size w w' := by
  have G0 := hide (GAt.new w a b c d)
  have Hm := hide hm
  have vm : decide (m ≤ ifMay a b c d (a * c)) = false := decide_eq_false (by omega)
  clear hm
  have Hn := hide hn
  have vn : decide (n ≤ ifMay a b c d (a * c)) = false := decide_eq_false (by omega)
  clear hn
  generalize hI : ifMay a b c d (a * c) = I at *
  have HI := hide hI
  clear hI
  unfold geoV
  go_enter Try.func8, Try.ntmps8
  go_wp2_with fail
  refine (awake05_any _).mono ?_
  rintro e w1 ⟨rfl, hw⟩
  have G1 := hide (G0.out.step hw)
  clear hw G0
  obtain ⟨k0, k1, k2, k3⟩ := G1.out.cells
  go_wp2_with fail
  refine (home_no a b c d m _ Hm.out).mono ?_
  rintro e w2 ⟨rfl, hw⟩
  have G2 := hide (G1.out.step hw)
  clear hw G1 k0 k1 k2 k3
  obtain ⟨k0, k1, k2, k3⟩ := G2.out.cells
  go_wp2_with fail
  refine (home_no a b c d n _ Hn.out).mono ?_
  rintro e w3 ⟨rfl, hw⟩
  have G3 := hide (G2.out.step hw)
  clear hw G2 k0 k1 k2 k3
  obtain ⟨k0, k1, k2, k3⟩ := G3.out.cells
  go_wp2_with fail
  refine (inodes_any a b c d _).mono ?_
  rintro e w4 ⟨rfl, hw⟩
  rw [HI.out]
  have G4 := hide (G3.out.step hw)
  clear hw G3 k0 k1 k2 k3
  obtain ⟨k0, k1, k2, k3⟩ := G4.out.cells
  go_wp2_with fail
  refine (inodes_any a b c d _).mono ?_
  rintro e w5 ⟨rfl, hw⟩
  rw [HI.out]
  have G5 := hide (G4.out.step hw)
  clear hw G4 k0 k1 k2 k3
  go_wp2_with fail
  go_ret
  exact ⟨rfl, G5.out.old⟩

theorem geoNumbers_law (a b c d m n : Int) (w : World) :
    Calls Try.prog 8 #[geoV a b c d, .int .i64 m, .int .i64 n] w fun e w' => e = .returned (.bool true) ∧ Below w.heap.size w w' := by
  have three : ∀ n, inoP a b c d n ∨ (¬ inoP a b c d n ∧ n < 1) ∨ (¬ inoP a b c d n ∧ 1 ≤ n ∧ ifMay a b c d (a * c) < n) := fun n => by
    by_cases h : inoP a b c d n
    · exact .inl h
    · by_cases h1 : n < 1
      · exact .inr (.inl ⟨h, h1⟩)
      · have : ¬ n ≤ ifMay a b c d (a * c) := fun k => h (ino_iff.2 ⟨by omega, k⟩)
        exact .inr (.inr ⟨h, by omega, by omega⟩)
  rcases three m with hm | ⟨hm, m1⟩ | ⟨hm, m1, m2⟩ <;> rcases three n with hn | ⟨hn, n1⟩ | ⟨hn, n1, n2⟩
  · exact numbers_AA a b c d m n w hm hn
  · exact numbers_AB a b c d m n w hm hn n1
  · exact numbers_AC a b c d m n w hm hn n1 n2
  · exact numbers_BA a b c d m n w hm m1 hn
  · exact numbers_BB a b c d m n w hm m1 hn n1
  · exact numbers_BC a b c d m n w hm m1 hn n1 n2
  · exact numbers_CA a b c d m n w hm m1 m2 hn
  · exact numbers_CB a b c d m n w hm m1 m2 hn n1
  · exact numbers_CC a b c d m n w hm m1 m2 hn n1 n2
end Go.Proofs.Ytcigoodmkfnnfaa
