/- The law GeoPlaces. -/
import Derived.Test.YtcigoodmkfnnfaaLStarts
namespace Go.Proofs.Ytcigoodmkfnnfaa
open Go.RowKit
set_option linter.unusedVariables false

/-- Block r of group g. -/
theorem thing_in {a b c d g r : Int} (h : groupP a b c d g) (hr0 : 0 ≤ r) (hr : r < b) : thingK a b c d (2 + d + g * b + r) = thingAt c r ∧ thingG a b c d (2 + d + g * b + r) = g ∧ thingA a b c d (2 + d + g * b + r) = r ∧ 0 ≤ 2 + d + g * b + r ∧ 2 + d + g * b + r < 2 + d + a * b := by
  have hb : 16 ≤ b ∧ b ≤ 512 := h.1.2.1
  have hd : 40 ≤ d ∧ d ≤ 256 := h.1.2.2.2.2.1
  have hg := h.mul
  have h1 := h.2.1
  have h2 := h.2.2
  have hlt : g * b + b ≤ a * b := by
    have := Int.mul_le_mul_of_nonneg_right (show g + 1 ≤ a by omega) (show 0 ≤ b by omega)
    rw [Int.add_mul] at this; omega
  have e : 2 + d + g * b + r - (2 + d) = r + b * g := by rw [Int.mul_comm b g]; omega
  have e1 : (r + b * g) % b = r := by rw [Int.add_mul_emod_self_left]; exact Int.emod_eq_of_lt hr0 hr
  have e2 : (r + b * g) / b = g := by rw [Int.add_mul_ediv_left _ _ (by omega), Int.ediv_eq_zero_of_lt hr0 hr]; omega
  refine ⟨?_, ?_, ?_, by omega, by omega⟩
  · unfold thingK; rw [if_neg (by omega), if_neg (by omega), if_neg (by omega), if_neg (by omega), e, e1]
  · unfold thingG; rw [if_pos (by omega), e, e2]
  · unfold thingA; rw [if_neg (by omega), if_pos (by omega), e, e1]
theorem thing_table {a b c d n : Int} (h : inoP a b c d n) : thingK a b c d (2 + d + (n - 1) / c * b + 2 + (n - 1) % c / 4) = 6 ∧ thingG a b c d (2 + d + (n - 1) / c * b + 2 + (n - 1) % c / 4) = (n - 1) / c ∧ thingA a b c d (2 + d + (n - 1) / c * b + 2 + (n - 1) % c / 4) = 2 + (n - 1) % c / 4 ∧ 0 ≤ 2 + d + (n - 1) / c * b + 2 + (n - 1) % c / 4 ∧ 2 + d + (n - 1) / c * b + 2 + (n - 1) % c / 4 < 2048 := by
  have hc : 4 ≤ c ∧ c ≤ 64 := h.1.2.2.1
  have hcm : c % 4 = 0 := h.1.2.2.2.1
  have hcb : 3 + c / 4 ≤ b := h.1.2.2.2.2.2.1
  have hto : 2 + d + a * b ≤ 2048 := h.1.2.2.2.2.2.2
  have u0 := Int.emod_nonneg (n - 1) (show c ≠ 0 by omega)
  have u1 := Int.emod_lt_of_pos (n - 1) (show 0 < c by omega)
  generalize (n - 1) % c = u at *
  have ht := thing_in (r := 2 + u / 4) h.group (by omega) (by omega)
  rw [show 2 + d + (n - 1) / c * b + 2 + u / 4 = 2 + d + (n - 1) / c * b + (2 + u / 4) by omega]
  refine ⟨ht.1.trans ?_, ht.2.1, ht.2.2.1, by omega, by omega⟩
  unfold thingAt
  rw [if_neg (by omega), if_neg (by omega), if_pos (by omega)]
/-- Where an inode stands, in bytes. -/
def posAt (b c d n : Int) : Int := (2 + d + (n - 1) / c * b + 2 + (n - 1) % c / 4) * 256 + (n - 1) % c % 4 * 64
def lastAt (b c d n : Int) : Int := if n = 1 then -1 else posAt b c d (n - 1)
theorem last_lt {a b c d n : Int} (h : inoP a b c d n) : lastAt b c d n < posAt b c d n := by
  have hc : 4 ≤ c ∧ c ≤ 64 := h.1.2.2.1
  have hcm : c % 4 = 0 := h.1.2.2.2.1
  have hcb : 3 + c / 4 ≤ b := h.1.2.2.2.2.2.1
  unfold lastAt
  by_cases e : n = 1
  · rw [if_pos e]
    have := (thing_table h).2.2.2.1
    unfold posAt
    have u0 := Int.emod_nonneg (n - 1) (show c ≠ 0 by omega)
    omega
  · rw [if_neg e]
    have hn := h.2.1
    unfold posAt
    have m0 := Int.emod_nonneg (n - 1 - 1) (show c ≠ 0 by omega)
    have m1 := Int.emod_lt_of_pos (n - 1 - 1) (show 0 < c by omega)
    have n0 := Int.emod_nonneg (n - 1) (show c ≠ 0 by omega)
    have n1 := Int.emod_lt_of_pos (n - 1) (show 0 < c by omega)
    have e1 := Int.mul_ediv_add_emod (n - 1 - 1) c
    have e2 := Int.mul_ediv_add_emod (n - 1) c
    generalize (n - 1 - 1) / c = x at *
    generalize (n - 1 - 1) % c = u at *
    generalize (n - 1) / c = y at *
    generalize (n - 1) % c = v at *
    by_cases hu : u + 1 < c
    · obtain ⟨f1, f2⟩ := row_inj (b := c) (x := x) (y := y) (r := u + 1) (s := v) (by omega) hu n0 n1 (by rw [Int.mul_comm x c, Int.mul_comm y c]; omega)
      subst f1 f2
      omega
    · obtain ⟨f1, f2⟩ := row_inj (b := c) (x := x + 1) (y := y) (r := 0) (s := v) (by omega) (by omega) n0 n1 (by rw [Int.add_mul, Int.mul_comm x c, Int.mul_comm y c]; omega)
      subst f1 f2
      rw [show (x + 1) * b = x * b + b by rw [Int.add_mul]; omega]
      omega

set_option maxRecDepth 100000 in
set_option maxHeartbeats 2000000 in
theorem geoPlaces_law (a b c d : Int) (w : World) :
    Calls Try.prog 6 #[geoV a b c d] w fun e w' => e = .returned (.bool true) ∧ Below w.heap.size w w' := by
  have G0 := hide (GAt.new w a b c d)
  have hI0 : 0 ≤ ifMay a b c d (a * c) ∧ ifMay a b c d (a * c) ≤ 256 := by
    unfold ifMay; split
    · exact mayP.mulc ‹_›
    · omega
  have P1 : Hid (∀ n, 1 ≤ n → n ≤ ifMay a b c d (a * c) → inoP a b c d n) := fun n h1 h2 => ino_iff.2 ⟨h1, h2⟩
  have P2 : Hid (¬ inoP a b c d (ifMay a b c d (a * c) + 1)) := fun h => by have := (ino_iff.1 h).2; omega
  have P3 : Hid (¬ inoP a b c d 0) := fun h => by have := h.2.1; omega
  generalize hI : ifMay a b c d (a * c) = I at *
  have HI := hide hI
  clear hI
  obtain ⟨i0, i1⟩ := hI0
  unfold geoV
  go_enter Try.func6, Try.ntmps6
  go_wp2_with fail
  refine (awake05_any _).mono ?_
  rintro e w1 ⟨rfl, hw⟩
  have G1 := hide (G0.out.step hw)
  clear hw G0
  obtain ⟨k0, k1, k2, k3⟩ := G1.out.cells
  go_wp2_with fail
  refine (inodes_any a b c d _).mono ?_
  rintro e w2 ⟨rfl, hw⟩
  rw [HI.out]
  have G2 := hide (G1.out.step hw)
  clear hw k0 k1 k2 k3 G1
  go_wp2_with fail
  go_loopw [4, 5] (fun l i wr => ∃ m L : Int, 1 ≤ m ∧ m ≤ I + 1 ∧ i = .int .i64 m ∧ l = .int .i64 L ∧ L = lastAt b c d m ∧ GAt w w.heap.size a b c d wr) (fun _ i _ => (I + 1 - intOf i).toNat)
  case atStart => exact ⟨1, -1, by omega, by omega, rfl, rfl, rfl, G2.out⟩
  case round =>
    obtain ⟨m, L, m0, m1, rfl, rfl, hL, hG⟩ := hrel
    have HL := hide hL
    have G3 := hide hG
    clear hL hG
    obtain ⟨k0, k1, k2, k3⟩ := G3.out.cells
    by_cases hlt : m ≤ I
    · have hino := P1.out m m0 hlt
      have Hino := hide hino
      have HB := hide (home_back c m)
      have hbit := Hid.out (hide hino.bitP)
      have HT := hide (thing_table hino)
      have HP : Hid (lastAt b c d m < posAt b c d m) := last_lt hino
      have HS : Hid (lastAt b c d (m + 1) = posAt b c d m) := by unfold lastAt; rw [Hid, if_neg (by omega), Int.add_sub_cancel]
      unfold posAt at HP HS
      have hc : 4 ≤ c ∧ c ≤ 64 := hino.1.2.2.1
      have u0 := hbit.2.1
      have u1 : (m - 1) % c ≤ 63 := by have := hbit.2.2; omega
      have Hbit := hide hbit
      clear hino hbit
      rw [← HL.out] at HP
      go_wp2_with fail
      refine (inode_yes a b c d m _ Hino.out).mono ?_
      rintro e w3 ⟨rfl, hw⟩
      have G4 := hide (G3.out.step hw)
      clear hw k0 k1 k2 k3 G3
      generalize hX : (m - 1) / c = X at *
      have HX := hide hX
      clear hX
      generalize hU : (m - 1) % c = U at *
      have HU := hide hU
      clear hU
      have t := HT.out.2.2.2
      obtain ⟨t0, t1⟩ := t
      generalize hp : 2 + d + X * b + 2 + U / 4 = p at *
      have Hp := hide hp
      clear hp
      have hv : decide (p * 256 + U % 4 * 64 ≤ L) = false := decide_eq_false (by have := HP.out; omega)
      obtain ⟨k0, k1, k2, k3⟩ := G4.out.cells
      go_wp2_with fail
      refine (home_yes a b c d m _ Hino.out).mono ?_
      rintro e w4 ⟨rfl, hw⟩
      rw [HX.out, HU.out]
      have G5 := hide (G4.out.step hw)
      clear hw k0 k1 k2 k3 G4
      obtain ⟨k0, k1, k2, k3⟩ := G5.out.cells
      go_wp2_with fail
      refine (what_any a b c d _ _ Hino.out.1).mono ?_
      rintro e w5 ⟨rfl, hw⟩
      rw [HT.out.1, HT.out.2.1, HT.out.2.2.1]
      have G6 := hide (G5.out.step hw)
      clear hw k0 k1 k2 k3 G5
      obtain ⟨k0, k1, k2, k3⟩ := G6.out.cells
      go_wp2_with fail
      refine (number_yes a b c d X U _ Hbit.out).mono ?_
      rintro e w6 ⟨rfl, hw⟩
      rw [HB.out]
      have G7 := hide (G6.out.step hw)
      clear hw k0 k1 k2 k3 G6
      go_wp2_with fail
      go_roundw
      case rel => exact ⟨m + 1, p * 256 + U % 4 * 64, by omega, by omega, rfl, rfl, HS.out.symm, G7.out⟩
      case measure => simp [intOf]; omega
    · obtain rfl : m = I + 1 := by omega
      go_wp2_with fail
      refine (inode_no a b c d _ _ P2.out).mono ?_
      rintro e w3 ⟨rfl, hw⟩
      have G4 := hide (G3.out.step hw)
      clear hw k0 k1 k2 k3 G3
      obtain ⟨k0, k1, k2, k3⟩ := G4.out.cells
      go_wp2_with fail
      refine (home_no a b c d 0 _ P3.out).mono ?_
      rintro e w4 ⟨rfl, hw⟩
      have G5 := hide (G4.out.step hw)
      clear hw k0 k1 k2 k3 G4
      go_wp2_with fail
      go_ret
      exact ⟨rfl, G5.out.old⟩
end Go.Proofs.Ytcigoodmkfnnfaa
