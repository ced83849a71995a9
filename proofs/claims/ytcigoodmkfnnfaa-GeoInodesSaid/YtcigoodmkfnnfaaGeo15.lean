/- The walk of quernref05.All. -/
import Derived.Test.YtcigoodmkfnnfaaGeo14
import Derived.Test.YtcigoodmkfnnfaaGeo7
namespace Go.Proofs.Ytcigoodmkfnnfaa
open Go.RowKit
set_option linter.unusedVariables false

theorem refAll_no (a b c d : Int) (w : World) (h : ¬ mayP a b c d) : Calls Try.prog 29 #[geoV a b c d] w fun e w' => e = .returned (.slice none 0 0) ∧ Below w.heap.size w w' := by
  have G0 := hide (GAt.new w a b c d)
  have Hm : Hid (mayB a b c d = false) := decide_eq_false h
  clear h
  unfold geoV
  go_enter Try.func29, Try.ntmps29
  go_wp2_with fail
  refine (refMay_any a b c d _).mono ?_
  rintro e w1 ⟨rfl, hw⟩
  rw [Hm.out]
  have G1 := hide (G0.out.step hw)
  clear hw G0
  go_wp2_with fail
  go_ret
  exact ⟨rfl, G1.out.old⟩

theorem GAt.al {W w : World} {n : Nat} {a b c d : Int} (h : GAt W n a b c d w) (o : Obj) : GAt W n a b c d (w.alloc o) :=
  ⟨h.old.alloc h.old.size o, (Below.heap_alloc w o n (lt_of_block h.geo)).trans h.geo⟩
theorem th4_0 {a b c d : Int} (h : mayP a b c d) : th4 a b c d ((0 : Nat) : Int) = [.int .u8 1, .int .i64 0, .int .i64 0, .int .i64 0] := by
  have hd : 40 ≤ d ∧ d ≤ 256 := h.2.2.2.2.1
  have hp := h.mul
  unfold th4 thingK thingG thingA thingI
  rw [if_neg (by omega), if_pos (by decide), if_neg (by omega), if_neg (by omega), if_neg (by omega), if_neg (by omega)]
theorem th4_1 {a b c d : Int} (h : mayP a b c d) : th4 a b c d ((1 : Nat) : Int) = [.int .u8 2, .int .i64 0, .int .i64 0, .int .i64 0] := by
  have hd : 40 ≤ d ∧ d ≤ 256 := h.2.2.2.2.1
  have hp := h.mul
  unfold th4 thingK thingG thingA thingI
  rw [if_neg (by omega), if_neg (by decide), if_pos (by decide), if_neg (by omega), if_neg (by omega), if_neg (by omega), if_neg (by omega)]
theorem th4_journal {a b c d : Int} (h : mayP a b c d) (j : Nat) (hj : (j : Int) < d) : th4 a b c d ((2 + j : Nat) : Int) = [.int .u8 3, .int .i64 0, .int .i64 j, .int .i64 0] := by
  have hd : 40 ≤ d ∧ d ≤ 256 := h.2.2.2.2.1
  have hp := h.mul
  unfold th4 thingK thingG thingA thingI
  rw [if_neg (by omega), if_neg (by omega), if_neg (by omega), if_pos (by omega), if_neg (by omega), if_pos (by omega), if_neg (by omega), show ((2 + j : Nat) : Int) - 2 = j by omega]

theorem th4_at {a b c d g : Nat} (h : groupP a b c d g) (r : Nat) (hr : r < b) : th4 a b c d ((2 + d + g * b + r : Nat) : Int) = [.int .u8 (thingAt c r), .int .i64 g, .int .i64 r, .int .i64 (inoAt c g r)] :=
  th4_in h (by omega) (by omega) (by simp)
theorem int_eq {k : IntKind} {x y : Int} (h : x = y) : Value.int k x = .int k y := by rw [h]

set_option maxRecDepth 100000 in
set_option maxHeartbeats 4000000 in
theorem refAll_yes (a b c d : Int) (w : World) (h : mayP a b c d) : Calls Try.prog 29 #[geoV a b c d] w (AllPost a b c d w) := by
  obtain ⟨a, rfl⟩ := Int.eq_ofNat_of_zero_le (show 0 ≤ a by have := h.1.1; omega)
  obtain ⟨b, rfl⟩ := Int.eq_ofNat_of_zero_le (show 0 ≤ b by have := h.2.1.1; omega)
  obtain ⟨c, rfl⟩ := Int.eq_ofNat_of_zero_le (show 0 ≤ c by have := h.2.2.1.1; omega)
  obtain ⟨d, rfl⟩ := Int.eq_ofNat_of_zero_le (show 0 ≤ d by have := h.2.2.2.2.1.1; omega)
  have G0 := hide (GAt.new w a b c d)
  have HM := hide h
  have Hm : Hid (mayB a b c d = true) := decide_eq_true h
  have hN : (2 + (d : Int) + a * b).toNat = 2 + d + a * b := by
    have : (2 + (d : Int) + a * b) = ((2 + d + a * b : Nat) : Int) := by simp
    rw [this]; rfl
  have HN := hide hN
  have a0 : 1 ≤ a ∧ a ≤ 4 := by have := h.1; omega
  have b0 : 16 ≤ b ∧ b ≤ 512 := by have := h.2.1; omega
  have c0 : 4 ≤ c ∧ c ≤ 64 := by have := h.2.2.1; omega
  have d0 : 40 ≤ d ∧ d ≤ 256 := by have := h.2.2.2.2.1; omega
  have cm : c % 4 = 0 := by have := h.2.2.2.1; omega
  have cb : 3 + c / 4 ≤ b := by have := h.2.2.2.2.2.1; omega
  obtain ⟨a0, a1⟩ := a0
  obtain ⟨b0, b1⟩ := b0
  obtain ⟨c0, c1⟩ := c0
  obtain ⟨d0, d1⟩ := d0
  have CM := hide cm
  clear h hN cm
  unfold geoV
  go_enter Try.func29, Try.ntmps29
  go_wp2_with fail
  refine (refMay_any a b c d _).mono ?_
  rintro e w1 ⟨rfl, hw⟩
  rw [Hm.out]
  have G1 := hide (G0.out.step hw)
  clear hw G0
  obtain ⟨k0, k1, k2, k3⟩ := G1.out.cells
  have hz : w.heap.size < w1.heap.size := lt_of_block G1.out.geo
  go_wp2_with fail
  have R0 : Hid ((w1.alloc (.cells #[.int .u8 1, .int .i64 0, .int .i64 0, .int .i64 0, .int .u8 2, .int .i64 0, .int .i64 0, .int .i64 0] 41)).ownsRow (w.heap.size + 1) 41 4 (.slice (some ⟨w1.heap.size, 0, none⟩) 2 2) (2 + 0) (thL a b c d (2 + 0))) := by
    have := World.ownsRow_lit (base := w.heap.size + 1) (e := 41) (size := 4) w1 #[.int .u8 1, .int .i64 0, .int .i64 0, .int .i64 0, .int .u8 2, .int .i64 0, .int .i64 0, .int .i64 0] 2 hz (by decide) rfl
    rw [show (thL a b c d (2 + 0)) = [] ++ th4 a b c d ((0 : Nat) : Int) ++ th4 a b c d ((1 : Nat) : Int) from rfl, th4_0 HM.out, th4_1 HM.out]
    exact this
  go_loopw [3, 4] (fun v i wr => ∃ j : Nat, j ≤ d ∧ i = .int .i64 j ∧ wr.ownsRow (w.heap.size + 1) 41 4 v (2 + j) (thL a b c d (2 + j)) ∧ GAt w w.heap.size a b c d wr) (fun _ i _ => d - (intOf i).toNat)
  case atStart => exact ⟨0, Nat.zero_le _, rfl, R0.out, G1.out.al _⟩
  case round =>
    obtain ⟨j, hj, rfl, hown, hG⟩ := hrel
    have G2 := hide hG
    have R2 := hide hown
    clear hG hown R0 G1 k0 k1 k2 k3
    obtain ⟨k0, k1, k2, k3⟩ := G2.out.cells
    have hz2 : w.heap.size < wr.heap.size := lt_of_block G2.out.geo
    by_cases hlt : j < d
    · have hlt' : (j : Int) < d := by omega
      go_wp2_with (at_builtin; refine appT rfl (.tmp 21) (.tmp 24) rfl (w.heap.size + 1) (2 + j) 1 1 _ _ _ rfl R2.out rfl rfl (by simp [Value.oneCell']) (by omega) hz2 ?_; intro v2 w2 hown2 hbel2)
      have R3 : Hid (w2.ownsRow (w.heap.size + 1) 41 4 v2 (2 + (j + 1)) (thL a b c d (2 + (j + 1)))) := by
        rw [show thL a b c d (2 + (j + 1)) = thL a b c d (2 + j) ++ th4 a b c d ((2 + j : Nat) : Int) from rfl, th4_journal HM.out j hlt']
        exact hown2
      have G3 := hide (G2.out.grow hbel2 (Nat.lt_succ_self _) (Nat.le_succ _))
      clear hown2 hbel2 R2 G2
      go_roundw
      case rel => exact ⟨j + 1, by omega, by go_num, R3.out, G3.out⟩
      case measure => simp [intOf]; omega
    · obtain rfl : j = d := by omega
      go_wp2_with fail
      go_loopw [3, 5, 6] (fun v n i wr => ∃ g : Nat, g ≤ a ∧ i = .int .i64 g ∧ n = .int .i64 (1 + (g : Int) * c) ∧ wr.ownsRow (w.heap.size + 1) 41 4 v (2 + j + g * b) (thL a b c j (2 + j + g * b)) ∧ GAt w w.heap.size a b c j wr) (fun _ _ i _ => a - (intOf i).toNat)
      case atStart => exact ⟨0, Nat.zero_le _, rfl, by simp, by simpa using R2.out, G2.out⟩
      case round =>
        obtain ⟨g, hg, rfl, rfl, hown, hG⟩ := hrel
        have G3 := hide hG
        have R3 := hide hown
        clear hG hown R2 G2 k0 k1 k2 k3
        obtain ⟨wg, rfl⟩ : ∃ x : World, x = wr := ⟨_, rfl⟩
        obtain ⟨k0, k1, k2, k3⟩ := G3.out.cells
        have hz3 : w.heap.size < wg.heap.size := lt_of_block G3.out.geo
        by_cases hlg : g < a
        · have hlg' : (g : Int) < a := by omega
          have hgp : groupP a b c j g := ⟨HM.out, by omega, by omega⟩
          have GP := hide hgp
          have m0 : 0 ≤ (g : Int) * c := Int.mul_nonneg (by omega) (by omega)
          have m1 : (g : Int) * c ≤ 256 := Int.le_trans (Int.mul_le_mul_of_nonneg_right (by omega) (by omega)) HM.out.mulc.2
          clear hgp
          go_wp2_with (at_builtin; refine appT rfl (.tmp 32) (.tmp 37) rfl (w.heap.size + 1) (2 + j + g * b) 2 2 _ _ _ rfl R3.out rfl rfl (by simp [Value.oneCell']) (by have := Nat.mul_le_mul (show g ≤ 4 by omega) b1; omega) hz3 ?_; intro v4 w4 hown4 hbel4)
          have R4 : Hid (w4.ownsRow (w.heap.size + 1) 41 4 v4 (2 + j + g * b + (2 + 0)) (thL a b c j (2 + j + g * b + (2 + 0)))) := by
            rw [show thL a b c j (2 + j + g * b + (2 + 0)) = thL a b c j (2 + j + g * b) ++ th4 a b c j ((2 + j + g * b + 0 : Nat) : Int) ++ th4 a b c j ((2 + j + g * b + 1 : Nat) : Int) from rfl, th4_at GP.out 0 (by omega), th4_at GP.out 1 (by omega), List.append_assoc]
            exact hown4
          have G4 := hide (G3.out.grow hbel4 (Nat.lt_succ_self _) (Nat.le_succ _))
          clear hown4 hbel4 R3 G3 k0 k1 k2 k3 hz3
          go_loopw [3, 5, 7] (fun v n i wr => ∃ k : Nat, 4 * k ≤ c ∧ i = .int .i64 (4 * (k : Int)) ∧ n = .int .i64 (1 + (g : Int) * c + 4 * (k : Int)) ∧ wr.ownsRow (w.heap.size + 1) 41 4 v (2 + j + g * b + (2 + k)) (thL a b c j (2 + j + g * b + (2 + k))) ∧ GAt w w.heap.size a b c j wr) (fun _ _ i _ => c - (intOf i).toNat)
          case atStart => exact ⟨0, Nat.zero_le _, by simp, by simp, R4.out, G4.out⟩
          case round =>
            obtain ⟨k, hk, rfl, rfl, hown, hG⟩ := hrel
            have G5 := hide hG
            have R5 := hide hown
            clear hG hown R4 G4
            obtain ⟨wk, rfl⟩ : ∃ x : World, x = wr := ⟨_, rfl⟩
            obtain ⟨k0, k1, k2, k3⟩ := G5.out.cells
            have hz5 : w.heap.size < wk.heap.size := lt_of_block G5.out.geo
            by_cases hlk : 4 * k < c
            · have hlk' : 4 * (k : Int) < c := by omega
              go_wp2_with (at_builtin; refine appT rfl (.tmp 45) (.tmp 52) rfl (w.heap.size + 1) (2 + j + g * b + (2 + k)) 1 1 _ _ _ rfl R5.out rfl rfl (by simp [Value.oneCell']) (by have := Nat.mul_le_mul (show g ≤ 4 by omega) b1; omega) hz5 ?_; intro v6 w6 hown6 hbel6)
              have R6 : Hid (w6.ownsRow (w.heap.size + 1) 41 4 v6 (2 + j + g * b + (2 + (k + 1))) (thL a b c j (2 + j + g * b + (2 + (k + 1))))) := by
                rw [show thL a b c j (2 + j + g * b + (2 + (k + 1))) = thL a b c j (2 + j + g * b + (2 + k)) ++ th4 a b c j ((2 + j + g * b + (2 + k) : Nat) : Int) from rfl, th4_at GP.out (2 + k) (by omega)]
                have e1 : thingAt (c : Int) ((2 + k : Nat) : Int) = 6 := by have cm := CM.out; unfold thingAt; rw [if_neg (by omega), if_neg (by omega), if_pos (by omega)]
                have e2 : inoAt (c : Int) (g : Int) ((2 + k : Nat) : Int) = 1 + (g : Int) * c + 4 * (k : Int) := by have cm := CM.out; unfold inoAt; rw [if_pos (by omega)]; omega
                have e3 : ((2 + k : Nat) : Int) = 2 + (k : Int) := by omega
                rw [e1, e2, e3]
                exact hown6
              have G6 := hide (G5.out.grow hbel6 (Nat.lt_succ_self _) (Nat.le_succ _))
              clear hown6 hbel6 R5 G5
              go_roundw
              case rel => exact ⟨k + 1, by have cm := CM.out; omega, int_eq (by omega), int_eq (by omega), R6.out, G6.out⟩
              case measure => simp [intOf]; omega
            · have CK : Hid (k = c / 4) := by have := CM.out; show k = c / 4; omega
              have ck : 4 * k = c := by have := CM.out; omega
              have CE := hide ck
              clear ck
              have f0 : (c : Int) / 4 ≤ 16 := by omega
              have f1 : 0 ≤ (c : Int) / 4 := by omega
              go_wp2_with fail
              go_loopw [3, 8] (fun v i wr => ∃ r : Nat, 2 + c / 4 ≤ r ∧ r ≤ b ∧ i = .int .i64 r ∧ wr.ownsRow (w.heap.size + 1) 41 4 v (2 + j + g * b + r) (thL a b c j (2 + j + g * b + r)) ∧ GAt w w.heap.size a b c j wr) (fun _ i _ => b - (intOf i).toNat)
              case atStart => exact ⟨2 + k, by have := CK.out; omega, by have := CE.out; omega, int_eq (by have := CK.out; omega), R5.out, G5.out⟩
              case round =>
                obtain ⟨r, hr0, hr1, rfl, hown, hG⟩ := hrel
                have G6 := hide hG
                have R6 := hide hown
                clear hG hown R5 G5 k0 k1 k2 k3
                obtain ⟨wq, rfl⟩ : ∃ x : World, x = wr := ⟨_, rfl⟩
                obtain ⟨k0, k1, k2, k3⟩ := G6.out.cells
                have hz6 : w.heap.size < wq.heap.size := lt_of_block G6.out.geo
                by_cases hlr : r < b
                · have hlr' : (r : Int) < b := by omega
                  go_wp2_with (at_builtin; refine appT rfl (.tmp 66) (.tmp 70) rfl (w.heap.size + 1) (2 + j + g * b + r) 1 1 _ _ _ rfl R6.out rfl rfl (by simp [Value.oneCell']) (by have := Nat.mul_le_mul (show g ≤ 4 by omega) b1; omega) hz6 ?_; intro v7 w7 hown7 hbel7)
                  have R7 : Hid (w7.ownsRow (w.heap.size + 1) 41 4 v7 (2 + j + g * b + (r + 1)) (thL a b c j (2 + j + g * b + (r + 1)))) := by
                    rw [show thL a b c j (2 + j + g * b + (r + 1)) = thL a b c j (2 + j + g * b + r) ++ th4 a b c j ((2 + j + g * b + r : Nat) : Int) from rfl, th4_at GP.out r (by omega)]
                    have e1 : thingAt (c : Int) ((r : Nat) : Int) = 7 := by unfold thingAt; rw [if_neg (by omega), if_neg (by omega), if_neg (by omega)]
                    have e2 : inoAt (c : Int) (g : Int) ((r : Nat) : Int) = 0 := by unfold inoAt; rw [if_neg (by omega)]
                    rw [e1, e2]
                    exact hown7
                  have G7 := hide (G6.out.grow hbel7 (Nat.lt_succ_self _) (Nat.le_succ _))
                  clear hown7 hbel7 R6 G6
                  go_roundw
                  case rel => exact ⟨r + 1, by omega, by omega, by go_num, R7.out, G7.out⟩
                  case measure => simp [intOf]; omega
                · obtain rfl : r = b := by omega
                  have R7 : Hid (wq.ownsRow (w.heap.size + 1) 41 4 u3 (2 + j + (g + 1) * r) (thL a r c j (2 + j + (g + 1) * r))) := by
                    rw [show 2 + j + (g + 1) * r = 2 + j + g * r + r by rw [Nat.add_mul]; omega]; exact R6.out
                  go_wp2_with fail
                  go_roundw
                  case rel => exact ⟨g + 1, by omega, by go_num, int_eq (by have := CE.out; rw [show ((g + 1 : Nat) : Int) = (g : Int) + 1 by omega, Int.add_mul]; omega), R7.out, G6.out⟩
                  case measure => simp [intOf]; omega
        · obtain rfl : g = a := by omega
          go_wp2_with fail
          go_ret
          exact ⟨_, rfl, by rw [HN.out]; exact R3.out, G3.out.old⟩
end Go.Proofs.Ytcigoodmkfnnfaa
