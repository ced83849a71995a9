/- The walks of quernref05.Inode, Home. -/
import Derived.Test.YtcigoodmkfnnfaaGeo17
namespace Go.Proofs.Ytcigoodmkfnnfaa
open Go.RowKit
set_option linter.unusedVariables false

theorem in_group {a b c d n : Int} (h : mayP a b c d) (h0 : 2 + d ≤ n) (h1 : n < 2 + d + a * b) : ∃ g r, groupP a b c d g ∧ 0 ≤ r ∧ r < b ∧ n = 2 + d + g * b + r := by
  have hb : 16 ≤ b ∧ b ≤ 512 := h.2.1
  have q0 : 0 ≤ (n - (2 + d)) / b := Int.ediv_nonneg (by omega) (by omega)
  have q1 : (n - (2 + d)) / b < a := Int.ediv_lt_of_lt_mul (by omega) (by omega)
  have r0 := Int.emod_nonneg (n - (2 + d)) (show b ≠ 0 by omega)
  have r1 := Int.emod_lt_of_pos (n - (2 + d)) (show 0 < b by omega)
  have e := Int.mul_ediv_add_emod (n - (2 + d)) b
  rw [Int.mul_comm] at e
  exact ⟨_, _, ⟨h, q0, by omega⟩, r0, r1, by omega⟩
theorem thing_low {a b c d n : Int} (h : mayP a b c d) (h0 : 0 ≤ n) (h1 : n < 2 + d) : thingK a b c d n ≤ 3 := by
  have hp := h.mul
  unfold thingK
  rw [if_neg (by omega)]
  split
  · decide
  · split
    · decide
    · first | decide | (rw [if_pos h1]; decide)
theorem thingI_bd {a b c d : Int} (h : mayP a b c d) (n : Int) : 0 ≤ thingI a b c d n ∧ thingI a b c d n ≤ 400 := by
  unfold thingI
  split
  · rename_i hn
    obtain ⟨g, r, hg, h0, h1, e⟩ := in_group h hn.1 hn.2
    have ti := thing_inI hg h0 h1
    rw [← e] at ti
    unfold thingI at ti
    rw [if_pos hn] at ti
    rw [ti]
    have hc : 4 ≤ c ∧ c ≤ 64 := h.2.2.1
    have m0 : 0 ≤ g * c := Int.mul_nonneg hg.2.1 (by omega)
    have m1 : g * c ≤ 256 := Int.le_trans (Int.mul_le_mul_of_nonneg_right (show g ≤ a by have := hg.2.2; omega) (by omega)) h.mulc.2
    unfold inoAt
    split <;> omega
  · omega
theorem ino_uniq {a b c d n j : Int} (h : mayP a b c d) (h0 : 0 ≤ j) (h1 : j < 2 + d + a * b) (hk : thingK a b c d j = 6) (hl : thingI a b c d j ≤ n) (hu : n < thingI a b c d j + 4) :
    inoP a b c d n ∧ j = 2 + d + (n - 1) / c * b + 2 + (n - 1) % c / 4 := by
  have hc : 4 ≤ c ∧ c ≤ 64 := h.2.2.1
  have hcm : c % 4 = 0 := h.2.2.2.1
  by_cases hj : j < 2 + d
  · have := thing_low h h0 hj
    omega
  · obtain ⟨g, r, hg, r0, r1, rfl⟩ := in_group h (by omega) h1
    rw [(thing_in hg r0 r1).1] at hk
    rw [thing_inI hg r0 r1] at hl hu
    unfold thingAt at hk
    have hr : 2 ≤ r ∧ r < 2 + c / 4 := by
      by_cases z1 : r < 1
      · rw [if_pos z1] at hk; omega
      · rw [if_neg z1] at hk
        by_cases z2 : r < 2
        · rw [if_pos z2] at hk; omega
        · rw [if_neg z2] at hk
          by_cases z3 : r < 2 + c / 4
          · omega
          · rw [if_neg z3] at hk; omega
    unfold inoAt at hl hu
    rw [if_pos hr] at hl hu
    have m0 : 0 ≤ g * c := Int.mul_nonneg hg.2.1 (by omega)
    have m1 : g * c + c ≤ a * c := by
      have := Int.mul_le_mul_of_nonneg_right (show g + 1 ≤ a by have := hg.2.2; omega) (show 0 ≤ c by omega)
      rw [Int.add_mul] at this; omega
    have e1 := Int.mul_ediv_add_emod (n - 1) c
    rw [Int.mul_comm] at e1
    have u0 := Int.emod_nonneg (n - 1) (show c ≠ 0 by omega)
    have u1 := Int.emod_lt_of_pos (n - 1) (show 0 < c by omega)
    obtain ⟨f1, f2⟩ := row_inj (b := c) (x := (n - 1) / c) (y := g) (r := (n - 1) % c) (s := n - 1 - g * c) u0 u1 (by omega) (by omega) (by omega)
    refine ⟨⟨h, by omega, by omega⟩, ?_⟩
    rw [f1, f2]
    omega
theorem ino_there {a b c d n : Int} (h : inoP a b c d n) : thingI a b c d (2 + d + (n - 1) / c * b + 2 + (n - 1) % c / 4) ≤ n ∧ n < thingI a b c d (2 + d + (n - 1) / c * b + 2 + (n - 1) % c / 4) + 4 ∧
    64 * (n - thingI a b c d (2 + d + (n - 1) / c * b + 2 + (n - 1) % c / 4)) = (n - 1) % c % 4 * 64 := by
  have hc : 4 ≤ c ∧ c ≤ 64 := h.1.2.2.1
  have hcm : c % 4 = 0 := h.1.2.2.2.1
  have hcb : 3 + c / 4 ≤ b := h.1.2.2.2.2.2.1
  have hb := home_back c n
  have u0 := Int.emod_nonneg (n - 1) (show c ≠ 0 by omega)
  have u1 := Int.emod_lt_of_pos (n - 1) (show 0 < c by omega)
  have hg := h.group
  generalize (n - 1) % c = u at *
  generalize (n - 1) / c = x at *
  have ti := thing_inI (r := 2 + u / 4) hg (by omega) (by omega)
  rw [show 2 + d + x * b + 2 + u / 4 = 2 + d + x * b + (2 + u / 4) by omega, ti]
  unfold inoAt
  rw [if_pos (by omega)]
  omega

set_option maxRecDepth 100000 in
set_option maxHeartbeats 1000000 in
theorem refInode_yes (a b c d n : Int) (w : World) (h : inoP a b c d n) :
    Calls Try.prog 11 #[geoV a b c d, .int .i64 n] w fun e w' => e = .returned (.tuple #[.int .i64 (2 + d + (n - 1) / c * b + 2 + (n - 1) % c / 4), .int .i64 ((n - 1) % c % 4 * 64), .bool true]) ∧ Below w.heap.size w w' := by
  have G0 := hide (GAt.new w a b c d)
  obtain ⟨N, hN, hN1, hN2, hN3⟩ := total_nat h.1
  have Hm := hide h.1
  have HN := hide hN
  have t := thing_table h
  have ti := ino_there h
  have hi : 1 ≤ n ∧ n ≤ 256 := ⟨h.2.1, Int.le_trans h.2.2 h.1.mulc.2⟩
  have hpN : 2 + d + (n - 1) / c * b + 2 + (n - 1) % c / 4 < 2 + d + a * b := by
    have hc : 4 ≤ c ∧ c ≤ 64 := h.1.2.2.1
    have hcm : c % 4 = 0 := h.1.2.2.2.1
    have hcb : 3 + c / 4 ≤ b := h.1.2.2.2.2.2.1
    have u0 := Int.emod_nonneg (n - 1) (show c ≠ 0 by omega)
    have u1 := Int.emod_lt_of_pos (n - 1) (show 0 < c by omega)
    have := (thing_in (r := 2 + (n - 1) % c / 4) h.group (by omega) (by omega)).2.2.2.2
    omega
  have HU : Hid (∀ j : Int, 0 ≤ j → j < 2 + d + a * b → j ≠ 2 + d + (n - 1) / c * b + 2 + (n - 1) % c / 4 → thingK a b c d j = 6 → thingI a b c d j ≤ n → ¬ n < thingI a b c d j + 4) := fun j h0 h1 hne hk hl hu => hne (ino_uniq Hm.out h0 h1 hk hl hu).2
  have HB : Hid (∀ j, 0 ≤ thingI a b c d j ∧ thingI a b c d j ≤ 400) := fun j => thingI_bd Hm.out j
  obtain ⟨p, hp⟩ := Int.eq_ofNat_of_zero_le (show 0 ≤ 2 + d + (n - 1) / c * b + 2 + (n - 1) % c / 4 from t.2.2.2.1)
  rw [hp] at t ti hpN HU
  have T1 := hide t.1
  have TI := hide ti
  have hpN' : p < N := by omega
  have HN1 := hide hN1
  obtain ⟨hi0, hi1⟩ := hi
  rw [hp]
  generalize (n - 1) % c % 4 * 64 = q at *
  clear h hN hN1 t ti hp hpN
  unfold geoV
  go_enter Try.func11, Try.ntmps11
  go_wp2_with fail
  refine (refAll_some N _ Hm.out HN.out (by omega)).mono ?_
  rintro e w1 ⟨G, cap, rfl, hG, hc, hm, hT, hw⟩
  have G1 := hide (G0.out.step hw)
  have HT := hide hT
  clear hw G0 hT
  go_wp2_with fail
  go_loop [8] (fun i => ∃ k : Nat, k ≤ p ∧ i = .int .i64 k) (fun i => p - (intOf i).toNat)
  case atStart => exact ⟨0, Nat.zero_le _, rfl⟩
  case round =>
    obtain ⟨k, hk, rfl⟩ := hrel
    have hkN : k < N := by omega
    have hkN' : (k : Int) < N := by omega
    have z1 := HT.out.kind k hkN
    have z2 := HT.out.ino k hkN
    obtain ⟨y0, y1⟩ := HB.out k
    by_cases hlt : k < p
    · have U := HU.out k (by omega) (by have := HN1.out; omega) (by omega)
      by_cases e4 : thingK a b c d k = 6
      · have U2 := U e4
        rw [e4] at z1
        clear U e4
        generalize thingI a b c d k = I at *
        by_cases e5 : I ≤ n
        · have f2 : decide (I ≤ n) = true := decide_eq_true e5
          have f3 : decide (n < I + 4) = false := decide_eq_false (by have := U2 e5; omega)
          clear U2 e5
          go_wp2_with fail
          go_round
          case rel => exact ⟨k + 1, by omega, by go_num⟩
          case measure => simp [intOf]; omega
        · have f2 : decide (I ≤ n) = false := decide_eq_false e5
          clear U2 e5
          go_wp2_with fail
          go_round
          case rel => exact ⟨k + 1, by omega, by go_num⟩
          case measure => simp [intOf]; omega
      · have f1 : (thingK a b c d k == 6) = false := by simp [e4]
        clear U e4
        go_wp2_with fail
        go_round
        case rel => exact ⟨k + 1, by omega, by go_num⟩
        case measure => simp [intOf]; omega
    · obtain rfl : k = p := by omega
      rw [T1.out] at z1
      have f2 : decide (thingI a b c d k ≤ n) = true := decide_eq_true TI.out.1
      have f3 : decide (n < thingI a b c d k + 4) = true := decide_eq_true TI.out.2.1
      have f4 := TI.out.2.2
      have f5 : 0 ≤ n - thingI a b c d k := by have := TI.out.1; omega
      have f6 : n - thingI a b c d k ≤ 3 := by have := TI.out.2.1; omega
      have F4 := hide f4
      clear f4
      generalize thingI a b c d k = I at *
      go_wp2_with fail
      go_quiet (fail)
      have hws : Hid (Below w.heap.size w (w1.drewN nq)) := G1.out.old.trans ((Still.of w1 nq).below _)
      go_wp2_with fail
      go_ret3
      rw [F4.out]
      exact ⟨rfl, hws.out⟩
set_option maxRecDepth 100000 in
set_option maxHeartbeats 1000000 in
theorem refInode_no (a b c d n : Int) (w : World) (h : ¬ inoP a b c d n) :
    Calls Try.prog 11 #[geoV a b c d, .int .i64 n] w fun e w' => e = .returned (.tuple #[.int .i64 0, .int .i64 0, .bool false]) ∧ Below w.heap.size w w' := by
  have G0 := hide (GAt.new w a b c d)
  by_cases hm : mayP a b c d
  case neg =>
    have Hm := hide hm
    clear h hm
    unfold geoV
    go_enter Try.func11, Try.ntmps11
    go_wp2_with fail
    refine (refAll_no a b c d _ Hm.out).mono ?_
    rintro e w1 ⟨rfl, hw⟩
    have G1 := hide (G0.out.step hw)
    clear hw G0
    go_wp2_with fail
    go_loop [8] (fun i => i = .int .i64 0) (fun i => 0)
    case atStart => rfl
    case round =>
      subst hrel
      go_wp2_with fail
      go_ret3
      exact ⟨rfl, G1.out.old⟩
  case pos =>
    obtain ⟨N, hN, hN1, hN2, hN3⟩ := total_nat hm
    have Hm := hide hm
    have HN := hide hN
    have HU : Hid (∀ k : Nat, k < N → thingK a b c d k = 6 → thingI a b c d k ≤ n → ¬ n < thingI a b c d k + 4) := fun k hk h1 h2 h3 => h (ino_uniq Hm.out (by omega) (by omega) h1 h2 h3).1
    have HB : Hid (∀ j, 0 ≤ thingI a b c d j ∧ thingI a b c d j ≤ 400) := fun j => thingI_bd Hm.out j
    clear h hm hN hN1
    unfold geoV
    go_enter Try.func11, Try.ntmps11
    go_wp2_with fail
    refine (refAll_some N _ Hm.out HN.out (by omega)).mono ?_
    rintro e w1 ⟨G, cap, rfl, hG, hc, hm, hT, hw⟩
    have G1 := hide (G0.out.step hw)
    have HT := hide hT
    clear hw G0 hT
    go_wp2_with fail
    go_loop [8] (fun i => ∃ k : Nat, k ≤ N ∧ i = .int .i64 k) (fun i => N - (intOf i).toNat)
    case atStart => exact ⟨0, Nat.zero_le _, rfl⟩
    case round =>
      obtain ⟨k, hk, rfl⟩ := hrel
      by_cases hlt : k < N
      · have hkN' : (k : Int) < N := by omega
        have z1 := HT.out.kind k hlt
        have z2 := HT.out.ino k hlt
        have U := HU.out k hlt
        obtain ⟨y0, y1⟩ := HB.out k
        by_cases e4 : thingK a b c d k = 6
        · have U2 := U e4
          rw [e4] at z1
          clear U e4
          generalize thingI a b c d k = I at *
          by_cases e5 : I ≤ n
          · have f2 : decide (I ≤ n) = true := decide_eq_true e5
            have f3 : decide (n < I + 4) = false := decide_eq_false (by have := U2 e5; omega)
            clear U2 e5
            go_wp2_with fail
            go_round
            case rel => exact ⟨k + 1, by omega, by go_num⟩
            case measure => simp [intOf]; omega
          · have f2 : decide (I ≤ n) = false := decide_eq_false e5
            clear U2 e5
            go_wp2_with fail
            go_round
            case rel => exact ⟨k + 1, by omega, by go_num⟩
            case measure => simp [intOf]; omega
        · have f1 : (thingK a b c d k == 6) = false := by simp [e4]
          clear U e4
          go_wp2_with fail
          go_round
          case rel => exact ⟨k + 1, by omega, by go_num⟩
          case measure => simp [intOf]; omega
      · obtain rfl : k = N := by omega
        go_wp2_with fail
        go_ret3
        exact ⟨rfl, G1.out.old⟩

set_option maxRecDepth 100000 in
set_option maxHeartbeats 1000000 in
theorem refHome_yes (a b c d n : Int) (w : World) (h : inoP a b c d n) :
    Calls Try.prog 13 #[geoV a b c d, .int .i64 n] w fun e w' => e = .returned (.tuple #[.int .i64 ((n - 1) / c), .int .i64 ((n - 1) % c), .bool true]) ∧ Below w.heap.size w w' := by
  have G0 := hide (GAt.new w a b c d)
  have HM := hide h.1
  have Hm : Hid (mayB a b c d = true) := decide_eq_true h.1
  have hc : 4 ≤ c ∧ c ≤ 64 := h.1.2.2.1
  have hb := home_back c n
  have hg := h.group
  have u0 := Int.emod_nonneg (n - 1) (show c ≠ 0 by omega)
  have u1 := Int.emod_lt_of_pos (n - 1) (show 0 < c by omega)
  have HB : Hid (1 + (n - 1) / c * c + (n - 1) % c = n) := by show _ = _; omega
  have HU : Hid (∀ x r : Int, 0 ≤ r → r < c → 1 + x * c + r = n → x = (n - 1) / c ∧ r = (n - 1) % c) := fun x r r0 r1 e => row_inj (b := c) r0 r1 u0 u1 (by omega)
  have x0 : 0 ≤ (n - 1) / c := hg.2.1
  have x1 : (n - 1) / c < a := by have := hg.2.2; omega
  have cb : c ≤ 64 := hc.2
  have ab : a ≤ 4 := h.1.1.2
  clear h hb hg hc
  generalize (n - 1) % c = U at *
  generalize (n - 1) / c = X at *
  unfold geoV
  go_enter Try.func13, Try.ntmps13
  go_wp2_with fail
  refine (refMay_any a b c d _).mono ?_
  rintro e w1 ⟨rfl, hw⟩
  rw [Hm.out]
  have G1 := hide (G0.out.step hw)
  clear hw G0
  go_wp2_with fail
  go_loopw [7] (fun i wr => ∃ x : Int, 0 ≤ x ∧ x ≤ X ∧ i = .int .i64 x ∧ GAt w w.heap.size a b c d wr) (fun i _ => (a - intOf i).toNat)
  case atStart => exact ⟨0, by omega, x0, rfl, G1.out⟩
  case round =>
    obtain ⟨x, y0, y1, rfl, hG⟩ := hrel
    have G2 := hide hG
    clear hG G1
    obtain ⟨wo, rfl⟩ : ∃ x : World, x = wr := ⟨_, rfl⟩
    obtain ⟨k0, k1, k2, k3⟩ := G2.out.cells
    have hlt : x < a := by omega
    go_wp2_with fail
    go_loopw [8] (fun i wr => ∃ r : Int, 0 ≤ r ∧ r ≤ c ∧ (x = X → r ≤ U) ∧ i = .int .i64 r ∧ GAt w w.heap.size a b c d wr) (fun i _ => (c - intOf i).toNat)
    case atStart => exact ⟨0, by omega, by omega, fun _ => u0, rfl, G2.out⟩
    case round =>
      obtain ⟨r, z0, z1, hz, rfl, hG⟩ := hrel
      have HZ := hide hz
      have G3 := hide hG
      clear hz hG G2 k0 k1 k2 k3
      obtain ⟨k0, k1, k2, k3⟩ := G3.out.cells
      by_cases hrl : r < c
      · go_wp2_with fail
        refine (refNumber_yes a b c d x r _ ⟨⟨HM.out, by omega, by omega⟩, by omega, by omega⟩).mono ?_
        rintro e w4 ⟨rfl, hw⟩
        have G4 := hide (G3.out.step hw)
        clear hw G3 k0 k1 k2 k3
        by_cases e : 1 + x * c + r = n
        · obtain ⟨rfl, rfl⟩ := HU.out x r z0 hrl e
          have f : (1 + x * c + r == n) = true := by simp [e]
          clear e
          go_wp2_with fail
          go_ret3
          exact ⟨rfl, G4.out.old⟩
        · have f : (1 + x * c + r == n) = false := by simp [e]
          have hne : x = X → r ≠ U := fun e1 e2 => e (by rw [e1, e2]; exact HB.out)
          have HNE := hide hne
          clear e hne
          go_wp2_with fail
          go_roundw
          case rel => exact ⟨r + 1, by omega, by omega, fun e => by have := HZ.out e; have := HNE.out e; omega, rfl, G4.out⟩
          case measure => simp [intOf]; omega
      · have hlx : x < X := by
          by_cases e : x = X
          · have := HZ.out e; omega
          · omega
        obtain rfl : r = c := by omega
        go_wp2_with fail
        go_roundw
        case rel => exact ⟨x + 1, by omega, by omega, rfl, G3.out⟩
        case measure => simp [intOf]; omega
set_option maxRecDepth 100000 in
set_option maxHeartbeats 1000000 in
theorem refHome_no (a b c d n : Int) (w : World) (h : ¬ inoP a b c d n) :
    Calls Try.prog 13 #[geoV a b c d, .int .i64 n] w fun e w' => e = .returned (.tuple #[.int .i64 0, .int .i64 0, .bool false]) ∧ Below w.heap.size w w' := by
  have G0 := hide (GAt.new w a b c d)
  by_cases hm : mayP a b c d
  case neg =>
    have Hm : Hid (mayB a b c d = false) := decide_eq_false hm
    clear h hm
    unfold geoV
    go_enter Try.func13, Try.ntmps13
    go_wp2_with fail
    refine (refMay_any a b c d _).mono ?_
    rintro e w1 ⟨rfl, hw⟩
    rw [Hm.out]
    have G1 := hide (G0.out.step hw)
    clear hw G0
    go_wp2_with fail
    go_ret3
    exact ⟨rfl, G1.out.old⟩
  case pos =>
    have HM := hide hm
    have Hm : Hid (mayB a b c d = true) := decide_eq_true hm
    have HU : Hid (∀ x r : Int, 0 ≤ x → x < a → 0 ≤ r → r < c → 1 + x * c + r ≠ n) := fun x r x0 x1 r0 r1 e => h ⟨HM.out, by have := Int.mul_nonneg x0 (show 0 ≤ c by omega); omega, by
      have := Int.mul_le_mul_of_nonneg_right (show x + 1 ≤ a by omega) (show 0 ≤ c by omega)
      rw [Int.add_mul] at this; omega⟩
    have cb : c ≤ 64 := hm.2.2.1.2
    have c0 : 4 ≤ c := hm.2.2.1.1
    have ab : 1 ≤ a ∧ a ≤ 4 := hm.1
    obtain ⟨a0, a1⟩ := ab
    clear h hm
    unfold geoV
    go_enter Try.func13, Try.ntmps13
    go_wp2_with fail
    refine (refMay_any a b c d _).mono ?_
    rintro e w1 ⟨rfl, hw⟩
    rw [Hm.out]
    have G1 := hide (G0.out.step hw)
    clear hw G0
    go_wp2_with fail
    go_loopw [7] (fun i wr => ∃ x : Int, 0 ≤ x ∧ x ≤ a ∧ i = .int .i64 x ∧ GAt w w.heap.size a b c d wr) (fun i _ => (a - intOf i).toNat)
    case atStart => exact ⟨0, by omega, by omega, rfl, G1.out⟩
    case round =>
      obtain ⟨x, y0, y1, rfl, hG⟩ := hrel
      have G2 := hide hG
      clear hG G1
      obtain ⟨wo, rfl⟩ : ∃ x : World, x = wr := ⟨_, rfl⟩
      obtain ⟨k0, k1, k2, k3⟩ := G2.out.cells
      by_cases hlt : x < a
      · go_wp2_with fail
        go_loopw [8] (fun i wr => ∃ r : Int, 0 ≤ r ∧ r ≤ c ∧ i = .int .i64 r ∧ GAt w w.heap.size a b c d wr) (fun i _ => (c - intOf i).toNat)
        case atStart => exact ⟨0, by omega, by omega, rfl, G2.out⟩
        case round =>
          obtain ⟨r, z0, z1, rfl, hG⟩ := hrel
          have G3 := hide hG
          clear hG G2 k0 k1 k2 k3
          obtain ⟨k0, k1, k2, k3⟩ := G3.out.cells
          by_cases hrl : r < c
          · go_wp2_with fail
            refine (refNumber_yes a b c d x r _ ⟨⟨HM.out, by omega, by omega⟩, by omega, by omega⟩).mono ?_
            rintro e w4 ⟨rfl, hw⟩
            have G4 := hide (G3.out.step hw)
            have f : (1 + x * c + r == n) = false := by simp [HU.out x r y0 hlt z0 hrl]
            clear hw G3 k0 k1 k2 k3
            go_wp2_with fail
            go_roundw
            case rel => exact ⟨r + 1, by omega, by omega, rfl, G4.out⟩
            case measure => simp [intOf]; omega
          · obtain rfl : r = c := by omega
            go_wp2_with fail
            go_roundw
            case rel => exact ⟨x + 1, by omega, by omega, rfl, G3.out⟩
            case measure => simp [intOf]; omega
      · obtain rfl : x = a := by omega
        go_wp2_with fail
        go_ret3
        exact ⟨rfl, G2.out.old⟩
end Go.Proofs.Ytcigoodmkfnnfaa
