/- The walks of quernref05.Start, Data. -/
import Derived.Test.YtcigoodmkfnnfaaGeo16
namespace Go.Proofs.Ytcigoodmkfnnfaa
open Go.RowKit
set_option linter.unusedVariables false

theorem start_uniq {a b c d n g : Int} (h : mayP a b c d) (h0 : 0 ≤ n) (h1 : n < 2 + d + a * b) (hk : thingK a b c d n = 4) (hg : thingG a b c d n = g) : groupP a b c d g ∧ n = 2 + d + g * b := by
  obtain ⟨_, hgp, hf⟩ := thing_facts h h0 h1
  rw [hg] at hgp hf
  refine ⟨hgp, ?_⟩
  rcases hf with ⟨_, e⟩ | ⟨e, _⟩ | ⟨e, _⟩
  · have hb : 16 ≤ b ∧ b ≤ 512 := h.2.1
    have hc : 4 ≤ c ∧ c ≤ 64 := h.2.2.1
    have hd : 40 ≤ d ∧ d ≤ 256 := h.2.2.2.2.1
    by_cases hn : 2 + d ≤ n
    · have ha : thingA a b c d n = (n - (2 + d)) % b := by unfold thingA; rw [if_neg (by omega), if_pos ⟨hn, h1⟩]
      have r0 := Int.emod_nonneg (n - (2 + d)) (show b ≠ 0 by omega)
      have kk : thingK a b c d n = thingAt c ((n - (2 + d)) % b) := by unfold thingK; rw [if_neg (by omega), if_neg (by omega), if_neg (by omega), if_neg (by omega)]
      rw [hk] at kk
      rw [ha] at e
      unfold thingAt at kk
      generalize (n - (2 + d)) % b = r at *
      by_cases hr : r < 1
      · omega
      · rw [if_neg hr] at kk
        exfalso
        by_cases h2 : r < 2
        · rw [if_pos h2] at kk; omega
        · rw [if_neg h2] at kk
          by_cases h3 : r < 2 + c / 4
          · rw [if_pos h3] at kk; omega
          · rw [if_neg h3] at kk; omega
    · have ha : thingK a b c d n ≤ 3 := by
        unfold thingK
        rw [if_neg (by omega)]
        split
        · decide
        · split
          · decide
          · rw [if_pos (by omega)]; decide
      omega
  · omega
  · omega

set_option maxRecDepth 100000 in
set_option maxHeartbeats 1000000 in
theorem refStart_yes (a b c d g : Int) (w : World) (h : groupP a b c d g) :
    Calls Try.prog 17 #[geoV a b c d, .int .i64 g] w fun e w' => e = .returned (.tuple #[.int .i64 (2 + d + g * b), .bool true]) ∧ Below w.heap.size w w' := by
  have G0 := hide (GAt.new w a b c d)
  obtain ⟨N, hN, hN1, hN2, hN3⟩ := total_nat h.1
  have Hm := hide h.1
  have Hg := hide h
  have HN := hide hN
  obtain ⟨t1, t2, t3⟩ := thing_first h
  have hb : 16 ≤ b ∧ b ≤ 512 := h.1.2.1
  have hd : 40 ≤ d ∧ d ≤ 256 := h.1.2.2.2.2.1
  have hmul := h.mul
  have hpN : 2 + d + g * b < 2 + d + a * b := by
    have := (thing_in (r := 0) h (by omega) (by omega)).2.2.2.2
    omega
  obtain ⟨p, hp⟩ := Int.eq_ofNat_of_zero_le (show 0 ≤ 2 + d + g * b by omega)
  rw [hp] at t1 t2 t3 hpN
  have HP := hide hp
  have hpN' : p < N := by omega
  have T1 := hide t1
  have T2 := hide t2
  have HU : Hid (∀ k : Nat, k < p → thingK a b c d k = 4 → thingG a b c d k ≠ g) := fun k hk h1 h2 => by
    have := (start_uniq Hm.out (by omega) (by omega) h1 h2).2
    have := HP.out
    omega
  rw [hp]
  clear h hN hN1 t1 t2 t3 hb hd hmul hp hpN
  unfold geoV
  go_enter Try.func17, Try.ntmps17
  go_wp2_with fail
  refine (refAll_some N _ Hm.out HN.out (by omega)).mono ?_
  rintro e w1 ⟨G, cap, rfl, hG, hc, hm, hT, hw⟩
  have G1 := hide (G0.out.step hw)
  have HT := hide hT
  clear hw G0 hT
  go_wp2_with fail
  go_loop [7] (fun i => ∃ k : Nat, k ≤ p ∧ i = .int .i64 k) (fun i => p - (intOf i).toNat)
  case atStart => exact ⟨0, Nat.zero_le _, rfl⟩
  case round =>
    obtain ⟨k, hk, rfl⟩ := hrel
    have hkN : k < N := by omega
    have hkN' : (k : Int) < N := by omega
    have z1 := HT.out.kind k hkN
    have z2 := HT.out.group k hkN
    by_cases hlt : k < p
    · have U := HU.out k hlt
      by_cases e4 : thingK a b c d k = 4
      · have f2 : (thingG a b c d k == g) = false := by simp [U e4]
        rw [e4] at z1
        clear U e4
        go_wp2_with fail
        go_round
        case rel => exact ⟨k + 1, by omega, by go_num⟩
        case measure => simp [intOf]; omega
      · have f1 : (thingK a b c d k == 4) = false := by simp [e4]
        clear U e4
        go_wp2_with fail
        go_round
        case rel => exact ⟨k + 1, by omega, by go_num⟩
        case measure => simp [intOf]; omega
    · obtain rfl : k = p := by omega
      rw [T1.out] at z1
      rw [T2.out] at z2
      go_wp2_with fail
      go_ret2
      exact ⟨rfl, G1.out.old⟩
set_option maxRecDepth 100000 in
set_option maxHeartbeats 1000000 in
theorem refStart_no (a b c d g : Int) (w : World) (h : ¬ groupP a b c d g) :
    Calls Try.prog 17 #[geoV a b c d, .int .i64 g] w fun e w' => e = .returned (.tuple #[.int .i64 0, .bool false]) ∧ Below w.heap.size w w' := by
  have G0 := hide (GAt.new w a b c d)
  by_cases hm : mayP a b c d
  case neg =>
    have Hm := hide hm
    clear h hm
    unfold geoV
    go_enter Try.func17, Try.ntmps17
    go_wp2_with fail
    refine (refAll_no a b c d _ Hm.out).mono ?_
    rintro e w1 ⟨rfl, hw⟩
    have G1 := hide (G0.out.step hw)
    clear hw G0
    go_wp2_with fail
    go_loop [7] (fun i => i = .int .i64 0) (fun i => 0)
    case atStart => rfl
    case round =>
      subst hrel
      go_wp2_with fail
      go_ret2
      exact ⟨rfl, G1.out.old⟩
  case pos =>
    obtain ⟨N, hN, hN1, hN2, hN3⟩ := total_nat hm
    have Hm := hide hm
    have HN := hide hN
    have HU : Hid (∀ k : Nat, k < N → thingK a b c d k = 4 → thingG a b c d k ≠ g) := fun k hk h1 h2 => h (start_uniq Hm.out (by omega) (by omega) h1 h2).1
    clear h hm hN hN1
    unfold geoV
    go_enter Try.func17, Try.ntmps17
    go_wp2_with fail
    refine (refAll_some N _ Hm.out HN.out (by omega)).mono ?_
    rintro e w1 ⟨G, cap, rfl, hG, hc, hm, hT, hw⟩
    have G1 := hide (G0.out.step hw)
    have HT := hide hT
    clear hw G0 hT
    go_wp2_with fail
    go_loop [7] (fun i => ∃ k : Nat, k ≤ N ∧ i = .int .i64 k) (fun i => N - (intOf i).toNat)
    case atStart => exact ⟨0, Nat.zero_le _, rfl⟩
    case round =>
      obtain ⟨k, hk, rfl⟩ := hrel
      by_cases hlt : k < N
      · have hkN' : (k : Int) < N := by omega
        have z1 := HT.out.kind k hlt
        have z2 := HT.out.group k hlt
        have U := HU.out k hlt
        by_cases e4 : thingK a b c d k = 4
        · have f2 : (thingG a b c d k == g) = false := by simp [U e4]
          rw [e4] at z1
          clear U e4
          go_wp2_with fail
          go_round
          case rel => exact ⟨k + 1, by omega, by go_num⟩
          case measure => simp [intOf]; omega
        · have f1 : (thingK a b c d k == 4) = false := by simp [e4]
          clear U e4
          go_wp2_with fail
          go_round
          case rel => exact ⟨k + 1, by omega, by go_num⟩
          case measure => simp [intOf]; omega
      · obtain rfl : k = N := by omega
        go_wp2_with fail
        go_ret2
        exact ⟨rfl, G1.out.old⟩

/-- How many of the first j blocks are data of group 0. -/
def dn (a b c d : Int) : Nat → Int
  | 0 => 0
  | j + 1 => dn a b c d j + if thingK a b c d j = 7 ∧ thingG a b c d j = 0 then 1 else 0
theorem dn_bd (a b c d : Int) : ∀ j : Nat, 0 ≤ dn a b c d j ∧ dn a b c d j ≤ j
  | 0 => by simp [dn]
  | j + 1 => by
    have := dn_bd a b c d j
    unfold dn
    split <;> omega
theorem dn_add (a b c d : Int) (j : Nat) (F : Nat → Int) (h0 : F 0 = 0) : ∀ m : Nat, (∀ r, r < m → F (r + 1) = F r + if thingK a b c d ((j + r : Nat) : Int) = 7 ∧ thingG a b c d ((j + r : Nat) : Int) = 0 then 1 else 0) → dn a b c d (j + m) = dn a b c d j + F m
  | 0, _ => by rw [h0]; simp
  | m + 1, h => by
    have ih := dn_add a b c d j F h0 m (fun r hr => h r (by omega))
    rw [← Nat.add_assoc, dn, ih, h m (by omega)]
    omega
theorem dn_total {a b c d : Int} (h : mayP a b c d) : dn a b c d (2 + d + a * b).toNat = b - 2 - c / 4 := by
  have ha : 1 ≤ a ∧ a ≤ 4 := h.1
  have hb : 16 ≤ b ∧ b ≤ 512 := h.2.1
  have hc : 4 ≤ c ∧ c ≤ 64 := h.2.2.1
  have hcb : 3 + c / 4 ≤ b := h.2.2.2.2.2.1
  have hd : 40 ≤ d ∧ d ≤ 256 := h.2.2.2.2.1
  have hp := h.mul
  have hab : b ≤ a * b := by
    have := Int.mul_le_mul_of_nonneg_right (show 1 ≤ a by omega) (show 0 ≤ b by omega)
    omega
  have e0 : dn a b c d (0 + (2 + d).toNat) = 0 := by
    rw [dn_add a b c d 0 (fun _ => 0) rfl (2 + d).toNat (fun r hr => ?_)]
    · rfl
    · rw [if_neg]
      · rfl
      · rintro ⟨h7, _⟩
        have : thingK a b c d ((0 + r : Nat) : Int) ≤ 3 := by
          unfold thingK
          rw [if_neg (by omega)]
          split
          · decide
          · split
            · decide
            · rw [if_pos (by omega)]; decide
        omega
  rw [Nat.zero_add] at e0
  have gp : groupP a b c d 0 := ⟨h, by omega, by omega⟩
  have e1 : dn a b c d ((2 + d).toNat + b.toNat) = b - 2 - c / 4 := by
    rw [dn_add a b c d (2 + d).toNat (fun r => pr c 7 r) (by unfold pr; rw [if_neg (by decide), if_neg (by decide), if_neg (by decide), if_pos rfl, if_pos (by omega)]) b.toNat (fun r hr => ?_), e0]
    · unfold pr
      rw [if_neg (by decide), if_neg (by decide), if_neg (by decide), if_pos rfl, if_neg (by omega)]
      omega
    · have t := thing_in (r := (r : Int)) gp (by omega) (by omega)
      have e2 : (((2 + d).toNat + r : Nat) : Int) = 2 + d + 0 * b + (r : Int) := by omega
      rw [e2, t.1, t.2.1]
      simp only [and_true]
      exact pr_step (r := (r : Int)) hc.1 (by omega)
  obtain ⟨m, hm⟩ : ∃ m : Nat, (2 + d + a * b).toNat = (2 + d).toNat + b.toNat + m := ⟨(2 + d + a * b).toNat - ((2 + d).toNat + b.toNat), by omega⟩
  rw [hm, dn_add a b c d _ (fun _ => 0) rfl m (fun r hr => ?_), e1]
  · omega
  · rw [if_neg]
    · rfl
    · rintro ⟨_, hg⟩
      obtain ⟨_, _, hf⟩ := thing_facts h (n := (((2 + d).toNat + b.toNat + r : Nat) : Int)) (by omega) (by omega)
      have hga : thingG a b c d (((2 + d).toNat + b.toNat + r : Nat) : Int) = ((((2 + d).toNat + b.toNat + r : Nat) : Int) - (2 + d)) / b := by unfold thingG; rw [if_pos (by omega)]
      rw [hga] at hg
      have := Int.ediv_le_ediv (show 0 < b by omega) (show b ≤ (((2 + d).toNat + b.toNat + r : Nat) : Int) - (2 + d) by omega)
      rw [Int.ediv_self (by omega)] at this
      omega

set_option maxRecDepth 100000 in
set_option maxHeartbeats 1000000 in
theorem refData_any (a b c d : Int) (w : World) : Calls Try.prog 27 #[geoV a b c d] w fun e w' => e = .returned (.int .i64 (ifMay a b c d (b - 2 - c / 4))) ∧ Below w.heap.size w w' := by
  have G0 := hide (GAt.new w a b c d)
  by_cases hm : mayP a b c d
  case neg =>
    have Hm := hide hm
    have HE : Hid (ifMay a b c d (b - 2 - c / 4) = 0) := by unfold ifMay; rw [Hid, if_neg hm]
    clear hm
    rw [HE.out]
    unfold geoV
    go_enter Try.func27, Try.ntmps27
    go_wp2_with fail
    refine (refAll_no a b c d _ Hm.out).mono ?_
    rintro e w1 ⟨rfl, hw⟩
    have G1 := hide (G0.out.step hw)
    clear hw G0
    go_wp2_with fail
    go_loop [4, 5] (fun n i => n = .int .i64 0 ∧ i = .int .i64 0) (fun _ i => 0)
    case atStart => exact ⟨rfl, rfl⟩
    case round =>
      obtain ⟨rfl, rfl⟩ := hrel
      go_wp2_with fail
      go_ret
      exact ⟨rfl, G1.out.old⟩
  case pos =>
    obtain ⟨N, hN, hN1, hN2, hN3⟩ := total_nat hm
    have Hm := hide hm
    have HN := hide hN
    have HE : Hid (ifMay a b c d (b - 2 - c / 4) = dn a b c d N) := by unfold ifMay; rw [Hid, if_pos hm, ← hN, dn_total hm]
    clear hm hN hN1
    rw [HE.out]
    unfold geoV
    go_enter Try.func27, Try.ntmps27
    go_wp2_with fail
    refine (refAll_some N _ Hm.out HN.out (by omega)).mono ?_
    rintro e w1 ⟨G, cap, rfl, hG, hc, hm, hT, hw⟩
    have G1 := hide (G0.out.step hw)
    have HT := hide hT
    clear hw G0 hT
    go_wp2_with fail
    go_loop [4, 5] (fun n i => ∃ k : Nat, k ≤ N ∧ i = .int .i64 k ∧ n = .int .i64 (dn a b c d k)) (fun _ i => N - (intOf i).toNat)
    case atStart => exact ⟨0, Nat.zero_le _, rfl, rfl⟩
    case round =>
      obtain ⟨k, hk, rfl, rfl⟩ := hrel
      by_cases hlt : k < N
      · have hkN' : (k : Int) < N := by omega
        have z1 := HT.out.kind k hlt
        have z2 := HT.out.group k hlt
        have bd := dn_bd a b c d k
        obtain ⟨bd0, bd1⟩ := bd
        have HS : Hid (dn a b c d (k + 1) = dn a b c d k + if thingK a b c d k = 7 ∧ thingG a b c d k = 0 then 1 else 0) := rfl
        by_cases e4 : thingK a b c d k = 7
        · by_cases e5 : thingG a b c d k = 0
          · have HS2 : Hid (dn a b c d (k + 1) = dn a b c d k + 1) := HS.out.trans (by rw [if_pos ⟨e4, e5⟩])
            rw [e4] at z1
            rw [e5] at z2
            clear e4 e5 HS
            generalize dn a b c d k = D at *
            go_wp2_with fail
            go_round
            case rel => exact ⟨k + 1, by omega, by go_num, by rw [HS2.out]⟩
            case measure => simp [intOf]; omega
          · have HS2 : Hid (dn a b c d (k + 1) = dn a b c d k) := HS.out.trans (by rw [if_neg (fun h => e5 h.2), Int.add_zero])
            have f2 : (thingG a b c d k == 0) = false := by simp [e5]
            rw [e4] at z1
            clear e4 e5 HS
            go_wp2_with fail
            go_round
            case rel => exact ⟨k + 1, by omega, by go_num, by rw [HS2.out]⟩
            case measure => simp [intOf]; omega
        · have HS2 : Hid (dn a b c d (k + 1) = dn a b c d k) := HS.out.trans (by rw [if_neg (fun h => e4 h.1), Int.add_zero])
          have f1 : (thingK a b c d k == 7) = false := by simp [e4]
          clear e4 HS
          go_wp2_with fail
          go_round
          case rel => exact ⟨k + 1, by omega, by go_num, by rw [HS2.out]⟩
          case measure => simp [intOf]; omega
      · obtain rfl : k = N := by omega
        go_wp2_with fail
        go_ret
        exact ⟨rfl, G1.out.old⟩
end Go.Proofs.Ytcigoodmkfnnfaa
