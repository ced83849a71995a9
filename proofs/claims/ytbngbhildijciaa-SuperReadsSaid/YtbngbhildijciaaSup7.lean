/- The walk of super.WriteDescs, to the end. -/
import Derived.Test.YtbngbhildijciaaSup6
namespace Go.Proofs.Ytbngbhildijciaa
open Go.RowKit
set_option linter.unusedVariables false

theorem wd_yes {a b c d : Int} {n : Nat} {D : Nat → De} (h : mayP a b c d) (hn : (n : Int) = a) (hm : mayDs b c n D) : wdC a b c d n D = 0 ∧ wdF a b c d n D = sealF (descF D n) := by
  unfold wdC wdF
  rw [if_pos h, if_pos ⟨hn, hm⟩, if_pos ⟨h, hn, hm⟩]; exact ⟨rfl, rfl⟩
theorem wd_no {a b c d : Int} {n : Nat} {D : Nat → De} (h : mayP a b c d) (hm : ¬ ((n : Int) = a ∧ mayDs b c n D)) : wdC a b c d n D = 2 ∧ wdF a b c d n D = zeroF := by
  unfold wdC wdF
  rw [if_pos h, if_neg hm, if_neg (fun q => hm q.2)]; exact ⟨rfl, rfl⟩
set_option maxRecDepth 100000 in
set_option maxHeartbeats 4000000 in
theorem wdescs_ok (a b c d : Int) (A : Option Addr) (n cap : Nat) (D : Nat → De) (w : World) (h : mayP a b c d) (hn : (n : Int) = a) (hD : Ds w A n D) :
    Calls Try.prog 13 #[geoV a b c d, .slice A n cap] w fun e w' => e = .returned (.tuple #[.agg (bytesOf 256 (wdF a b c d n D)), .int .i64 (wdC a b c d n D)]) ∧ Below w.heap.size w w' := by
  have H : Hid (mayB a b c d = true) := decide_eq_true h
  have HY : Hid (mayDs b c n D → wdC a b c d n D = 0 ∧ wdF a b c d n D = sealF (descF D n)) := fun hm => wd_yes h hn hm
  have HN : Hid ((∃ k, k < n ∧ ¬ mayDP (b - 2 - c / 4) c (D k).bl (D k).ino (D k).dir) → wdC a b c d n D = 2 ∧ wdF a b c d n D = zeroF) := fun ⟨k, hk, hm⟩ => wd_no h fun q => hm (q.2 k hk)
  have Hm := hide h
  have hn4 : n ≤ 4 := by have := h.1; omega
  have Hq : Hid (b - 2 - c / 4 ≤ 65535 ∧ c ≤ 65535) := (by have := h.2.1; have := h.2.2.1; omega : b - 2 - c / 4 ≤ 65535 ∧ c ≤ 65535)
  have HD := hide hD
  have S0 := hide (DSt.start w a b c d A n D 23 29 hD)
  clear h hD
  unfold geoV
  go_enter Try.func13, Try.ntmps13
  go_wp2_with (first | (refine allocB rfl rfl ?_) | (refine ldG rfl (.tmp 2) rfl _ _ _ _ _ rfl S0.out.geo ?_))
  refine (may_any a b c d _).mono ?_
  rintro e w1 ⟨rfl, hw⟩
  rw [H.out]
  have S1 := hide (S0.out.upto HD.out hw S0.out.lt)
  clear hw S0
  obtain ⟨k0, k1, k2, k3⟩ := S1.out.geo.cells
  go_wp2_with (refine allocP rfl rfl ?_)
  have R2 := hide (Row.new w1 61 256 zeroF)
  have S2 := hide (S1.out.upto HD.out ((Below.refl _ w1).alloc (Nat.le_refl _) (.cells (bytesOf 256 zeroF) 61)) S1.out.lt)
  have hG : w.heap.size + 1 < w1.heap.size := S1.out.lt
  clear S1 k0 k1 k2 k3
  generalize w1.heap.size = G at *
  generalize World.alloc _ _ = w2 at *
  go_loopw [21] (fun i wr => ∃ k : Nat, k ≤ n ∧ i = .int .i64 k ∧ DSt w a b c d A n D wr ∧ Row wr G 256 (descF D k) ∧ ∀ j, j < k → mayDP (b - 2 - c / 4) c (D j).bl (D j).ino (D j).dir) (fun i _ => n - (intOf i).toNat)
  case atStart => exact ⟨0, by omega, rfl, S2.out, R2.out, fun j hj => absurd hj (by omega)⟩
  case round =>
    obtain ⟨k, hk, rfl, hS, hR, hM⟩ := hrel
    clear S2 R2
    have S3 := hide hS
    have R3 := hide hR
    have M3 := hide hM
    clear hS hR hM
    by_cases hkn : k < n
    · obtain ⟨p, off, rfl, hc⟩ := S3.out.des (by omega)
      obtain ⟨c0, c1, c2⟩ := hc k hkn
      clear hc
      have hk0 : (0 : Int) ≤ k := by omega
      have hk1 : (k : Int) < n := by omega
      have hk2 : (k : Int) ≤ 4 := by omega
      have hk3 : ((k : Int)).toNat = k := by omega
      go_wp2_with (first
        | (refine stD rfl (.tmp 8) (.tmp 25) rfl wr.heap.size ⟨0, 0, 0⟩ (D k) rfl rfl (DAt.new wr _ ⟨0, 0, 0⟩) ?_
           intro w4 hd ho
           have D4 := hide hd
           have hb : Below wr.heap.size wr w4 := ((Below.refl _ wr).alloc (Nat.le_refl _) (.cells (deC ⟨0, 0, 0⟩) 50)).trans (ho.below (Nat.le_refl _) (by simp only [World.size_alloc]; omega))
           have S4 := hide (S3.out.upto HD.out hb S3.out.lt)
           have R4 := hide (R3.out.below hb R3.out.lt)
           have hl4 : G < wr.heap.size := R3.out.lt
           clear hd ho hb c0 c1 c2)
        | (refine ldG rfl (.tmp 2) rfl _ _ _ _ _ rfl S4.out.geo ?_)
        | (refine ldD rfl (.tmp 8) rfl _ _ rfl D4.out ?_))
      refine (dmay_any a b c d (D k).bl (D k).ino (D k).dir w4 Hm.out).mono ?_
      rintro e w5 ⟨rfl, hw⟩
      have S5 := hide (S4.out.upto HD.out hw (by have := S4.out.lt; omega))
      have D5 := hide (D4.out.below hw D4.out.lt)
      have R5 := hide (R4.out.below hw R4.out.lt)
      clear hw S4 D4 R4
      cases hm : mayDB (b - 2 - c / 4) c (D k).bl (D k).ino (D k).dir
      case false =>
        obtain ⟨y1, y2⟩ := HN.out ⟨k, hkn, of_decide_eq_false hm⟩
        have Y1 := hide y1
        have Y2 := hide y2
        clear hm y1 y2
        go_wp2_with (first
          | (refine buildB rfl rfl ?_)
          | (refine st256 rfl (.tmp 4) (.tmp 30) rfl (w.heap.size + 1) zeroF zeroF rfl rfl S5.out.res ?_; intro w6 hr2 ho2; have HR2 := hide hr2; have HO2 := hide ho2; clear hr2 ho2))
        exact bodyPost_ret_by (results_blk rfl _ _ _ _ _ rfl rfl HR2.out) rfl ⟨by rw [Y1.out, Y2.out]; rfl, S5.out.old.trans (HO2.out.below (by omega) S5.out.old.size)⟩
      case true =>
        have m := of_decide_eq_true hm
        have M5 : Hid (∀ j, j < k + 1 → mayDP (b - 2 - c / 4) c (D j).bl (D j).ino (D j).dir) := fun j hj => by
          by_cases e : j = k
          · subst e; exact m
          · exact M3.out j (by omega)
        obtain ⟨m0, m1, m2, m3, m4, m5⟩ := m
        have hq := Hq.out
        have V0 : Hid (0 ≤ (D k).bl ∧ (D k).bl ≤ 65535) := ⟨m0, by omega⟩
        have V1 : Hid (0 ≤ (D k).ino ∧ (D k).ino ≤ 65535) := ⟨m2, by omega⟩
        have V2 : Hid (0 ≤ (D k).dir ∧ (D k).dir ≤ 65535) := ⟨m3, by omega⟩
        obtain ⟨d0, d1, d2⟩ := D5.out.cells
        clear hm m0 m1 m2 m3 m4 m5 hq M3
        go_wp2_with fail
        refine (pput_any G (8 * k) (8 * (k : Int)) (D k).bl (descF D k) w5 (by omega) R5.out V0.out.1 V0.out.2 (by omega)).mono ?_
        rintro e w6 ⟨rfl, hr, ho⟩
        have S6 := hide (S5.out.upto HD.out (ho.below (B := G) (Nat.le_refl _) (Nat.le_of_lt R5.out.lt)) hG)
        have D6 := hide (D5.out.only ho (by omega))
        have R6 := hide hr
        obtain ⟨d0, d1, d2⟩ := D6.out.cells
        clear hr ho S5 D5 R5
        go_wp2_with fail
        refine (pput_any G (8 * k + 2) (8 * (k : Int) + 2) (D k).ino _ w6 (by omega) R6.out V1.out.1 V1.out.2 (by omega)).mono ?_
        rintro e w7 ⟨rfl, hr, ho⟩
        have S7 := hide (S6.out.upto HD.out (ho.below (B := G) (Nat.le_refl _) (Nat.le_of_lt R6.out.lt)) hG)
        have D7 := hide (D6.out.only ho (by omega))
        have R7 := hide hr
        obtain ⟨d0, d1, d2⟩ := D7.out.cells
        clear hr ho S6 D6 R6
        go_wp2_with fail
        refine (pput_any G (8 * k + 4) (8 * (k : Int) + 4) (D k).dir _ w7 (by omega) R7.out V2.out.1 V2.out.2 (by omega)).mono ?_
        rintro e w8 ⟨rfl, hr, ho⟩
        have S8 := hide (S7.out.upto HD.out (ho.below (B := G) (Nat.le_refl _) (Nat.le_of_lt R7.out.lt)) hG)
        have R8 := hide hr
        clear hr ho S7 D7 R7 d0 d1 d2
        go_wp2_with fail
        go_round
        case rel => exact ⟨k + 1, by omega, by go_num, S8.out, R8.out, M5.out⟩
        case measure => simp [intOf]; omega
    · obtain rfl : k = n := by omega
      go_wp2_with fail
      obtain ⟨y1, y2⟩ := HY.out M3.out
      refine (seal_any G _ wr (descF_byte D k) R3.out).mono ?_
      rintro e w5 ⟨rfl, hr, hw⟩
      have S5 := hide (S3.out.upto HD.out hw (by omega))
      have Y1 := hide y1
      have Y2 := hide y2
      clear hr hw S3 R3 y1 y2
      go_wp2_with (first
        | (refine st256 rfl (.tmp 4) (.tmp 49) rfl (w.heap.size + 1) zeroF (sealF (descF D k)) rfl rfl S5.out.res ?_; intro w6 hr2 ho2; have HR2 := hide hr2; have HO2 := hide ho2; clear hr2 ho2))
      exact bodyPost_ret_by (results_blk rfl _ _ _ _ _ rfl rfl HR2.out) rfl ⟨by rw [Y1.out, Y2.out]; rfl, S5.out.old.trans (HO2.out.below (by omega) S5.out.old.size)⟩
end Go.Proofs.Ytbngbhildijciaa
