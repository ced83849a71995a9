/- The walk of quernref06.WriteDescs. -/
import Derived.Test.YtbngbhildijciaaSup18
namespace Go.Proofs.Ytbngbhildijciaa
open Go.RowKit
set_option linter.unusedVariables false

theorem Ds.at_ {w : World} {p off n k : Nat} {D : Nat → De} (h : Ds w (some ⟨p, off, none⟩) n D) (hk : k < n) :
    w.cell? ⟨p, off + k * 3, none⟩ = some (.int .i64 (D k).bl) ∧ w.cell? ⟨p, off + k * 3 + 1, none⟩ = some (.int .i64 (D k).ino) ∧ w.cell? ⟨p, off + k * 3 + 2, none⟩ = some (.int .i64 (D k).dir) := by
  obtain ⟨q, o, e, hq⟩ := h (by omega)
  cases e; exact hq k hk
theorem DSt.drew {W v : World} {a b c d : Int} {A : Option Addr} {n : Nat} {D : Nat → De} (h : DSt W a b c d A n D v) : DSt W a b c d A n D v.drew := ⟨h.geo, h.res, h.des, h.old.drew⟩
set_option maxRecDepth 100000 in
set_option maxHeartbeats 1000000 in
theorem rwdescs_geo (a b c d : Int) (A : Option Addr) (n cap : Nat) (D : Nat → De) (w : World) (h : ¬ mayP a b c d) (hD : Ds w A n D) :
    Calls Try.prog 14 #[geoV a b c d, .slice A n cap] w fun e w' => e = .returned (.tuple #[.agg (bytesOf 256 zeroF), .int .i64 50]) ∧ Below w.heap.size w w' := by
  have H : Hid (mayB a b c d = false) := decide_eq_false h
  have HD := hide hD
  have S0 := hide (DSt.start w a b c d A n D 23 29 hD)
  clear h hD
  unfold geoV
  go_enter Try.func14, Try.ntmps14
  go_wp2_with (first | (refine allocB rfl rfl ?_) | (refine ldG rfl (.tmp 2) rfl _ _ _ _ _ rfl S0.out.geo ?_))
  refine (refMay_any a b c d _).mono ?_
  rintro e w1 ⟨rfl, hw⟩
  rw [H.out]
  have S1 := hide (S0.out.upto HD.out hw S0.out.lt)
  clear hw S0
  go_wp2_with (first
    | (refine buildB rfl rfl ?_)
    | (refine st256 rfl (.tmp 4) (.tmp 11) rfl (w.heap.size + 1) zeroF zeroF rfl rfl S1.out.res ?_; intro w2 hr2 ho2; have HR2 := hide hr2; have HO2 := hide ho2; clear hr2 ho2))
  exact bodyPost_ret_by (results_blk rfl _ _ _ _ _ rfl rfl HR2.out) rfl ⟨rfl, S1.out.old.trans (HO2.out.below (by omega) S1.out.old.size)⟩
set_option maxRecDepth 100000 in
set_option maxHeartbeats 1000000 in
theorem rwdescs_arg (a b c d : Int) (A : Option Addr) (n cap : Nat) (D : Nat → De) (w : World) (h : mayP a b c d) (hn : ¬ ((n : Int) = a ∧ mayDs b c n D)) (hD : Ds w A n D) :
    Calls Try.prog 14 #[geoV a b c d, .slice A n cap] w fun e w' => e = .returned (.tuple #[.agg (bytesOf 256 zeroF), .int .i64 2]) ∧ Below w.heap.size w w' := by
  have H : Hid (mayB a b c d = true) := decide_eq_true h
  have HM : Hid (∀ V, Ds V A n D → Calls Try.prog 32 #[geoV a b c d, .slice A n cap] V fun e w' => e = .returned (.bool false) ∧ Below V.heap.size V w') := fun V hV => by
    have q := rmay_any a b c d A n cap D V h hV
    rw [decide_eq_false hn] at q; exact q
  have HD := hide hD
  have S0 := hide (DSt.start w a b c d A n D 23 29 hD)
  clear h hD hn
  unfold geoV
  go_enter Try.func14, Try.ntmps14
  go_wp2_with (first | (refine allocB rfl rfl ?_) | (refine ldG rfl (.tmp 2) rfl _ _ _ _ _ rfl S0.out.geo ?_))
  refine (refMay_any a b c d _).mono ?_
  rintro e w1 ⟨rfl, hw⟩
  rw [H.out]
  have S1 := hide (S0.out.upto HD.out hw S0.out.lt)
  clear hw S0
  go_wp2_with (refine ldG rfl (.tmp 2) rfl _ _ _ _ _ rfl S1.out.geo ?_)
  refine (HM.out _ S1.out.des).mono ?_
  rintro e w3 ⟨rfl, hw⟩
  have S3 := hide (S1.out.upto HD.out hw S1.out.lt)
  clear hw S1
  go_wp2_with (first
    | (refine buildB rfl rfl ?_)
    | (refine st256 rfl (.tmp 4) (.tmp 16) rfl (w.heap.size + 1) zeroF zeroF rfl rfl S3.out.res ?_; intro w2 hr2 ho2; have HR2 := hide hr2; have HO2 := hide ho2; clear hr2 ho2))
  exact bodyPost_ret_by (results_blk rfl _ _ _ _ _ rfl rfl HR2.out) rfl ⟨rfl, S3.out.old.trans (HO2.out.below (by omega) S3.out.old.size)⟩
set_option maxRecDepth 100000 in
set_option maxHeartbeats 4000000 in
theorem rwdescs_ok (b c d : Int) (A : Option Addr) (n cap : Nat) (D : Nat → De) (w : World) (h : mayP n b c d) (hm : mayDs b c n D) (hD : Ds w A n D) :
    Calls Try.prog 14 #[geoV n b c d, .slice A n cap] w fun e w' => e = .returned (.tuple #[.agg (bytesOf 256 (sealF (descF D n))), .int .i64 0]) ∧ Below w.heap.size w w' := by
  have H : Hid (mayB n b c d = true) := decide_eq_true h
  have HM : Hid (∀ V, Ds V A n D → Calls Try.prog 32 #[geoV n b c d, .slice A n cap] V fun e w' => e = .returned (.bool true) ∧ Below V.heap.size V w') := fun V hV => by
    have q := rmay_any n b c d A n cap D V h hV
    rw [decide_eq_true ⟨rfl, hm⟩] at q; exact q
  have hn4 : n ≤ 4 := by have := h.1; omega
  have hq : b - 2 - c / 4 ≤ 65535 ∧ c ≤ 65535 := by have := h.2.1; have := h.2.2.1; omega
  have HV : Hid (∀ k, k < n → (0 ≤ (D k).bl ∧ (D k).bl ≤ 65535) ∧ (0 ≤ (D k).ino ∧ (D k).ino ≤ 65535) ∧ (0 ≤ (D k).dir ∧ (D k).dir ≤ 65535)) := fun k hk => by
    obtain ⟨m0, m1, m2, m3, m4, m5⟩ := hm k hk
    omega
  have HD := hide hD
  have S0 := hide (DSt.start w n b c d A n D 23 29 hD)
  clear h hD hm hq
  unfold geoV
  go_enter Try.func14, Try.ntmps14
  go_wp2_with (first | (refine allocB rfl rfl ?_) | (refine ldG rfl (.tmp 2) rfl _ _ _ _ _ rfl S0.out.geo ?_))
  refine (refMay_any n b c d _).mono ?_
  rintro e w1 ⟨rfl, hw⟩
  rw [H.out]
  have S1 := hide (S0.out.upto HD.out hw S0.out.lt)
  clear hw S0
  go_wp2_with (refine ldG rfl (.tmp 2) rfl _ _ _ _ _ rfl S1.out.geo ?_)
  refine (HM.out _ S1.out.des).mono ?_
  rintro e w2 ⟨rfl, hw⟩
  have S2 := hide (S1.out.upto HD.out hw S1.out.lt)
  clear hw S1
  have hG : w.heap.size + 1 < w2.heap.size := S2.out.lt
  have S3 := hide (S2.out.upto HD.out ((Below.refl _ w2).alloc (Nat.le_refl _) (.cells (bytesOf 256 zeroF) 29)) S2.out.lt)
  have R3 := hide (Row.new w2 29 256 zeroF)
  go_wp2_with (refine allocB rfl rfl ?_)
  clear S2
  generalize w2.heap.size = G at *
  generalize World.alloc _ _ = w3 at *
  go_loopw [7] (fun i wr => ∃ k : Nat, k ≤ n ∧ i = .int .i64 k ∧ DSt w (n : Int) b c d A n D wr ∧ Row wr G 256 (descF D k)) (fun i _ => n - (intOf i).toNat)
  case atStart => exact ⟨0, by omega, rfl, S3.out, R3.out⟩
  case round =>
    obtain ⟨k, hk, rfl, hS, hR⟩ := hrel
    clear S3 R3
    have S4 := hide hS
    have R4 := hide hR
    clear hS hR
    by_cases hkn : k < n
    · obtain ⟨p, off, rfl, _⟩ := S4.out.des (by omega)
      obtain ⟨c0, c1, c2⟩ := S4.out.des.at_ hkn
      obtain ⟨⟨v0, v1⟩, ⟨v2, v3⟩, v4, v5⟩ := HV.out k hkn
      have hk0 : (0 : Int) ≤ k := by omega
      have hk1 : (k : Int) < n := by omega
      have hk2 : (k : Int) ≤ 4 := by omega
      have hk3 : ((k : Int)).toNat = k := by omega
      have F4 := hide (descF_byte D k)
      go_wp2_with fail
      go_still_tail 9, (by kernel_rfl)
      go_wp2_with (go_at_call 29; refine (rPut16_in G 256 _ (8 * k) _ (D k).bl _ (by go_num) R4.out.drew F4.out (by omega) v0 v1 (by omega)).mono ?_; rintro e w5 ⟨rfl, hr, ho⟩; have S5 := hide (S4.out.drew.upto HD.out (ho.below (B := G) (Nat.le_refl _) (Nat.le_of_lt R4.out.drew.lt)) hG); have R5 := hide hr; have F5 := hide (putB_byte F4.out (8 * k) (D k).bl 2); clear hr ho S4 R4 F4 c0 c1 c2; obtain ⟨c0, c1, c2⟩ := S5.out.des.at_ hkn)
      go_still_tail 10, (by kernel_rfl)
      go_wp2_with (go_at_call 29; refine (rPut16_in G 256 _ (8 * k + 2) _ (D k).ino _ (by go_num) R5.out.drew F5.out (by omega) v2 v3 (by omega)).mono ?_; rintro e w6 ⟨rfl, hr, ho⟩; have S6 := hide (S5.out.drew.upto HD.out (ho.below (B := G) (Nat.le_refl _) (Nat.le_of_lt R5.out.drew.lt)) hG); have R6 := hide hr; have F6 := hide (putB_byte F5.out (8 * k + 2) (D k).ino 2); clear hr ho S5 R5 F5 c0 c1 c2; obtain ⟨c0, c1, c2⟩ := S6.out.des.at_ hkn)
      go_still_tail 10, (by kernel_rfl)
      go_wp2_with (go_at_call 29; refine (rPut16_in G 256 _ (8 * k + 4) _ (D k).dir _ (by go_num) R6.out.drew F6.out (by omega) v4 v5 (by omega)).mono ?_; rintro e w7 ⟨rfl, hr, ho⟩; have S7 := hide (S6.out.drew.upto HD.out (ho.below (B := G) (Nat.le_refl _) (Nat.le_of_lt R6.out.drew.lt)) hG); have R7 : Hid (Row w7 G 256 (descF D (k + 1))) := hr; clear hr ho S6 R6 F6 c0 c1 c2)
      go_roundw
      case rel => exact ⟨k + 1, by omega, by go_num, S7.out, R7.out⟩
      case measure => simp [intOf]; omega
    · obtain rfl : k = n := by omega
      go_wp2_with (refine ld256 rfl (.tmp 6) rfl _ _ rfl R4.out ?_)
      refine (sealed_any _ _ (descF_byte D k)).mono ?_
      rintro e w5 ⟨rfl, hw⟩
      have S5 := hide (S4.out.upto HD.out hw S4.out.lt)
      clear hw S4 R4
      go_wp2_with (first
        | (refine st256 rfl (.tmp 4) (.tmp 56) rfl (w.heap.size + 1) zeroF (sealF (descF D k)) rfl rfl S5.out.res ?_; intro w6 hr2 ho2; have HR2 := hide hr2; have HO2 := hide ho2; clear hr2 ho2))
      exact bodyPost_ret_by (results_blk rfl _ _ _ _ _ rfl rfl HR2.out) rfl ⟨rfl, S5.out.old.trans (HO2.out.below (by omega) S5.out.old.size)⟩
/-- What the document's WriteDescs tells. -/
theorem rwdescs_any (a b c d : Int) (A : Option Addr) (n cap : Nat) (D : Nat → De) (w : World) (hD : Ds w A n D) :
    Calls Try.prog 14 #[geoV a b c d, .slice A n cap] w fun e w' => e = .returned (.tuple #[.agg (bytesOf 256 (wdF a b c d n D)), .int .i64 (wdC a b c d n D)]) ∧ Below w.heap.size w w' := by
  by_cases h : mayP a b c d
  · by_cases hm : (n : Int) = a ∧ mayDs b c n D
    · obtain ⟨y1, y2⟩ := wd_yes h hm.1 hm.2
      rw [y1, y2]
      obtain ⟨rfl, hm⟩ := hm
      exact rwdescs_ok b c d A n cap D w h hm hD
    · obtain ⟨y1, y2⟩ := wd_no h hm
      rw [y1, y2]
      exact rwdescs_arg a b c d A n cap D w h hm hD
  · have y1 : wdC a b c d n D = 50 := by unfold wdC; rw [if_neg h]
    have y2 : wdF a b c d n D = zeroF := by unfold wdF; rw [if_neg (fun q => h q.1)]
    rw [y1, y2]
    exact rwdescs_geo a b c d A n cap D w h hD
end Go.Proofs.Ytbngbhildijciaa
