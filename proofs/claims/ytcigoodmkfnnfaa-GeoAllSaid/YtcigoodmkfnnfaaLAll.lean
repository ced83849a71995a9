/- The law GeoAll. -/
import Derived.Test.YtcigoodmkfnnfaaGeo13
namespace Go.Proofs.Ytcigoodmkfnnfaa
open Go.RowKit
set_option linter.unusedVariables false

theorem GAt.set_ {W w : World} {n : Nat} {a b c d : Int} (h : GAt W n a b c d w) {p : Addr} (hp : W.heap.size ≤ p.block) (hne : n ≠ p.block) (v : Value) : GAt W n a b c d (w.setCell p v) :=
  ⟨h.old.setCell hp v, (Below.heap_setCell w p v n hne).trans h.geo⟩
theorem GAt.alloc_ {W w : World} {n : Nat} {a b c d : Int} (h : GAt W n a b c d w) (o : Obj) : GAt W n a b c d (w.alloc o) :=
  ⟨h.old.alloc h.old.size o, (Below.heap_alloc w o n (lt_of_block h.geo)).trans h.geo⟩

set_option maxRecDepth 100000 in
set_option maxHeartbeats 2000000 in
theorem geoAll_no (a b c d : Int) (w : World) (h : ¬ mayP a b c d) :
    Calls Try.prog 5 #[geoV a b c d] w fun e w' => e = .returned (.bool true) ∧ Below w.heap.size w w' := by
  have G0 := hide (GAt.new w a b c d)
  have Hm := hide h
  clear h
  unfold geoV
  go_enter Try.func5, Try.ntmps5
  go_wp2_with fail
  refine (awake05_any _).mono ?_
  rintro e w1 ⟨rfl, hw⟩
  have G1 := hide (G0.out.step hw)
  clear hw G0
  obtain ⟨k0, k1, k2, k3⟩ := G1.out.cells
  go_wp2_with fail
  refine (may_no _ Hm.out).mono ?_
  rintro e w2 ⟨rfl, hw⟩
  have G2 := hide (G1.out.step hw)
  clear hw k0 k1 k2 k3 G1
  obtain ⟨k0, k1, k2, k3⟩ := G2.out.cells
  go_wp2_with fail
  refine (blocks_no _ Hm.out).mono ?_
  rintro e w3 ⟨rfl, hw⟩
  have G3 := hide (G2.out.step hw)
  clear hw k0 k1 k2 k3 G2
  obtain ⟨k0, k1, k2, k3⟩ := G3.out.cells
  go_wp2_with fail
  refine (inodes_no _ Hm.out).mono ?_
  rintro e w4 ⟨rfl, hw⟩
  have G4 := hide (G3.out.step hw)
  clear hw k0 k1 k2 k3 G3
  obtain ⟨k0, k1, k2, k3⟩ := G4.out.cells
  go_wp2_with fail
  refine (data_no _ Hm.out).mono ?_
  rintro e w5 ⟨rfl, hw⟩
  have G5 := hide (G4.out.step hw)
  clear hw k0 k1 k2 k3 G4
  go_wp2_with fail
  go_ret
  exact ⟨rfl, G5.out.old⟩

set_option maxRecDepth 100000 in
set_option maxHeartbeats 4000000 in
theorem geoAll_yes (a b c d : Int) (w : World) (h : mayP a b c d) :
    Calls Try.prog 5 #[geoV a b c d] w fun e w' => e = .returned (.bool true) ∧ Below w.heap.size w w' := by
  have G0 := hide (GAt.new w a b c d)
  have Hm := hide h
  have hp := h.mul
  have hc := h.mulc
  have hd : 40 ≤ d ∧ d ≤ 256 := h.2.2.2.2.1
  have hb : 16 ≤ b ∧ b ≤ 512 := h.2.1
  have hc' : 4 ≤ c ∧ c ≤ 64 := h.2.2.1
  have hcb : 3 + c / 4 ≤ b := h.2.2.2.2.2.1
  have htot : 2 + d + a * b ≤ 2048 := h.2.2.2.2.2.2
  obtain ⟨p0, p1⟩ := hp
  obtain ⟨q0, q1⟩ := hc
  obtain ⟨d0, d1⟩ := hd
  obtain ⟨b0, b1⟩ := hb
  obtain ⟨c0, c1⟩ := hc'
  have v1 : decide (2048 < 2 + d + a * b) = false := decide_eq_false (by omega)
  have v2 : decide (b - 2 - c / 4 < 1) = false := decide_eq_false (by omega)
  have v3 : decide (2 + d + a * b < 2) = false := decide_eq_false (by omega)
  clear h
  unfold geoV
  go_enter Try.func5, Try.ntmps5
  go_wp2_with fail
  refine (awake05_any _).mono ?_
  rintro e w1 ⟨rfl, hw⟩
  have G1 := hide (G0.out.step hw)
  clear hw G0
  obtain ⟨k0, k1, k2, k3⟩ := G1.out.cells
  go_wp2_with fail
  refine (may_yes _ Hm.out).mono ?_
  rintro e w2 ⟨rfl, hw⟩
  have G2 := hide (G1.out.step hw)
  clear hw k0 k1 k2 k3 G1
  obtain ⟨k0, k1, k2, k3⟩ := G2.out.cells
  go_wp2_with fail
  refine (blocks_yes _ Hm.out).mono ?_
  rintro e w3 ⟨rfl, hw⟩
  have G3 := hide (G2.out.step hw)
  clear hw k0 k1 k2 k3 G2
  go_wp2_with fail
  refine wp_region_sub (GAt w w.heap.size a b c d) (by kernel_rfl) (by kernel_rfl) G3.out.drew ?_
  obtain ⟨k0, k1, k2, k3⟩ := GAt.all (W := w) (n := w.heap.size) (a := a) (b := b) (c := c) (d := d)
  have hne : Nonempty (Of (GAt w w.heap.size a b c d)) := ⟨⟨_, G3.out.drew⟩⟩
  repeat (go_big_quiet_step (first
    | (go_at_call 24; exact sub_calls GAt.steps (inodes_yes _ Hm.out))
    | (go_at_call 26; exact sub_calls GAt.steps (data_yes _ Hm.out))))
  refine wpQuiet_nil ?_
  rintro w4 ⟨s4, hs4⟩
  have H4 : Hid (GAt w w.heap.size a b c d w4) := by rw [hs4]; exact s4.ok
  clear hs4 s4 k0 k1 k2 k3 hne v1 v2 v3 G3
  have n0 : 0 ≤ 2 + d + a * b := by omega
  have HF : Hid (∀ n, 0 ≤ n → n < 2 + d + a * b → _) := fun n h0 h1 => thing_facts Hm.out h0 h1
  have HC := hide (counts Hm.out)
  have HO : Hid (∀ n w, n < 0 ∨ 2 + d + a * b ≤ n → _) := fun n w hn => what_out a b c d n w Hm.out hn
  have dp : 0 ≤ a * (b - 2 - c / 4) ∧ a * (b - 2 - c / 4) ≤ 2048 := by
    have h0 : 1 ≤ a ∧ a ≤ 4 := Hm.out.1
    exact ⟨Int.mul_nonneg (by omega) (by omega), Int.le_trans (Int.mul_le_mul_of_nonneg_left (show b - 2 - c / 4 ≤ b by omega) (by omega)) p1⟩
  generalize hN : 2 + d + a * b = N at *
  have HN := hide hN
  clear hN
  have hmk : ∀ w : World, (Instr.makeSlice 36 (.int .i64 9) (.int .i64 9)).run Try.prog w = .ok (.slice (some ⟨w.heap.size, 0, none⟩) 9 9) (w.alloc (.cells #[.int .i64 0, .int .i64 0, .int .i64 0, .int .i64 0, .int .i64 0, .int .i64 0, .int .i64 0, .int .i64 0, .int .i64 0] 3)) := fun _ => by kernel_rfl
  go_wp2_with fail
  clear hmk
  have hgz : w.heap.size < w4.heap.size := lt_of_block H4.out.geo
  have R0 : Hid (IRow (w4.alloc (.cells #[.int .i64 0, .int .i64 0, .int .i64 0, .int .i64 0, .int .i64 0, .int .i64 0, .int .i64 0, .int .i64 0, .int .i64 0] 3)) w4.heap.size 9 (fun k => cn a b c d k 0)) :=
    ⟨_, _, heap_alloc_new w4 _, by simp, fun i hi => by
      obtain rfl | rfl | rfl | rfl | rfl | rfl | rfl | rfl | rfl : i = 0 ∨ i = 1 ∨ i = 2 ∨ i = 3 ∨ i = 4 ∨ i = 5 ∨ i = 6 ∨ i = 7 ∨ i = 8 := by omega
      all_goals rfl⟩
  go_loopw [5] (fun i wr => ∃ j : Nat, (j : Int) ≤ N ∧ i = .int .i64 j ∧ GAt w w.heap.size a b c d wr ∧ IRow wr w4.heap.size 9 (fun k => cn a b c d k j)) (fun i _ => N.toNat - (intOf i).toNat)
  case atStart => exact ⟨0, n0, rfl, H4.out.alloc_ _, R0.out⟩
  case round =>
    obtain ⟨j, hj, rfl, hG, hR⟩ := hrel
    have G5 := hide hG
    have R5 := hide hR
    clear hG hR R0
    by_cases hlt : (j : Int) < N
    · obtain ⟨hk, hg, hcase⟩ := HF.out j (by omega) hlt
      obtain ⟨κ, hκ⟩ : ∃ κ : Nat, thingK a b c d j = (κ : Int) := ⟨_, (Int.toNat_of_nonneg (by omega)).symm⟩
      have HK := hide hκ
      have HG := hide hg
      rw [hκ] at hk hcase
      have HCs := hide hcase
      clear hg hcase hκ
      have κ0 : 1 ≤ κ := by omega
      have κ1 : κ ≤ 7 := by omega
      have t1 : decide ((κ : Int) < 1) = false := decide_eq_false (by omega)
      have t2 : decide (7 < (κ : Int)) = false := decide_eq_false (by omega)
      clear hk
      obtain ⟨k0, k1, k2, k3⟩ := G5.out.cells
      go_wp2_with fail
      refine (what_any a b c d _ _ Hm.out).mono ?_
      rintro e w5 ⟨rfl, hw⟩
      rw [HK.out]
      have G6 := hide (G5.out.step hw)
      have R6 := hide (R5.out.below hw R5.out.lt)
      clear hw k0 k1 k2 k3 G5
      generalize hA : thingA a b c d j = A at *
      generalize hGg : thingG a b c d j = G at *
      clear hA hGg
      obtain ⟨k0, k1, k2, k3⟩ := G6.out.cells
      have z1 := R6.out.cell (i := κ) (by omega)
      have z2 := R6.out.frozen κ
      have bd := cn_bd a b c d κ j
      obtain ⟨bd0, bd1⟩ := bd
      generalize hcc : cn a b c d κ j = C at *
      have HCC := hide hcc
      clear hcc
      go_wp2_with fail
      have hgz5 : w4.heap.size < w5.heap.size := R6.out.lt
      have R7 : Hid (IRow (w5.setCell ⟨w4.heap.size, κ, none⟩ (.int .i64 (C + 1))) w4.heap.size 9 (fun k => cn a b c d k (j + 1))) := (R6.out.set_ κ (C + 1)).congr fun i hi => by
        show upd (fun k => cn a b c d (k : Int) j) κ (C + 1) i = cn a b c d i j + if thingK a b c d j = i then 1 else 0
        rw [HK.out]
        by_cases e : i = κ
        · subst e
          rw [upd_same, if_pos rfl, HCC.out]
        · rw [upd_other _ _ e, if_neg (by omega)]
          exact (Int.add_zero _).symm
      have G7 : Hid (GAt w w.heap.size a b c d (w5.setCell ⟨w4.heap.size, κ, none⟩ (.int .i64 (C + 1)))) := G6.out.set_ (p := ⟨w4.heap.size, κ, none⟩) (Nat.le_of_lt hgz) (by show w.heap.size ≠ w4.heap.size; omega) _
      clear k0 k1 k2 k3 G6 R6 z1 z2
      refine (start_yes a b c d G _ HG.out).mono ?_
      rintro e w6 ⟨rfl, hw⟩
      have G8 := hide (G7.out.step hw)
      have R8 := hide (R7.out.below hw R7.out.lt)
      clear hw G7 R7
      have hmul := HG.out.mul
      obtain ⟨m0, m1⟩ := hmul
      generalize hS : 2 + d + G * b = S at *
      have s0 : 0 ≤ S := by omega
      have s1 : S ≤ 4096 := by omega
      clear hS m0 m1
      rcases HCs.out with ⟨h4, hsum⟩ | ⟨h3, hsum⟩ | ⟨h2, hsum⟩
      · have f1 : decide (4 ≤ (κ : Int)) = true := decide_eq_true h4
        have f2 : ((κ : Int) == 3) = false := by simp; omega
        have f3 : decide ((κ : Int) ≤ 2) = false := decide_eq_false (by omega)
        have f4 : 4 ≤ κ := by omega
        have f5 : (S + A != (j : Int)) = false := by simp [hsum]
        have f6 : 0 ≤ S + A := by omega
        have f7 : S + A ≤ 4096 := by omega
        have f8 : κ ≠ 3 := by omega
        have f9 : ¬ κ ≤ 2 := by omega
        clear hsum h4
        go_wp2_with fail
        go_roundw
        case rel => exact ⟨j + 1, by omega, by go_num, G8.out, R8.out⟩
        case measure => simp [intOf]; omega
      · obtain rfl : κ = 3 := by omega
        have f5 : (A + 2 != (j : Int)) = false := by simp [hsum]
        have f6 : 0 ≤ A + 2 := by omega
        have f7 : A + 2 ≤ 4096 := by omega
        clear hsum h3
        go_wp2_with fail
        go_roundw
        case rel => exact ⟨j + 1, by omega, by go_num, G8.out, R8.out⟩
        case measure => simp [intOf]; omega
      · obtain rfl | rfl : κ = 1 ∨ κ = 2 := by omega
        · obtain rfl : j = 0 := by omega
          clear hsum h2
          go_wp2_with fail
          go_roundw
          case rel => exact ⟨1, by omega, by go_num, G8.out, R8.out⟩
          case measure => simp [intOf]; omega
        · obtain rfl : j = 1 := by omega
          clear hsum h2
          go_wp2_with fail
          go_roundw
          case rel => exact ⟨2, by omega, by go_num, G8.out, R8.out⟩
          case measure => simp [intOf]; omega
    · obtain rfl : (j : Int) = N := by omega
      have HC2 := HC.out
      rw [Int.toNat_natCast] at HC2
      obtain ⟨e1, e2, e3, e4, e5, e6, e7⟩ := HC2
      have bd := cn_bd a b c d 6 j
      generalize hn6 : cn a b c d 6 j = n6 at *
      have E := hide (And.intro e1 (And.intro e2 (And.intro e3 (And.intro e4 (And.intro e5 (And.intro hn6 e7))))))
      have E6 := hide e6
      obtain ⟨bd0, bd1⟩ := bd
      clear e1 e2 e3 e4 e5 e6 e7 hn6 HC HF
      go_wp2_with fail
      go_loopw [11] (fun i wr => (∃ x : Int, i = .int .i64 x ∧ (x = -1 ∨ x = j ∨ x = 2 * (j : Int) + 1)) ∧ GAt w w.heap.size a b c d wr ∧ IRow wr w4.heap.size 9 (fun k => cn a b c d k j)) (fun i _ => (2 * (j : Int) + 2 - intOf i).toNat)
      case atStart => exact ⟨⟨-1, rfl, .inl rfl⟩, G5.out, R5.out⟩
      case round =>
        obtain ⟨⟨x, rfl, hx⟩, hG, hR⟩ := hrel
        have G6 := hide hG
        have R6 := hide hR
        clear hG hR G5 R5
        obtain ⟨k0, k1, k2, k3⟩ := G6.out.cells
        rcases hx with rfl | rfl | rfl
        · go_wp2_with fail
          refine (HO.out _ _ (.inl (by omega))).mono ?_
          rintro e w7 ⟨rfl, hw⟩
          have G7 := hide (G6.out.step hw)
          have R7 := hide (R6.out.below hw R6.out.lt)
          clear hw k0 k1 k2 k3 G6 R6
          go_wp2_with fail
          go_roundw
          case rel => exact ⟨⟨_, rfl, .inr (.inl (by omega))⟩, G7.out, R7.out⟩
          case measure => simp [intOf]; omega
        · go_wp2_with fail
          refine (HO.out _ _ (.inr (by omega))).mono ?_
          rintro e w7 ⟨rfl, hw⟩
          have G7 := hide (G6.out.step hw)
          have R7 := hide (R6.out.below hw R6.out.lt)
          clear hw k0 k1 k2 k3 G6 R6
          go_wp2_with fail
          go_roundw
          case rel => exact ⟨⟨_, rfl, .inr (.inr (by omega))⟩, G7.out, R7.out⟩
          case measure => simp [intOf]; omega
        · have hgt : ¬ (2 * (j : Int) + 1 ≤ j) := by omega
          go_wp2_with fail
          have hS : ∀ x x', GAt w w.heap.size a b c d x ∧ IRow x w4.heap.size 9 (fun k => cn a b c d k j) → Below x.heap.size x x' → GAt w w.heap.size a b c d x' ∧ IRow x' w4.heap.size 9 (fun k => cn a b c d k j) :=
            fun x x' h k => ⟨h.1.step k, h.2.below k h.2.lt⟩
          have HSt := hide hS
          clear hS
          have hne : Nonempty (Of (fun x => GAt w w.heap.size a b c d x ∧ IRow x w4.heap.size 9 (fun k => cn a b c d k j))) := ⟨⟨_, G6.out.drew, R6.out⟩⟩
          refine wp_region_sub (fun x => GAt w w.heap.size a b c d x ∧ IRow x w4.heap.size 9 (fun k => cn a b c d k j)) (by kernel_rfl) (by kernel_rfl) ⟨G6.out.drew, R6.out⟩ ?_
          have k0 : ∀ s : Of (fun x => GAt w w.heap.size a b c d x ∧ IRow x w4.heap.size 9 (fun k => cn a b c d k j)), s.val.cell? ⟨w.heap.size, 0, none⟩ = some (.int .i64 a) := fun s => s.ok.1.cells.1
          have k1 : ∀ s : Of (fun x => GAt w w.heap.size a b c d x ∧ IRow x w4.heap.size 9 (fun k => cn a b c d k j)), s.val.cell? ⟨w.heap.size, 1, none⟩ = some (.int .i64 b) := fun s => s.ok.1.cells.2.1
          have k2 : ∀ s : Of (fun x => GAt w w.heap.size a b c d x ∧ IRow x w4.heap.size 9 (fun k => cn a b c d k j)), s.val.cell? ⟨w.heap.size, 2, none⟩ = some (.int .i64 c) := fun s => s.ok.1.cells.2.2.1
          have k3 : ∀ s : Of (fun x => GAt w w.heap.size a b c d x ∧ IRow x w4.heap.size 9 (fun k => cn a b c d k j)), s.val.cell? ⟨w.heap.size, 3, none⟩ = some (.int .i64 d) := fun s => s.ok.1.cells.2.2.2
          have r1 : ∀ s : Of (fun x => GAt w w.heap.size a b c d x ∧ IRow x w4.heap.size 9 (fun k => cn a b c d k j)), s.val.cell? ⟨w4.heap.size, 1, none⟩ = some (.int .i64 1) := fun s => (s.ok.2.cell (i := 1) (by omega)).trans (congrArg (fun x => some (Value.int .i64 x)) E.out.1)
          have r2 : ∀ s : Of (fun x => GAt w w.heap.size a b c d x ∧ IRow x w4.heap.size 9 (fun k => cn a b c d k j)), s.val.cell? ⟨w4.heap.size, 2, none⟩ = some (.int .i64 1) := fun s => (s.ok.2.cell (i := 2) (by omega)).trans (congrArg (fun x => some (Value.int .i64 x)) E.out.2.1)
          have r3 : ∀ s : Of (fun x => GAt w w.heap.size a b c d x ∧ IRow x w4.heap.size 9 (fun k => cn a b c d k j)), s.val.cell? ⟨w4.heap.size, 3, none⟩ = some (.int .i64 d) := fun s => (s.ok.2.cell (i := 3) (by omega)).trans (congrArg (fun x => some (Value.int .i64 x)) E.out.2.2.1)
          have r4 : ∀ s : Of (fun x => GAt w w.heap.size a b c d x ∧ IRow x w4.heap.size 9 (fun k => cn a b c d k j)), s.val.cell? ⟨w4.heap.size, 4, none⟩ = some (.int .i64 a) := fun s => (s.ok.2.cell (i := 4) (by omega)).trans (congrArg (fun x => some (Value.int .i64 x)) E.out.2.2.2.1)
          have r5 : ∀ s : Of (fun x => GAt w w.heap.size a b c d x ∧ IRow x w4.heap.size 9 (fun k => cn a b c d k j)), s.val.cell? ⟨w4.heap.size, 5, none⟩ = some (.int .i64 a) := fun s => (s.ok.2.cell (i := 5) (by omega)).trans (congrArg (fun x => some (Value.int .i64 x)) E.out.2.2.2.2.1)
          have r6 : ∀ s : Of (fun x => GAt w w.heap.size a b c d x ∧ IRow x w4.heap.size 9 (fun k => cn a b c d k j)), s.val.cell? ⟨w4.heap.size, 6, none⟩ = some (.int .i64 n6) := fun s => (s.ok.2.cell (i := 6) (by omega)).trans (congrArg (fun x => some (Value.int .i64 x)) E.out.2.2.2.2.2.1)
          have r7 : ∀ s : Of (fun x => GAt w w.heap.size a b c d x ∧ IRow x w4.heap.size 9 (fun k => cn a b c d k j)), s.val.cell? ⟨w4.heap.size, 7, none⟩ = some (.int .i64 (a * (b - 2 - c / 4))) := fun s => (s.ok.2.cell (i := 7) (by omega)).trans (congrArg (fun x => some (Value.int .i64 x)) E.out.2.2.2.2.2.2)
          have z6 : (4 * n6 == a * c) = true := by simp [E6.out]
          obtain ⟨dp0, dp1⟩ := dp
          repeat (go_big_quiet_step (first
            | (go_at_call 24; exact sub_calls HSt.out (inodes_yes _ Hm.out))
            | (go_at_call 26; exact sub_calls HSt.out (data_yes _ Hm.out))))
          refine wpQuiet_nil ?_
          rintro w9 ⟨s9, hs9⟩
          have H9 : Hid (GAt w w.heap.size a b c d w9) := by rw [hs9]; exact s9.ok.1
          clear hs9 s9 k0 k1 k2 k3 r1 r2 r3 r4 r5 r6 r7 hne
          go_wp2_with fail
          go_ret
          exact ⟨rfl, H9.out.old⟩

theorem geoAll_law (a b c d : Int) (w : World) :
    Calls Try.prog 5 #[geoV a b c d] w fun e w' => e = .returned (.bool true) ∧ Below w.heap.size w w' := by
  by_cases h : mayP a b c d
  · exact geoAll_yes a b c d w h
  · exact geoAll_no a b c d w h
end Go.Proofs.Ytcigoodmkfnnfaa
