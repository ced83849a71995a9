/- The walk of geo.What inside a group. -/
import Derived.Test.YtcigoodmkfnnfaaGeo9
import Derived.BigRegion
import Derived.RegionIn
namespace Go.Proofs.Ytcigoodmkfnnfaa
open Go.RowKit Go.Shelf
set_option linter.unusedVariables false
attribute [local go_sem] Oper.semAt_some

/-- What the block at of a group is. -/
def thingAt (c at_ : Int) : Int := if at_ < 1 then 4 else if at_ < 2 then 5 else if at_ < 2 + c / 4 then 6 else 7

theorem Lay.put3 {w : World} {n : Nat} {a b c d k x y : Int} (h : Lay w n a b c d k x y) (k' x' y' : Int) :
    Lay (((w.setCell ⟨n + 1, 0, none⟩ (.int .u8 k')).setCell ⟨n + 1 + 1, 0, none⟩ (.int .i64 x')).setCell ⟨n + 1 + 1 + 1, 0, none⟩ (.int .i64 y')) n a b c d k' x' y' := by
  obtain ⟨h0, h1, h2, h3⟩ := h
  have n3 : n + 1 + 1 + 1 ≠ n := by omega
  have n2 : n + 1 + 1 ≠ n := by omega
  refine ⟨?_, ?_, ?_, ?_⟩ <;> simp [World.setCell, Array.getElem?_modify, h0, h1, h2, h3, n2, n3]
theorem Lay.drew {w : World} {n : Nat} {a b c d k x y : Int} (h : Lay w n a b c d k x y) : Lay w.drew n a b c d k x y := ⟨h.geo, h.kind, h.fst, h.snd⟩
theorem Lay.kept {W W' : World} {n : Nat} {a b c d k x y : Int} {row : Option Nat} (h : Lay W n a b c d k x y) (hg : W.grownBy W' row) (hrow : ∀ r, row = some r → ∃ o : Obj, W.heap[r]? = some o ∧ o.isCells = false) : Lay W' n a b c d k x y := by
  have one : ∀ (m : Nat) (cs : Array Value) (t : TypeId), W.heap[m]? = some (.cells cs t (0, 0)) → W'.heap[m]? = some (.cells cs t (0, 0)) := fun m cs t hm =>
    (hg.block m (lt_of_block hm) (fun e => by obtain ⟨o, ho, hc⟩ := hrow m e.symm; rw [hm] at ho; cases ho; cases hc)).trans hm
  exact ⟨one _ _ _ h.geo, one _ _ _ h.kind, one _ _ _ h.fst, one _ _ _ h.snd⟩

/-- The part in which a place lies. -/
theorem part_at {b c at_ : Int} (hc : 4 ≤ c) (h0 : 0 ≤ at_) {k x : Nat} (hk : k ≤ 4) (hx : (List.range k).getLast? = some x) (hy : ∀ y ∈ (List.range k).dropLast, partAt b c (y + 1) ≤ at_) (hlt : at_ < partAt b c (x + 1)) : kindAt x = thingAt c at_ := by
  obtain rfl | rfl | rfl | rfl | rfl : k = 0 ∨ k = 1 ∨ k = 2 ∨ k = 3 ∨ k = 4 := by omega
  · simp at hx
  all_goals
    simp [List.range_succ] at hx hy
    subst hx
    simp [partAt] at hy hlt
    unfold thingAt kindAt
    repeat (first | rw [if_neg (by omega)] | rw [if_pos (by omega)] | rfl)

theorem wpIn_cutI {F : Fence} {n : Nat} {P : Program} {c : Code} {Q : Exit → Act → World → Prop} {a : Act} {w : World} (R : Act → World → Prop) (h : c.wpIn F n P (justNormal fun _ a w => R a w) a w) (k : ∀ a' w', R a' w' → Q .normal a' w') : c.wpIn F n P Q a w :=
  wpIn_mono h (fun e a' w' q => by cases e <;> first | exact k _ _ q | exact q.elim)
theorem wpIn_cutw {n : Nat} {P : Program} {c : Code} {Q : Exit → Act → World → Prop} {a : Act} {w : World} (R : Act → World → Prop) (h : c.wp P (justNormal fun _ a w => R a w) a w) (k : ∀ a' w', R a' w' → Q .normal a' w') : c.wpIn Fence.wide n P Q a w :=
  wpIn_wide.2 (Code.wp_mono (fun e a' w' q => by cases e <;> first | exact k _ _ q | exact q.elim) h)

set_option maxRecDepth 100000 in
set_option maxHeartbeats 2000000 in
theorem what_group (a b c d n : Int) (w : World) (h : mayP a b c d) (hn0 : 2 + d ≤ n) (hn1 : n < 2 + d + a * b) :
    Calls Try.prog 18 #[geoV a b c d, .int .i64 n] w fun e w' => e = .returned (.tuple #[.int .u8 (thingAt c ((n - (2 + d)) % b)), .int .i64 ((n - (2 + d)) / b), .int .i64 ((n - (2 + d)) % b)]) ∧ Below w.heap.size w w' := by
  have Hm : Hid (mayB a b c d = true) := decide_eq_true h
  have hp := h.mul
  have hd : 40 ≤ d ∧ d ≤ 256 := h.2.2.2.2.1
  have hb : 16 ≤ b ∧ b ≤ 512 := h.2.1
  have hc : 4 ≤ c ∧ c ≤ 64 := h.2.2.1
  have hcb : 3 + c / 4 ≤ b := h.2.2.2.2.2.1
  obtain ⟨p0, p1⟩ := hp
  obtain ⟨d0, d1⟩ := hd
  obtain ⟨b0, b1⟩ := hb
  obtain ⟨c0, c1⟩ := hc
  have f1 : within2 n 0 (2 + d + a * b - 1) = true := within2_yes (by omega) (by omega)
  have z0 : (n == 0) = false := by simp; omega
  have z1 : (n == 1) = false := by simp; omega
  clear h
  unfold geoV
  refine (callsIn_wide (n := 3)).1 ?_
  refine callsIn_of_wp_marks Try.func18 rfl trivial ?_ rfl
  simp only [Try.ntmps18, List.size_toArray, List.length_cons, List.length_nil, Nat.reduceAdd, Nat.reduceSub, Array.replicate_succ, Array.replicate_zero, List.push_toArray, List.append_toArray, List.nil_append, List.cons_append]
  gi_wp2_with (first
    | (refine ⟨trivial, ?_⟩; gi_at_call 20; refine (callsIn_wide.2 (may_any a b c d _)).mono ?_; rintro e w1 ⟨rfl, h1⟩; rw [Hm.out]; obtain ⟨g0, g1, g2, g3, hB⟩ := box4 h1; have HL := hide (Lay.mk g0 g1 g2 g3); have H1 := hide hB; obtain ⟨⟨k0, k1, k2, k3⟩, ⟨k4, k5, k6⟩, k7, k8, k9⟩ := HL.out.cells; clear h1 g0 g1 g2 g3 hB)
    | (refine ⟨trivial, ?_⟩; gi_at_call 31; refine (callsIn_wide.2 (all_any a b c d _ p0 (by omega) (by omega) (by omega))).mono ?_; rintro e w2 ⟨rfl, h2⟩; have H2 : Hid (Below w.heap.size w w2) := B_then H1.out h2; have HL2 := hide (HL.out.below h2); obtain ⟨⟨k0, k1, k2, k3⟩, ⟨k4, k5, k6⟩, k7, k8, k9⟩ := HL2.out.cells; clear h2)
    | (refine ⟨trivial, ?_⟩; gi_at_call 30; refine (callsIn_wide.2 (among_any _ _ _ _)).mono ?_; rintro e w3 ⟨rfl, rfl⟩; rw [f1]))
  generalize hK : n - (2 + d) = K at *
  have HK := hide hK
  have K0 : 0 ≤ K := by omega
  have K1 : K < a * b := by omega
  have e1 : K.tdiv b = K / b := Int.tdiv_eq_ediv_of_nonneg K0
  have e2 : K.tmod b = K % b := Int.tmod_eq_emod_of_nonneg K0
  have r0 : 0 ≤ K / b := Int.ediv_nonneg K0 (by omega)
  have r1 : K / b ≤ K := Int.ediv_le_self _ K0
  have r2 : 0 ≤ K % b := Int.emod_nonneg _ (by omega)
  have r3 : K % b < b := Int.emod_lt_of_pos _ (by omega)
  have e3 : IntKind.i64.wrap (K / b) = K / b := IntWalk.i64_in _ (by omega)
  have bz : (b == 0) = false := by simp; omega
  have bz' : b ≠ 0 := by omega
  have y3 : w.heap.size + 1 + 1 + 1 < w2.heap.size := lt_of_block HL2.out.snd
  have y2 : w.heap.size + 1 + 1 < w2.heap.size := by omega
  have y1 : w.heap.size + 1 < w2.heap.size := by omega
  have y0 : w.heap.size < w2.heap.size := by omega
  clear hK hn0 hn1 f1 z0 z1
  refine wpIn_cutw (fun a' V => ∃ B7 B8, a' = { tmps := #[Value.agg #[.int .i64 a, .int .i64 b, .int .i64 c, .int .i64 d], .int .i64 (K), .pointer (some ⟨w.heap.size, 0, none⟩), undef, .pointer (some ⟨w.heap.size + 1, 0, none⟩), .pointer (some ⟨w.heap.size + 1 + 1, 0, none⟩), .pointer (some ⟨w.heap.size + 1 + 1 + 1, 0, none⟩), .pointer (some ⟨B7, 0, none⟩), .pointer (some ⟨B8, 0, none⟩), undef, .bool false, Value.agg #[.int .i64 a, .int .i64 b, .int .i64 c, .int .i64 d], .bool true, .bool false, .bool false, .int .i64 (n), Value.agg #[.int .i64 a, .int .i64 b, .int .i64 c, .int .i64 d], .int .i64 (2 + d + a * b), .int .i64 (2 + d + a * b - 1), .bool true, .bool false, .bool false, .bool false, .int .i64 (n), .bool false, .bool false, .int .i64 (n), .bool false, .bool (decide (n < 2 + d)), .int .i64 (n), .pointer (some ⟨w.heap.size, 3, none⟩), .int .i64 (d), .int .i64 (2 + d), .bool (decide (n < 2 + d)), undef, undef, .int .i64 (n), .pointer (some ⟨w.heap.size, 3, none⟩), .int .i64 (d), .int .i64 (2 + d), .int .i64 (K), .int .i64 (K), .pointer (some ⟨w.heap.size, 1, none⟩), .int .i64 (b), .int .i64 (K / b), .int .i64 (K), .pointer (some ⟨w.heap.size, 1, none⟩), .int .i64 (b), .int .i64 (K % b), undef, undef, undef, undef, undef, undef, undef, undef, undef, undef, undef], defers := [] } ∧ w2.heap.size ≤ V.heap.size ∧ (w2.heap.size ≤ B7 ∧ w2.heap.size ≤ B8) ∧ B7 < V.heap.size ∧ B8 < V.heap.size ∧ V.cell? ⟨B7, 0, none⟩ = some (.int .i64 (K / b)) ∧ V.cell? ⟨B8, 0, none⟩ = some (.int .i64 (K % b)) ∧ Below w2.heap.size w2 V) ?reg ?rest
  case reg =>
    go_region
    all_goals
      refine ⟨_, _, rfl, by simp; try omega, by simp, by simp; try omega, by simp; try omega, ?_, ?_, (((Below.refl _ w2).alloc (Nat.le_refl _) _).alloc (by simp) _).drew⟩
      all_goals simp [go_sem]
  case rest =>
    rintro _ V ⟨B7, B8, rfl, g0, ⟨q7, q8⟩, g1, g2, g3, g4, g5⟩
    clear e1 e2 e3
    have G5 := hide g5
    have HLV := hide (HL2.out.below g5)
    clear k0 k1 k2 k3 k4 k5 k6 k7 k8 k9
    obtain ⟨⟨k0, k1, k2, k3⟩, ⟨k4, k5, k6⟩, k7, k8, k9⟩ := HLV.out.cells
    clear g5
    gi_wp2_with (refine ⟨trivial, ?_⟩; gi_at_call 32; refine (parts_in _ _ _ _ _ _).mono ?_; rintro e w' ⟨rfl, rfl⟩)
    obtain ⟨W0, hW0⟩ : ∃ W0, V.alloc (.cells #[.int .i64 a, .int .i64 b, .int .i64 c, .int .i64 d] 23) = W0 := ⟨_, rfl⟩
    rw [hW0]
    have hB0 : Hid (Below V.heap.size V W0) := by rw [← hW0]; exact (Below.refl _ V).alloc (Nat.le_refl _) _
    have hs0 : V.heap.size < W0.heap.size := by rw [← hW0]; simp
    have HX : Hid (W0.cell? ⟨V.heap.size, 2, none⟩ = some (.int .i64 c) ∧ W0.cell? ⟨V.heap.size, 1, none⟩ = some (.int .i64 b)) := by
      rw [← hW0]; exact ⟨by rw [cell_of_row _ _ _ _ _ _ (heap_alloc_new V _)]; rfl, by rw [cell_of_row _ _ _ _ _ _ (heap_alloc_new V _)]; rfl⟩
    have HL0 := hide (HLV.out.below hB0.out)
    have HC : Hid (W0.cell? ⟨B7, 0, none⟩ = some (.int .i64 (K / b)) ∧ W0.cell? ⟨B8, 0, none⟩ = some (.int .i64 (K % b))) := ⟨(hB0.out.cell (p := ⟨B7, 0, none⟩) g1).trans g3, (hB0.out.cell (p := ⟨B8, 0, none⟩) g2).trans g4⟩
    have HB : Hid (Below w.heap.size w W0) := (H2.out.trans (G5.out.mono (by omega))).trans (hB0.out.mono (by omega))
    clear hW0 k0 k1 k2 k3 k4 k5 k6 k7 k8 k9 g3 g4
    refine wpIn_rangeFunc_ownH rfl (by omega) (gf := 33) (lb := #[.pointer (some ⟨V.heap.size, 0, none⟩)]) rfl trivial (enters_of Try.func33 (by kernel_rfl) rfl)
      (parts_stops 2 (by omega) V.heap.size W0.heap.size a b c d (by omega) (by omega) W0 hs0 (Nat.le_refl _) HX.out.1 HX.out.2)
      belowK_t (belowK_b (Nat.le_refl _)) (Below.refl _ _) (fun _ => rfl)
      (fun pre W => (∀ x ∈ pre, partAt b c (x + 1) ≤ K % b) ∧ Below W0.heap.size W0 W)
      (fun cd pre W => (cd = .ret ∧ ∃ x, pre.getLast? = some x ∧ (∀ y ∈ pre.dropLast, partAt b c (y + 1) ≤ K % b) ∧ K % b < partAt b c (x + 1) ∧ Lay W w.heap.size a b c d (kindAt x) (K / b) (K % b)) ∧ Below w.heap.size w W)
      (OwnFrom.and (ownFrom_pure _ _) (ownFrom_below (Nat.le_refl _) (Nat.le_refl _)))
      (fun cd => OwnFrom.and (Own.from (fun s A B row hs hg hr => by obtain ⟨h1, x, h2, h3, h4, h5⟩ := hs; exact ⟨h1, x, h2, h3, h4, h5.kept hg hr⟩) _) (ownFrom_below (Nat.le_refl _) (by omega)))
      ⟨by simp, Below.refl _ _⟩
      (fun x a' W => ∃ n9 : Nat, a' = { tmps := #[Value.agg #[.int .i64 a, .int .i64 b, .int .i64 c, .int .i64 d], .int .i64 (K), .pointer (some ⟨w.heap.size, 0, none⟩), undef, .pointer (some ⟨w.heap.size + 1, 0, none⟩), .pointer (some ⟨w.heap.size + 1 + 1, 0, none⟩), .pointer (some ⟨w.heap.size + 1 + 1 + 1, 0, none⟩), .pointer (some ⟨B7, 0, none⟩), .pointer (some ⟨B8, 0, none⟩), .pointer (some ⟨n9, 0, none⟩), .bool false, Value.agg #[.int .i64 a, .int .i64 b, .int .i64 c, .int .i64 d], .bool true, .bool false, .bool false, .int .i64 (n), Value.agg #[.int .i64 a, .int .i64 b, .int .i64 c, .int .i64 d], .int .i64 (2 + d + a * b), .int .i64 (2 + d + a * b - 1), .bool true, .bool false, .bool false, .bool false, .int .i64 (n), .bool false, .bool false, .int .i64 (n), .bool false, .bool (decide (n < 2 + d)), .int .i64 (n), .pointer (some ⟨w.heap.size, 3, none⟩), .int .i64 (d), .int .i64 (2 + d), .bool (decide (n < 2 + d)), undef, undef, .int .i64 (n), .pointer (some ⟨w.heap.size, 3, none⟩), .int .i64 (d), .int .i64 (2 + d), .int .i64 (K), .int .i64 (K), .pointer (some ⟨w.heap.size, 1, none⟩), .int .i64 (b), .int .i64 (K / b), .int .i64 (K), .pointer (some ⟨w.heap.size, 1, none⟩), .int .i64 (b), .int .i64 (K % b), Value.agg #[.int .i64 a, .int .i64 b, .int .i64 c, .int .i64 d], .func (.func 33) #[] #[.pointer (some ⟨V.heap.size, 0, none⟩)], .agg #[.int .i64 (partAt b c x), .int .i64 (partAt b c (x + 1)), .int .u8 (kindAt x)], undef, undef, undef, undef, undef, undef, undef, undef], defers := [] } ∧ W.cell? ⟨n9, 0, none⟩ = some (.int .i64 (partAt b c x)) ∧ W.cell? ⟨n9, 1, none⟩ = some (.int .i64 (partAt b c (x + 1))) ∧ W.cell? ⟨n9, 2, none⟩ = some (.int .u8 (kindAt x)))
      (fun x a' => Own.from (fun s A B row hs hg hr => by obtain ⟨n9, h1, h2, h3, h4⟩ := hs; exact ⟨n9, h1, cell_kept h2 hg hr, cell_kept h3 hg hr, cell_kept h4 hg hr⟩) _)
      ?assign ?body ?done ?stop
    case assign =>
      rintro l pre x W K' ⟨hp, hB⟩ hK'
      unfold partEnc
      have Hp := hide hp
      have HB1 := hide hB
      have hz := hB.size
      clear hp hB
      gi_wp2
      have hn := heap_alloc_new W (.cells #[.int .i64 (partAt b c x), .int .i64 (partAt b c (x + 1)), .int .u8 (kindAt x)] 47)
      exact hK' _ _ ((KeepsOthers.alloc _ _).from _) ((Below.refl _ _).alloc hz _) ⟨Hp.out, HB1.out.alloc hz _⟩ ⟨_, rfl, by rw [cell_of_row _ _ _ _ _ _ hn]; rfl, by rw [cell_of_row _ _ _ _ _ _ hn]; rfl, by rw [cell_of_row _ _ _ _ _ _ hn]; rfl⟩
    case body =>
      rintro l pre x _ W hl hrec ⟨hp, hB⟩ ⟨n9, rfl, m0, m1, m2⟩ _
      have HP := hide hp
      have HB1 := hide hB
      have HLW := hide (HL0.out.below hB)
      have c7 := (hB.cell (p := ⟨B7, 0, none⟩) (by show B7 < _; omega)).trans HC.out.1
      have c8 := (hB.cell (p := ⟨B8, 0, none⟩) (by show B8 < _; omega)).trans HC.out.2
      obtain ⟨⟨k0, k1, k2, k3⟩, ⟨k4, k5, k6⟩, k7, k8, k9⟩ := HLW.out.cells
      clear hp hB k0 k1 k2 k3
      by_cases hlt : K % b < partAt b c (x + 1)
      · have Hlt := hide hlt
        have hv : decide (K % b < partAt b c (x + 1)) = true := decide_eq_true hlt
        have a1 : B7 ≠ w.heap.size + 1 := by omega
        have a2 : B7 ≠ w.heap.size + 1 + 1 := by omega
        have a3 : B8 ≠ w.heap.size + 1 := by omega
        have a4 : B8 ≠ w.heap.size + 1 + 1 := by omega
        have a5 : w.heap.size + 1 ≠ B7 := by omega
        have a6 : w.heap.size + 1 + 1 ≠ B7 := by omega
        have a7 : w.heap.size + 1 ≠ B8 := by omega
        have a8 : w.heap.size + 1 + 1 ≠ B8 := by omega
        clear hlt
        gi_wp2
        refine wpIn_cutI (fun a' V' => V' = (((W.setCell ⟨w.heap.size + 1, 0, none⟩ (.int .u8 (kindAt x))).setCell ⟨w.heap.size + 1 + 1, 0, none⟩ (.int .i64 (K / b))).setCell ⟨w.heap.size + 1 + 1 + 1, 0, none⟩ (.int .i64 (K % b))).drew) ?reg ?rest
        case reg =>
          gi_region
          all_goals exact rfl
        case rest =>
          rintro a' V' rfl
          gi_wp2
          have hL : Lay ((((W.setCell ⟨w.heap.size + 1, 0, none⟩ (.int .u8 (kindAt x))).setCell ⟨w.heap.size + 1 + 1, 0, none⟩ (.int .i64 (K / b))).setCell ⟨w.heap.size + 1 + 1 + 1, 0, none⟩ (.int .i64 (K % b))).drew) w.heap.size a b c d (kindAt x) (K / b) (K % b) := (HLW.out.put3 _ _ _).drew
          refine ⟨((((KeepsOthers.setCell W _ _).trans (KeepsOthers.setCell _ _ _)).trans (KeepsOthers.setCell _ _ _)).trans (KeepsOthers.drew _)).from _, ⟨rfl, x, by simp, by simpa using HP.out, Hlt.out, hL⟩, ?_⟩
          exact (((((HB.out.trans (HB1.out.mono (by omega))).setCell (p := ⟨w.heap.size + 1, 0, none⟩) (Nat.le_succ _) _).setCell (p := ⟨w.heap.size + 1 + 1, 0, none⟩) (by show _ ≤ w.heap.size + 1 + 1; omega) _).setCell (p := ⟨w.heap.size + 1 + 1 + 1, 0, none⟩) (by show _ ≤ w.heap.size + 1 + 1 + 1; omega) _).drew)
      · have Hge : Hid (∀ y ∈ pre ++ [x], partAt b c (y + 1) ≤ K % b) := fun y hy => (List.mem_append.1 hy).elim (HP.out y) (fun e => by simp at e; subst e; omega)
        have hv : decide (K % b < partAt b c (x + 1)) = false := decide_eq_false hlt
        clear hlt
        gi_wp2
        exact ⟨KeepsFrom.refl _ _, Below.refl _ _, Hge.out, HB1.out⟩
    case done =>
      rintro D ys W hD rfl ⟨hp, hB⟩ hK
      have := hp 3 (by simp)
      simp [partAt] at this
      omega
    case stop =>
      rintro D cd pre W hD ⟨k, hk, rfl⟩ ⟨⟨rfl, x, hx, hy, hlt, hl⟩, hB⟩ hK
      have Hk := hide (part_at c0 r2 hk hx hy hlt)
      have Hl := hide hl
      obtain ⟨⟨k0, k1, k2, k3⟩, ⟨k4, k5, k6⟩, k7, k8, k9⟩ := (hl.kept (grownBy_putObj' _ D (.deferred none)) (fun r e => by cases e; exact ⟨_, hK, rfl⟩)).cells
      have HBs := hide hB
      clear hx hy hlt hl hB
      gi_wp2
      refine ⟨by simp, .inl ⟨_, _, rfl, run_takeDeferred hK, ?_⟩⟩
      refine ⟨.tuple #[.int .u8 (kindAt x), .int .i64 (K / b), .int .i64 (K % b)], ?_, by rw [HK.out, Hk.out], HBs.out.trans (belowK_b (w := w) (Nat.le_refl _) _ D _ _ (by omega) hK rfl rfl)⟩
      simp [results, Try.f18, go_sem, k4, k5, k6]

/-- What a block is, of a geometry that may be. -/
def thingK (a b c d n : Int) : Int := if n < 0 ∨ 2 + d + a * b ≤ n then 0 else if n = 0 then 1 else if n = 1 then 2 else if n < 2 + d then 3 else thingAt c ((n - (2 + d)) % b)
def thingG (a b c d n : Int) : Int := if 2 + d ≤ n ∧ n < 2 + d + a * b then (n - (2 + d)) / b else 0
def thingA (a b c d n : Int) : Int := if 2 ≤ n ∧ n < 2 + d then n - 2 else if 2 + d ≤ n ∧ n < 2 + d + a * b then (n - (2 + d)) % b else 0
theorem tup_eq {a b c x y z : Int} (h0 : a = x) (h1 : b = y) (h2 : c = z) : Ending.returned (.tuple #[.int .u8 a, .int .i64 b, .int .i64 c]) = .returned (.tuple #[.int .u8 x, .int .i64 y, .int .i64 z]) := by subst h0 h1 h2; rfl
theorem what_any (a b c d n : Int) (w : World) (h : mayP a b c d) :
    Calls Try.prog 18 #[geoV a b c d, .int .i64 n] w fun e w' => e = .returned (.tuple #[.int .u8 (thingK a b c d n), .int .i64 (thingG a b c d n), .int .i64 (thingA a b c d n)]) ∧ Below w.heap.size w w' := by
  have hd : 40 ≤ d ∧ d ≤ 256 := h.2.2.2.2.1
  have p0 := h.mul
  by_cases h0 : n < 0 ∨ 2 + d + a * b ≤ n
  · refine (what_out a b c d n w h h0).mono fun e w' ⟨he, hw⟩ => ⟨he.trans (tup_eq ?_ ?_ ?_), hw⟩
    · unfold thingK; rw [if_pos h0]
    · unfold thingG; rw [if_neg (by omega)]
    · unfold thingA; rw [if_neg (by omega), if_neg (by omega)]
  by_cases h1 : n = 0
  · subst h1
    refine (what_zero a b c d w h).mono fun e w' ⟨he, hw⟩ => ⟨he.trans (tup_eq ?_ ?_ ?_), hw⟩
    · unfold thingK; rw [if_neg (by omega), if_pos rfl]
    · unfold thingG; rw [if_neg (by omega)]
    · unfold thingA; rw [if_neg (by omega), if_neg (by omega)]
  by_cases h2 : n = 1
  · subst h2
    refine (what_one a b c d w h).mono fun e w' ⟨he, hw⟩ => ⟨he.trans (tup_eq ?_ ?_ ?_), hw⟩
    · unfold thingK; rw [if_neg (by omega), if_neg (by omega), if_pos rfl]
    · unfold thingG; rw [if_neg (by omega)]
    · unfold thingA; rw [if_neg (by omega), if_neg (by omega)]
  by_cases h3 : n < 2 + d
  · refine (what_journal a b c d n w h (by omega) h3).mono fun e w' ⟨he, hw⟩ => ⟨he.trans (tup_eq ?_ ?_ ?_), hw⟩
    · unfold thingK; rw [if_neg (by omega), if_neg (by omega), if_neg (by omega), if_pos h3]
    · unfold thingG; rw [if_neg (by omega)]
    · unfold thingA; rw [if_pos (by omega)]
  · refine (what_group a b c d n w h (by omega) (by omega)).mono fun e w' ⟨he, hw⟩ => ⟨he.trans (tup_eq ?_ ?_ ?_), hw⟩
    · unfold thingK; rw [if_neg (by omega), if_neg (by omega), if_neg (by omega), if_neg h3]
    · unfold thingG; rw [if_pos (by omega)]
    · unfold thingA; rw [if_neg (by omega), if_pos (by omega)]
end Go.Proofs.Ytcigoodmkfnnfaa
