/- The law SuperRow. -/
import Derived.Test.YtbngbhildijciaaSupS
namespace Go.Proofs.Ytbngbhildijciaa
open Go.RowKit Go.BigFrame
set_option linter.unusedVariables false

theorem GeoAt.setA {w : World} {B : Nat} {a b c d : Int} (h : GeoAt w B a b c d) (x : Int) : GeoAt (w.setCell ⟨B, 0, none⟩ (.int .i64 x)) B x b c d := by
  obtain ⟨t, e⟩ := h
  have q : (#[Value.int .i64 a, .int .i64 b, .int .i64 c, .int .i64 d] : Array Value).setIfInBounds 0 (.int .i64 x) = #[.int .i64 x, .int .i64 b, .int .i64 c, .int .i64 d] := rfl
  exact ⟨t, by rw [← q]; simp [World.setCell, Array.getElem?_modify, e]⟩
theorem GeoAt.frozen {w : World} {B : Nat} {a b c d : Int} (h : GeoAt w B a b c d) (i : Nat) : w.frozen? ⟨B, i, none⟩ = false := by
  obtain ⟨t, e⟩ := h
  simp [World.frozen?, e]
theorem eqlD {ops : Array Oper} {rest : List Oper} {o : Oper} {a : Act} {w : World} {Q : Exit → Act → World → Prop} (hgd : o.guard = none) (x y : Operand) (ho : o.op = .binOp .eql 50 x y 50) (i j : De) (hx : a.eval x = .agg (deC i)) (hy : a.eval y = .agg (deC j))
    (k : wpList Try.prog ops Q rest (a.put o.dst (.bool (deE i j))) w) : wpList Try.prog ops Q (o :: rest) a w := by
  refine wpList_plain hgd fun _ hK => ?_
  unfold Oper.wp execOp
  simp only [ho, hx, hy, Sem.run_bind, run_eqGuard_agg w .eql 50 x y _ _ (by kernel_rfl : Try.prog.eqGuardType Try.prog.depth 50 = false), Result.andThen_ok, eql_de, Sem.run_pure]
  exact hK _ _ k
theorem Ds.congr {w : World} {A : Option Addr} {n : Nat} {D E : Nat → De} (h : Ds w A n D) (e : ∀ i, i < n → D i = E i) : Ds w A n E := fun hn => by
  obtain ⟨b, off, q, hc⟩ := h hn
  exact ⟨b, off, q, fun i hi => by rw [← e i hi]; exact hc i hi⟩
theorem Ds.take {w : World} {A : Option Addr} {n m : Nat} {D : Nat → De} (h : Ds w A n D) (hm : m ≤ n) : Ds w A m D := fun hn => by
  obtain ⟨b, off, q, hc⟩ := h (by omega)
  exact ⟨b, off, q, fun i hi => hc i (by omega)⟩
structure RwSt (w : World) (a b c d : Int) (A : Option Addr) (n : Nat) (D : Nat → De) (v : World) : Prop where
  geo : GeoAt v w.heap.size a b c d
  des : Ds v A n D
  old : Below w.heap.size w v
section
variable {w v v' : World} {a b c d : Int} {A : Option Addr} {n : Nat} {D : Nat → De}
theorem RwSt.below (h : RwSt w a b c d A n D v) (k : Below v.heap.size v v') : RwSt w a b c d A n D v' := ⟨h.geo.below k h.geo.lt, h.des.old k, h.old.trans (k.mono h.old.size)⟩
theorem RwSt.fresh {o : Obj} (h : RwSt w a b c d A n D v) (k : Only v.heap.size (v.alloc o) v') : RwSt w a b c d A n D v' :=
  h.below (((Below.refl _ v).alloc (Nat.le_refl _) o).trans (k.below (Nat.le_refl _) (by simp only [World.size_alloc]; omega)))
end
theorem RwSt.only {w v v' : World} {a b c d : Int} {A : Option Addr} {n : Nat} {D : Nat → De} {g : Nat} (hD : Ds w A n D) (h : RwSt w a b c d A n D v) (k : Only g v v') (hg : w.heap.size < g) : RwSt w a b c d A n D v' := by
  have q : Below w.heap.size w v' := h.old.trans (k.below (by omega) h.old.size)
  obtain ⟨t, e⟩ := h.geo
  exact ⟨⟨t, (k.block _ (lt_of_block e) (fun q => by injection q; omega)).trans e⟩, hD.old q, q⟩
theorem RwSt.start (w : World) (a b c d : Int) (A : Option Addr) (n : Nat) (D : Nat → De) (t : TypeId) (h : Ds w A n D) : RwSt w a b c d A n D (w.alloc (.cells #[.int .i64 a, .int .i64 b, .int .i64 c, .int .i64 d] t)) :=
  ⟨GeoAt.new w t _ _ _ _, h.old ((Below.refl _ w).alloc (Nat.le_refl _) _), (Below.refl _ w).alloc (Nat.le_refl _) _⟩
set_option maxRecDepth 100000 in
set_option maxHeartbeats 1000000 in
theorem superRow_none (a b c d : Int) (A : Option Addr) (n cap : Nat) (D : Nat → De) (w : World) (hD : Ds w A n D) (h : wdC a b c d n D ≠ 0) :
    Calls Try.prog 10 #[geoV a b c d, .slice A n cap] w fun e w' => e = .returned (.bool true) ∧ Below w.heap.size w w' := by
  have S0 := hide (RwSt.start w a b c d A n D 23 hD)
  have HD2 : Hid (∀ V, Ds V A n D → Calls Try.prog 13 #[geoV a b c d, .slice A n cap] V fun e w' => e = .returned (.tuple #[.agg (bytesOf 256 (wdF a b c d n D)), .int .i64 (wdC a b c d n D)]) ∧ Below V.heap.size V w') := fun V h => wdescs_any _ _ _ _ A n cap D V h
  have c1 := wd_codes a b c d n D
  clear hD
  generalize wdF a b c d n D = F at *
  generalize wdC a b c d n D = e1 at *
  have C1 : Hid (e1 = 2 ∨ e1 = 50) := c1.resolve_left h
  clear c1 h
  unfold geoV
  go_enter Try.func10, Try.ntmps10
  go_wp2_with fail
  refine (awake_any _).mono ?_
  rintro e w1 ⟨rfl, hw⟩
  have S1 := hide (S0.out.below hw)
  clear hw S0
  go_wp2_with (refine ldG rfl (.tmp 2) rfl _ _ _ _ _ rfl S1.out.geo ?_)
  refine (HD2.out _ S1.out.des).mono ?_
  rintro e w2 ⟨rfl, hw⟩
  have S2 := hide (S1.out.below hw)
  clear hw S1
  obtain rfl | rfl := C1.out
  all_goals
    clear C1
    go_wp2_with (first
      | (refine allocB rfl rfl ?_)
      | (refine st256 rfl (.tmp 5) (.tmp 19) rfl w2.heap.size zeroF F rfl rfl (Row.new w2 _ _ _) ?_
         intro w3 hr ho
         have S3 := hide (S2.out.fresh ho)
         clear hr ho S2))
    go_ret
    exact ⟨rfl, S3.out.old⟩
theorem sameDs_self (D : Nat → De) (n : Nat) : sameDs D D n n = true := by
  unfold sameDs
  rw [decide_eq_true rfl, (sameD_iff D D n).2 fun _ _ => rfl]; rfl
theorem rd_all {a b c d : Int} {n : Nat} {D : Nat → De} {F : Nat → Int} (hF : IsByte F) (h0 : ldC a b c d F = 0) (hn : a.toNat = n) (hr : ∀ i, i < n → rdD F i = D i) (V : World) :
    Calls Try.prog 20 #[geoV a b c d, blkV F] V fun e w' => (∃ L, e = .returned (.tuple #[.slice (some ⟨L, 0, none⟩) n n, .int .i64 0]) ∧ Ds w' (some ⟨L, 0, none⟩) n D) ∧ Below V.heap.size V w' :=
  (rdescs_any a b c d F V hF).mono fun e w' ⟨⟨v, he, hv⟩, hw⟩ => by
    rcases hv with ⟨_, L, rfl, _, I⟩ | ⟨q, _⟩
    · rw [hn] at I he
      exact ⟨⟨L, by rw [he, h0], I.ds.congr hr⟩, hw⟩
    · exact absurd h0 q
theorem rd_not {a b c d : Int} {F : Nat → Int} (hF : IsByte F) {q : Int} (h0 : ldC a b c d F = q) (hq : q ≠ 0) (V : World) :
    Calls Try.prog 20 #[geoV a b c d, blkV F] V fun e w' => e = .returned (.tuple #[.slice none 0 0, .int .i64 q]) ∧ Below V.heap.size V w' :=
  (rdescs_any a b c d F V hF).mono fun e w' ⟨⟨v, he, hv⟩, hw⟩ => by
    rcases hv with ⟨q', _⟩ | ⟨_, rfl⟩
    · exact absurd (h0.symm.trans q') hq
    · exact ⟨by rw [he, h0], hw⟩
set_option maxRecDepth 100000 in
set_option maxHeartbeats 4000000 in
theorem superRow_some (b c d : Int) (A : Option Addr) (k cap : Nat) (D : Nat → De) (w : World) (hD : Ds w A (k + 1) D) (hcap : k + 1 ≤ cap) (h : wdC (((k + 1 : Nat) : Int)) b c d (k + 1) D = 0) :
    Calls Try.prog 10 #[geoV ((k + 1 : Nat) : Int) b c d, .slice A (k + 1) cap] w fun e w' => e = .returned (.bool true) ∧ Below w.heap.size w w' := by
  obtain ⟨m, z1, z2, z3⟩ := wd_zero h
  clear z1 z2 z3
  have h4 : k + 1 ≤ 4 := by have := m.1; omega
  have hb : IsByte (wdF ((k + 1 : Nat) : Int) b c d (k + 1) D) := wd_byte
  obtain ⟨q0, q1, q2⟩ := wd_back h
  have S0 := hide (RwSt.start w ((k + 1 : Nat) : Int) b c d A (k + 1) D 23 hD)
  have HD2 : Hid (∀ V, Ds V A (k + 1) D → Calls Try.prog 13 #[geoV ((k + 1 : Nat) : Int) b c d, .slice A (k + 1) cap] V fun e w' => e = .returned (.tuple #[.agg (bytesOf 256 (wdF ((k + 1 : Nat) : Int) b c d (k + 1) D)), .int .i64 0]) ∧ Below V.heap.size V w') := fun V hV => by
    have := wdescs_any ((k + 1 : Nat) : Int) b c d A (k + 1) cap D V hV
    rw [h] at this; exact this
  have HR := hide (fun V => rd_all hb q0 q1 q2 V)
  have HSm : Hid (∀ L V, Ds V A (k + 1) D → Ds V (some ⟨L, 0, none⟩) (k + 1) D → Calls Try.prog 15 #[.slice A (k + 1) cap, .slice (some ⟨L, 0, none⟩) (k + 1) (k + 1)] V fun e w' => e = .returned (.bool true) ∧ Below V.heap.size V w') := fun L V h1 h2 => by
    have := same_descs A (k + 1) cap D (some ⟨L, 0, none⟩) (k + 1) (k + 1) D V h1 h2 (by omega)
    rw [sameDs_self] at this; exact this
  have HL0 : Hid (k = 0 → ∀ V, Calls Try.prog 20 #[geoV (k : Int) b c d, blkV (wdF ((k + 1 : Nat) : Int) b c d (k + 1) D)] V fun e w' => e = .returned (.tuple #[.slice none 0 0, .int .i64 50]) ∧ Below V.heap.size V w') := fun hk V =>
    rd_not hb (by unfold ldC; rw [if_neg (fun q => by have := q.1; omega)]) (by decide) V
  have hrow : ¬ k = 0 → _ := fun hk => row_less h (by omega)
  rw [show ((k + 1 : Nat) : Int) - 1 = (k : Int) by omega] at hrow
  have HL1 : Hid (¬ k = 0 → D k = de0 → ∀ V, Calls Try.prog 20 #[geoV (k : Int) b c d, blkV (wdF ((k + 1 : Nat) : Int) b c d (k + 1) D)] V fun e w' => (∃ L, e = .returned (.tuple #[.slice (some ⟨L, 0, none⟩) k k, .int .i64 0]) ∧ Ds w' (some ⟨L, 0, none⟩) k D) ∧ Below V.heap.size V w') := fun hk hd V =>
    rd_all hb ((hrow hk).1.2 hd) (hrow hk).2.1 (hrow hk).2.2.2 V
  have HL2 : Hid (¬ k = 0 → ¬ D k = de0 → ∀ V, Calls Try.prog 20 #[geoV (k : Int) b c d, blkV (wdF ((k + 1 : Nat) : Int) b c d (k + 1) D)] V fun e w' => e = .returned (.tuple #[.slice none 0 0, .int .i64 60]) ∧ Below V.heap.size V w') := fun hk hd V =>
    rd_not hb ((hrow hk).2.2.1.resolve_left fun q => hd ((hrow hk).1.1 q)) (by decide) V
  have HSm2 : Hid (∀ L V, Ds V A k D → Ds V (some ⟨L, 0, none⟩) k D → Calls Try.prog 15 #[.slice (some ⟨L, 0, none⟩) k k, .slice A k cap] V fun e w' => e = .returned (.bool true) ∧ Below V.heap.size V w') := fun L V h1 h2 => by
    have := same_descs (some ⟨L, 0, none⟩) k k D A k cap D V h2 h1 (by omega)
    rw [sameDs_self] at this; exact this
  clear hrow
  have HDs := hide hD
  clear hD q0 q1 q2 m
  generalize wdF ((k + 1 : Nat) : Int) b c d (k + 1) D = F at *
  generalize hN : k + 1 = n at *
  have hn1 : (1 : Int) ≤ (n : Int) := by omega
  have hn2 : (n : Int) ≤ 4 := by omega
  have hk : (n : Int) - 1 = (k : Int) := by omega
  have hkc : (k : Int) ≤ cap := by omega
  have HN := hide hN
  have HK := hide hk
  have HC := hide hkc
  clear h hb hN h4 hcap hk hkc
  unfold geoV
  go_enter Try.func10, Try.ntmps10
  go_wp2_with fail
  refine (awake_any _).mono ?_
  rintro e w1 ⟨rfl, hw⟩
  have S1 := hide (S0.out.below hw)
  clear hw S0
  go_wp2_with (refine ldG rfl (.tmp 2) rfl _ _ _ _ _ rfl S1.out.geo ?_)
  refine (HD2.out _ S1.out.des).mono ?_
  rintro e w2 ⟨rfl, hw⟩
  have S2 := hide (S1.out.below hw)
  clear hw S1
  go_wp2_with (first
    | (refine allocB rfl rfl ?_)
    | (refine st256 rfl (.tmp 5) (.tmp 19) rfl w2.heap.size zeroF F rfl rfl (Row.new w2 _ _ _) ?_
       intro w3 hr ho
       have S3 := hide (S2.out.fresh ho)
       have R3 := hide hr
       clear hr ho S2)
    | (refine ldG rfl (.tmp 2) rfl _ _ _ _ _ rfl S3.out.geo ?_)
    | (refine ld256 rfl (.tmp 5) rfl _ _ rfl R3.out ?_))
  refine (HR.out _).mono ?_
  rintro e w4 ⟨⟨L, rfl, hL⟩, hw⟩
  have S4 := hide (S3.out.below hw)
  have R4 := hide (R3.out.below hw R3.out.lt)
  have L4 := hide hL
  clear hw hL S3 R3
  go_wp2_with fail
  refine (HSm.out L _ S4.out.des L4.out).mono ?_
  rintro e w5 ⟨rfl, hw⟩
  have S5 := hide (S4.out.below hw)
  have R5 := hide (R4.out.below hw R4.out.lt)
  clear hw S4 R4 L4
  have hk := HK.out
  obtain ⟨k0, k1, k2, k3⟩ := S5.out.geo.cells
  clear k1 k2 k3
  go_wp2_with (first
    | (refine ldG rfl (.tmp 2) rfl _ _ _ _ _ rfl S5.out.geo ?_)
    | (refine stG rfl (.tmp 9) (.tmp 44) rfl w5.heap.size 0 0 0 0 n b c d rfl rfl (GeoAt.new w5 _ 0 0 0 0) ?_
       intro w6 hr ho
       have S6 := hide (S5.out.fresh ho)
       have R6 := hide (R5.out.fresh ho)
       have L6 := hide hr
       have z6 := hr.frozen 0
       have d6 := hr.cells.1
       have c6 := S6.out.geo.cells.1
       have hlt5 := hr.lt
       have hltA : w.heap.size < w5.heap.size := S5.out.geo.lt
       have hltB : w2.heap.size < w5.heap.size := R5.out.lt
       clear hr ho S5 R5 k0)
    | (refine ldG rfl (.tmp 9) rfl _ _ _ _ _ rfl (L6.out.setA _) ?_)
    | (refine ld256 rfl (.tmp 5) rfl _ _ rfl (R6.out.only ((Only.refl _ _).setCell 0 _) (by omega)) ?_))
  have S7 := hide (S6.out.only HDs.out ((Only.refl _ _).setCell 0 (.int .i64 (k : Int))) hltA)
  clear S6 R6 L6 z6 d6 c6 hlt5 hltA hltB
  generalize World.setCell _ _ _ = w7 at *
  by_cases k0 : k = 0
  case pos =>
    refine (HL0.out k0 _).mono ?_
    rintro e w8 ⟨rfl, hw⟩
    have S8 := hide (S7.out.below hw)
    have g0 := S8.out.geo.cells.1
    have n1 : (n : Int) = 1 := by omega
    clear hw S7 hk k0
    go_wp2_with fail
    go_ret
    exact ⟨rfl, S8.out.old⟩
  have k0' : (0 : Int) ≤ k := by omega
  have k1 : (k : Int) < n := by omega
  have k2 : ((k : Int)).toNat = k := by omega
  have k3 := HC.out
  have n1 : ¬ (n : Int) = 1 := by omega
  by_cases hd : D k = de0
  case pos =>
    have e1 : deE (D k) de0 = true := (deE_iff _ _).2 hd
    refine (HL1.out k0 hd _).mono ?_
    rintro e w8 ⟨⟨L2, rfl, hL⟩, hw⟩
    have S8 := hide (S7.out.below hw)
    have L8 := hide hL
    have K0 := hide k0
    have g0 := S8.out.geo.cells.1
    have D8 := hide (S8.out.des.take (m := k) (by omega))
    obtain ⟨b', off, rfl, hc⟩ := S8.out.des (by omega)
    obtain ⟨c0, c1, c2⟩ := hc k (by omega)
    clear hw hL S7 hd k0 hc
    go_wp2_with (first | (refine eqlD rfl (.tmp 65) (.tmp 66) rfl (D k) de0 rfl rfl ?_))
    refine (HSm2.out L2 _ D8.out L8.out).mono ?_
    rintro e w9 ⟨rfl, hw⟩
    have S9 := hide (S8.out.below hw)
    clear hw S8
    go_wp2_with fail
    go_ret
    exact ⟨rfl, S9.out.old⟩
  have e1 : deE (D k) de0 = false := by
    cases q : deE (D k) de0 with
    | false => rfl
    | true => exact absurd ((deE_iff _ _).1 q) hd
  refine (HL2.out k0 hd _).mono ?_
  rintro e w8 ⟨rfl, hw⟩
  have S8 := hide (S7.out.below hw)
  have K0 := hide k0
  have g0 := S8.out.geo.cells.1
  obtain ⟨b', off, rfl, hc⟩ := S8.out.des (by omega)
  obtain ⟨c0, c1, c2⟩ := hc k (by omega)
  clear hw S7 hd k0 hc
  go_wp2_with (first | (refine eqlD rfl (.tmp 65) (.tmp 66) rfl (D k) de0 rfl rfl ?_))
  go_ret
  exact ⟨rfl, S8.out.old⟩
theorem superRow_law (a b c d : Int) (A : Option Addr) (n cap : Nat) (D : Nat → De) (w : World) (hD : Ds w A n D) (hcap : n ≤ cap) :
    Calls Try.prog 10 #[geoV a b c d, .slice A n cap] w fun e w' => e = .returned (.bool true) ∧ Below w.heap.size w w' := by
  by_cases h : wdC a b c d n D = 0
  · obtain ⟨m, hn, _, _⟩ := wd_zero h
    obtain ⟨k, rfl⟩ : ∃ k, n = k + 1 := ⟨n - 1, by have := m.1; omega⟩
    subst hn
    exact superRow_some b c d A k cap D w hD hcap h
  · exact superRow_none a b c d A n cap D w hD h
end Go.Proofs.Ytbngbhildijciaa
