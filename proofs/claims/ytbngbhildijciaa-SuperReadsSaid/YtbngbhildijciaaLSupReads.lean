/- The law SuperReads. -/
import Derived.Test.YtbngbhildijciaaSup22
namespace Go.Proofs.Ytbngbhildijciaa
open Go.RowKit Go.BigFrame
set_option linter.unusedVariables false

section
variable {ops : Array Oper} {rest : List Oper} {o : Oper} {a : Act} {w : World} {Q : Exit → Act → World → Prop}
theorem eqlSg (hgd : Region.wanted o (yielded ops a.tmps) = true) (x y : Operand) (ho : o.op = .binOp .eql 26 x y 26) (i j : Su) (hx : a.eval x = .agg (suC i)) (hy : a.eval y = .agg (suC j)) {b : Bool} (hb : suE i j = b)
    (k : wpList Try.prog ops Q rest (a.put o.dst (.bool b)) w) : wpList Try.prog ops Q (o :: rest) a w := by
  subst hb
  refine wpList_want hgd fun _ hK => ?_
  unfold Oper.wp execOp
  simp only [ho, hx, hy, Sem.run_bind, run_eqGuard_agg w .eql 26 x y _ _ (by kernel_rfl : Try.prog.eqGuardType Try.prog.depth 26 = false), Result.andThen_ok, eql_sup, Sem.run_pure]
  exact hK _ _ k
end
/-- What the document's ReadDescs tells. -/
theorem rrdescs_any (a b c d : Int) {f : Nat → Int} (hf : IsByte f) (V : World) :
    Calls Try.prog 19 #[geoV a b c d, blkV f] V fun e w' => (∃ A m c', e = .returned (.tuple #[.slice A m c', .int .i64 (ldC a b c d f)]) ∧ Ds w' A m (rdD f) ∧ (ldC a b c d f = 0 → m = a.toNat) ∧ (ldC a b c d f ≠ 0 → m = 0)) ∧ Below V.heap.size V w' := by
  by_cases h : mayP a b c d
  · obtain ⟨n, hn⟩ : ∃ n : Nat, a = n := ⟨a.toNat, by have := h.1; omega⟩
    subst hn
    refine (rrdescs_ok n b c d f V hf h).mono ?_
    rintro e w' ⟨⟨A, c', rfl, hd⟩, hw⟩
    by_cases k : okD n b c f
    · rw [if_pos k] at hd
      have e0 : ldC n b c d f = 0 := by unfold ldC; rw [if_pos h, if_pos k]
      exact ⟨⟨A, n, c', by rw [if_pos k, if_pos k, e0], hd, fun _ => by omega, fun q => absurd e0 q⟩, hw⟩
    · rw [if_neg k] at hd
      have e0 : ldC n b c d f = 60 := by unfold ldC; rw [if_pos h, if_neg k]
      exact ⟨⟨A, 0, c', by rw [if_neg k, if_neg k, e0], hd, fun q => by omega, fun _ => rfl⟩, hw⟩
  · refine (rrdescs_geo a b c d f V h).mono ?_
    rintro e w' ⟨rfl, hw⟩
    have e0 : ldC a b c d f = 50 := by unfold ldC; rw [if_neg h]
    exact ⟨⟨none, 0, 0, by rw [e0], fun q => absurd q (by omega), fun q => by omega, fun _ => rfl⟩, hw⟩
structure RsSt (w : World) (f : Nat → Int) (a b c d : Int) (v : World) : Prop where
  blk : Row v w.heap.size 256 f
  geo : GeoAt v (w.heap.size + 1) a b c d
  old : Below w.heap.size w v
section
variable {w v v' : World} {f : Nat → Int} {a b c d : Int}
theorem RsSt.below (h : RsSt w f a b c d v) (k : Below v.heap.size v v') : RsSt w f a b c d v' := ⟨h.blk.below k h.blk.lt, h.geo.below k h.geo.lt, h.old.trans (k.mono h.old.size)⟩
theorem RsSt.fresh {o : Obj} (h : RsSt w f a b c d v) (k : Only v.heap.size (v.alloc o) v') : RsSt w f a b c d v' :=
  h.below (((Below.refl _ v).alloc (Nat.le_refl _) o).trans (k.below (Nat.le_refl _) (by simp only [World.size_alloc]; omega)))
end
theorem RsSt.start (w : World) (f : Nat → Int) (a b c d : Int) (t s : TypeId) : RsSt w f a b c d ((w.alloc (.cells (bytesOf 256 f) t)).alloc (.cells #[.int .i64 a, .int .i64 b, .int .i64 c, .int .i64 d] s)) := by
  have n1 := GeoAt.new (w.alloc (.cells (bytesOf 256 f) t)) s a b c d
  simp only [World.size_alloc] at n1
  exact ⟨(Row.new w t 256 f).alloc _, n1, ((Below.refl _ w).alloc (Nat.le_refl _) _).alloc (by simp only [World.size_alloc]; omega) _⟩
structure Rs2 (w : World) (f : Nat → Int) (a b c d : Int) (P Q : Nat) (y : Su) (A : Option Addr) (m : Nat) (v : World) : Prop where
  st : RsSt w f a b c d v
  one : SuAt v P y.a y.b y.c y.d y.o
  two : SuAt v Q y.a y.b y.c y.d y.o
  ds : Ds v A m (rdD f)
theorem Rs2.below {w v v' : World} {f : Nat → Int} {a b c d : Int} {P Q m : Nat} {y : Su} {A : Option Addr} (h : Rs2 w f a b c d P Q y A m v) (k : Below v.heap.size v v') : Rs2 w f a b c d P Q y A m v' :=
  ⟨h.st.below k, h.one.below k h.one.lt, h.two.below k h.two.lt, h.ds.old k⟩
set_option maxRecDepth 100000 in
set_option maxHeartbeats 4000000 in
theorem superReads_law (f : Nat → Int) (a b c d : Int) (w : World) (hf : IsByte f) :
    Calls Try.prog 5 #[blkV f, geoV a b c d] w fun e w' => e = .returned (.bool true) ∧ Below w.heap.size w w' := by
  have S0 := hide (RsSt.start w f a b c d 29 23)
  obtain ⟨y, hy⟩ := rd_some f
  have HR1 : Hid (∀ V, Calls Try.prog 17 #[blkV f] V fun e w' => e = .returned (.tuple #[suV y, .int .i64 (rdC f)]) ∧ Below V.heap.size V w') := fun V => by
    have := read_any f V hf; rw [hy] at this; exact this
  have HR2 : Hid (∀ V, Calls Try.prog 18 #[blkV f] V fun e w' => e = .returned (.tuple #[suV y, .int .i64 (rdC f)]) ∧ Below V.heap.size V w') := fun V => by
    have := rread_any f V hf; rw [hy] at this; exact this
  have HD1 := hide (fun V => rdescs_any a b c d f V hf)
  have HD2 := hide (fun V => rrdescs_any a b c d hf V)
  have ye : suE y y = true := (suE_iff y y).2 rfl
  have HO : Hid (ldC a b c d f = 0 ∨ (ldC a b c d f = 50 ∨ ldC a b c d f = 60)) := by
    unfold Hid ldC; split
    · split <;> simp
    · simp
  have HN : Hid (ldC a b c d f = 0 → a.toNat ≤ 4) := fun q => by
    unfold ldC at q
    by_cases m : mayP a b c d
    · have := m.1; omega
    · rw [if_neg m] at q; omega
  have YE := hide ye
  clear hf hy ye
  generalize rdC f = r1 at *
  unfold blkV geoV
  go_enter Try.func5, Try.ntmps5
  go_wp2_with (refine ld256 rfl (.tmp 2) rfl _ _ rfl S0.out.blk ?_)
  refine (HR1.out _).mono ?_
  rintro e w1 ⟨rfl, hw⟩
  have S1 := hide (S0.out.below hw)
  clear hw S0
  go_wp2_with (first
    | (refine stS rfl (.tmp 5) (.tmp 18) rfl w1.heap.size 0 0 0 0 0 y.a y.b y.c y.d y.o rfl rfl (SuAt.new w1 _ 0 0 0 0 0) ?_
       intro w2 hr ho
       have S2 := hide (S1.out.fresh ho)
       have P2 := hide hr
       clear hr ho S1)
    | (refine ld256 rfl (.tmp 2) rfl _ _ rfl S2.out.blk ?_))
  generalize w1.heap.size = P at *
  refine (HR2.out _).mono ?_
  rintro e w3 ⟨rfl, hw⟩
  have S3 := hide (S2.out.below hw)
  have P3 := hide (P2.out.below hw P2.out.lt)
  clear hw S2 P2
  go_wp2_with (first
    | (refine stS rfl (.tmp 7) (.tmp 23) rfl w3.heap.size 0 0 0 0 0 y.a y.b y.c y.d y.o rfl rfl (SuAt.new w3 _ 0 0 0 0 0) ?_
       intro w4 hr ho
       have S4 := hide (S3.out.fresh ho)
       have P4 := hide (P3.out.fresh ho)
       have Q4 := hide hr
       clear hr ho S3 P3)
    | (refine ldG rfl (.tmp 3) rfl _ _ _ _ _ rfl S4.out.geo ?_)
    | (refine ld256 rfl (.tmp 2) rfl _ _ rfl S4.out.blk ?_))
  generalize w3.heap.size = Q at *
  refine (HD2.out _).mono ?_
  rintro e w5 ⟨⟨A3, m, c3, rfl, hd, hm, hm'⟩, hw⟩
  have T5 : Hid (Rs2 w f a b c d P Q y A3 m w5) := ⟨S4.out.below hw, P4.out.below hw P4.out.lt, Q4.out.below hw Q4.out.lt, hd⟩
  have HM := hide hm
  have HM' := hide hm'
  clear hw hd hm hm' S4 P4 Q4
  have HD3 : Hid (∀ V, Calls Try.prog 20 #[geoV a b c d, blkV f] V (LdEnd V a b c d f)) := HD1.out
  have HLd : Hid (∀ V e w', LdEnd V a b c d f e w' → (∃ v, e = .returned (.tuple #[v, .int .i64 (ldC a b c d f)]) ∧ ((ldC a b c d f = 0 ∧ ∃ L, v = .slice (some ⟨L, 0, none⟩) a.toNat a.toNat ∧ V.heap.size ≤ L ∧ IRow w' L (a.toNat * 3) (dH (rdD f) a.toNat)) ∨ (ldC a b c d f ≠ 0 ∧ v = .slice none 0 0))) ∧ Below V.heap.size V w') := fun V e w' h => h
  clear HD1 HD2 HR1 HR2
  generalize ldC a b c d f = o1 at *
  obtain rfl | ho : o1 = 0 ∨ (o1 = 50 ∨ o1 = 60) := HO.out
  · have hn4 : a.toNat ≤ 4 := HN.out rfl
    obtain rfl : m = a.toNat := HM.out rfl
    generalize hna : a.toNat = n at *
    have HNA := hide hna
    clear hna HM HM' HN HO
    go_wp2_with fail
    go_loopw [11] (fun i wr => ∃ k : Nat, k ≤ 2 ∧ i = .int .i64 k ∧ Rs2 w f a b c d P Q y A3 n wr) (fun i _ => 2 - (intOf i).toNat)
    case atStart => exact ⟨0, by omega, rfl, T5.out⟩
    case round =>
      obtain ⟨k, hk, rfl, hT⟩ := hrel
      clear T5
      have T6 := hide hT
      clear hT
      by_cases hk2 : k < 2
      · have hk0 : (0 : Int) ≤ k := by omega
        have hk1 : (k : Int) < 2 := by omega
        go_wp2_with (first
          | (refine ldG rfl (.tmp 3) rfl _ _ _ _ _ rfl T6.out.st.geo ?_)
          | (refine ld256 rfl (.tmp 2) rfl _ _ rfl T6.out.st.blk ?_))
        refine (HD3.out _).mono ?_
        intro e w7 hl
        obtain ⟨⟨v, rfl, hv⟩, hw⟩ := HLd.out _ _ _ hl
        rcases hv with ⟨_, L, rfl, hL, I⟩ | ⟨q, _⟩
        case inr => exact absurd rfl q
        clear hl
        have T7 := hide (T6.out.below hw)
        have I7 := hide I
        have B7 := hide hw
        have hL7 := hide hL
        clear hw I hL
        go_wp2_with fail
        refine (same_descs (some ⟨L, 0, none⟩) n n (rdD f) A3 n c3 (rdD f) _ I7.out.ds T7.out.ds (by omega)).mono ?_
        rw [sameDs_of rfl fun _ _ => rfl]
        rintro e w8 ⟨rfl, hw⟩
        have I8 := hide (I7.out.below hw I7.out.lt)
        have B8 := hide (B7.out.trans (hw.mono B7.out.size))
        clear hw I7 B7 T7
        go_wp2_with fail
        generalize wr = wA at *
        go_loopw [14] (fun i wq => ∃ j : Nat, j ≤ n ∧ i = .int .i64 j ∧ Below wA.heap.size wA wq ∧ ∃ h, IRow wq L (n * 3) h) (fun i _ => n - (intOf i).toNat)
        case atStart => exact ⟨0, by omega, rfl, B8.out, _, I8.out⟩
        case round =>
          obtain ⟨j, hj, rfl, hB, h, hI⟩ := hrel
          have B9 := hide hB
          have I9 := hide hI
          clear hB hI I8 B8
          by_cases hjn : j < n
          · have hc := I9.out.cell (i := j * 3) (by omega)
            have hz := I9.out.frozen (j * 3)
            have hj0 : (0 : Int) ≤ j := by omega
            have hj1 : (j : Int) < n := by omega
            have hj3 : ((j : Int)).toNat = j := by omega
            have B10 := hide (B9.out.setCell (p := ⟨L, j * 3, none⟩) hL7.out (.int .i64 (-5)))
            have I10 := hide (I9.out.set_ (j * 3) (-5))
            clear B9
            go_wp2_with fail
            go_roundw
            case rel => exact ⟨j + 1, by omega, by go_num, B10.out, _, I10.out⟩
            case measure => simp [intOf]; omega
          · obtain rfl : j = n := by omega
            have T10 := hide (T6.out.below B9.out)
            go_wp2_with fail
            go_roundw
            case rel => exact ⟨k + 1, by omega, by go_num, T10.out⟩
            case measure => simp [intOf]; omega
      · obtain rfl : k = 2 := by omega
        go_wp2_with (first
          | (refine ldSg rfl (.tmp 5) rfl _ y rfl T6.out.one ?_)
          | (refine ldSg rfl (.tmp 7) rfl _ y rfl T6.out.two ?_)
          | (refine eqlSg rfl (.tmp 60) (.tmp 61) rfl y y rfl rfl YE.out ?_))
        go_ret
        exact ⟨rfl, T6.out.st.old⟩
  · obtain rfl : m = 0 := HM'.out (by omega)
    clear HM HM' HN HO
    obtain rfl | rfl := ho
    all_goals
      go_wp2_with fail
      go_loopw [11] (fun i wr => ∃ k : Nat, k ≤ 2 ∧ i = .int .i64 k ∧ Rs2 w f a b c d P Q y A3 0 wr) (fun i _ => 2 - (intOf i).toNat)
      case atStart => exact ⟨0, by omega, rfl, T5.out⟩
      case round =>
        obtain ⟨k, hk, rfl, hT⟩ := hrel
        clear T5
        have T6 := hide hT
        clear hT
        by_cases hk2 : k < 2
        · have hk0 : (0 : Int) ≤ k := by omega
          have hk1 : (k : Int) < 2 := by omega
          go_wp2_with (first
            | (refine ldG rfl (.tmp 3) rfl _ _ _ _ _ rfl T6.out.st.geo ?_)
            | (refine ld256 rfl (.tmp 2) rfl _ _ rfl T6.out.st.blk ?_))
          refine (HD3.out _).mono ?_
          intro e w7 hl
          obtain ⟨⟨v, rfl, hv⟩, hw⟩ := HLd.out _ _ _ hl
          rcases hv with ⟨q, _⟩ | ⟨_, rfl⟩
          case inl => exact absurd q (by decide)
          clear hl
          have T7 := hide (T6.out.below hw)
          clear hw
          go_wp2_with fail
          refine (same_descs none 0 0 (rdD f) A3 0 c3 (rdD f) _ (fun q => absurd q (by omega)) T7.out.ds (by omega)).mono ?_
          rw [sameDs_of rfl fun _ _ => rfl]
          rintro e w8 ⟨rfl, hw⟩
          have T8 := hide (T7.out.below hw)
          clear hw T7
          go_wp2_with fail
          generalize wr = wA at *
          go_loopw [14] (fun i wq => i = .int .i64 0 ∧ Rs2 w f a b c d P Q y A3 0 wq) (fun i _ => 0)
          case atStart => exact ⟨rfl, T8.out⟩
          case round =>
            obtain ⟨rfl, hB⟩ := hrel
            have B9 := hide hB
            clear hB T8
            go_wp2_with fail
            go_roundw
            case rel => exact ⟨k + 1, by omega, by go_num, B9.out⟩
            case measure => simp [intOf]; omega
        · obtain rfl : k = 2 := by omega
          go_wp2_with (first
            | (refine ldSg rfl (.tmp 5) rfl _ y rfl T6.out.one ?_)
            | (refine ldSg rfl (.tmp 7) rfl _ y rfl T6.out.two ?_)
            | (refine eqlSg rfl (.tmp 60) (.tmp 61) rfl y y rfl rfl YE.out ?_))
          go_ret
          exact ⟨rfl, T6.out.st.old⟩
end Go.Proofs.Ytbngbhildijciaa
