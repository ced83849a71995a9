/- The law SuperBack. -/
import Derived.Test.YtbngbhildijciaaSupS
import Derived.Deep.DeepCutAuto
namespace Go.Proofs.Ytbngbhildijciaa
open Go.RowKit Go.BigFrame
set_option linter.unusedVariables false

section
variable {ops : Array Oper} {rest : List Oper} {o : Oper} {a : Act} {w : World} {Q : Exit → Act → World → Prop}
theorem ldSg (hgd : Region.wanted o (yielded ops a.tmps) = true) (x : Operand) (ho : o.op = .load 26 x) (B : Nat) (s : Su) (hx : a.eval x = .pointer (some ⟨B, 0, none⟩)) (h : SuAt w B s.a s.b s.c s.d s.o)
    (k : wpList Try.prog ops Q rest (a.put o.dst (.agg (suC s))) w) : wpList Try.prog ops Q (o :: rest) a w := by
  obtain ⟨t, h⟩ := h
  exact wpList_want hgd fun _ hK => wp_load_row _ x ho B hx t _ (0, 0) _ h Try.underlying26 rfl infoS (hK _ _ k)
theorem neqSg (hgd : Region.wanted o (yielded ops a.tmps) = true) (x y : Operand) (ho : o.op = .binOp .neq 26 x y 26) (i j : Su) (hx : a.eval x = .agg (suC i)) (hy : a.eval y = .agg (suC j)) {b : Bool} (hb : (!suE i j) = b)
    (k : wpList Try.prog ops Q rest (a.put o.dst (.bool b)) w) : wpList Try.prog ops Q (o :: rest) a w := by
  subst hb
  refine wpList_want hgd fun _ hK => ?_
  unfold Oper.wp execOp
  simp only [ho, hx, hy, Sem.run_bind, run_eqGuard_agg w .neq 26 x y _ _ (by kernel_rfl : Try.prog.eqGuardType Try.prog.depth 26 = false), Result.andThen_ok, neq_sup, Sem.run_pure]
  exact hK _ _ k
theorem buildBg (hgd : Region.wanted o (yielded ops a.tmps) = true) (ho : o.op = .build 29 #[])
    (k : wpList Try.prog ops Q rest (a.put o.dst (.agg (bytesOf 256 zeroF))) w) : wpList Try.prog ops Q (o :: rest) a w := by
  obtain ⟨i, hi, hz⟩ := zero_blk
  obtain ⟨j, hj⟩ := some_info
  refine wpList_want hgd fun _ hK => ?_
  unfold Oper.wp execOp
  simp [ho, Instr.build, Instr.fill, zeroValue, typeInfo, hi, hz, Value.cells, Try.underlying29, underlying, sizeOf, hj]
  exact hK _ _ k
end
structure BkSt (w : World) (x : Su) (f : Nat → Int) (a b c d : Int) (A : Option Addr) (n : Nat) (D : Nat → De) (v : World) : Prop where
  sup : SuAt v w.heap.size x.a x.b x.c x.d x.o
  blk : Row v (w.heap.size + 1) 256 f
  geo : GeoAt v (w.heap.size + 2) a b c d
  des : Ds v A n D
  old : Below w.heap.size w v
section
variable {w v v' : World} {x : Su} {f : Nat → Int} {a b c d : Int} {A : Option Addr} {n : Nat} {D : Nat → De}
theorem BkSt.below (h : BkSt w x f a b c d A n D v) (k : Below v.heap.size v v') : BkSt w x f a b c d A n D v' := ⟨h.sup.below k h.sup.lt, h.blk.below k h.blk.lt, h.geo.below k h.geo.lt, h.des.old k, h.old.trans (k.mono h.old.size)⟩
theorem BkSt.fresh {o : Obj} (h : BkSt w x f a b c d A n D v) (k : Only v.heap.size (v.alloc o) v') : BkSt w x f a b c d A n D v' :=
  h.below (((Below.refl _ v).alloc (Nat.le_refl _) o).trans (k.below (Nat.le_refl _) (by simp only [World.size_alloc]; omega)))
theorem BkSt.drew (h : BkSt w x f a b c d A n D v) : BkSt w x f a b c d A n D v.drew := ⟨h.sup, h.blk, h.geo, h.des, h.old.drew⟩
end
theorem Row.fresh2 {v v' : World} {g n : Nat} {f : Nat → Int} {o : Obj} (h : Row v g n f) (k : Only v.heap.size (v.alloc o) v') : Row v' g n f :=
  h.below (((Below.refl _ v).alloc (Nat.le_refl _) o).trans (k.below (Nat.le_refl _) (by simp only [World.size_alloc]; omega))) h.lt
theorem SuAt.fresh {v v' : World} {g : Nat} {a b c d e : Int} {o : Obj} (h : SuAt v g a b c d e) (k : Only v.heap.size (v.alloc o) v') : SuAt v' g a b c d e :=
  h.below (((Below.refl _ v).alloc (Nat.le_refl _) o).trans (k.below (Nat.le_refl _) (by simp only [World.size_alloc]; omega))) h.lt
theorem BkSt.start (w : World) (x : Su) (f : Nat → Int) (a b c d : Int) (A : Option Addr) (n : Nat) (D : Nat → De) (t s r : TypeId) (h : Ds w A n D) : BkSt w x f a b c d A n D (((w.alloc (.cells (suC x) t)).alloc (.cells (bytesOf 256 f) s)).alloc (.cells #[.int .i64 a, .int .i64 b, .int .i64 c, .int .i64 d] r)) := by
  have n0 : SuAt (w.alloc (.cells (suC x) t)) w.heap.size x.a x.b x.c x.d x.o := SuAt.new w t _ _ _ _ _
  have n1 := Row.new (w.alloc (.cells (suC x) t)) s 256 f
  simp only [World.size_alloc] at n1
  have n2 := GeoAt.new ((w.alloc (.cells (suC x) t)).alloc (.cells (bytesOf 256 f) s)) r a b c d
  simp only [World.size_alloc] at n2
  have q : Below w.heap.size w (((w.alloc (.cells (suC x) t)).alloc (.cells (bytesOf 256 f) s)).alloc (.cells #[.int .i64 a, .int .i64 b, .int .i64 c, .int .i64 d] r)) := (((Below.refl _ w).alloc (Nat.le_refl _) _).alloc (by simp only [World.size_alloc]; omega) _).alloc (by simp only [World.size_alloc]; omega) _
  exact ⟨(n0.alloc _).alloc _, n1.alloc _, n2, h.old q, q⟩
structure B2 (w : World) (x : Su) (f : Nat → Int) (a b c d : Int) (A : Option Addr) (n : Nat) (D : Nat → De) (P Q R : Nat) (F1 : Nat → Int) (y : Su) (F2 : Nat → Int) (A2 : Option Addr) (m : Nat) (E : Nat → De) (v : World) : Prop where
  st : BkSt w x f a b c d A n D v
  one : Row v P 256 F1
  two : SuAt v Q y.a y.b y.c y.d y.o
  three : Row v R 256 F2
  ds : Ds v A2 m E
section
variable {w v v' : World} {x : Su} {f : Nat → Int} {a b c d : Int} {A : Option Addr} {n : Nat} {D : Nat → De} {P Q R : Nat} {F1 : Nat → Int} {y : Su} {F2 : Nat → Int} {A2 : Option Addr} {m : Nat} {E : Nat → De}
theorem B2.drew (h : B2 w x f a b c d A n D P Q R F1 y F2 A2 m E v) : B2 w x f a b c d A n D P Q R F1 y F2 A2 m E v.drew := ⟨h.st.drew, h.one, h.two, h.three, h.ds⟩
theorem B2.steps : ∀ v v', B2 w x f a b c d A n D P Q R F1 y F2 A2 m E v → Below v.heap.size v v' → B2 w x f a b c d A n D P Q R F1 y F2 A2 m E v' := fun v v' h k => ⟨h.st.below k, h.one.below k h.one.lt, h.two.below k h.two.lt, h.three.below k h.three.lt, h.ds.old k⟩
end
theorem sameDs_of {D E : Nat → De} {n m : Nat} (h : n = m) (e : ∀ i, i < n → E i = D i) : sameDs D E n m = true := by
  unfold sameDs
  rw [decide_eq_true h, (sameD_iff D E n).2 fun i hi => (e i hi).symm]; rfl
/-- What comes back from ReadDescs, as a slice in any case. -/
theorem rd_gen (a b c d : Int) {F : Nat → Int} (hF : IsByte F) (V : World) :
    Calls Try.prog 20 #[geoV a b c d, blkV F] V fun e w' => (∃ A2 m, e = .returned (.tuple #[.slice A2 m m, .int .i64 (ldC a b c d F)]) ∧ Ds w' A2 m (rdD F) ∧ m ≤ 1000 ∧ (ldC a b c d F = 0 → m = a.toNat) ∧ (ldC a b c d F ≠ 0 → m = 0)) ∧ Below V.heap.size V w' :=
  (rdescs_any a b c d F V hF).mono fun e w' ⟨⟨v, he, hv⟩, hw⟩ => by
    rcases hv with ⟨q, L, rfl, _, I⟩ | ⟨q, rfl⟩
    · refine ⟨⟨_, _, he, I.ds, ?_, fun _ => rfl, fun h => absurd q h⟩, hw⟩
      have : a ≤ 4 := by
        unfold ldC at q
        by_cases m : mayP a b c d
        · exact m.1.2
        · rw [if_neg m] at q; omega
      omega
    · exact ⟨⟨none, 0, he, fun h => absurd h (by omega), by omega, fun h => absurd h q, fun _ => rfl⟩, hw⟩
theorem rd_some (F : Nat → Int) : ∃ y : Su, rdS F = suV y := by
  unfold rdS; split
  · exact ⟨⟨_, _, _, _, _⟩, rfl⟩
  · exact ⟨⟨0, 0, 0, 0, 0⟩, rfl⟩
theorem rd_pair {x : Su} (x0 : 0 ≤ x.o) (x1 : x.o ≤ 4294967295) : ∃ y : Su, rdS (wrF x.a x.b x.c x.d x.o) = suV y ∧ (wrC x.a x.b x.c x.d x.o = 0 → rdC (wrF x.a x.b x.c x.d x.o) = 0 ∧ (!suE y x) = false) := by
  by_cases h : wrC x.a x.b x.c x.d x.o = 0
  · obtain ⟨q1, q2⟩ := wr_back x0 x1 h
    exact ⟨x, q2, fun _ => ⟨q1, by rw [(suE_iff x x).2 rfl]; rfl⟩⟩
  · obtain ⟨y, hy⟩ := rd_some (wrF x.a x.b x.c x.d x.o)
    exact ⟨y, hy, fun q => absurd q h⟩
theorem rd_codes (F : Nat → Int) : rdC F = 0 ∨ rdC F = 50 ∨ rdC F = 60 := by
  unfold rdC; split
  · split
    · split <;> simp
    · simp
  · simp
theorem rd_u {f : Nat → Int} (hf : IsByte f) : ∃ u : Su, rdS f = suV u ∧ (rdC f = 0 → (∀ V, Calls Try.prog 11 #[.agg (suC u)] V fun e w' => e = .returned (.tuple #[.agg (bytesOf 256 (wrF u.a u.b u.c u.d u.o)), .int .i64 0]) ∧ Below V.heap.size V w') ∧ (!sameB (wrF u.a u.b u.c u.d u.o) f 256) = false) := by
  by_cases h : rdC f = 0
  · obtain ⟨u, e, ⟨u0, u1⟩, q, s⟩ := back_sup hf h
    refine ⟨u, e, fun _ => ⟨fun V => ?_, by rw [s]; rfl⟩⟩
    have := write_any u.a u.b u.c u.d u.o V u0 u1
    rw [q] at this; exact this
  · obtain ⟨u, e⟩ := rd_some f
    exact ⟨u, e, fun q => absurd q h⟩
set_option maxRecDepth 100000 in
set_option maxHeartbeats 4000000 in
theorem superBack_law (x : Su) (A : Option Addr) (n cap : Nat) (D : Nat → De) (f : Nat → Int) (a b c d : Int) (x0 : 0 ≤ x.o) (x1 : x.o ≤ 4294967295) (hf : IsByte f) (hn : n ≤ 1000) (w : World) (hD : Ds w A n D) :
    Calls Try.prog 6 #[suV x, .slice A n cap, blkV f, geoV a b c d] w fun e w' => e = .returned (.bool true) ∧ Below w.heap.size w w' := by
  have S0 := hide (BkSt.start w x f a b c d A n D 26 29 23 hD)
  have HW : Hid (∀ V, Calls Try.prog 11 #[.agg (suC x)] V fun e w' => e = .returned (.tuple #[.agg (bytesOf 256 (wrF x.a x.b x.c x.d x.o)), .int .i64 (wrC x.a x.b x.c x.d x.o)]) ∧ Below V.heap.size V w') := fun V => write_any _ _ _ _ _ V x0 x1
  have hb1 : IsByte (wrF x.a x.b x.c x.d x.o) := wr_byte
  have hb2 : IsByte (wdF a b c d n D) := wd_byte
  have HR : Hid (∀ V, Calls Try.prog 17 #[blkV (wrF x.a x.b x.c x.d x.o)] V fun e w' => e = .returned (.tuple #[rdS (wrF x.a x.b x.c x.d x.o), .int .i64 (rdC (wrF x.a x.b x.c x.d x.o))]) ∧ Below V.heap.size V w') := fun V => read_any _ V hb1
  have HD2 : Hid (∀ V, Ds V A n D → Calls Try.prog 13 #[geoV a b c d, .slice A n cap] V fun e w' => e = .returned (.tuple #[.agg (bytesOf 256 (wdF a b c d n D)), .int .i64 (wdC a b c d n D)]) ∧ Below V.heap.size V w') := fun V h => wdescs_any _ _ _ _ A n cap D V h
  have HR2 := hide (fun V => rd_gen a b c d hb2 V)
  obtain ⟨y, hy, hye⟩ := rd_pair x0 x1
  rw [hy] at HR
  have HC1 : Hid (¬ wrC x.a x.b x.c x.d x.o = 0 → (!sameB (wrF x.a x.b x.c x.d x.o) zeroF 256) = false) := fun h => by rw [wr_none h, sameB_self]; rfl
  have HC2 : Hid (¬ wdC a b c d n D = 0 → (!sameB (wdF a b c d n D) zeroF 256) = false) := fun h => by rw [wd_none h, sameB_self]; rfl
  have HC3 : Hid (wdC a b c d n D = 0 → ldC a b c d (wdF a b c d n D) = 0 ∧ a.toNat = n ∧ ∀ i, i < n → rdD (wdF a b c d n D) i = D i) := wd_back
  have HY := hide hye
  have HF := hide hf
  have HE1 := hide (wr_codes x)
  have HE2 := hide (wd_codes a b c d n D)
  clear hb1 hb2 hy hye hD x0 x1 hf
  generalize wrC x.a x.b x.c x.d x.o = e1 at *
  generalize rdC (wrF x.a x.b x.c x.d x.o) = f1 at *
  generalize wrF x.a x.b x.c x.d x.o = F1 at *
  generalize wdC a b c d n D = h1 at *
  generalize ldC a b c d (wdF a b c d n D) = i1 at *
  generalize rdD (wdF a b c d n D) = E at *
  generalize wdF a b c d n D = F2 at *
  unfold suV supV geoV blkV
  change Calls Try.prog _ #[.agg (suC x), _, _, _] w _
  have hn' : (n : Int) ≤ 1000 := by omega
  go_enter Try.func6, Try.ntmps6
  go_wp2_with fail
  refine (awake_any _).mono ?_
  rintro e w1 ⟨rfl, hw⟩
  have S1 := hide (S0.out.below hw)
  clear hw S0
  go_wp2_with (refine ldS rfl (.tmp 4) rfl _ _ _ _ _ _ rfl S1.out.sup ?_)
  refine (HW.out _).mono ?_
  rintro e w2 ⟨rfl, hw⟩
  have S2 := hide (S1.out.below hw)
  clear hw S1
  go_wp2_with (first
    | (refine allocB rfl rfl ?_)
    | (refine st256 rfl (.tmp 9) (.tmp 33) rfl w2.heap.size zeroF F1 rfl rfl (Row.new w2 _ _ _) ?_
       intro w3 hr ho
       have S3 := hide (S2.out.fresh ho)
       have P3 := hide hr
       clear hr ho S2)
    | (refine ld256 rfl (.tmp 9) rfl _ _ rfl P3.out ?_))
  generalize w2.heap.size = P at *
  refine (HR.out _).mono ?_
  rintro e w4 ⟨rfl, hw⟩
  have S4 := hide (S3.out.below hw)
  have P4 := hide (P3.out.below hw P3.out.lt)
  clear hw S3 P3
  go_wp2_with (first
    | (refine stS rfl (.tmp 11) (.tmp 38) rfl w4.heap.size 0 0 0 0 0 y.a y.b y.c y.d y.o rfl rfl (SuAt.new w4 _ 0 0 0 0 0) ?_
       intro w5 hr ho
       have S5 := hide (S4.out.fresh ho)
       have P5 := hide (P4.out.fresh2 ho)
       have Q5 := hide hr
       clear hr ho S4 P4)
    | (refine ldG rfl (.tmp 7) rfl _ _ _ _ _ rfl S5.out.geo ?_))
  generalize w4.heap.size = Q at *
  refine (HD2.out _ S5.out.des).mono ?_
  rintro e w6 ⟨rfl, hw⟩
  have S6 := hide (S5.out.below hw)
  have P6 := hide (P5.out.below hw P5.out.lt)
  have Q6 := hide (Q5.out.below hw Q5.out.lt)
  clear hw S5 P5 Q5
  go_wp2_with (first
    | (refine allocB rfl rfl ?_)
    | (refine st256 rfl (.tmp 13) (.tmp 44) rfl w6.heap.size zeroF F2 rfl rfl (Row.new w6 _ _ _) ?_
       intro w7 hr ho
       have S7 := hide (S6.out.fresh ho)
       have P7 := hide (P6.out.fresh2 ho)
       have Q7 := hide (Q6.out.fresh ho)
       have R7 := hide hr
       clear hr ho S6 P6 Q6)
    | (refine ldG rfl (.tmp 7) rfl _ _ _ _ _ rfl S7.out.geo ?_)
    | (refine ld256 rfl (.tmp 13) rfl _ _ rfl R7.out ?_))
  generalize w6.heap.size = R at *
  refine (HR2.out _).mono ?_
  rintro e w8 ⟨⟨A2, m, rfl, hd, hm, hi, hi'⟩, hw⟩
  have B8 : Hid (B2 w x f a b c d A n D P Q R F1 y F2 A2 m E w8) := ⟨S7.out.below hw, P7.out.below hw P7.out.lt, Q7.out.below hw Q7.out.lt, R7.out.below hw R7.out.lt, hd⟩
  have HI := hide hi
  clear hw hd hi hi' S7 P7 Q7 R7
  go_upto_region 9 with fail
  go_cut [94] from 52 to 93 (fun s wx => s = .bool false ∧ B2 w x f a b c d A n D P Q R F1 y F2 A2 m E wx)
  case first =>
    obtain rfl | he : e1 = 0 ∨ (e1 = 2 ∨ e1 = 50) := HE1.out
    · obtain ⟨rfl, ye⟩ := HY.out rfl
      obtain rfl | hh : h1 = 0 ∨ (h1 = 2 ∨ h1 = 50) := HE2.out
      · obtain ⟨rfl, hna, hE⟩ := HC3.out rfl
        have HSm : Hid (∀ V, B2 w x f a b c d A n D P Q R F1 y F2 A2 m E V → Calls Try.prog 15 #[.slice A n cap, .slice A2 m m] V fun e w' => e = .returned (.bool true) ∧ Below V.heap.size V w') := fun V hB => by
          have q := same_descs A n cap D A2 m m E V hB.st.des hB.ds (by omega)
          rw [sameDs_of (by rw [HI.out rfl, hna]) hE] at q; exact q
        clear hna hE HI
        go_wp2_with (first
          | (refine ldSg rfl (.tmp 11) rfl _ y rfl B8.out.two ?_)
          | (refine ldSg rfl (.tmp 4) rfl _ x rfl B8.out.st.sup ?_)
          | (refine neqSg rfl (.tmp 58) (.tmp 59) rfl y x rfl rfl ye ?_))
        refine (HSm.out _ B8.out).mono ?_
        rintro e w9 ⟨rfl, hw⟩
        replace B8 := hide (B2.steps _ _ B8.out hw)
        clear hw
        go_wp2_with fail
        go_meet
        case rel => exact ⟨rfl, B8.out⟩
      · have hz := HC2.out (by omega)
        clear HI
        obtain rfl | rfl := hh
        all_goals
          go_wp2_with (first
            | (refine ldSg rfl (.tmp 11) rfl _ y rfl B8.out.two ?_)
            | (refine ldSg rfl (.tmp 4) rfl _ x rfl B8.out.st.sup ?_)
            | (refine neqSg rfl (.tmp 58) (.tmp 59) rfl y x rfl rfl ye ?_)
            | (refine ldBg rfl (.tmp 13) rfl _ _ rfl B8.out.three ?_)
            | (refine buildBg rfl rfl ?_)
            | (refine neqBg rfl (.tmp 90) (.tmp 91) rfl _ _ rfl rfl hz ?_))
          go_meet
          case rel => exact ⟨rfl, B8.out⟩
    · have hx := HC1.out (by omega)
      obtain rfl | rfl := he
      all_goals
        obtain rfl | hh : h1 = 0 ∨ (h1 = 2 ∨ h1 = 50) := HE2.out
        · obtain ⟨rfl, hna, hE⟩ := HC3.out rfl
          have HSm : Hid (∀ V, B2 w x f a b c d A n D P Q R F1 y F2 A2 m E V → Calls Try.prog 15 #[.slice A n cap, .slice A2 m m] V fun e w' => e = .returned (.bool true) ∧ Below V.heap.size V w') := fun V hB => by
            have q := same_descs A n cap D A2 m m E V hB.st.des hB.ds (by omega)
            rw [sameDs_of (by rw [HI.out rfl, hna]) hE] at q; exact q
          clear hna hE HI
          go_wp2_with (first
            | (refine ldBg rfl (.tmp 9) rfl _ _ rfl B8.out.one ?_)
            | (refine buildBg rfl rfl ?_)
            | (refine neqBg rfl (.tmp 67) (.tmp 68) rfl _ _ rfl rfl hx ?_))
          refine (HSm.out _ B8.out).mono ?_
          rintro e w9 ⟨rfl, hw⟩
          replace B8 := hide (B2.steps _ _ B8.out hw)
          clear hw
          go_wp2_with fail
          go_meet
          case rel => exact ⟨rfl, B8.out⟩
        · have hz := HC2.out (by omega)
          clear HI
          obtain rfl | rfl := hh
          all_goals
            go_wp2_with (first
              | (refine ldBg rfl (.tmp 9) rfl _ _ rfl B8.out.one ?_)
              | (refine buildBg rfl rfl ?_)
              | (refine neqBg rfl (.tmp 67) (.tmp 68) rfl _ _ rfl rfl hx ?_)
              | (refine ldBg rfl (.tmp 13) rfl _ _ rfl B8.out.three ?_)
              | (refine neqBg rfl (.tmp 90) (.tmp 91) rfl _ _ rfl rfl hz ?_))
            go_meet
            case rel => exact ⟨rfl, B8.out⟩
  case rest =>
    obtain ⟨rfl, hB⟩ := hcut
    have T1 := hide hB.st
    clear hB B8 HY HC1 HC2 HC3 HI HE1 HE2 HW HR HD2 HR2
    go_wp2_with (refine ld256 rfl (.tmp 6) rfl _ _ rfl T1.out.blk ?_)
    obtain ⟨u, hu, hu2⟩ := rd_u HF.out
    have HJ := hide (rd_codes f)
    have HU := hide hu2
    have HRd : Hid (∀ V, Calls Try.prog 17 #[blkV f] V fun e w' => e = .returned (.tuple #[rdS f, .int .i64 (rdC f)]) ∧ Below V.heap.size V w') := fun V => read_any f V HF.out
    rw [hu] at HRd
    clear hu hu2
    generalize rdC f = j1 at *
    generalize wrF u.a u.b u.c u.d u.o = G at *
    refine (HRd.out _).mono ?_
    rintro e w9 ⟨rfl, hw⟩
    have T2 := hide (T1.out.below hw)
    clear hw T1 HRd
    go_upto_if 101 with (first
      | (refine stS rfl (.tmp 17) (.tmp 98) rfl w9.heap.size 0 0 0 0 0 u.a u.b u.c u.d u.o rfl rfl (SuAt.new w9 _ 0 0 0 0 0) ?_
         intro w10 hr ho
         have T3 := hide (T2.out.fresh ho)
         have U3 := hide hr
         clear hr ho T2))
    generalize w9.heap.size = P2 at *
    go_cut [] from 19 to 113 (fun wx => BkSt w x f a b c d A n D wx)
    case first =>
      obtain rfl | hj : j1 = 0 ∨ (j1 = 50 ∨ j1 = 60) := HJ.out
      · obtain ⟨q1, hs⟩ := HU.out rfl
        have HWu := hide q1
        clear q1
        go_wp2_with (refine ldS rfl (.tmp 17) rfl _ _ _ _ _ _ rfl U3.out ?_)
        refine (HWu.out _).mono ?_
        rintro e w11 ⟨rfl, hw⟩
        have T4 := hide (T3.out.below hw)
        clear hw T3
        go_wp2_with (first
          | (refine allocB rfl rfl ?_)
          | (refine st256 rfl (.tmp 19) (.tmp 105) rfl w11.heap.size zeroF G rfl rfl (Row.new w11 _ _ _) ?_
             intro w12 hr ho
             have T5 := hide (T4.out.fresh ho)
             have R5 := hide hr
             clear hr ho T4)
          | (refine ldBg rfl (.tmp 19) rfl _ _ rfl R5.out ?_)
          | (refine ldBg rfl (.tmp 6) rfl _ _ rfl T5.out.blk ?_)
          | (refine neqBg rfl (.tmp 110) (.tmp 111) rfl _ _ rfl rfl hs ?_))
        go_meet
        case rel => exact T5.out
      · obtain rfl | rfl := hj
        all_goals
          go_wp2_with fail
          go_meet
          case rel => exact T3.out
    case rest =>
      have T6 := hide hcut
      clear hcut T3 U3 HU HJ
      have HG := hide (fun V => rd_gen a b c d HF.out V)
      have HO : Hid (ldC a b c d f = 0 ∨ (ldC a b c d f = 50 ∨ ldC a b c d f = 60)) := by
        unfold Hid ldC; split
        · split <;> simp
        · simp
      have HB := hide (fun h => back_desc (a := a) (b := b) (c := c) (d := d) (f := f) h)
      generalize ldC a b c d f = o1 at *
      go_wp2_with (first
        | (refine ldG rfl (.tmp 7) rfl _ _ _ _ _ rfl T6.out.geo ?_)
        | (refine ld256 rfl (.tmp 6) rfl _ _ rfl T6.out.blk ?_))
      refine (HG.out _).mono ?_
      rintro e w13 ⟨⟨A3, m3, rfl, hd, hm, hi, hi'⟩, hw⟩
      have T7 := hide (T6.out.below hw)
      have D7 := hide hd
      clear hw hd T6
      obtain rfl | ho : o1 = 0 ∨ (o1 = 50 ∨ o1 = 60) := HO.out
      · have e3 := hi rfl
        obtain ⟨q1, q2⟩ := HB.out rfl
        rw [← e3] at q1 q2
        have HWd : Hid (∀ V, Ds V A3 m3 (rdD f) → Calls Try.prog 13 #[geoV a b c d, .slice A3 m3 m3] V fun e w' => e = .returned (.tuple #[.agg (bytesOf 256 (wdF a b c d m3 (rdD f))), .int .i64 0]) ∧ Below V.heap.size V w') := fun V h => by
          have q := wdescs_any a b c d A3 m3 m3 (rdD f) V h
          rw [q1] at q; exact q
        clear hi hi' e3 q1
        generalize wdF a b c d m3 (rdD f) = G2 at *
        go_wp2_with (refine ldG rfl (.tmp 7) rfl _ _ _ _ _ rfl T7.out.geo ?_)
        refine (HWd.out _ D7.out).mono ?_
        rintro e w14 ⟨rfl, hw⟩
        have T8 := hide (T7.out.below hw)
        clear hw T7
        go_wp2_with (first
          | (refine allocB rfl rfl ?_)
          | (refine st256 rfl (.tmp 23) (.tmp 129) rfl w14.heap.size zeroF G2 rfl rfl (Row.new w14 _ _ _) ?_
             intro w15 hr ho
             have T9 := hide (T8.out.fresh ho)
             have R9 := hide hr
             clear hr ho T8)
          | (refine ldBg rfl (.tmp 23) rfl _ _ rfl R9.out ?_)
          | (refine ldBg rfl (.tmp 6) rfl _ _ rfl T9.out.blk ?_)
          | (refine eqlBg rfl (.tmp 134) (.tmp 135) rfl _ _ rfl rfl q2 ?_))
        go_ret
        exact ⟨rfl, T9.out.old⟩
      · obtain rfl : m3 = 0 := hi' (by omega)
        clear hi hi'
        obtain rfl | rfl := ho
        all_goals
          go_wp2_with fail
          go_ret
          exact ⟨rfl, T7.out.old⟩
set_option maxRecDepth 100000 in
theorem superBack_all (x : Su) (A : Option Addr) (n cap : Nat) (D : Nat → De) (f : Nat → Int) (a b c d : Int) (x0 : 0 ≤ x.o) (x1 : x.o ≤ 4294967295) (hf : IsByte f) (w : World) (hD : Ds w A n D) :
    Calls Try.prog 6 #[suV x, .slice A n cap, blkV f, geoV a b c d] w fun e w' => e = .returned (.bool true) ∧ Below w.heap.size w w' := by
  by_cases hn : n ≤ 1000
  · exact superBack_law x A n cap D f a b c d x0 x1 hf hn w hD
  have S0 := hide (BkSt.start w x f a b c d A n D 26 29 23 hD)
  unfold suV supV geoV blkV
  change Calls Try.prog _ #[.agg (suC x), _, _, _] w _
  have hn' : (1000 : Int) < (n : Int) := by omega
  clear hn hD x0 x1 hf
  go_enter Try.func6, Try.ntmps6
  go_wp2_with fail
  refine (awake_any _).mono ?_
  rintro e w1 ⟨rfl, hw⟩
  have S1 := hide (S0.out.below hw)
  clear hw S0
  go_wp2_with fail
  go_ret
  exact ⟨rfl, S1.out.old⟩
end Go.Proofs.Ytbngbhildijciaa
