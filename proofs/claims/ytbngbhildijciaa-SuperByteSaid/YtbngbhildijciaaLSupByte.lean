/- The law SuperByte. -/
import Derived.Test.YtbngbhildijciaaSupQ
namespace Go.Proofs.Ytbngbhildijciaa
open Go.RowKit
set_option linter.unusedVariables false

theorem Row.byte_ {w : World} {g n : Nat} {f : Nat → Int} (h : Row w g n f) (i : Nat) (v : Int) : Row (w.setCell ⟨g, i, none⟩ (.int .u8 (bits .xor .u8 (f i) v))) g n (flipF f i v) := h.set_ i _
structure BySt (w : World) (x : Su) (A : Option Addr) (n : Nat) (D : Nat → De) (v : World) : Prop where
  sup : SuAt v w.heap.size x.a x.b x.c x.d x.o
  des : Ds v A n D
  old : Below w.heap.size w v
section
variable {w v v' : World} {x : Su} {A : Option Addr} {n : Nat} {D : Nat → De}
theorem BySt.below (h : BySt w x A n D v) (k : Below v.heap.size v v') : BySt w x A n D v' := ⟨h.sup.below k h.sup.lt, h.des.old k, h.old.trans (k.mono h.old.size)⟩
theorem BySt.fresh {o : Obj} (h : BySt w x A n D v) (k : Only v.heap.size (v.alloc o) v') : BySt w x A n D v' :=
  h.below (((Below.refl _ v).alloc (Nat.le_refl _) o).trans (k.below (Nat.le_refl _) (by simp only [World.size_alloc]; omega)))
theorem BySt.only {g : Nat} (hD : Ds w A n D) (h : BySt w x A n D v) (k : Only g v v') (hg : w.heap.size < g) : BySt w x A n D v' := by
  have q := h.old.trans (k.below (B := w.heap.size) (by omega) h.old.size)
  exact ⟨h.sup.only k (by omega), hD.old q, q⟩
end
theorem BySt.start (w : World) (x : Su) (A : Option Addr) (n : Nat) (D : Nat → De) (t : TypeId) (h : Ds w A n D) : BySt w x A n D (w.alloc (.cells (suC x) t)) :=
  ⟨SuAt.new w t _ _ _ _ _, h.old ((Below.refl _ w).alloc (Nat.le_refl _) _), (Below.refl _ w).alloc (Nat.le_refl _) _⟩
theorem rdS_su (f : Nat → Int) : ∃ y : Su, rdS f = suV y := by
  unfold rdS; split
  · exact ⟨⟨_, _, _, _, _⟩, rfl⟩
  · exact ⟨⟨0, 0, 0, 0, 0⟩, rfl⟩
set_option maxRecDepth 100000 in
set_option maxHeartbeats 1000000 in
theorem superByte_long (x : Su) (A : Option Addr) (n cap : Nat) (D : Nat → De) (a v : Int) (w : World) (hD : Ds w A n D) (hn : (1000 : Int) < n) :
    Calls Try.prog 7 #[suV x, .slice A n cap, .int .i64 a, .int .u8 v] w fun e w' => e = .returned (.bool true) ∧ Below w.heap.size w w' := by
  have S0 := hide (BySt.start w x A n D 26 hD)
  clear hD
  unfold suV supV
  change Calls Try.prog _ #[.agg (suC x), _, _, _] w _
  go_enter Try.func7, Try.ntmps7
  go_wp2_with fail
  refine (awake_any _).mono ?_
  rintro e w1 ⟨rfl, hw⟩
  have S1 := hide (S0.out.below hw)
  clear hw S0
  go_wp2_with fail
  go_ret
  exact ⟨rfl, S1.out.old⟩
set_option maxRecDepth 100000 in
set_option maxHeartbeats 8000000 in
theorem superByte_law (x : Su) (A : Option Addr) (n cap : Nat) (D : Nat → De) (a v : Int) (x0 : 0 ≤ x.o) (x1 : x.o ≤ 4294967295) (v0 : 0 ≤ v) (v1 : v ≤ 255) (w : World) (hD : Ds w A n D) :
    Calls Try.prog 7 #[suV x, .slice A n cap, .int .i64 a, .int .u8 v] w fun e w' => e = .returned (.bool true) ∧ Below w.heap.size w w' := by
  by_cases hn : (1000 : Int) < n
  · exact superByte_long x A n cap D a v w hD hn
  have a2 := Int.natAbs_tmod a 256
  rw [show (256 : Int).natAbs = 256 from rfl] at a2
  have a0 : -256 < a.tmod 256 ∧ a.tmod 256 < 256 := by omega
  have a1 : 0 ≤ a.tmod 256 + 256 := by omega
  clear a2
  obtain ⟨r, hr, er⟩ : ∃ r : Nat, r < 256 ∧ a.tmod 256 % 256 = r := ⟨(a.tmod 256 % 256).toNat, by omega, by omega⟩
  have HDs := hide hD
  have S0 := hide (BySt.start w x A n D 26 hD)
  have HW : Hid (∀ V, Calls Try.prog 11 #[.agg (suC x)] V fun e w' => e = .returned (.tuple #[.agg (bytesOf 256 (wrF x.a x.b x.c x.d x.o)), .int .i64 (wrC x.a x.b x.c x.d x.o)]) ∧ Below V.heap.size V w') := fun V => write_any _ _ _ _ _ V x0 x1
  have HD2 : Hid (∀ V, Ds V A n D → Calls Try.prog 13 #[geoV x.a x.b x.c x.d, .slice A n cap] V fun e w' => e = .returned (.tuple #[.agg (bytesOf 256 (wdF x.a x.b x.c x.d n D)), .int .i64 (wdC x.a x.b x.c x.d n D)]) ∧ Below V.heap.size V w') := fun V h => wdescs_any _ _ _ _ A n cap D V h
  have b1 : IsByte (wrF x.a x.b x.c x.d x.o) := wr_byte
  have b2 : IsByte (wdF x.a x.b x.c x.d n D) := wd_byte
  have c1 := wr_codes x
  have c2 := wd_codes x.a x.b x.c x.d n D
  have g1 : IsByte (flipF (wrF x.a x.b x.c x.d x.o) r v) ∧ (wrC x.a x.b x.c x.d x.o = 0 → (v = 0 ∧ rdC (flipF (wrF x.a x.b x.c x.d x.o) r v) = 0) ∨ (v ≠ 0 ∧ rdC (flipF (wrF x.a x.b x.c x.d x.o) r v) = 60)) := by
    by_cases hv : v = 0
    · subst hv
      rw [flip_zero b1]
      exact ⟨b1, fun h => .inl ⟨rfl, (wr_back x0 x1 h).1⟩⟩
    · obtain ⟨q1, q2, q3⟩ := flip_ne b1 r v0 v1 hv
      exact ⟨q1, fun h => .inr ⟨hv, rd_wrong (sum_wrong b1 q1 hr q2 q3 (wr_sum h))⟩⟩
  have g2 : IsByte (flipF (wdF x.a x.b x.c x.d n D) r v) ∧ (wdC x.a x.b x.c x.d n D = 0 → (v = 0 ∧ ldC x.a x.b x.c x.d (flipF (wdF x.a x.b x.c x.d n D) r v) = 0) ∨ (v ≠ 0 ∧ (ldC x.a x.b x.c x.d (flipF (wdF x.a x.b x.c x.d n D) r v) = 50 ∨ ldC x.a x.b x.c x.d (flipF (wdF x.a x.b x.c x.d n D) r v) = 60))) := by
    by_cases hv : v = 0
    · subst hv
      rw [flip_zero b2]
      exact ⟨b2, fun h => .inl ⟨rfl, (wd_back h).1⟩⟩
    · obtain ⟨q1, q2, q3⟩ := flip_ne b2 r v0 v1 hv
      exact ⟨q1, fun h => .inr ⟨hv, ld_wrong (sum_wrong b2 q1 hr q2 q3 (wd_sum h))⟩⟩
  obtain ⟨g1, p1⟩ := g1
  obtain ⟨g2, p2⟩ := g2
  clear b1 b2 x0 x1 hD
  generalize wrF x.a x.b x.c x.d x.o = F1 at *
  generalize wdF x.a x.b x.c x.d n D = F2 at *
  have HR1 : Hid (∀ V, Calls Try.prog 17 #[blkV (flipF F1 r v)] V fun e w' => e = .returned (.tuple #[rdS (flipF F1 r v), .int .i64 (rdC (flipF F1 r v))]) ∧ Below V.heap.size V w') := fun V => read_any _ V g1
  have HR2 : Hid (∀ V, Calls Try.prog 20 #[geoV x.a x.b x.c x.d, blkV (flipF F2 r v)] V fun e w' => LdEnd V x.a x.b x.c x.d (flipF F2 r v) e w') := fun V => rdescs_any _ _ _ _ _ V g2
  obtain ⟨y, hy⟩ := rdS_su (flipF F1 r v)
  rw [hy] at HR1
  clear g1 g2 hy
  generalize wrC x.a x.b x.c x.d x.o = e1 at *
  generalize wdC x.a x.b x.c x.d n D = h1 at *
  generalize rdC (flipF F1 r v) = i1 at *
  generalize hq : ldC x.a x.b x.c x.d (flipF F2 r v) = q1 at *
  have HL := hide hq
  have C1 := hide c1
  have C2 := hide c2
  have P1 := hide p1
  have P2 := hide p2
  clear hq c1 c2 p1 p2
  have hr0 : (0 : Int) ≤ r := by omega
  have hr1 : (r : Int) < 256 := by omega
  have hr2 : ((r : Int)).toNat = r := by omega
  unfold suV supV
  change Calls Try.prog _ #[.agg (suC x), _, _, _] w _
  go_enter Try.func7, Try.ntmps7
  go_wp2_with fail
  refine (awake_any _).mono ?_
  rintro e w1 ⟨rfl, hw⟩
  have S1 := hide (S0.out.below hw)
  clear hw S0
  go_wp2_with (refine ldS rfl (.tmp 4) rfl _ _ _ _ _ _ rfl S1.out.sup ?_)
  generalize a.tmod 256 + 256 = a4
  generalize a.tmod 256 = a3
  clear a0 a1 er
  refine (HW.out _).mono ?_
  rintro e w2 ⟨rfl, hw⟩
  have S2 := hide (S1.out.below hw)
  have hl2 : w.heap.size < w2.heap.size := S2.out.sup.lt
  clear hw S1
  go_wp2_with (first
    | (refine allocB rfl rfl ?_)
    | (refine st256 rfl (.tmp 9) (.tmp 29) rfl w2.heap.size zeroF F1 rfl rfl (Row.new w2 _ _ _) ?_
       intro w3 hr ho
       have S3 := hide (S2.out.fresh ho)
       have R3 := hide hr
       obtain ⟨k0, k1, k2, k3, k4⟩ := S3.out.sup.cells
       clear hr ho S2))
  generalize w2.heap.size = B at *
  refine (HD2.out _ S3.out.des).mono ?_
  rintro e w4 ⟨rfl, hw⟩
  have S4 := hide (S3.out.below hw)
  have R4 := hide (R3.out.below hw R3.out.lt)
  have hl4 : B < w4.heap.size := R4.out.lt
  clear hw S3 R3 k0 k1 k2 k3 k4
  rcases C1.out with rfl | rfl | rfl <;> rcases C2.out with rfl | rfl | rfl <;> rcases Decidable.em (v = 0) with rfl | hv
  · obtain rfl : i1 = 0 := by
      rcases P1.out rfl with h | h
      · exact h.2
      · exact absurd rfl h.1
    obtain rfl : q1 = 0 := by
      rcases P2.out rfl with h | h
      · exact h.2
      · exact absurd rfl h.1
    clear C1 C2 P1 P2
    go_wp2_with (first
      | (refine allocB rfl rfl ?_)
      | (refine st256 rfl (.tmp 11) (.tmp 36) rfl w4.heap.size zeroF F2 rfl rfl (Row.new w4 _ _ _) ?_
         intro w5 hr' ho
         have S5 := S4.out.fresh ho
         have R5 := R4.out.fresh ho
         have cA := R5.cell hr
         have zA := R5.frozen r
         have Q6 := hr'.far (p := ⟨B, r, none⟩) (by show w4.heap.size ≠ B; omega) (.int .u8 (bits .xor .u8 (F1 r) 0))
         have cB := Q6.cell hr
         have zB := Q6.frozen r
         have R7 := hide ((R5.byte_ r 0).far (p := ⟨w4.heap.size, r, none⟩) (by show B ≠ w4.heap.size; omega) (.int .u8 (bits .xor .u8 (F2 r) 0)))
         have Q7 := hide (Q6.byte_ r 0)
         have S6 := S5.only HDs.out ((Only.refl B w5).setCell r (.int .u8 (bits .xor .u8 (F1 r) 0))) hl2
         have S7 := hide (S6.only HDs.out ((Only.refl w4.heap.size _).setCell r (.int .u8 (bits .xor .u8 (F2 r) 0))) (by omega))
         obtain ⟨k0, k1, k2, k3, k4⟩ := S7.out.sup.cells
         clear hr' ho S4 R4 S5 R5 Q6 S6)
      | (refine ld256 rfl (.tmp 9) rfl _ _ rfl R7.out ?_)
      | (refine ld256 rfl (.tmp 11) rfl _ _ rfl Q7.out ?_))
    clear cA zA cB zB k0 k1 k2 k3 k4
    refine (HR1.out _).mono ?_
    rintro e w8 ⟨rfl, hw⟩
    have S8 := hide (S7.out.below hw)
    have Q8 := hide (Q7.out.below hw Q7.out.lt)
    clear hw S7 R7 Q7
    go_wp2_with (first
      | (refine stS rfl (.tmp 13) (.tmp 57) rfl w8.heap.size 0 0 0 0 0 y.a y.b y.c y.d y.o rfl rfl (SuAt.new w8 _ 0 0 0 0 0) ?_
         intro w9 hr' ho
         have S9 := hide (S8.out.fresh ho)
         have Q9 := hide (Q8.out.fresh ho)
         obtain ⟨k0, k1, k2, k3, k4⟩ := S9.out.sup.cells
         clear hr' ho S8 Q8)
      | (refine ld256 rfl (.tmp 11) rfl _ _ rfl Q9.out ?_))
    refine (HR2.out _).mono ?_
    rintro e w10 ⟨⟨z, rfl, hz⟩, hw⟩
    rw [HL.out]
    have S10 := hide (S9.out.below hw)
    clear hw hz
    go_wp2_with fail
    go_ret
    exact ⟨rfl, S10.out.old⟩
  · obtain rfl : i1 = 60 := by
      rcases P1.out rfl with h | h
      · exact absurd h.1 hv
      · exact h.2
    obtain hq : q1 = 50 ∨ q1 = 60 := by
      rcases P2.out rfl with h | h
      · exact absurd h.1 hv
      · exact h.2
    clear C1 C2 P1 P2
    have hv2 : (v == 0) = false := by simp [hv]
    rcases hq with rfl | rfl
    all_goals
      go_wp2_with (first
        | (refine allocB rfl rfl ?_)
        | (refine st256 rfl (.tmp 11) (.tmp 36) rfl w4.heap.size zeroF F2 rfl rfl (Row.new w4 _ _ _) ?_
           intro w5 hr' ho
           have S5 := S4.out.fresh ho
           have R5 := R4.out.fresh ho
           have cA := R5.cell hr
           have zA := R5.frozen r
           have Q6 := hr'.far (p := ⟨B, r, none⟩) (by show w4.heap.size ≠ B; omega) (.int .u8 (bits .xor .u8 (F1 r) v))
           have cB := Q6.cell hr
           have zB := Q6.frozen r
           have R7 := hide ((R5.byte_ r v).far (p := ⟨w4.heap.size, r, none⟩) (by show B ≠ w4.heap.size; omega) (.int .u8 (bits .xor .u8 (F2 r) v)))
           have Q7 := hide (Q6.byte_ r v)
           have S6 := S5.only HDs.out ((Only.refl B w5).setCell r (.int .u8 (bits .xor .u8 (F1 r) v))) hl2
           have S7 := hide (S6.only HDs.out ((Only.refl w4.heap.size _).setCell r (.int .u8 (bits .xor .u8 (F2 r) v))) (by omega))
           obtain ⟨k0, k1, k2, k3, k4⟩ := S7.out.sup.cells
           clear hr' ho S4 R4 S5 R5 Q6 S6)
        | (refine ld256 rfl (.tmp 9) rfl _ _ rfl R7.out ?_)
        | (refine ld256 rfl (.tmp 11) rfl _ _ rfl Q7.out ?_))
      clear cA zA cB zB k0 k1 k2 k3 k4
      refine (HR1.out _).mono ?_
      rintro e w8 ⟨rfl, hw⟩
      have S8 := hide (S7.out.below hw)
      have Q8 := hide (Q7.out.below hw Q7.out.lt)
      clear hw S7 R7 Q7
      go_wp2_with (first
        | (refine stS rfl (.tmp 13) (.tmp 57) rfl w8.heap.size 0 0 0 0 0 y.a y.b y.c y.d y.o rfl rfl (SuAt.new w8 _ 0 0 0 0 0) ?_
           intro w9 hr' ho
           have S9 := hide (S8.out.fresh ho)
           have Q9 := hide (Q8.out.fresh ho)
           obtain ⟨k0, k1, k2, k3, k4⟩ := S9.out.sup.cells
           clear hr' ho S8 Q8)
        | (refine ld256 rfl (.tmp 11) rfl _ _ rfl Q9.out ?_))
      refine (HR2.out _).mono ?_
      rintro e w10 ⟨⟨z, rfl, hz⟩, hw⟩
      rw [HL.out]
      have S10 := hide (S9.out.below hw)
      clear hw hz
      go_wp2_with fail
      go_ret
      exact ⟨rfl, S10.out.old⟩
  · obtain rfl : i1 = 0 := by
      rcases P1.out rfl with h | h
      · exact h.2
      · exact absurd rfl h.1
    clear C1 C2 P1 P2
    go_wp2_with (first
      | (refine allocB rfl rfl ?_)
      | (refine st256 rfl (.tmp 11) (.tmp 36) rfl w4.heap.size zeroF F2 rfl rfl (Row.new w4 _ _ _) ?_
         intro w5 hr' ho
         have S5 := S4.out.fresh ho
         have R5 := R4.out.fresh ho
         have cA := R5.cell hr
         have zA := R5.frozen r
         have Q6 := hr'.far (p := ⟨B, r, none⟩) (by show w4.heap.size ≠ B; omega) (.int .u8 (bits .xor .u8 (F1 r) 0))
         have cB := Q6.cell hr
         have zB := Q6.frozen r
         have R7 := hide ((R5.byte_ r 0).far (p := ⟨w4.heap.size, r, none⟩) (by show B ≠ w4.heap.size; omega) (.int .u8 (bits .xor .u8 (F2 r) 0)))
         have Q7 := hide (Q6.byte_ r 0)
         have S6 := S5.only HDs.out ((Only.refl B w5).setCell r (.int .u8 (bits .xor .u8 (F1 r) 0))) hl2
         have S7 := hide (S6.only HDs.out ((Only.refl w4.heap.size _).setCell r (.int .u8 (bits .xor .u8 (F2 r) 0))) (by omega))
         obtain ⟨k0, k1, k2, k3, k4⟩ := S7.out.sup.cells
         clear hr' ho S4 R4 S5 R5 Q6 S6)
      | (refine ld256 rfl (.tmp 9) rfl _ _ rfl R7.out ?_)
      | (refine ld256 rfl (.tmp 11) rfl _ _ rfl Q7.out ?_))
    clear cA zA cB zB k0 k1 k2 k3 k4
    refine (HR1.out _).mono ?_
    rintro e w8 ⟨rfl, hw⟩
    have S8 := hide (S7.out.below hw)
    have Q8 := hide (Q7.out.below hw Q7.out.lt)
    clear hw S7 R7 Q7
    go_wp2_with (first
      | (refine stS rfl (.tmp 13) (.tmp 57) rfl w8.heap.size 0 0 0 0 0 y.a y.b y.c y.d y.o rfl rfl (SuAt.new w8 _ 0 0 0 0 0) ?_
         intro w9 hr' ho
         have S9 := hide (S8.out.fresh ho)
         have Q9 := hide (Q8.out.fresh ho)
         obtain ⟨k0, k1, k2, k3, k4⟩ := S9.out.sup.cells
         clear hr' ho S8 Q8)
      | (refine ld256 rfl (.tmp 11) rfl _ _ rfl Q9.out ?_))
    go_ret
    exact ⟨rfl, S9.out.old⟩
  · obtain rfl : i1 = 60 := by
      rcases P1.out rfl with h | h
      · exact absurd h.1 hv
      · exact h.2
    clear C1 C2 P1 P2
    have hv2 : (v == 0) = false := by simp [hv]
    go_wp2_with (first
      | (refine allocB rfl rfl ?_)
      | (refine st256 rfl (.tmp 11) (.tmp 36) rfl w4.heap.size zeroF F2 rfl rfl (Row.new w4 _ _ _) ?_
         intro w5 hr' ho
         have S5 := S4.out.fresh ho
         have R5 := R4.out.fresh ho
         have cA := R5.cell hr
         have zA := R5.frozen r
         have Q6 := hr'.far (p := ⟨B, r, none⟩) (by show w4.heap.size ≠ B; omega) (.int .u8 (bits .xor .u8 (F1 r) v))
         have cB := Q6.cell hr
         have zB := Q6.frozen r
         have R7 := hide ((R5.byte_ r v).far (p := ⟨w4.heap.size, r, none⟩) (by show B ≠ w4.heap.size; omega) (.int .u8 (bits .xor .u8 (F2 r) v)))
         have Q7 := hide (Q6.byte_ r v)
         have S6 := S5.only HDs.out ((Only.refl B w5).setCell r (.int .u8 (bits .xor .u8 (F1 r) v))) hl2
         have S7 := hide (S6.only HDs.out ((Only.refl w4.heap.size _).setCell r (.int .u8 (bits .xor .u8 (F2 r) v))) (by omega))
         obtain ⟨k0, k1, k2, k3, k4⟩ := S7.out.sup.cells
         clear hr' ho S4 R4 S5 R5 Q6 S6)
      | (refine ld256 rfl (.tmp 9) rfl _ _ rfl R7.out ?_)
      | (refine ld256 rfl (.tmp 11) rfl _ _ rfl Q7.out ?_))
    clear cA zA cB zB k0 k1 k2 k3 k4
    refine (HR1.out _).mono ?_
    rintro e w8 ⟨rfl, hw⟩
    have S8 := hide (S7.out.below hw)
    have Q8 := hide (Q7.out.below hw Q7.out.lt)
    clear hw S7 R7 Q7
    go_wp2_with (first
      | (refine stS rfl (.tmp 13) (.tmp 57) rfl w8.heap.size 0 0 0 0 0 y.a y.b y.c y.d y.o rfl rfl (SuAt.new w8 _ 0 0 0 0 0) ?_
         intro w9 hr' ho
         have S9 := hide (S8.out.fresh ho)
         have Q9 := hide (Q8.out.fresh ho)
         obtain ⟨k0, k1, k2, k3, k4⟩ := S9.out.sup.cells
         clear hr' ho S8 Q8)
      | (refine ld256 rfl (.tmp 11) rfl _ _ rfl Q9.out ?_))
    go_ret
    exact ⟨rfl, S9.out.old⟩
  · obtain rfl : i1 = 0 := by
      rcases P1.out rfl with h | h
      · exact h.2
      · exact absurd rfl h.1
    clear C1 C2 P1 P2
    go_wp2_with (first
      | (refine allocB rfl rfl ?_)
      | (refine st256 rfl (.tmp 11) (.tmp 36) rfl w4.heap.size zeroF F2 rfl rfl (Row.new w4 _ _ _) ?_
         intro w5 hr' ho
         have S5 := S4.out.fresh ho
         have R5 := R4.out.fresh ho
         have cA := R5.cell hr
         have zA := R5.frozen r
         have Q6 := hr'.far (p := ⟨B, r, none⟩) (by show w4.heap.size ≠ B; omega) (.int .u8 (bits .xor .u8 (F1 r) 0))
         have cB := Q6.cell hr
         have zB := Q6.frozen r
         have R7 := hide ((R5.byte_ r 0).far (p := ⟨w4.heap.size, r, none⟩) (by show B ≠ w4.heap.size; omega) (.int .u8 (bits .xor .u8 (F2 r) 0)))
         have Q7 := hide (Q6.byte_ r 0)
         have S6 := S5.only HDs.out ((Only.refl B w5).setCell r (.int .u8 (bits .xor .u8 (F1 r) 0))) hl2
         have S7 := hide (S6.only HDs.out ((Only.refl w4.heap.size _).setCell r (.int .u8 (bits .xor .u8 (F2 r) 0))) (by omega))
         obtain ⟨k0, k1, k2, k3, k4⟩ := S7.out.sup.cells
         clear hr' ho S4 R4 S5 R5 Q6 S6)
      | (refine ld256 rfl (.tmp 9) rfl _ _ rfl R7.out ?_)
      | (refine ld256 rfl (.tmp 11) rfl _ _ rfl Q7.out ?_))
    clear cA zA cB zB k0 k1 k2 k3 k4
    refine (HR1.out _).mono ?_
    rintro e w8 ⟨rfl, hw⟩
    have S8 := hide (S7.out.below hw)
    have Q8 := hide (Q7.out.below hw Q7.out.lt)
    clear hw S7 R7 Q7
    go_wp2_with (first
      | (refine stS rfl (.tmp 13) (.tmp 57) rfl w8.heap.size 0 0 0 0 0 y.a y.b y.c y.d y.o rfl rfl (SuAt.new w8 _ 0 0 0 0 0) ?_
         intro w9 hr' ho
         have S9 := hide (S8.out.fresh ho)
         have Q9 := hide (Q8.out.fresh ho)
         obtain ⟨k0, k1, k2, k3, k4⟩ := S9.out.sup.cells
         clear hr' ho S8 Q8)
      | (refine ld256 rfl (.tmp 11) rfl _ _ rfl Q9.out ?_))
    go_ret
    exact ⟨rfl, S9.out.old⟩
  · obtain rfl : i1 = 60 := by
      rcases P1.out rfl with h | h
      · exact absurd h.1 hv
      · exact h.2
    clear C1 C2 P1 P2
    have hv2 : (v == 0) = false := by simp [hv]
    go_wp2_with (first
      | (refine allocB rfl rfl ?_)
      | (refine st256 rfl (.tmp 11) (.tmp 36) rfl w4.heap.size zeroF F2 rfl rfl (Row.new w4 _ _ _) ?_
         intro w5 hr' ho
         have S5 := S4.out.fresh ho
         have R5 := R4.out.fresh ho
         have cA := R5.cell hr
         have zA := R5.frozen r
         have Q6 := hr'.far (p := ⟨B, r, none⟩) (by show w4.heap.size ≠ B; omega) (.int .u8 (bits .xor .u8 (F1 r) v))
         have cB := Q6.cell hr
         have zB := Q6.frozen r
         have R7 := hide ((R5.byte_ r v).far (p := ⟨w4.heap.size, r, none⟩) (by show B ≠ w4.heap.size; omega) (.int .u8 (bits .xor .u8 (F2 r) v)))
         have Q7 := hide (Q6.byte_ r v)
         have S6 := S5.only HDs.out ((Only.refl B w5).setCell r (.int .u8 (bits .xor .u8 (F1 r) v))) hl2
         have S7 := hide (S6.only HDs.out ((Only.refl w4.heap.size _).setCell r (.int .u8 (bits .xor .u8 (F2 r) v))) (by omega))
         obtain ⟨k0, k1, k2, k3, k4⟩ := S7.out.sup.cells
         clear hr' ho S4 R4 S5 R5 Q6 S6)
      | (refine ld256 rfl (.tmp 9) rfl _ _ rfl R7.out ?_)
      | (refine ld256 rfl (.tmp 11) rfl _ _ rfl Q7.out ?_))
    clear cA zA cB zB k0 k1 k2 k3 k4
    refine (HR1.out _).mono ?_
    rintro e w8 ⟨rfl, hw⟩
    have S8 := hide (S7.out.below hw)
    have Q8 := hide (Q7.out.below hw Q7.out.lt)
    clear hw S7 R7 Q7
    go_wp2_with (first
      | (refine stS rfl (.tmp 13) (.tmp 57) rfl w8.heap.size 0 0 0 0 0 y.a y.b y.c y.d y.o rfl rfl (SuAt.new w8 _ 0 0 0 0 0) ?_
         intro w9 hr' ho
         have S9 := hide (S8.out.fresh ho)
         have Q9 := hide (Q8.out.fresh ho)
         obtain ⟨k0, k1, k2, k3, k4⟩ := S9.out.sup.cells
         clear hr' ho S8 Q8)
      | (refine ld256 rfl (.tmp 11) rfl _ _ rfl Q9.out ?_))
    go_ret
    exact ⟨rfl, S9.out.old⟩
  · obtain rfl : q1 = 0 := by
      rcases P2.out rfl with h | h
      · exact h.2
      · exact absurd rfl h.1
    clear C1 C2 P1 P2
    go_wp2_with (first
      | (refine allocB rfl rfl ?_)
      | (refine st256 rfl (.tmp 11) (.tmp 36) rfl w4.heap.size zeroF F2 rfl rfl (Row.new w4 _ _ _) ?_
         intro w5 hr' ho
         have S5 := S4.out.fresh ho
         have R5 := R4.out.fresh ho
         have cA := R5.cell hr
         have zA := R5.frozen r
         have Q6 := hr'.far (p := ⟨B, r, none⟩) (by show w4.heap.size ≠ B; omega) (.int .u8 (bits .xor .u8 (F1 r) 0))
         have cB := Q6.cell hr
         have zB := Q6.frozen r
         have R7 := hide ((R5.byte_ r 0).far (p := ⟨w4.heap.size, r, none⟩) (by show B ≠ w4.heap.size; omega) (.int .u8 (bits .xor .u8 (F2 r) 0)))
         have Q7 := hide (Q6.byte_ r 0)
         have S6 := S5.only HDs.out ((Only.refl B w5).setCell r (.int .u8 (bits .xor .u8 (F1 r) 0))) hl2
         have S7 := hide (S6.only HDs.out ((Only.refl w4.heap.size _).setCell r (.int .u8 (bits .xor .u8 (F2 r) 0))) (by omega))
         obtain ⟨k0, k1, k2, k3, k4⟩ := S7.out.sup.cells
         clear hr' ho S4 R4 S5 R5 Q6 S6)
      | (refine ld256 rfl (.tmp 9) rfl _ _ rfl R7.out ?_)
      | (refine ld256 rfl (.tmp 11) rfl _ _ rfl Q7.out ?_))
    refine (HR2.out _).mono ?_
    rintro e w10 ⟨⟨z, rfl, hz⟩, hw⟩
    rw [HL.out]
    have S10 := hide (S7.out.below hw)
    clear hw hz
    go_wp2_with fail
    go_ret
    exact ⟨rfl, S10.out.old⟩
  · obtain hq : q1 = 50 ∨ q1 = 60 := by
      rcases P2.out rfl with h | h
      · exact absurd h.1 hv
      · exact h.2
    clear C1 C2 P1 P2
    have hv2 : (v == 0) = false := by simp [hv]
    rcases hq with rfl | rfl
    all_goals
      go_wp2_with (first
        | (refine allocB rfl rfl ?_)
        | (refine st256 rfl (.tmp 11) (.tmp 36) rfl w4.heap.size zeroF F2 rfl rfl (Row.new w4 _ _ _) ?_
           intro w5 hr' ho
           have S5 := S4.out.fresh ho
           have R5 := R4.out.fresh ho
           have cA := R5.cell hr
           have zA := R5.frozen r
           have Q6 := hr'.far (p := ⟨B, r, none⟩) (by show w4.heap.size ≠ B; omega) (.int .u8 (bits .xor .u8 (F1 r) v))
           have cB := Q6.cell hr
           have zB := Q6.frozen r
           have R7 := hide ((R5.byte_ r v).far (p := ⟨w4.heap.size, r, none⟩) (by show B ≠ w4.heap.size; omega) (.int .u8 (bits .xor .u8 (F2 r) v)))
           have Q7 := hide (Q6.byte_ r v)
           have S6 := S5.only HDs.out ((Only.refl B w5).setCell r (.int .u8 (bits .xor .u8 (F1 r) v))) hl2
           have S7 := hide (S6.only HDs.out ((Only.refl w4.heap.size _).setCell r (.int .u8 (bits .xor .u8 (F2 r) v))) (by omega))
           obtain ⟨k0, k1, k2, k3, k4⟩ := S7.out.sup.cells
           clear hr' ho S4 R4 S5 R5 Q6 S6)
        | (refine ld256 rfl (.tmp 9) rfl _ _ rfl R7.out ?_)
        | (refine ld256 rfl (.tmp 11) rfl _ _ rfl Q7.out ?_))
      refine (HR2.out _).mono ?_
      rintro e w10 ⟨⟨z, rfl, hz⟩, hw⟩
      rw [HL.out]
      have S10 := hide (S7.out.below hw)
      clear hw hz
      go_wp2_with fail
      go_ret
      exact ⟨rfl, S10.out.old⟩
  · clear C1 C2 P1 P2
    go_wp2_with (first
      | (refine allocB rfl rfl ?_)
      | (refine st256 rfl (.tmp 11) (.tmp 36) rfl w4.heap.size zeroF F2 rfl rfl (Row.new w4 _ _ _) ?_
         intro w5 hr' ho
         have S5 := S4.out.fresh ho
         have R5 := R4.out.fresh ho
         have cA := R5.cell hr
         have zA := R5.frozen r
         have Q6 := hr'.far (p := ⟨B, r, none⟩) (by show w4.heap.size ≠ B; omega) (.int .u8 (bits .xor .u8 (F1 r) 0))
         have cB := Q6.cell hr
         have zB := Q6.frozen r
         have R7 := hide ((R5.byte_ r 0).far (p := ⟨w4.heap.size, r, none⟩) (by show B ≠ w4.heap.size; omega) (.int .u8 (bits .xor .u8 (F2 r) 0)))
         have Q7 := hide (Q6.byte_ r 0)
         have S6 := S5.only HDs.out ((Only.refl B w5).setCell r (.int .u8 (bits .xor .u8 (F1 r) 0))) hl2
         have S7 := hide (S6.only HDs.out ((Only.refl w4.heap.size _).setCell r (.int .u8 (bits .xor .u8 (F2 r) 0))) (by omega))
         obtain ⟨k0, k1, k2, k3, k4⟩ := S7.out.sup.cells
         clear hr' ho S4 R4 S5 R5 Q6 S6)
      | (refine ld256 rfl (.tmp 9) rfl _ _ rfl R7.out ?_)
      | (refine ld256 rfl (.tmp 11) rfl _ _ rfl Q7.out ?_))
    go_ret
    exact ⟨rfl, S7.out.old⟩
  · clear C1 C2 P1 P2
    have hv2 : (v == 0) = false := by simp [hv]
    go_wp2_with (first
      | (refine allocB rfl rfl ?_)
      | (refine st256 rfl (.tmp 11) (.tmp 36) rfl w4.heap.size zeroF F2 rfl rfl (Row.new w4 _ _ _) ?_
         intro w5 hr' ho
         have S5 := S4.out.fresh ho
         have R5 := R4.out.fresh ho
         have cA := R5.cell hr
         have zA := R5.frozen r
         have Q6 := hr'.far (p := ⟨B, r, none⟩) (by show w4.heap.size ≠ B; omega) (.int .u8 (bits .xor .u8 (F1 r) v))
         have cB := Q6.cell hr
         have zB := Q6.frozen r
         have R7 := hide ((R5.byte_ r v).far (p := ⟨w4.heap.size, r, none⟩) (by show B ≠ w4.heap.size; omega) (.int .u8 (bits .xor .u8 (F2 r) v)))
         have Q7 := hide (Q6.byte_ r v)
         have S6 := S5.only HDs.out ((Only.refl B w5).setCell r (.int .u8 (bits .xor .u8 (F1 r) v))) hl2
         have S7 := hide (S6.only HDs.out ((Only.refl w4.heap.size _).setCell r (.int .u8 (bits .xor .u8 (F2 r) v))) (by omega))
         obtain ⟨k0, k1, k2, k3, k4⟩ := S7.out.sup.cells
         clear hr' ho S4 R4 S5 R5 Q6 S6)
      | (refine ld256 rfl (.tmp 9) rfl _ _ rfl R7.out ?_)
      | (refine ld256 rfl (.tmp 11) rfl _ _ rfl Q7.out ?_))
    go_ret
    exact ⟨rfl, S7.out.old⟩
  · clear C1 C2 P1 P2
    go_wp2_with (first
      | (refine allocB rfl rfl ?_)
      | (refine st256 rfl (.tmp 11) (.tmp 36) rfl w4.heap.size zeroF F2 rfl rfl (Row.new w4 _ _ _) ?_
         intro w5 hr' ho
         have S5 := S4.out.fresh ho
         have R5 := R4.out.fresh ho
         have cA := R5.cell hr
         have zA := R5.frozen r
         have Q6 := hr'.far (p := ⟨B, r, none⟩) (by show w4.heap.size ≠ B; omega) (.int .u8 (bits .xor .u8 (F1 r) 0))
         have cB := Q6.cell hr
         have zB := Q6.frozen r
         have R7 := hide ((R5.byte_ r 0).far (p := ⟨w4.heap.size, r, none⟩) (by show B ≠ w4.heap.size; omega) (.int .u8 (bits .xor .u8 (F2 r) 0)))
         have Q7 := hide (Q6.byte_ r 0)
         have S6 := S5.only HDs.out ((Only.refl B w5).setCell r (.int .u8 (bits .xor .u8 (F1 r) 0))) hl2
         have S7 := hide (S6.only HDs.out ((Only.refl w4.heap.size _).setCell r (.int .u8 (bits .xor .u8 (F2 r) 0))) (by omega))
         obtain ⟨k0, k1, k2, k3, k4⟩ := S7.out.sup.cells
         clear hr' ho S4 R4 S5 R5 Q6 S6)
      | (refine ld256 rfl (.tmp 9) rfl _ _ rfl R7.out ?_)
      | (refine ld256 rfl (.tmp 11) rfl _ _ rfl Q7.out ?_))
    go_ret
    exact ⟨rfl, S7.out.old⟩
  · clear C1 C2 P1 P2
    have hv2 : (v == 0) = false := by simp [hv]
    go_wp2_with (first
      | (refine allocB rfl rfl ?_)
      | (refine st256 rfl (.tmp 11) (.tmp 36) rfl w4.heap.size zeroF F2 rfl rfl (Row.new w4 _ _ _) ?_
         intro w5 hr' ho
         have S5 := S4.out.fresh ho
         have R5 := R4.out.fresh ho
         have cA := R5.cell hr
         have zA := R5.frozen r
         have Q6 := hr'.far (p := ⟨B, r, none⟩) (by show w4.heap.size ≠ B; omega) (.int .u8 (bits .xor .u8 (F1 r) v))
         have cB := Q6.cell hr
         have zB := Q6.frozen r
         have R7 := hide ((R5.byte_ r v).far (p := ⟨w4.heap.size, r, none⟩) (by show B ≠ w4.heap.size; omega) (.int .u8 (bits .xor .u8 (F2 r) v)))
         have Q7 := hide (Q6.byte_ r v)
         have S6 := S5.only HDs.out ((Only.refl B w5).setCell r (.int .u8 (bits .xor .u8 (F1 r) v))) hl2
         have S7 := hide (S6.only HDs.out ((Only.refl w4.heap.size _).setCell r (.int .u8 (bits .xor .u8 (F2 r) v))) (by omega))
         obtain ⟨k0, k1, k2, k3, k4⟩ := S7.out.sup.cells
         clear hr' ho S4 R4 S5 R5 Q6 S6)
      | (refine ld256 rfl (.tmp 9) rfl _ _ rfl R7.out ?_)
      | (refine ld256 rfl (.tmp 11) rfl _ _ rfl Q7.out ?_))
    go_ret
    exact ⟨rfl, S7.out.old⟩
  · obtain rfl : q1 = 0 := by
      rcases P2.out rfl with h | h
      · exact h.2
      · exact absurd rfl h.1
    clear C1 C2 P1 P2
    go_wp2_with (first
      | (refine allocB rfl rfl ?_)
      | (refine st256 rfl (.tmp 11) (.tmp 36) rfl w4.heap.size zeroF F2 rfl rfl (Row.new w4 _ _ _) ?_
         intro w5 hr' ho
         have S5 := S4.out.fresh ho
         have R5 := R4.out.fresh ho
         have cA := R5.cell hr
         have zA := R5.frozen r
         have Q6 := hr'.far (p := ⟨B, r, none⟩) (by show w4.heap.size ≠ B; omega) (.int .u8 (bits .xor .u8 (F1 r) 0))
         have cB := Q6.cell hr
         have zB := Q6.frozen r
         have R7 := hide ((R5.byte_ r 0).far (p := ⟨w4.heap.size, r, none⟩) (by show B ≠ w4.heap.size; omega) (.int .u8 (bits .xor .u8 (F2 r) 0)))
         have Q7 := hide (Q6.byte_ r 0)
         have S6 := S5.only HDs.out ((Only.refl B w5).setCell r (.int .u8 (bits .xor .u8 (F1 r) 0))) hl2
         have S7 := hide (S6.only HDs.out ((Only.refl w4.heap.size _).setCell r (.int .u8 (bits .xor .u8 (F2 r) 0))) (by omega))
         obtain ⟨k0, k1, k2, k3, k4⟩ := S7.out.sup.cells
         clear hr' ho S4 R4 S5 R5 Q6 S6)
      | (refine ld256 rfl (.tmp 9) rfl _ _ rfl R7.out ?_)
      | (refine ld256 rfl (.tmp 11) rfl _ _ rfl Q7.out ?_))
    refine (HR2.out _).mono ?_
    rintro e w10 ⟨⟨z, rfl, hz⟩, hw⟩
    rw [HL.out]
    have S10 := hide (S7.out.below hw)
    clear hw hz
    go_wp2_with fail
    go_ret
    exact ⟨rfl, S10.out.old⟩
  · obtain hq : q1 = 50 ∨ q1 = 60 := by
      rcases P2.out rfl with h | h
      · exact absurd h.1 hv
      · exact h.2
    clear C1 C2 P1 P2
    have hv2 : (v == 0) = false := by simp [hv]
    rcases hq with rfl | rfl
    all_goals
      go_wp2_with (first
        | (refine allocB rfl rfl ?_)
        | (refine st256 rfl (.tmp 11) (.tmp 36) rfl w4.heap.size zeroF F2 rfl rfl (Row.new w4 _ _ _) ?_
           intro w5 hr' ho
           have S5 := S4.out.fresh ho
           have R5 := R4.out.fresh ho
           have cA := R5.cell hr
           have zA := R5.frozen r
           have Q6 := hr'.far (p := ⟨B, r, none⟩) (by show w4.heap.size ≠ B; omega) (.int .u8 (bits .xor .u8 (F1 r) v))
           have cB := Q6.cell hr
           have zB := Q6.frozen r
           have R7 := hide ((R5.byte_ r v).far (p := ⟨w4.heap.size, r, none⟩) (by show B ≠ w4.heap.size; omega) (.int .u8 (bits .xor .u8 (F2 r) v)))
           have Q7 := hide (Q6.byte_ r v)
           have S6 := S5.only HDs.out ((Only.refl B w5).setCell r (.int .u8 (bits .xor .u8 (F1 r) v))) hl2
           have S7 := hide (S6.only HDs.out ((Only.refl w4.heap.size _).setCell r (.int .u8 (bits .xor .u8 (F2 r) v))) (by omega))
           obtain ⟨k0, k1, k2, k3, k4⟩ := S7.out.sup.cells
           clear hr' ho S4 R4 S5 R5 Q6 S6)
        | (refine ld256 rfl (.tmp 9) rfl _ _ rfl R7.out ?_)
        | (refine ld256 rfl (.tmp 11) rfl _ _ rfl Q7.out ?_))
      refine (HR2.out _).mono ?_
      rintro e w10 ⟨⟨z, rfl, hz⟩, hw⟩
      rw [HL.out]
      have S10 := hide (S7.out.below hw)
      clear hw hz
      go_wp2_with fail
      go_ret
      exact ⟨rfl, S10.out.old⟩
  · clear C1 C2 P1 P2
    go_wp2_with (first
      | (refine allocB rfl rfl ?_)
      | (refine st256 rfl (.tmp 11) (.tmp 36) rfl w4.heap.size zeroF F2 rfl rfl (Row.new w4 _ _ _) ?_
         intro w5 hr' ho
         have S5 := S4.out.fresh ho
         have R5 := R4.out.fresh ho
         have cA := R5.cell hr
         have zA := R5.frozen r
         have Q6 := hr'.far (p := ⟨B, r, none⟩) (by show w4.heap.size ≠ B; omega) (.int .u8 (bits .xor .u8 (F1 r) 0))
         have cB := Q6.cell hr
         have zB := Q6.frozen r
         have R7 := hide ((R5.byte_ r 0).far (p := ⟨w4.heap.size, r, none⟩) (by show B ≠ w4.heap.size; omega) (.int .u8 (bits .xor .u8 (F2 r) 0)))
         have Q7 := hide (Q6.byte_ r 0)
         have S6 := S5.only HDs.out ((Only.refl B w5).setCell r (.int .u8 (bits .xor .u8 (F1 r) 0))) hl2
         have S7 := hide (S6.only HDs.out ((Only.refl w4.heap.size _).setCell r (.int .u8 (bits .xor .u8 (F2 r) 0))) (by omega))
         obtain ⟨k0, k1, k2, k3, k4⟩ := S7.out.sup.cells
         clear hr' ho S4 R4 S5 R5 Q6 S6)
      | (refine ld256 rfl (.tmp 9) rfl _ _ rfl R7.out ?_)
      | (refine ld256 rfl (.tmp 11) rfl _ _ rfl Q7.out ?_))
    go_ret
    exact ⟨rfl, S7.out.old⟩
  · clear C1 C2 P1 P2
    have hv2 : (v == 0) = false := by simp [hv]
    go_wp2_with (first
      | (refine allocB rfl rfl ?_)
      | (refine st256 rfl (.tmp 11) (.tmp 36) rfl w4.heap.size zeroF F2 rfl rfl (Row.new w4 _ _ _) ?_
         intro w5 hr' ho
         have S5 := S4.out.fresh ho
         have R5 := R4.out.fresh ho
         have cA := R5.cell hr
         have zA := R5.frozen r
         have Q6 := hr'.far (p := ⟨B, r, none⟩) (by show w4.heap.size ≠ B; omega) (.int .u8 (bits .xor .u8 (F1 r) v))
         have cB := Q6.cell hr
         have zB := Q6.frozen r
         have R7 := hide ((R5.byte_ r v).far (p := ⟨w4.heap.size, r, none⟩) (by show B ≠ w4.heap.size; omega) (.int .u8 (bits .xor .u8 (F2 r) v)))
         have Q7 := hide (Q6.byte_ r v)
         have S6 := S5.only HDs.out ((Only.refl B w5).setCell r (.int .u8 (bits .xor .u8 (F1 r) v))) hl2
         have S7 := hide (S6.only HDs.out ((Only.refl w4.heap.size _).setCell r (.int .u8 (bits .xor .u8 (F2 r) v))) (by omega))
         obtain ⟨k0, k1, k2, k3, k4⟩ := S7.out.sup.cells
         clear hr' ho S4 R4 S5 R5 Q6 S6)
      | (refine ld256 rfl (.tmp 9) rfl _ _ rfl R7.out ?_)
      | (refine ld256 rfl (.tmp 11) rfl _ _ rfl Q7.out ?_))
    go_ret
    exact ⟨rfl, S7.out.old⟩
  · clear C1 C2 P1 P2
    go_wp2_with (first
      | (refine allocB rfl rfl ?_)
      | (refine st256 rfl (.tmp 11) (.tmp 36) rfl w4.heap.size zeroF F2 rfl rfl (Row.new w4 _ _ _) ?_
         intro w5 hr' ho
         have S5 := S4.out.fresh ho
         have R5 := R4.out.fresh ho
         have cA := R5.cell hr
         have zA := R5.frozen r
         have Q6 := hr'.far (p := ⟨B, r, none⟩) (by show w4.heap.size ≠ B; omega) (.int .u8 (bits .xor .u8 (F1 r) 0))
         have cB := Q6.cell hr
         have zB := Q6.frozen r
         have R7 := hide ((R5.byte_ r 0).far (p := ⟨w4.heap.size, r, none⟩) (by show B ≠ w4.heap.size; omega) (.int .u8 (bits .xor .u8 (F2 r) 0)))
         have Q7 := hide (Q6.byte_ r 0)
         have S6 := S5.only HDs.out ((Only.refl B w5).setCell r (.int .u8 (bits .xor .u8 (F1 r) 0))) hl2
         have S7 := hide (S6.only HDs.out ((Only.refl w4.heap.size _).setCell r (.int .u8 (bits .xor .u8 (F2 r) 0))) (by omega))
         obtain ⟨k0, k1, k2, k3, k4⟩ := S7.out.sup.cells
         clear hr' ho S4 R4 S5 R5 Q6 S6)
      | (refine ld256 rfl (.tmp 9) rfl _ _ rfl R7.out ?_)
      | (refine ld256 rfl (.tmp 11) rfl _ _ rfl Q7.out ?_))
    go_ret
    exact ⟨rfl, S7.out.old⟩
  · clear C1 C2 P1 P2
    have hv2 : (v == 0) = false := by simp [hv]
    go_wp2_with (first
      | (refine allocB rfl rfl ?_)
      | (refine st256 rfl (.tmp 11) (.tmp 36) rfl w4.heap.size zeroF F2 rfl rfl (Row.new w4 _ _ _) ?_
         intro w5 hr' ho
         have S5 := S4.out.fresh ho
         have R5 := R4.out.fresh ho
         have cA := R5.cell hr
         have zA := R5.frozen r
         have Q6 := hr'.far (p := ⟨B, r, none⟩) (by show w4.heap.size ≠ B; omega) (.int .u8 (bits .xor .u8 (F1 r) v))
         have cB := Q6.cell hr
         have zB := Q6.frozen r
         have R7 := hide ((R5.byte_ r v).far (p := ⟨w4.heap.size, r, none⟩) (by show B ≠ w4.heap.size; omega) (.int .u8 (bits .xor .u8 (F2 r) v)))
         have Q7 := hide (Q6.byte_ r v)
         have S6 := S5.only HDs.out ((Only.refl B w5).setCell r (.int .u8 (bits .xor .u8 (F1 r) v))) hl2
         have S7 := hide (S6.only HDs.out ((Only.refl w4.heap.size _).setCell r (.int .u8 (bits .xor .u8 (F2 r) v))) (by omega))
         obtain ⟨k0, k1, k2, k3, k4⟩ := S7.out.sup.cells
         clear hr' ho S4 R4 S5 R5 Q6 S6)
      | (refine ld256 rfl (.tmp 9) rfl _ _ rfl R7.out ?_)
      | (refine ld256 rfl (.tmp 11) rfl _ _ rfl Q7.out ?_))
    go_ret
    exact ⟨rfl, S7.out.old⟩
end Go.Proofs.Ytbngbhildijciaa
