/- The law SuperKinds. -/
import Derived.Test.YtbngbhildijciaaLSupNone
import Derived.Test.YtbngbhildijciaaSupD
namespace Go.Proofs.Ytbngbhildijciaa
open Go.RowKit
set_option linter.unusedVariables false

theorem kind_one {x : Su} {a b c d : Int} (h : wrC x.a x.b x.c x.d x.o = 0) : ldC a b c d (wrF x.a x.b x.c x.d x.o) = 50 ∨ ldC a b c d (wrF x.a x.b x.c x.d x.o) = 60 := by
  obtain ⟨_, e⟩ := wr_zero h
  rw [e]
  unfold ldC
  by_cases m : mayP a b c d
  · have hn : 0 < a.toNat := by have := m.1; omega
    rw [if_pos m, if_neg]
    · exact .inr rfl
    · intro k
      have s := (sameB_iff _ _ _).1 k.2 7 (by omega)
      rw [sealF_lo _ (by omega), sealF_lo _ (by omega)] at s
      have p := page_6 x.a x.b x.c x.d x.o (r := 1) (by omega)
      have q := desc_void (rdD (sealF (pageF x.a x.b x.c x.d x.o))) (n := a.toNat) (i := 0) (r := 1) hn (by omega)
      have p' : pageF x.a x.b x.c x.d x.o 7 = 1 := p
      have q' : descF (rdD (sealF (pageF x.a x.b x.c x.d x.o))) a.toNat 7 = 0 := q
      rw [p', q'] at s
      omega
  · rw [if_neg m]; exact .inl rfl
theorem wd_zero {a b c d : Int} {n : Nat} {D : Nat → De} (h : wdC a b c d n D = 0) : mayP a b c d ∧ (n : Int) = a ∧ mayDs b c n D ∧ wdF a b c d n D = sealF (descF D n) := by
  by_cases m : mayP a b c d
  · by_cases q : (n : Int) = a ∧ mayDs b c n D
    · exact ⟨m, q.1, q.2, (wd_yes m q.1 q.2).2⟩
    · rw [(wd_no m q).1] at h; omega
  · unfold wdC at h; rw [if_neg m] at h; omega
theorem wd_codes (a b c d : Int) (n : Nat) (D : Nat → De) : wdC a b c d n D = 0 ∨ wdC a b c d n D = 2 ∨ wdC a b c d n D = 50 := by
  unfold wdC; split
  · split <;> simp
  · simp
theorem wd_byte {a b c d : Int} {n : Nat} {D : Nat → De} : IsByte (wdF a b c d n D) := by
  unfold wdF; split
  · exact sealF_byte (descF_byte D n)
  · exact zeroF_isByte
theorem wr_byte {a b c d o : Int} : IsByte (wrF a b c d o) := by
  unfold wrF; split
  · exact sealF_byte (pageF_byte _ _ _ _ _)
  · exact zeroF_isByte
theorem kind_two {a b c d : Int} {n : Nat} {D : Nat → De} (h : wdC a b c d n D = 0) : rdC (wdF a b c d n D) = 60 := by
  obtain ⟨m, hn, hm, e⟩ := wd_zero h
  have hpos : 0 < n := by have := m.1; omega
  rw [e]
  refine (rd_head fun q => ?_).1
  have p := q.2.2.1
  rw [part_2, sealF_lo _ (by omega), sealF_lo _ (by omega)] at p
  have e6 : descF D n 6 = 0 := desc_void D (n := n) (i := 0) (r := 0) hpos (by omega)
  have e7 : descF D n (6 + 1) = 0 := desc_void D (n := n) (i := 0) (r := 1) hpos (by omega)
  rw [e6, e7] at p
  omega
/-- The law's arguments. -/
structure KSt (w : World) (x : Su) (a b c d : Int) (A : Option Addr) (n : Nat) (D : Nat → De) (v : World) : Prop where
  sup : SuAt v w.heap.size x.a x.b x.c x.d x.o
  geo : GeoAt v (w.heap.size + 1) a b c d
  des : Ds v A n D
  old : Below w.heap.size w v
section
variable {w v v' : World} {x : Su} {a b c d : Int} {A : Option Addr} {n : Nat} {D : Nat → De}
theorem KSt.below (h : KSt w x a b c d A n D v) (k : Below v.heap.size v v') : KSt w x a b c d A n D v' := ⟨h.sup.below k h.sup.lt, h.geo.below k h.geo.lt, h.des.old k, h.old.trans (k.mono h.old.size)⟩
theorem KSt.fresh {o : Obj} (h : KSt w x a b c d A n D v) (k : Only v.heap.size (v.alloc o) v') : KSt w x a b c d A n D v' :=
  h.below (((Below.refl _ v).alloc (Nat.le_refl _) o).trans (k.below (Nat.le_refl _) (by simp only [World.size_alloc]; omega)))
end
theorem KSt.start (w : World) (x : Su) (a b c d : Int) (A : Option Addr) (n : Nat) (D : Nat → De) (t s : TypeId) (h : Ds w A n D) : KSt w x a b c d A n D ((w.alloc (.cells (suC x) t)).alloc (.cells #[.int .i64 a, .int .i64 b, .int .i64 c, .int .i64 d] s)) := by
  have n0 : SuAt (w.alloc (.cells (suC x) t)) w.heap.size x.a x.b x.c x.d x.o := SuAt.new w t _ _ _ _ _
  have n1 := GeoAt.new (w.alloc (.cells (suC x) t)) s a b c d
  simp only [World.size_alloc] at n1
  have q : Below w.heap.size w ((w.alloc (.cells (suC x) t)).alloc (.cells #[.int .i64 a, .int .i64 b, .int .i64 c, .int .i64 d] s)) := ((Below.refl _ w).alloc (Nat.le_refl _) _).alloc (by simp only [World.size_alloc]; omega) _
  exact ⟨n0.alloc _, n1, h.old q, q⟩
theorem Row.fresh {v v' : World} {g n : Nat} {f : Nat → Int} {o : Obj} (h : Row v g n f) (k : Only v.heap.size (v.alloc o) v') : Row v' g n f :=
  h.below (((Below.refl _ v).alloc (Nat.le_refl _) o).trans (k.below (Nat.le_refl _) (by simp only [World.size_alloc]; omega))) h.lt
set_option maxRecDepth 100000 in
set_option maxHeartbeats 4000000 in
theorem superKinds_law (x : Su) (A : Option Addr) (n cap : Nat) (D : Nat → De) (a b c d : Int) (x0 : 0 ≤ x.o) (x1 : x.o ≤ 4294967295) (w : World) (hD : Ds w A n D) :
    Calls Try.prog 9 #[suV x, .slice A n cap, geoV a b c d] w fun e w' => e = .returned (.bool true) ∧ Below w.heap.size w w' := by
  have S0 := hide (KSt.start w x a b c d A n D 26 23 hD)
  have HW : Hid (∀ V, Calls Try.prog 11 #[.agg (suC x)] V fun e w' => e = .returned (.tuple #[.agg (bytesOf 256 (wrF x.a x.b x.c x.d x.o)), .int .i64 (wrC x.a x.b x.c x.d x.o)]) ∧ Below V.heap.size V w') := fun V => write_any _ _ _ _ _ V x0 x1
  have HF1 : Hid (IsByte (wrF x.a x.b x.c x.d x.o)) := wr_byte
  have HF2 : Hid (IsByte (wdF x.a x.b x.c x.d n D)) := wd_byte
  have HR : Hid (∀ V, Calls Try.prog 20 #[geoV a b c d, blkV (wrF x.a x.b x.c x.d x.o)] V fun e w' => LdEnd V a b c d (wrF x.a x.b x.c x.d x.o) e w') := fun V => rdescs_any a b c d _ V HF1.out
  have HD2 : Hid (∀ V, Ds V A n D → Calls Try.prog 13 #[geoV x.a x.b x.c x.d, .slice A n cap] V fun e w' => e = .returned (.tuple #[.agg (bytesOf 256 (wdF x.a x.b x.c x.d n D)), .int .i64 (wdC x.a x.b x.c x.d n D)]) ∧ Below V.heap.size V w') := fun V h => wdescs_any _ _ _ _ A n cap D V h
  have HR2 : Hid (∀ V, Calls Try.prog 17 #[blkV (wdF x.a x.b x.c x.d n D)] V fun e w' => e = .returned (.tuple #[rdS (wdF x.a x.b x.c x.d n D), .int .i64 (rdC (wdF x.a x.b x.c x.d n D))]) ∧ Below V.heap.size V w') := fun V => read_any _ V HF2.out
  have HQ : Hid (∃ y : Su, rdS (wdF x.a x.b x.c x.d n D) = suV y) := by
    unfold Hid rdS; split
    · exact ⟨⟨_, _, _, _, _⟩, rfl⟩
    · exact ⟨⟨0, 0, 0, 0, 0⟩, rfl⟩
  have c1 := wr_codes x
  have c2 := wd_codes x.a x.b x.c x.d n D
  have p1 := kind_one (x := x) (a := a) (b := b) (c := c) (d := d)
  have p2 := kind_two (a := x.a) (b := x.b) (c := x.c) (d := x.d) (n := n) (D := D)
  clear HF1 HF2 x0 x1 hD
  obtain ⟨y, hy⟩ := HQ.out
  rw [hy] at HR2
  clear HQ hy
  generalize wrC x.a x.b x.c x.d x.o = e1 at *
  generalize wdC x.a x.b x.c x.d n D = h1 at *
  generalize hf : ldC a b c d (wrF x.a x.b x.c x.d x.o) = f1 at *
  have HL := hide hf
  clear hf
  generalize rdC (wdF x.a x.b x.c x.d n D) = i1 at *
  have hcs : ((e1 = 2 ∨ e1 = 50) ∨ (e1 = 0 ∧ (f1 = 50 ∨ f1 = 60))) ∧ ((h1 = 2 ∨ h1 = 50) ∨ (h1 = 0 ∧ i1 = 60)) := by
    constructor
    · rcases c1 with c1 | c1
      · exact .inr ⟨c1, p1 c1⟩
      · exact .inl c1
    · rcases c2 with c2 | c2
      · exact .inr ⟨c2, p2 c2⟩
      · exact .inl c2
  clear c1 c2 p1 p2
  generalize wrF x.a x.b x.c x.d x.o = F1 at *
  generalize wdF x.a x.b x.c x.d n D = F2 at *
  have HCS := hide hcs
  clear hcs
  unfold suV supV geoV
  change Calls Try.prog _ #[.agg (suC x), _, _] w _
  go_enter Try.func9, Try.ntmps9
  go_wp2_with fail
  refine (awake_any _).mono ?_
  rintro e w1 ⟨rfl, hw⟩
  have S1 := hide (S0.out.below hw)
  clear hw S0
  go_wp2_with (refine ldS rfl (.tmp 3) rfl _ _ _ _ _ _ rfl S1.out.sup ?_)
  refine (HW.out _).mono ?_
  rintro e w2 ⟨rfl, hw⟩
  have S2 := hide (S1.out.below hw)
  clear hw S1
  go_wp2_with (first
    | (refine allocB rfl rfl ?_)
    | (refine st256 rfl (.tmp 7) (.tmp 20) rfl w2.heap.size zeroF F1 rfl rfl (Row.new w2 _ _ _) ?_
       intro w3 hr ho
       have S3 := hide (S2.out.fresh ho)
       have R3 := hide hr
       clear hr ho S2)
    | (refine ldG rfl (.tmp 5) rfl _ _ _ _ _ rfl S3.out.geo ?_)
    | (refine ld256 rfl (.tmp 7) rfl _ _ rfl R3.out ?_))
  refine (HR.out _).mono ?_
  rintro e w4 ⟨⟨v, rfl, hv⟩, hw⟩
  rw [HL.out]
  have S4 := hide (S3.out.below hw)
  obtain ⟨k0, k1, k2, k3, k4⟩ := S4.out.sup.cells
  clear hw hv S3 R3
  go_wp2_with fail
  refine (HD2.out _ S4.out.des).mono ?_
  rintro e w5 ⟨rfl, hw⟩
  have S5 := hide (S4.out.below hw)
  clear hw S4 k0 k1 k2 k3 k4
  go_wp2_with (first
    | (refine allocB rfl rfl ?_)
    | (refine st256 rfl (.tmp 11) (.tmp 33) rfl w5.heap.size zeroF F2 rfl rfl (Row.new w5 _ _ _) ?_
       intro w6 hr ho
       have S6 := hide (S5.out.fresh ho)
       have R6 := hide hr
       clear hr ho S5)
    | (refine ld256 rfl (.tmp 11) rfl _ _ rfl R6.out ?_))
  refine (HR2.out _).mono ?_
  rintro e w7 ⟨rfl, hw⟩
  have S7 := hide (S6.out.below hw)
  clear hw S6 R6
  obtain ⟨hc1, hc2⟩ := HCS.out
  clear HCS HW HR HD2 HR2 HL
  obtain (rfl | rfl) | ⟨rfl, rfl | rfl⟩ := hc1
  all_goals
    obtain (rfl | rfl) | ⟨rfl, rfl⟩ := hc2
  all_goals
    go_wp2_with (first
      | (refine stS rfl (.tmp 13) (.tmp 38) rfl w7.heap.size 0 0 0 0 0 y.a y.b y.c y.d y.o rfl rfl (SuAt.new w7 _ 0 0 0 0 0) ?_
         intro w8 hr ho
         have S8 := hide (S7.out.fresh ho)
         clear hr ho S7))
    go_ret
    exact ⟨rfl, S8.out.old⟩
end Go.Proofs.Ytbngbhildijciaa
