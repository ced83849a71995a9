/- The walk of quernref06.Read. -/
import Derived.Test.YtbngbhildijciaaSup19
namespace Go.Proofs.Ytbngbhildijciaa
open Go.RowKit
set_option linter.unusedVariables false

/-- The block, the result's place. -/
structure RR (W : World) (f : Nat → Int) (v : World) : Prop where
  blk : Row v W.heap.size 256 f
  res : SuAt v (W.heap.size + 1) 0 0 0 0 0
  old : Below W.heap.size W v
section
variable {W v v' : World} {f : Nat → Int}
theorem RR.below (h : RR W f v) (k : Below v.heap.size v v') : RR W f v' := ⟨h.blk.below k h.blk.lt, h.res.below k h.res.lt, h.old.trans (k.mono h.old.size)⟩
theorem RR.steps : ∀ v v', RR W f v → Below v.heap.size v v' → RR W f v' := fun v v' h k => h.below k
theorem RR.drew (h : RR W f v) : RR W f v.drew := ⟨h.blk, h.res, h.old.drew⟩
end
theorem RR.only {W v v' : World} {f : Nat → Int} {g : Nat} (h : RR W f v) (k : Only g v v') (hg : W.heap.size + 1 < g) : RR W f v' := ⟨h.blk.only k (by omega), h.res.only k (by omega), h.old.trans (k.below (by omega) h.old.size)⟩
def GP (w v : World) (s : Value) (a b c d : Int) : Prop := ∃ g, s = .pointer (some ⟨g, 0, none⟩) ∧ w.heap.size + 1 < g ∧ GeoAt v g a b c d
theorem GP.below {w v v' : World} {s : Value} {a b c d : Int} (h : GP w v s a b c d) (k : Below v.heap.size v v') : GP w v' s a b c d := by
  obtain ⟨g, e, l, q⟩ := h; exact ⟨g, e, l, q.below k q.lt⟩
def su0 : Su := ⟨0, 0, 0, 0, 0⟩
def suF (f : Nat → Int) : Su := ⟨part f 8 2, part f 10 2, part f 12 2, part f 14 2, part f 16 4⟩
/-- The block, the result, the geometry that was read. -/
structure RG (W : World) (f : Nat → Int) (g : Nat) (r : Su) (v : World) : Prop where
  blk : Row v W.heap.size 256 f
  res : SuAt v (W.heap.size + 1) r.a r.b r.c r.d r.o
  geo : GeoAt v g (part f 8 2) (part f 10 2) (part f 12 2) (part f 14 2)
  lo : W.heap.size + 1 < g
  old : Below W.heap.size W v
section
variable {W v v' : World} {f : Nat → Int} {g : Nat} {r : Su}
theorem RG.below (h : RG W f g r v) (k : Below v.heap.size v v') : RG W f g r v' := ⟨h.blk.below k h.blk.lt, h.res.below k h.res.lt, h.geo.below k h.geo.lt, h.lo, h.old.trans (k.mono h.old.size)⟩
theorem RG.steps : ∀ v v', RG W f g r v → Below v.heap.size v v' → RG W f g r v' := fun v v' h k => h.below k
theorem RG.drew (h : RG W f g r v) : RG W f g r v.drew := ⟨h.blk, h.res, h.geo, h.lo, h.old.drew⟩
theorem RG.put (h : RG W f g r v) (k : Only (W.heap.size + 1) v v') (q : SuAt v' (W.heap.size + 1) (part f 8 2) (part f 10 2) (part f 12 2) (part f 14 2) (part f 16 4)) : RG W f g (suF f) v' := by
  have := h.lo
  obtain ⟨t, e⟩ := h.geo
  exact ⟨h.blk.only k (by omega), q, ⟨t, (k.block _ (lt_of_block e) (fun q => by injection q; omega)).trans e⟩, h.lo, h.old.trans (k.below (by omega) h.old.size)⟩
end
theorem RR.start (W : World) (f : Nat → Int) (t s : TypeId) : RR W f ((W.alloc (.cells (bytesOf 256 f) t)).alloc (.cells (supC 0 0 0 0 0) s)) := by
  have := SuAt.new (W.alloc (.cells (bytesOf 256 f) t)) s 0 0 0 0 0
  simp only [World.size_alloc] at this
  exact ⟨(Row.new W t 256 f).alloc _, this, ((Below.refl _ W).alloc (Nat.le_refl _) _).alloc (by simp only [World.size_alloc]; omega) _⟩
def Rd3 (w : World) (f : Nat → Int) (p0 p3 p5 p6 p7 p8 p9 p10 p11 p12 p13 p14 p15 p16 p17 p18 p19 p20 p21 p22 p23 p24 p25 p26 p27 p28 p29 p30 : Value) (d : Nat → Bool) (A : Act) (v : World) : Prop := ∃ s31 s32 s33 s34 s35 s36 s37 s38 s39 s4, A = { tmps := (p0 :: Value.pointer (some ⟨w.heap.size, 0, none⟩) :: Value.pointer (some ⟨w.heap.size + 1, 0, none⟩) :: p3 :: s4 :: p5 :: p6 :: p7 :: p8 :: p9 :: p10 :: p11 :: p12 :: p13 :: p14 :: p15 :: p16 :: p17 :: p18 :: p19 :: p20 :: p21 :: p22 :: p23 :: p24 :: p25 :: p26 :: p27 :: p28 :: p29 :: p30 :: s31 :: s32 :: s33 :: s34 :: s35 :: s36 :: s37 :: s38 :: s39 :: undef :: undef :: undef :: undef :: undef :: undef :: undef :: undef :: undef :: undef :: undef :: undef :: undef :: undef :: undef :: undef :: undef :: undef :: []).toArray, defers := [] } ∧ RR w f v ∧ (d 0 = true → s31 = Value.agg (bytesOf 256 f)) ∧ (d 1 = true → s32 = Value.int .i64 (part f 8 2)) ∧ (d 2 = true → s33 = Value.agg (bytesOf 256 f)) ∧ (d 3 = true → s34 = Value.int .i64 (part f 10 2)) ∧ (d 4 = true → s35 = Value.agg (bytesOf 256 f)) ∧ (d 5 = true → s36 = Value.int .i64 (part f 12 2)) ∧ (d 6 = true → s37 = Value.agg (bytesOf 256 f)) ∧ (d 7 = true → s38 = Value.int .i64 (part f 14 2)) ∧ (d 8 = true → s39 = Value.agg #[.int .i64 (part f 8 2), .int .i64 (part f 10 2), .int .i64 (part f 12 2), .int .i64 (part f 14 2)]) ∧ (d 9 = true → d 10 = false → GP w v s4 0 0 0 0) ∧ (d 10 = true → d 9 = true ∧ GP w v s4 (part f 8 2) (part f 10 2) (part f 12 2) (part f 14 2))
theorem Rd3.elim {w : World} {f : Nat → Int} {p0 p3 p5 p6 p7 p8 p9 p10 p11 p12 p13 p14 p15 p16 p17 p18 p19 p20 p21 p22 p23 p24 p25 p26 p27 p28 p29 p30 : Value} {d : Nat → Bool} {A : Act} {v : World} (H : Rd3 w f p0 p3 p5 p6 p7 p8 p9 p10 p11 p12 p13 p14 p15 p16 p17 p18 p19 p20 p21 p22 p23 p24 p25 p26 p27 p28 p29 p30 d A v) {GG : Prop} (k : ∀ s31 s32 s33 s34 s35 s36 s37 s38 s39 s4, A = { tmps := (p0 :: Value.pointer (some ⟨w.heap.size, 0, none⟩) :: Value.pointer (some ⟨w.heap.size + 1, 0, none⟩) :: p3 :: s4 :: p5 :: p6 :: p7 :: p8 :: p9 :: p10 :: p11 :: p12 :: p13 :: p14 :: p15 :: p16 :: p17 :: p18 :: p19 :: p20 :: p21 :: p22 :: p23 :: p24 :: p25 :: p26 :: p27 :: p28 :: p29 :: p30 :: s31 :: s32 :: s33 :: s34 :: s35 :: s36 :: s37 :: s38 :: s39 :: undef :: undef :: undef :: undef :: undef :: undef :: undef :: undef :: undef :: undef :: undef :: undef :: undef :: undef :: undef :: undef :: undef :: undef :: []).toArray, defers := [] } → RR w f v → (d 0 = true → s31 = Value.agg (bytesOf 256 f)) → (d 1 = true → s32 = Value.int .i64 (part f 8 2)) → (d 2 = true → s33 = Value.agg (bytesOf 256 f)) → (d 3 = true → s34 = Value.int .i64 (part f 10 2)) → (d 4 = true → s35 = Value.agg (bytesOf 256 f)) → (d 5 = true → s36 = Value.int .i64 (part f 12 2)) → (d 6 = true → s37 = Value.agg (bytesOf 256 f)) → (d 7 = true → s38 = Value.int .i64 (part f 14 2)) → (d 8 = true → s39 = Value.agg #[.int .i64 (part f 8 2), .int .i64 (part f 10 2), .int .i64 (part f 12 2), .int .i64 (part f 14 2)]) → (d 9 = true → d 10 = false → GP w v s4 0 0 0 0) → (d 10 = true → d 9 = true ∧ GP w v s4 (part f 8 2) (part f 10 2) (part f 12 2) (part f 14 2)) → GG) : GG := by
  obtain ⟨s31, s32, s33, s34, s35, s36, s37, s38, s39, s4, e, HS, h0, h1, h2, h3, h4, h5, h6, h7, h8, h9, h10⟩ := H
  exact k s31 s32 s33 s34 s35 s36 s37 s38 s39 s4 e HS h0 h1 h2 h3 h4 h5 h6 h7 h8 h9 h10
def Rd8 (w : World) (f : Nat → Int) (g : Nat) (p0 p5 p6 p7 p8 p9 p10 p11 p12 p13 p14 p15 p16 p17 p18 p19 p20 p21 p22 p23 p24 p25 p26 p27 p28 p29 p30 p31 p32 p33 p34 p35 p36 p37 p38 p39 p40 p41 p42 p43 p44 p45 p46 p47 p48 p49 p50 p51 p52 p53 : Value) (d : Nat → Bool) (A : Act) (v : World) : Prop := ∃ s54 s55 s56 s57 s3, A = { tmps := (p0 :: Value.pointer (some ⟨w.heap.size, 0, none⟩) :: Value.pointer (some ⟨w.heap.size + 1, 0, none⟩) :: s3 :: Value.pointer (some ⟨g, 0, none⟩) :: p5 :: p6 :: p7 :: p8 :: p9 :: p10 :: p11 :: p12 :: p13 :: p14 :: p15 :: p16 :: p17 :: p18 :: p19 :: p20 :: p21 :: p22 :: p23 :: p24 :: p25 :: p26 :: p27 :: p28 :: p29 :: p30 :: p31 :: p32 :: p33 :: p34 :: p35 :: p36 :: p37 :: p38 :: p39 :: p40 :: p41 :: p42 :: p43 :: p44 :: p45 :: p46 :: p47 :: p48 :: p49 :: p50 :: p51 :: p52 :: p53 :: s54 :: s55 :: s56 :: s57 :: []).toArray, defers := [] } ∧ RG w f g (bif d 4 then suF f else su0) v ∧ (d 0 = true → s54 = Value.agg #[.int .i64 (part f 8 2), .int .i64 (part f 10 2), .int .i64 (part f 12 2), .int .i64 (part f 14 2)]) ∧ (d 1 = true → s55 = Value.agg (bytesOf 256 f)) ∧ (d 2 = true → s56 = Value.int .u32 (part f 16 4)) ∧ (d 3 = true → s57 = Value.agg #[.int .i64 (part f 8 2), .int .i64 (part f 10 2), .int .i64 (part f 12 2), .int .i64 (part f 14 2), .int .u32 (part f 16 4)]) ∧ True ∧ (d 5 = true → s3 = Value.int .i64 0)
theorem Rd8.elim {w : World} {f : Nat → Int} {g : Nat} {p0 p5 p6 p7 p8 p9 p10 p11 p12 p13 p14 p15 p16 p17 p18 p19 p20 p21 p22 p23 p24 p25 p26 p27 p28 p29 p30 p31 p32 p33 p34 p35 p36 p37 p38 p39 p40 p41 p42 p43 p44 p45 p46 p47 p48 p49 p50 p51 p52 p53 : Value} {d : Nat → Bool} {A : Act} {v : World} (H : Rd8 w f g p0 p5 p6 p7 p8 p9 p10 p11 p12 p13 p14 p15 p16 p17 p18 p19 p20 p21 p22 p23 p24 p25 p26 p27 p28 p29 p30 p31 p32 p33 p34 p35 p36 p37 p38 p39 p40 p41 p42 p43 p44 p45 p46 p47 p48 p49 p50 p51 p52 p53 d A v) {GG : Prop} (k : ∀ s54 s55 s56 s57 s3, A = { tmps := (p0 :: Value.pointer (some ⟨w.heap.size, 0, none⟩) :: Value.pointer (some ⟨w.heap.size + 1, 0, none⟩) :: s3 :: Value.pointer (some ⟨g, 0, none⟩) :: p5 :: p6 :: p7 :: p8 :: p9 :: p10 :: p11 :: p12 :: p13 :: p14 :: p15 :: p16 :: p17 :: p18 :: p19 :: p20 :: p21 :: p22 :: p23 :: p24 :: p25 :: p26 :: p27 :: p28 :: p29 :: p30 :: p31 :: p32 :: p33 :: p34 :: p35 :: p36 :: p37 :: p38 :: p39 :: p40 :: p41 :: p42 :: p43 :: p44 :: p45 :: p46 :: p47 :: p48 :: p49 :: p50 :: p51 :: p52 :: p53 :: s54 :: s55 :: s56 :: s57 :: []).toArray, defers := [] } → RG w f g (bif d 4 then suF f else su0) v → (d 0 = true → s54 = Value.agg #[.int .i64 (part f 8 2), .int .i64 (part f 10 2), .int .i64 (part f 12 2), .int .i64 (part f 14 2)]) → (d 1 = true → s55 = Value.agg (bytesOf 256 f)) → (d 2 = true → s56 = Value.int .u32 (part f 16 4)) → (d 3 = true → s57 = Value.agg #[.int .i64 (part f 8 2), .int .i64 (part f 10 2), .int .i64 (part f 12 2), .int .i64 (part f 14 2), .int .u32 (part f 16 4)]) → True → (d 5 = true → s3 = Value.int .i64 0) → GG) : GG := by
  obtain ⟨s54, s55, s56, s57, s3, e, HS, h0, h1, h2, h3, h4, h5⟩ := H
  exact k s54 s55 s56 s57 s3 e HS h0 h1 h2 h3 h4 h5
set_option maxRecDepth 100000 in
set_option maxHeartbeats 4000000 in
theorem rread_any (f : Nat → Int) (w : World) (hf : IsByte f) :
    Calls Try.prog 18 #[blkV f] w fun e w' => e = .returned (.tuple #[rdS f, .int .i64 (rdC f)]) ∧ Below w.heap.size w w' := by
  have HF := hide hf
  have HN : Hid (¬ hdP f → rdC f = 60 ∧ rdS f = supV 0 0 0 0 0) := rd_head
  have S0 := hide (RR.start w f 29 26)
  have HL : Hid (∀ V i p, i = ((p : Nat) : Int) → p + 4 ≤ 256 → Calls Try.prog 38 #[.agg (bytesOf 256 f), .int .i64 i] V fun e w' => e = .returned (.int .u32 (part f p 4)) ∧ Below V.heap.size V w') := fun V i p hi hp => rlong_any f i p V hf hi hp
  have HSh : Hid (∀ V i p, i = ((p : Nat) : Int) → p + 2 ≤ 256 → Calls Try.prog 39 #[.agg (bytesOf 256 f), .int .i64 i] V fun e w' => e = .returned (.int .i64 (part f p 2)) ∧ Below V.heap.size V w') := fun V i p hi hp => rshort_any f i p V hf hi hp
  have HSu : Hid (∀ V, Row V w.heap.size 256 f → Calls Try.prog 40 #[.slice (some ⟨w.heap.size, 0, none⟩) 252 256] V fun e w' => e = .returned (.int .u32 ((sumF f 252 : Nat) : Int)) ∧ Below V.heap.size V w') := fun V h =>
    (refSum_any _ 252 256 f V (by omega) hf (h.bs (by omega))).mono fun e w' ⟨q, r⟩ => ⟨q, r ▸ Below.refl _ _⟩
  have HZ : Hid (∀ V, Row V w.heap.size 256 f → Calls Try.prog 41 #[.slice (some ⟨w.heap.size, 20, none⟩) 232 236] V fun e w' => e = .returned (.bool (sameB (fun i => f (20 + i)) zeroF 232)) ∧ Below V.heap.size V w') := fun V h =>
    (rZero_any (some ⟨w.heap.size, 20, none⟩) 232 236 (fun i => f (20 + i)) (by omega) V (h.bsAt (p := 20) (k := 232) (by omega))).mono fun e w' ⟨q, r⟩ => ⟨q, r ▸ Below.refl _ _⟩
  have HL0 : Hid (∀ V, Calls Try.prog 38 #[.agg (bytesOf 256 f), .int .i64 0] V fun e w' => e = .returned (.int .u32 (part f 0 4)) ∧ Below V.heap.size V w') := fun V => HL.out V 0 0 rfl (by omega)
  have HL252 : Hid (∀ V, Calls Try.prog 38 #[.agg (bytesOf 256 f), .int .i64 252] V fun e w' => e = .returned (.int .u32 (part f 252 4)) ∧ Below V.heap.size V w') := fun V => HL.out V 252 252 rfl (by omega)
  have HL16 : Hid (∀ V, Calls Try.prog 38 #[.agg (bytesOf 256 f), .int .i64 16] V fun e w' => e = .returned (.int .u32 (part f 16 4)) ∧ Below V.heap.size V w') := fun V => HL.out V 16 16 rfl (by omega)
  have HS4 : Hid (∀ V, Calls Try.prog 39 #[.agg (bytesOf 256 f), .int .i64 4] V fun e w' => e = .returned (.int .i64 (part f 4 2)) ∧ Below V.heap.size V w') := fun V => HSh.out V 4 4 rfl (by omega)
  have HS6 : Hid (∀ V, Calls Try.prog 39 #[.agg (bytesOf 256 f), .int .i64 6] V fun e w' => e = .returned (.int .i64 (part f 6 2)) ∧ Below V.heap.size V w') := fun V => HSh.out V 6 6 rfl (by omega)
  have HS8 : Hid (∀ V, Calls Try.prog 39 #[.agg (bytesOf 256 f), .int .i64 8] V fun e w' => e = .returned (.int .i64 (part f 8 2)) ∧ Below V.heap.size V w') := fun V => HSh.out V 8 8 rfl (by omega)
  have HS10 : Hid (∀ V, Calls Try.prog 39 #[.agg (bytesOf 256 f), .int .i64 10] V fun e w' => e = .returned (.int .i64 (part f 10 2)) ∧ Below V.heap.size V w') := fun V => HSh.out V 10 10 rfl (by omega)
  have HS12 : Hid (∀ V, Calls Try.prog 39 #[.agg (bytesOf 256 f), .int .i64 12] V fun e w' => e = .returned (.int .i64 (part f 12 2)) ∧ Below V.heap.size V w') := fun V => HSh.out V 12 12 rfl (by omega)
  have HS14 : Hid (∀ V, Calls Try.prog 39 #[.agg (bytesOf 256 f), .int .i64 14] V fun e w' => e = .returned (.int .i64 (part f 14 2)) ∧ Below V.heap.size V w') := fun V => HSh.out V 14 14 rfl (by omega)
  clear HL HSh
  have ne : Nonempty (Of (RR w f)) := ⟨⟨_, S0.out⟩⟩
  clear hf
  unfold blkV
  go_enter Try.func18, Try.ntmps18
  by_cases e1 : part f 0 4 = 827216465
  case neg =>
    obtain ⟨y1, y2⟩ := HN.out (fun h => e1 h.1)
    have Y1 := hide y1
    have Y2 := hide y2
    have r1 : (part f 0 4 != 827216465) = true := bne_iff_ne.2 e1
    clear y1 y2 e1
    go_wp2_with fail
    refine wp_region_sub (RR w f) (by kernel_rfl) (by kernel_rfl) (S0.out.drew) ?_
    repeat (first
      | go_big_quiet_skip
      | (go_big_quiet_want
         (refine qldB (.tmp 1) rfl _ f rfl (fun v h => h.blk) ?_)
         simp only [Act.put, List.setIfInBounds_toArray, List.set_cons_succ, List.set_cons_zero]
         go_big_quiet_on)
      | (go_big_quiet_want
         go_big_quiet_op
         first
         | go_big_quiet_on
         | go_big_quiet_call (first
           | (go_at_call 38; first | (with_reducible exact sub_calls RR.steps (HL0.out _)) | (with_reducible exact sub_calls RR.steps (HL252.out _)))
           | (go_at_call 39; first | (with_reducible exact sub_calls RR.steps (HS4.out _)) | (with_reducible exact sub_calls RR.steps (HS6.out _)))
           | (go_at_call 40; exact sub_calls RR.steps (HSu.out _ (RR.blk (Of.ok _))))
           | (go_at_call 41; exact sub_calls RR.steps (HZ.out _ (RR.blk (Of.ok _)))))))
    refine wpQuiet_nil ?_
    rintro w' ⟨s, rfl⟩
    have S1 := hide s.ok
    go_wp2_with (first
      | (refine stS rfl (.tmp 2) (.tmp 30) rfl (w.heap.size + 1) 0 0 0 0 0 0 0 0 0 0 rfl rfl S1.out.res ?_; intro w9 hr2 ho2; have HR2 := hide hr2; have HO2 := hide ho2; clear hr2 ho2))
    exact bodyPost_ret_by (results_sup rfl _ _ _ _ _ _ _ _ _ rfl rfl HR2.out) rfl ⟨by rw [Y1.out, Y2.out]; rfl, S1.out.old.trans (HO2.out.below (by omega) S1.out.old.size)⟩
  have r1 : (part f 0 4 != 827216465) = false := by rw [e1]; exact bne_self_eq_false _
  have E1 := hide e1
  clear e1
  by_cases e2 : part f 4 2 = 1
  case neg =>
    obtain ⟨y1, y2⟩ := HN.out (fun h => e2 h.2.1)
    have Y1 := hide y1
    have Y2 := hide y2
    have r2 : (part f 4 2 != 1) = true := bne_iff_ne.2 e2
    clear y1 y2 e2
    go_wp2_with fail
    refine wp_region_sub (RR w f) (by kernel_rfl) (by kernel_rfl) (S0.out.drew) ?_
    repeat (first
      | go_big_quiet_skip
      | (go_big_quiet_want
         (refine qldB (.tmp 1) rfl _ f rfl (fun v h => h.blk) ?_)
         simp only [Act.put, List.setIfInBounds_toArray, List.set_cons_succ, List.set_cons_zero]
         go_big_quiet_on)
      | (go_big_quiet_want
         go_big_quiet_op
         first
         | go_big_quiet_on
         | go_big_quiet_call (first
           | (go_at_call 38; first | (with_reducible exact sub_calls RR.steps (HL0.out _)) | (with_reducible exact sub_calls RR.steps (HL252.out _)))
           | (go_at_call 39; first | (with_reducible exact sub_calls RR.steps (HS4.out _)) | (with_reducible exact sub_calls RR.steps (HS6.out _)))
           | (go_at_call 40; exact sub_calls RR.steps (HSu.out _ (RR.blk (Of.ok _))))
           | (go_at_call 41; exact sub_calls RR.steps (HZ.out _ (RR.blk (Of.ok _)))))))
    refine wpQuiet_nil ?_
    rintro w' ⟨s, rfl⟩
    have S1 := hide s.ok
    go_wp2_with (first
      | (refine stS rfl (.tmp 2) (.tmp 30) rfl (w.heap.size + 1) 0 0 0 0 0 0 0 0 0 0 rfl rfl S1.out.res ?_; intro w9 hr2 ho2; have HR2 := hide hr2; have HO2 := hide ho2; clear hr2 ho2))
    exact bodyPost_ret_by (results_sup rfl _ _ _ _ _ _ _ _ _ rfl rfl HR2.out) rfl ⟨by rw [Y1.out, Y2.out]; rfl, S1.out.old.trans (HO2.out.below (by omega) S1.out.old.size)⟩
  have r2 : (part f 4 2 != 1) = false := by rw [e2]; exact bne_self_eq_false _
  have E2 := hide e2
  clear e2
  by_cases e3 : part f 6 2 = 256
  case neg =>
    obtain ⟨y1, y2⟩ := HN.out (fun h => e3 h.2.2.1)
    have Y1 := hide y1
    have Y2 := hide y2
    have r3 : (part f 6 2 != 256) = true := bne_iff_ne.2 e3
    clear y1 y2 e3
    go_wp2_with fail
    refine wp_region_sub (RR w f) (by kernel_rfl) (by kernel_rfl) (S0.out.drew) ?_
    repeat (first
      | go_big_quiet_skip
      | (go_big_quiet_want
         (refine qldB (.tmp 1) rfl _ f rfl (fun v h => h.blk) ?_)
         simp only [Act.put, List.setIfInBounds_toArray, List.set_cons_succ, List.set_cons_zero]
         go_big_quiet_on)
      | (go_big_quiet_want
         go_big_quiet_op
         first
         | go_big_quiet_on
         | go_big_quiet_call (first
           | (go_at_call 38; first | (with_reducible exact sub_calls RR.steps (HL0.out _)) | (with_reducible exact sub_calls RR.steps (HL252.out _)))
           | (go_at_call 39; first | (with_reducible exact sub_calls RR.steps (HS4.out _)) | (with_reducible exact sub_calls RR.steps (HS6.out _)))
           | (go_at_call 40; exact sub_calls RR.steps (HSu.out _ (RR.blk (Of.ok _))))
           | (go_at_call 41; exact sub_calls RR.steps (HZ.out _ (RR.blk (Of.ok _)))))))
    refine wpQuiet_nil ?_
    rintro w' ⟨s, rfl⟩
    have S1 := hide s.ok
    go_wp2_with (first
      | (refine stS rfl (.tmp 2) (.tmp 30) rfl (w.heap.size + 1) 0 0 0 0 0 0 0 0 0 0 rfl rfl S1.out.res ?_; intro w9 hr2 ho2; have HR2 := hide hr2; have HO2 := hide ho2; clear hr2 ho2))
    exact bodyPost_ret_by (results_sup rfl _ _ _ _ _ _ _ _ _ rfl rfl HR2.out) rfl ⟨by rw [Y1.out, Y2.out]; rfl, S1.out.old.trans (HO2.out.below (by omega) S1.out.old.size)⟩
  have r3 : (part f 6 2 != 256) = false := by rw [e3]; exact bne_self_eq_false _
  have E3 := hide e3
  clear e3
  by_cases e4 : part f 252 4 = ((sumF f 252 : Nat) : Int)
  case neg =>
    obtain ⟨y1, y2⟩ := HN.out (fun h => e4 h.2.2.2.1)
    have Y1 := hide y1
    have Y2 := hide y2
    have r4 : (part f 252 4 != ((sumF f 252 : Nat) : Int)) = true := bne_iff_ne.2 e4
    clear y1 y2 e4
    go_wp2_with fail
    refine wp_region_sub (RR w f) (by kernel_rfl) (by kernel_rfl) (S0.out.drew) ?_
    repeat (first
      | go_big_quiet_skip
      | (go_big_quiet_want
         (refine qldB (.tmp 1) rfl _ f rfl (fun v h => h.blk) ?_)
         simp only [Act.put, List.setIfInBounds_toArray, List.set_cons_succ, List.set_cons_zero]
         go_big_quiet_on)
      | (go_big_quiet_want
         go_big_quiet_op
         first
         | go_big_quiet_on
         | go_big_quiet_call (first
           | (go_at_call 38; first | (with_reducible exact sub_calls RR.steps (HL0.out _)) | (with_reducible exact sub_calls RR.steps (HL252.out _)))
           | (go_at_call 39; first | (with_reducible exact sub_calls RR.steps (HS4.out _)) | (with_reducible exact sub_calls RR.steps (HS6.out _)))
           | (go_at_call 40; exact sub_calls RR.steps (HSu.out _ (RR.blk (Of.ok _))))
           | (go_at_call 41; exact sub_calls RR.steps (HZ.out _ (RR.blk (Of.ok _)))))))
    refine wpQuiet_nil ?_
    rintro w' ⟨s, rfl⟩
    have S1 := hide s.ok
    go_wp2_with (first
      | (refine stS rfl (.tmp 2) (.tmp 30) rfl (w.heap.size + 1) 0 0 0 0 0 0 0 0 0 0 rfl rfl S1.out.res ?_; intro w9 hr2 ho2; have HR2 := hide hr2; have HO2 := hide ho2; clear hr2 ho2))
    exact bodyPost_ret_by (results_sup rfl _ _ _ _ _ _ _ _ _ rfl rfl HR2.out) rfl ⟨by rw [Y1.out, Y2.out]; rfl, S1.out.old.trans (HO2.out.below (by omega) S1.out.old.size)⟩
  have r4 : (part f 252 4 != ((sumF f 252 : Nat) : Int)) = false := by rw [e4]; exact bne_self_eq_false _
  have E4 := hide e4
  clear e4
  cases e5 : sameB (fun i => f (20 + i)) zeroF 232
  case false =>
    obtain ⟨y1, y2⟩ := HN.out (fun h => by rw [h.2.2.2.2] at e5; cases e5)
    have Y1 := hide y1
    have Y2 := hide y2
    clear y1 y2
    go_wp2_with fail
    refine wp_region_sub (RR w f) (by kernel_rfl) (by kernel_rfl) (S0.out.drew) ?_
    repeat (first
      | go_big_quiet_skip
      | (go_big_quiet_want
         (refine qldB (.tmp 1) rfl _ f rfl (fun v h => h.blk) ?_)
         simp only [Act.put, List.setIfInBounds_toArray, List.set_cons_succ, List.set_cons_zero]
         go_big_quiet_on)
      | (go_big_quiet_want
         go_big_quiet_op
         first
         | go_big_quiet_on
         | go_big_quiet_call (first
           | (go_at_call 38; first | (with_reducible exact sub_calls RR.steps (HL0.out _)) | (with_reducible exact sub_calls RR.steps (HL252.out _)))
           | (go_at_call 39; first | (with_reducible exact sub_calls RR.steps (HS4.out _)) | (with_reducible exact sub_calls RR.steps (HS6.out _)))
           | (go_at_call 40; exact sub_calls RR.steps (HSu.out _ (RR.blk (Of.ok _))))
           | (go_at_call 41; exact sub_calls RR.steps (HZ.out _ (RR.blk (Of.ok _)))))))
    refine wpQuiet_nil ?_
    rintro w' ⟨s, rfl⟩
    have S1 := hide s.ok
    go_wp2_with (first
      | (refine stS rfl (.tmp 2) (.tmp 30) rfl (w.heap.size + 1) 0 0 0 0 0 0 0 0 0 0 rfl rfl S1.out.res ?_; intro w9 hr2 ho2; have HR2 := hide hr2; have HO2 := hide ho2; clear hr2 ho2))
    exact bodyPost_ret_by (results_sup rfl _ _ _ _ _ _ _ _ _ rfl rfl HR2.out) rfl ⟨by rw [Y1.out, Y2.out]; rfl, S1.out.old.trans (HO2.out.below (by omega) S1.out.old.size)⟩
  have HP : Hid (hdP f) := ⟨E1.out, E2.out, E3.out, E4.out, e5⟩
  go_wp2_with fail
  refine wp_region_sub (RR w f) (by kernel_rfl) (by kernel_rfl) (S0.out.drew) ?_
  repeat (first
    | go_big_quiet_skip
    | (go_big_quiet_want
       (refine qldB (.tmp 1) rfl _ f rfl (fun v h => h.blk) ?_)
       simp only [Act.put, List.setIfInBounds_toArray, List.set_cons_succ, List.set_cons_zero]
       go_big_quiet_on)
    | (go_big_quiet_want
       go_big_quiet_op
       first
       | go_big_quiet_on
       | go_big_quiet_call (first
         | (go_at_call 38; first | (with_reducible exact sub_calls RR.steps (HL0.out _)) | (with_reducible exact sub_calls RR.steps (HL252.out _)))
         | (go_at_call 39; first | (with_reducible exact sub_calls RR.steps (HS4.out _)) | (with_reducible exact sub_calls RR.steps (HS6.out _)))
         | (go_at_call 40; exact sub_calls RR.steps (HSu.out _ (RR.blk (Of.ok _))))
         | (go_at_call 41; exact sub_calls RR.steps (HZ.out _ (RR.blk (Of.ok _)))))))
  refine wpQuiet_nil ?_
  rintro w' ⟨s, rfl⟩
  have S1 := hide s.ok
  clear E1 E2 E3 E4 e5 r1 r2 r3 r4 HN S0 HSu HZ
  go_wp2_with fail
  have hf := HF.out
  refine wp_region_steps (by kernel_rfl) (by kernel_rfl) (Rd3 w f _ _ _ _ _ _ _ _ _ _ _ _ _ _ _ _ _ _ _ _ _ _ _ _ _ _ _ _) ⟨_, _, _, _, _, _, _, _, _, _, rfl, (S1.out.drew), (fun e => Bool.noConfusion e), (fun e => Bool.noConfusion e), (fun e => Bool.noConfusion e), (fun e => Bool.noConfusion e), (fun e => Bool.noConfusion e), (fun e => Bool.noConfusion e), (fun e => Bool.noConfusion e), (fun e => Bool.noConfusion e), (fun e => Bool.noConfusion e), (fun e => Bool.noConfusion e), (fun e => Bool.noConfusion e)⟩ ?hs ?he
  case hs =>
    go_tidy
    refine ⟨?o0, ?o1, ?o2, ?o3, ?o4, ?o5, ?o6, ?o7, ?o8, ?o9, ?o10, trivial⟩
    case o0 =>
      intro d a v hd hr hJ; refine Rd3.elim hJ ?_; intro s31 s32 s33 s34 s35 s36 s37 s38 s39 s4 e HS h0 h1 h2 h3 h4 h5 h6 h7 h8 h9 h10; subst e
      go_wp2_with (refine ld256 rfl (.tmp 1) rfl _ _ rfl HS.blk ?_)
      exact ⟨_, s32, s33, s34, s35, s36, s37, s38, s39, s4, rfl, HS, fun _ => rfl, h1, h2, h3, h4, h5, h6, h7, h8, h9, h10⟩
    case o1 =>
      intro d a v hd hr hJ; refine Rd3.elim hJ ?_; intro s31 s32 s33 s34 s35 s36 s37 s38 s39 s4 e HS h0 h1 h2 h3 h4 h5 h6 h7 h8 h9 h10; subst e
      have e0 : d 0 = true := by first | exact hr.1 rfl | exact hr.2.1 rfl | exact hr.2.2.1 rfl | exact hr.2.2.2.1 rfl | exact hr.2.2.2.2.1 rfl
      obtain rfl := h0 e0
      go_wp2_with fail
      refine (rshort_any f 8 8 _ hf rfl (by omega)).mono ?_
      rintro e v' ⟨rfl, hw⟩
      go_wp2_with fail
      exact ⟨_, _, s33, s34, s35, s36, s37, s38, s39, s4, rfl, HS.below hw, fun _ => rfl, fun _ => rfl, h2, h3, h4, h5, h6, h7, h8, fun q r => (h9 q r).below hw, fun q => ⟨(h10 q).1, (h10 q).2.below hw⟩⟩
    case o2 =>
      intro d a v hd hr hJ; refine Rd3.elim hJ ?_; intro s31 s32 s33 s34 s35 s36 s37 s38 s39 s4 e HS h0 h1 h2 h3 h4 h5 h6 h7 h8 h9 h10; subst e
      go_wp2_with (refine ld256 rfl (.tmp 1) rfl _ _ rfl HS.blk ?_)
      exact ⟨s31, s32, _, s34, s35, s36, s37, s38, s39, s4, rfl, HS, h0, h1, fun _ => rfl, h3, h4, h5, h6, h7, h8, h9, h10⟩
    case o3 =>
      intro d a v hd hr hJ; refine Rd3.elim hJ ?_; intro s31 s32 s33 s34 s35 s36 s37 s38 s39 s4 e HS h0 h1 h2 h3 h4 h5 h6 h7 h8 h9 h10; subst e
      have e2 : d 2 = true := by first | exact hr.1 rfl | exact hr.2.1 rfl | exact hr.2.2.1 rfl | exact hr.2.2.2.1 rfl | exact hr.2.2.2.2.1 rfl
      obtain rfl := h2 e2
      go_wp2_with fail
      refine (rshort_any f 10 10 _ hf rfl (by omega)).mono ?_
      rintro e v' ⟨rfl, hw⟩
      go_wp2_with fail
      exact ⟨s31, s32, _, _, s35, s36, s37, s38, s39, s4, rfl, HS.below hw, h0, h1, fun _ => rfl, fun _ => rfl, h4, h5, h6, h7, h8, fun q r => (h9 q r).below hw, fun q => ⟨(h10 q).1, (h10 q).2.below hw⟩⟩
    case o4 =>
      intro d a v hd hr hJ; refine Rd3.elim hJ ?_; intro s31 s32 s33 s34 s35 s36 s37 s38 s39 s4 e HS h0 h1 h2 h3 h4 h5 h6 h7 h8 h9 h10; subst e
      go_wp2_with (refine ld256 rfl (.tmp 1) rfl _ _ rfl HS.blk ?_)
      exact ⟨s31, s32, s33, s34, _, s36, s37, s38, s39, s4, rfl, HS, h0, h1, h2, h3, fun _ => rfl, h5, h6, h7, h8, h9, h10⟩
    case o5 =>
      intro d a v hd hr hJ; refine Rd3.elim hJ ?_; intro s31 s32 s33 s34 s35 s36 s37 s38 s39 s4 e HS h0 h1 h2 h3 h4 h5 h6 h7 h8 h9 h10; subst e
      have e4 : d 4 = true := by first | exact hr.1 rfl | exact hr.2.1 rfl | exact hr.2.2.1 rfl | exact hr.2.2.2.1 rfl | exact hr.2.2.2.2.1 rfl
      obtain rfl := h4 e4
      go_wp2_with fail
      refine (rshort_any f 12 12 _ hf rfl (by omega)).mono ?_
      rintro e v' ⟨rfl, hw⟩
      go_wp2_with fail
      exact ⟨s31, s32, s33, s34, _, _, s37, s38, s39, s4, rfl, HS.below hw, h0, h1, h2, h3, fun _ => rfl, fun _ => rfl, h6, h7, h8, fun q r => (h9 q r).below hw, fun q => ⟨(h10 q).1, (h10 q).2.below hw⟩⟩
    case o6 =>
      intro d a v hd hr hJ; refine Rd3.elim hJ ?_; intro s31 s32 s33 s34 s35 s36 s37 s38 s39 s4 e HS h0 h1 h2 h3 h4 h5 h6 h7 h8 h9 h10; subst e
      go_wp2_with (refine ld256 rfl (.tmp 1) rfl _ _ rfl HS.blk ?_)
      exact ⟨s31, s32, s33, s34, s35, s36, _, s38, s39, s4, rfl, HS, h0, h1, h2, h3, h4, h5, fun _ => rfl, h7, h8, h9, h10⟩
    case o7 =>
      intro d a v hd hr hJ; refine Rd3.elim hJ ?_; intro s31 s32 s33 s34 s35 s36 s37 s38 s39 s4 e HS h0 h1 h2 h3 h4 h5 h6 h7 h8 h9 h10; subst e
      have e6 : d 6 = true := by first | exact hr.1 rfl | exact hr.2.1 rfl | exact hr.2.2.1 rfl | exact hr.2.2.2.1 rfl | exact hr.2.2.2.2.1 rfl
      obtain rfl := h6 e6
      go_wp2_with fail
      refine (rshort_any f 14 14 _ hf rfl (by omega)).mono ?_
      rintro e v' ⟨rfl, hw⟩
      go_wp2_with fail
      exact ⟨s31, s32, s33, s34, s35, s36, _, _, s39, s4, rfl, HS.below hw, h0, h1, h2, h3, h4, h5, fun _ => rfl, fun _ => rfl, h8, fun q r => (h9 q r).below hw, fun q => ⟨(h10 q).1, (h10 q).2.below hw⟩⟩
    case o8 =>
      intro d a v hd hr hJ; refine Rd3.elim hJ ?_; intro s31 s32 s33 s34 s35 s36 s37 s38 s39 s4 e HS h0 h1 h2 h3 h4 h5 h6 h7 h8 h9 h10; subst e
      have e1 : d 1 = true := by first | exact hr.1 rfl | exact hr.2.1 rfl | exact hr.2.2.1 rfl | exact hr.2.2.2.1 rfl | exact hr.2.2.2.2.1 rfl
      obtain rfl := h1 e1
      have e3 : d 3 = true := by first | exact hr.1 rfl | exact hr.2.1 rfl | exact hr.2.2.1 rfl | exact hr.2.2.2.1 rfl | exact hr.2.2.2.2.1 rfl
      obtain rfl := h3 e3
      have e5 : d 5 = true := by first | exact hr.1 rfl | exact hr.2.1 rfl | exact hr.2.2.1 rfl | exact hr.2.2.2.1 rfl | exact hr.2.2.2.2.1 rfl
      obtain rfl := h5 e5
      have e7 : d 7 = true := by first | exact hr.1 rfl | exact hr.2.1 rfl | exact hr.2.2.1 rfl | exact hr.2.2.2.1 rfl | exact hr.2.2.2.2.1 rfl
      obtain rfl := h7 e7
      go_wp2_with fail
      exact ⟨s31, _, s33, _, s35, _, s37, _, _, s4, rfl, HS, h0, fun _ => rfl, h2, fun _ => rfl, h4, fun _ => rfl, h6, fun _ => rfl, fun _ => rfl, h9, h10⟩
    case o9 =>
      intro d a v hd hr hJ; refine Rd3.elim hJ ?_; intro s31 s32 s33 s34 s35 s36 s37 s38 s39 s4 e HS h0 h1 h2 h3 h4 h5 h6 h7 h8 h9 h10; subst e
      go_wp2_with fail
      exact ⟨s31, s32, s33, s34, s35, s36, s37, s38, s39, _, rfl, HS.below ((Below.refl _ v).alloc (Nat.le_refl _) _), h0, h1, h2, h3, h4, h5, h6, h7, h8, fun _ _ => ⟨v.heap.size, rfl, HS.res.lt, GeoAt.new _ _ 0 0 0 0⟩, fun q => absurd (h10 q).1 (by rw [hd]; decide)⟩
    case o10 =>
      intro d a v hd hr hJ; refine Rd3.elim hJ ?_; intro s31 s32 s33 s34 s35 s36 s37 s38 s39 s4 e HS h0 h1 h2 h3 h4 h5 h6 h7 h8 h9 h10; subst e
      have e8 : d 8 = true := by first | exact hr.1 rfl | exact hr.2.1 rfl | exact hr.2.2.1 rfl | exact hr.2.2.2.1 rfl | exact hr.2.2.2.2.1 rfl
      obtain rfl := h8 e8
      have e9 : d 9 = true := by first | exact hr.1 rfl | exact hr.2.1 rfl | exact hr.2.2.1 rfl
      obtain ⟨g, rfl, hg, hG⟩ := h9 e9 hd
      go_wp2_with (refine stG rfl (.tmp 4) (.tmp 39) rfl g 0 0 0 0 (part f 8 2) (part f 10 2) (part f 12 2) (part f 14 2) rfl rfl hG ?_; intro v' hr' ho')
      exact ⟨s31, s32, s33, s34, s35, s36, s37, s38, _, _, rfl, HS.only ho' hg, h0, h1, h2, h3, h4, h5, h6, h7, fun _ => rfl, fun _ q => absurd q (by simp [setB]), fun _ => ⟨e9, g, rfl, hg, hr'⟩⟩
  case he =>
    intro d a v hd hJ; refine Rd3.elim hJ ?_; intro s31 s32 s33 s34 s35 s36 s37 s38 s39 s4 e HS h0 h1 h2 h3 h4 h5 h6 h7 h8 h9 h10; subst e
    obtain ⟨_, g, rfl, hg, hG⟩ := h10 (hd 10 (by decide))
    have S2 : Hid (RG w f g su0 v) := ⟨HS.blk, HS.res, hG, hg, HS.old⟩
    clear h0 h1 h2 h3 h4 h5 h6 h7 h8 h9 h10 hd HS hG hg
    go_wp2_with (refine ldG rfl (.tmp 4) rfl _ _ _ _ _ rfl S2.out.geo ?_)
    refine (refMay_any (part f 8 2) (part f 10 2) (part f 12 2) (part f 14 2) _).mono ?_
    rintro e w3 ⟨rfl, hw⟩
    have S3 := hide (S2.out.below hw)
    clear hw S2
    by_cases gm : rdG f
    case neg =>
      obtain ⟨y1, y2⟩ := rd_geo HP.out gm
      rw [show mayB (part f 8 2) (part f 10 2) (part f 12 2) (part f 14 2) = false from decide_eq_false gm]
      have Y1 := hide y1
      have Y2 := hide y2
      clear y1 y2 gm
      go_wp2_with (first
        | (refine stS rfl (.tmp 2) (.tmp 43) rfl (w.heap.size + 1) 0 0 0 0 0 0 0 0 0 0 rfl rfl S3.out.res ?_; intro w9 hr2 ho2; have HR2 := hide hr2; have HO2 := hide ho2; clear hr2 ho2))
      exact bodyPost_ret_by (results_sup rfl _ _ _ _ _ _ _ _ _ rfl rfl HR2.out) rfl ⟨by rw [Y1.out, Y2.out]; rfl, S3.out.old.trans (HO2.out.below (by omega) S3.out.old.size)⟩
    rw [show mayB (part f 8 2) (part f 10 2) (part f 12 2) (part f 14 2) = true from decide_eq_true gm]
    have HG := hide gm
    have hmul : 0 ≤ part f 8 2 * part f 12 2 ∧ part f 8 2 * part f 12 2 ≤ 256 := (show mayP (part f 8 2) (part f 10 2) (part f 12 2) (part f 14 2) from gm).mulc
    obtain ⟨hm0, hm1⟩ := hmul
    have BA := (part_bd hf 16 4)
    have ho0 : 0 ≤ part f 16 4 := BA.1
    have ho1 : part f 16 4 ≤ 4294967295 := by have := BA.2; have q : (256 : Int) ^ 4 = 4294967296 := rfl; omega
    have x0 : IntKind.i64.wrap (part f 8 2 * part f 12 2) = part f 8 2 * part f 12 2 := IntWalk.i64_in _ ⟨by omega, by omega⟩
    have x1 : IntKind.i64.wrap (part f 16 4) = part f 16 4 := IntWalk.i64_in _ ⟨by omega, by omega⟩
    clear gm BA hf
    have ne2 : Nonempty (Of (RG w f g su0)) := ⟨⟨_, S3.out⟩⟩
    have z0 : ∀ s : Of (RG w f g su0), s.val.cell? ⟨g, 0, none⟩ = some (.int .i64 (part f 8 2)) := fun s => s.ok.geo.cells.1
    have z2 : ∀ s : Of (RG w f g su0), s.val.cell? ⟨g, 2, none⟩ = some (.int .i64 (part f 12 2)) := fun s => s.ok.geo.cells.2.2.1
    by_cases q : rdO f
    case neg =>
      obtain ⟨y1, y2⟩ := rd_orphan HP.out HG.out q
      have r1 : decide (part f 8 2 * part f 12 2 < part f 16 4) = true := decide_eq_true (Int.not_le.1 q)
      have Y1 := hide y1
      have Y2 := hide y2
      clear y1 y2 q
      go_wp2_with fail
      refine wp_region_sub (RG w f g su0) (by kernel_rfl) (by kernel_rfl) (S3.out.drew) ?_
      repeat (first
        | go_big_quiet_skip
        | (go_big_quiet_want
           (refine qldB (.tmp 1) rfl _ f rfl (fun v h => h.blk) ?_)
           simp only [Act.put, List.setIfInBounds_toArray, List.set_cons_succ, List.set_cons_zero]
           go_big_quiet_on)
        | (go_big_quiet_want
           go_big_quiet_op
           first
           | go_big_quiet_on
           | go_big_quiet_call (first
             | (go_at_call 38; (with_reducible exact sub_calls RG.steps (HL16.out _))))))
      refine wpQuiet_nil ?_
      rintro w' ⟨s, rfl⟩
      have S4 := hide s.ok
      go_wp2_with (first
        | (refine stS rfl (.tmp 2) (.tmp 53) rfl (w.heap.size + 1) 0 0 0 0 0 0 0 0 0 0 rfl rfl S4.out.res ?_; intro w9 hr2 ho2; have HR2 := hide hr2; have HO2 := hide ho2; clear hr2 ho2))
      exact bodyPost_ret_by (results_sup rfl _ _ _ _ _ _ _ _ _ rfl rfl HR2.out) rfl ⟨by rw [Y1.out, Y2.out]; rfl, S4.out.old.trans (HO2.out.below (by omega) S4.out.old.size)⟩
    obtain ⟨y1, y2⟩ := rd_ok HP.out HG.out q
    have r1 : decide (part f 8 2 * part f 12 2 < part f 16 4) = false := decide_eq_false (Int.not_lt.2 q)
    have Y1 := hide y1
    have Y2 := hide y2
    clear y1 y2 q
    go_wp2_with fail
    refine wp_region_sub (RG w f g su0) (by kernel_rfl) (by kernel_rfl) (S3.out.drew) ?_
    repeat (first
      | go_big_quiet_skip
      | (go_big_quiet_want
         (refine qldB (.tmp 1) rfl _ f rfl (fun v h => h.blk) ?_)
         simp only [Act.put, List.setIfInBounds_toArray, List.set_cons_succ, List.set_cons_zero]
         go_big_quiet_on)
      | (go_big_quiet_want
         go_big_quiet_op
         first
         | go_big_quiet_on
         | go_big_quiet_call (first
           | (go_at_call 38; (with_reducible exact sub_calls RG.steps (HL16.out _))))))
    refine wpQuiet_nil ?_
    rintro w' ⟨s, rfl⟩
    have S4 := hide s.ok
    clear z0 z2 r1 x0 x1
    go_wp2_with fail
    have hf := HF.out
    refine wp_region_steps (by kernel_rfl) (by kernel_rfl) (Rd8 w f g _ _ _ _ _ _ _ _ _ _ _ _ _ _ _ _ _ _ _ _ _ _ _ _ _ _ _ _ _ _ _ _ _ _ _ _ _ _ _ _ _ _ _ _ _ _ _ _ _ _) ⟨_, _, _, _, _, rfl, (S4.out.drew), (fun e => Bool.noConfusion e), (fun e => Bool.noConfusion e), (fun e => Bool.noConfusion e), (fun e => Bool.noConfusion e), trivial, (fun e => Bool.noConfusion e)⟩ ?hs ?he
    case hs =>
      go_tidy
      refine ⟨?o0, ?o1, ?o2, ?o3, ?o4, ?o5, trivial⟩
      case o0 =>
        intro d a v hd hr hJ; refine Rd8.elim hJ ?_; intro s54 s55 s56 s57 s3 e HS h0 h1 h2 h3 h4 h5; subst e
        go_wp2_with (refine ldG2 rfl (.tmp 4) rfl _ _ _ _ _ rfl HS.geo ?_)
        exact ⟨_, s55, s56, s57, s3, rfl, HS, fun _ => rfl, h1, h2, h3, trivial, h5⟩
      case o1 =>
        intro d a v hd hr hJ; refine Rd8.elim hJ ?_; intro s54 s55 s56 s57 s3 e HS h0 h1 h2 h3 h4 h5; subst e
        go_wp2_with (refine ld256 rfl (.tmp 1) rfl _ _ rfl HS.blk ?_)
        exact ⟨s54, _, s56, s57, s3, rfl, HS, h0, fun _ => rfl, h2, h3, trivial, h5⟩
      case o2 =>
        intro d a v hd hr hJ; refine Rd8.elim hJ ?_; intro s54 s55 s56 s57 s3 e HS h0 h1 h2 h3 h4 h5; subst e
        have e1 : d 1 = true := by first | exact hr.1 rfl | exact hr.2.1 rfl | exact hr.2.2.1 rfl | exact hr.2.2.2.1 rfl | exact hr.2.2.2.2.1 rfl
        obtain rfl := h1 e1
        go_wp2_with fail
        refine (rlong_any f 16 16 _ hf rfl (by omega)).mono ?_
        rintro e v' ⟨rfl, hw⟩
        go_wp2_with fail
        exact ⟨s54, _, _, s57, s3, rfl, HS.below hw, h0, fun _ => rfl, fun _ => rfl, h3, trivial, h5⟩
      case o3 =>
        intro d a v hd hr hJ; refine Rd8.elim hJ ?_; intro s54 s55 s56 s57 s3 e HS h0 h1 h2 h3 h4 h5; subst e
        have e0 : d 0 = true := by first | exact hr.1 rfl | exact hr.2.1 rfl | exact hr.2.2.1 rfl | exact hr.2.2.2.1 rfl | exact hr.2.2.2.2.1 rfl
        obtain rfl := h0 e0
        have e2 : d 2 = true := by first | exact hr.1 rfl | exact hr.2.1 rfl | exact hr.2.2.1 rfl | exact hr.2.2.2.1 rfl | exact hr.2.2.2.2.1 rfl
        obtain rfl := h2 e2
        go_wp2_with fail
        exact ⟨_, s55, _, _, s3, rfl, HS, fun _ => rfl, h1, fun _ => rfl, fun _ => rfl, trivial, h5⟩
      case o4 =>
        intro d a v hd hr hJ; refine Rd8.elim hJ ?_; intro s54 s55 s56 s57 s3 e HS h0 h1 h2 h3 h4 h5; subst e
        have e3 : d 3 = true := by first | exact hr.1 rfl | exact hr.2.1 rfl | exact hr.2.2.1 rfl | exact hr.2.2.2.1 rfl | exact hr.2.2.2.2.1 rfl
        obtain rfl := h3 e3
        rw [hd] at HS
        go_wp2_with (refine stS rfl (.tmp 2) (.tmp 57) rfl (w.heap.size + 1) 0 0 0 0 0 (part f 8 2) (part f 10 2) (part f 12 2) (part f 14 2) (part f 16 4) rfl rfl HS.res ?_; intro v' hr' ho')
        exact ⟨s54, s55, s56, _, s3, rfl, (by rw [setB_same]; exact HS.put ho' hr'), h0, h1, h2, fun _ => rfl, trivial, h5⟩
      case o5 =>
        intro d a v hd hr hJ; refine Rd8.elim hJ ?_; intro s54 s55 s56 s57 s3 e HS h0 h1 h2 h3 h4 h5; subst e
        go_wp2_with fail
        exact ⟨s54, s55, s56, s57, _, rfl, HS, h0, h1, h2, h3, trivial, fun _ => rfl⟩
    case he =>
      intro d a v hd hJ; refine Rd8.elim hJ ?_; intro s54 s55 s56 s57 s3 e HS h0 h1 h2 h3 h4 h5; subst e
      rw [hd 4 (by decide)] at HS
      obtain rfl := h5 (hd 5 (by decide))
      have S5 : Hid (RG w f g (suF f) v) := HS
      clear h0 h1 h2 h3 h4 h5 hd HS
      go_wp2_with fail
      exact bodyPost_ret_by (results_sup rfl _ _ _ _ _ _ _ _ _ rfl rfl S5.out.res) rfl ⟨by rw [Y1.out, Y2.out]; rfl, S5.out.old⟩
end Go.Proofs.Ytbngbhildijciaa
