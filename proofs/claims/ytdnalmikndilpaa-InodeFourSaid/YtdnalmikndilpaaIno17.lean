/- quernlaw07.awake is true. -/
import Derived.Test.YtdnalmikndilpaaInoG
import Derived.Deep.RegionWith
namespace Go.Proofs.Ytdnalmikndilpaa
open Go.RowKit
set_option linter.unusedVariables false

theorem wp_cutI {P : Program} {c : Code} {Q : Exit → Act → World → Prop} {a : Act} {w : World} (R : Act → World → Prop) (h : c.wp P (justNormal fun _ a w => R a w) a w) (k : ∀ a' w', R a' w' → Q .normal a' w') : c.wp P Q a w :=
  Code.wp_mono (fun e a' w' q => by cases e <;> first | exact k _ _ q | exact q.elim) h
def awI0 : Ino := ⟨1, 2, 3, 300, fun _ => 0, 5⟩
def awI : Ino := { awI0 with ptr := upd (upd (fun _ => 0) 0 9) 10 7 }
def awF : Nat → Int := spl zeroF 64 64 (inoF awI)
theorem awI_ok : InoOk awI := ⟨by decide, by decide, by decide, by decide, fun i => by
  show 0 ≤ upd (upd (fun _ => 0) 0 9) 10 7 i ∧ upd (upd (fun _ => 0) 0 9) 10 7 i ≤ 4294967295
  by_cases e : i = 10
  · subst e; rw [upd_same]; omega
  · rw [upd_other _ _ e]
    by_cases e : i = 0
    · subst e; rw [upd_same]; omega
    · rw [upd_other _ _ e]; omega, by decide⟩
theorem awI_may : mayI awI := .inr (.inl ⟨rfl, by decide, by decide, by decide⟩)
theorem awF_is : putF zeroF 64 awI = awF := by unfold putF; rw [if_pos ⟨placeP_four.2 (by omega), awI_may⟩]; rfl
theorem awF_byte : IsByte awF := awF_is ▸ putF_byte zeroF_byte 64 awI_ok
theorem aw_one : getC awF 64 = 0 ∧ inoE (getI awF 64) awI = true := awF_is ▸ get_put zeroF (placeP_four.2 (by omega)) awI_ok awI_may
theorem awF_low {j : Nat} (h : j < 64) : awF j = 0 := spl_out (.inl h)
theorem dec_low : inoE (decI awF 0) (zeroI 0) = true := by
  have z : ∀ a k, a + k ≤ 64 → part awF a k = 0 := fun a k h => part_zero fun i hi => awF_low (by omega)
  have k0 : awF 0 = 0 := awF_low (by omega)
  refine (inoE_iff _ _).2 ⟨k0, z _ _ (by omega), z _ _ (by omega), z _ _ (by omega), fun i hi => ?_, z _ _ (by omega)⟩
  show (if i < 11 then part awF (0 + 12 + 4 * i) 4 else 0) = 0
  rw [if_pos hi]; exact z _ _ (by omega)
theorem good_low : goodI awF 0 :=
  ⟨awF_low (by omega), (sameB_iff _ _ _).2 fun i hi => awF_low (by omega), inoE_may dec_low (.inl ⟨rfl, rfl, rfl, fun _ _ => rfl, rfl⟩)⟩
theorem aw_two : getC awF 0 = 0 ∧ inoE (getI awF 0) (zeroI 0) = true := by
  unfold getC getI
  have p0 : placeP 0 := placeP_four.2 (by omega)
  have g : goodI awF (0 : Int).toNat := good_low
  rw [if_pos p0, if_pos g, if_pos ⟨p0, g⟩]
  exact ⟨rfl, dec_low⟩
theorem aw_b {j : Nat} {i : Nat} (h : j = 64 + i) (hi : i < 64) : awF j = inoF awI i := by subst h; exact spl_in hi
theorem aw_bytes : awF 64 = 1 ∧ awF 66 = 2 ∧ awF 72 = 44 ∧ awF 73 = 1 ∧ awF 76 = 9 ∧ awF 116 = 7 ∧ awF 120 = 5 :=
  ⟨(aw_b (i := 0) rfl (by omega)).trans (ino_0 _), (aw_b (i := 2) rfl (by omega)).trans (ino_links awI (i := 0) (by omega)),
   (aw_b (i := 8) rfl (by omega)).trans (ino_size awI (i := 0) (by omega)), (aw_b (i := 9) rfl (by omega)).trans (ino_size awI (i := 1) (by omega)),
   (aw_b (i := 12) rfl (by omega)).trans (ino_ptr awI (k := 0) (i := 0) (by omega) (by omega)), (aw_b (i := 52) rfl (by omega)).trans (ino_ptr awI (k := 10) (i := 0) (by omega) (by omega)),
   (aw_b (i := 56) rfl (by omega)).trans (ino_next awI (i := 0) (by omega))⟩
/-- The inode and the block. -/
structure AwSt (w : World) (B : Nat) (F : Nat → Int) (v : World) : Prop where
  lo : w.heap.size < B
  ino : IAt v w.heap.size awI
  blk : Row v B 256 F
  old : Below w.heap.size w v
section
variable {w v v' : World} {B : Nat} {F : Nat → Int}
theorem AwSt.below (h : AwSt w B F v) (hb : Below v.heap.size v v') : AwSt w B F v' := ⟨h.lo, h.ino.below hb h.ino.lt, h.blk.below hb h.blk.lt, h.old.trans (hb.mono h.old.size)⟩
theorem AwSt.drew (h : AwSt w B F v) : AwSt w B F v.drew := ⟨h.lo, h.ino, h.blk, h.old.drew⟩
theorem aw64 (h : AwSt w B zeroF v) : Calls Try.prog 10 #[.pointer (some ⟨B, 0, none⟩), .int .i64 64, .agg (inoC awI)] v fun e v' => e = .returned (.int .i64 0) ∧ AwSt w B awF v' :=
  (iput_ok B 64 64 zeroF awI v rfl (placeP_four.2 (by omega)) awI_ok awI_may h.blk).mono fun e v' ⟨he, hr, ho⟩ =>
    have l := h.lo
    ⟨he, h.lo, h.ino.only ho (by omega), hr, h.old.trans (ho.below (by omega) h.old.size)⟩
theorem aw32 (h : AwSt w B F v) : Calls Try.prog 10 #[.pointer (some ⟨B, 0, none⟩), .int .i64 32, .agg (inoC awI)] v fun e v' => e = .returned (.int .i64 2) ∧ AwSt w B F v' :=
  (iput_place B 32 awI v (fun k => by have := placeP_four.1 k; omega)).mono fun e v' ⟨he, hb⟩ => ⟨he, h.below hb⟩
theorem aw0 (h : AwSt w B F v) : Calls Try.prog 10 #[.pointer (some ⟨B, 0, none⟩), .int .i64 0, .agg (inoC ⟨3, 0, 0, 0, fun _ => 0, 0⟩)] v fun e v' => e = .returned (.int .i64 70) ∧ AwSt w B F v' :=
  (iput_may B 0 _ v (placeP_four.2 (by omega)) (by rintro (k | k | k) <;> exact absurd k.1 (by decide))).mono fun e v' ⟨he, hb⟩ => ⟨he, h.below hb⟩
theorem IAt.all {x : Ino} {g : Nat} (h : IAt v g x) : v.cell? ⟨g, 0, none⟩ = some (.int .u8 x.kind) ∧ v.cell? ⟨g, 1, none⟩ = some (.int .i64 x.links) ∧ v.cell? ⟨g, 2, none⟩ = some (.int .u32 x.gen) ∧ v.cell? ⟨g, 3, none⟩ = some (.int .i64 x.size) ∧
    v.cell? ⟨g, 4, none⟩ = some (.int .u32 (x.ptr 0)) ∧ v.cell? ⟨g, 5, none⟩ = some (.int .u32 (x.ptr 1)) ∧ v.cell? ⟨g, 6, none⟩ = some (.int .u32 (x.ptr 2)) ∧ v.cell? ⟨g, 7, none⟩ = some (.int .u32 (x.ptr 3)) ∧ v.cell? ⟨g, 8, none⟩ = some (.int .u32 (x.ptr 4)) ∧
    v.cell? ⟨g, 9, none⟩ = some (.int .u32 (x.ptr 5)) ∧ v.cell? ⟨g, 10, none⟩ = some (.int .u32 (x.ptr 6)) ∧ v.cell? ⟨g, 11, none⟩ = some (.int .u32 (x.ptr 7)) ∧ v.cell? ⟨g, 12, none⟩ = some (.int .u32 (x.ptr 8)) ∧ v.cell? ⟨g, 13, none⟩ = some (.int .u32 (x.ptr 9)) ∧
    v.cell? ⟨g, 14, none⟩ = some (.int .u32 (x.ptr 10)) ∧ v.cell? ⟨g, 15, none⟩ = some (.int .u32 x.next) :=
  ⟨h.c0, h.c1, h.c2, h.c3, h.cp (i := 0) (by omega), h.cp (i := 1) (by omega), h.cp (i := 2) (by omega), h.cp (i := 3) (by omega), h.cp (i := 4) (by omega), h.cp (i := 5) (by omega), h.cp (i := 6) (by omega), h.cp (i := 7) (by omega), h.cp (i := 8) (by omega), h.cp (i := 9) (by omega), h.cp (i := 10) (by omega), h.cn⟩
end

set_option maxRecDepth 100000 in
set_option maxHeartbeats 1600000 in
theorem awake_any (w : World) : Calls Try.prog 16 #[] w fun e w' => e = .returned (.bool true) ∧ Below w.heap.size w w' := by
  have I0 := hide (IAt.new w 27 (zeroI 0))
  have B0 : Hid (Below w.heap.size w (w.alloc (.cells (inoC (zeroI 0)) 27))) := (Below.refl _ w).alloc (Nat.le_refl _) _
  go_enter Try.func16, Try.ntmps16
  go_wp2_with (first
    | (refine stI rfl (.tmp 1) (.tmp 10) rfl w.heap.size (zeroI 0) awI0 rfl rfl I0.out ?_
       intro w1 hr ho
       have J1 := hide ((hr.setPtr (k := 0) (by omega) 9).setPtr (k := 10) (by omega) 7)
       have k0 := hr.cp (i := 0) (by omega)
       have k1 := (hr.setPtr (k := 0) (by omega) 9).cp (i := 10) (by omega)
       have hl1 : w.heap.size < w1.heap.size := hr.lt
       have z0 := hr.frozen 4
       have z1 := (hr.setPtr (k := 0) (by omega) 9).frozen 14
       have B1 : Hid (Below w.heap.size w w1) := B0.out.trans (ho.below (by omega) B0.out.size)
       clear hr ho I0 B0)
    | (refine allocB rfl rfl ?_))
  have S2 : Hid (AwSt w w1.heap.size zeroF (((w1.setCell ⟨w.heap.size, 4, none⟩ (.int .u32 9)).setCell ⟨w.heap.size, 14, none⟩ (.int .u32 7)).alloc (.cells (bytesOf 256 zeroF) 23))) := by
    have l := hl1
    have hz : ((w1.setCell ⟨w.heap.size, 4, none⟩ (.int .u32 9)).setCell ⟨w.heap.size, 14, none⟩ (.int .u32 7)).heap.size = w1.heap.size := by simp [World.setCell]
    refine ⟨l, J1.out.alloc _, by rw [← hz]; exact Row.new _ _ _ _, ?_⟩
    refine Below.alloc ?_ (by simp only [World.setCell]; simp; omega) _
    exact B1.out.trans ((((Only.refl w.heap.size w1).setCell 4 _).setCell 14 _).below (Nat.le_refl _) B1.out.size)
  clear J1 B1 k0 k1 z0 z1
  generalize World.alloc _ _ = W2 at *
  generalize w1.heap.size = B at *
  refine wp_cutI (fun a' V => a' = { tmps := (Value.bool false :: (Value.pointer (some ⟨w.heap.size, 0, none⟩)) :: (Value.pointer (some ⟨B, 0, none⟩)) :: (Value.int .i64 0) :: (Value.int .i64 2) :: (Value.int .i64 70) :: undef :: undef :: undef :: undef :: (Value.agg (inoC awI0)) :: (Value.pointer (some ⟨w.heap.size, 4, none⟩)) :: (Value.pointer (some ⟨w.heap.size, 4, none⟩)) :: (Value.pointer (some ⟨w.heap.size, 4, none⟩)) :: (Value.pointer (some ⟨w.heap.size, 14, none⟩)) :: (Value.agg (inoC awI)) :: (Value.int .i64 0) :: (Value.agg (inoC awI)) :: (Value.int .i64 2) :: (Value.agg (inoC ⟨3, 0, 0, 0, fun _ => 0, 0⟩)) :: (Value.int .i64 70) :: undef :: undef :: undef :: undef :: undef :: undef :: undef :: undef :: undef :: undef :: undef :: undef :: undef :: undef :: undef :: undef :: undef :: undef :: undef :: undef :: undef :: undef :: undef :: undef :: undef :: undef :: undef :: undef :: undef :: undef :: undef :: undef :: undef :: undef :: undef :: undef :: undef :: undef :: undef :: undef :: undef :: undef :: undef :: undef :: undef :: undef :: undef :: undef :: undef :: undef :: undef :: undef :: undef :: undef :: undef :: undef :: undef :: undef :: undef :: undef :: undef :: undef :: undef :: undef :: undef :: undef :: undef :: undef :: undef :: undef :: undef :: undef :: undef :: undef :: undef :: undef :: undef :: undef :: undef :: undef :: undef :: undef :: []).toArray, defers := [] } ∧ AwSt w B awF V) ?reg ?rest
  case reg =>
    obtain ⟨e0, e1, e2, e3, e4, e5, e6, e7, e8, e9, e10, e11, e12, e13, e14, e15⟩ := S2.out.ino.all
    go_region_with (first
      | (go_at_call_of 10 (Value.int .i64 64); refine (aw64 S2.out.drew).mono ?_; rintro e V1 ⟨rfl, hs⟩; have S3 := hide hs; clear hs; obtain ⟨e0, e1, e2, e3, e4, e5, e6, e7, e8, e9, e10, e11, e12, e13, e14, e15⟩ := S3.out.ino.all)
      | (go_at_call_of 10 (Value.int .i64 32); refine (aw32 S3.out).mono ?_; rintro e V1 ⟨rfl, hs⟩; have S4 := hide hs; clear hs)
      | (go_at_call_of 10 (Value.int .i64 0); refine (aw0 S4.out).mono ?_; rintro e V1 ⟨rfl, hs⟩; have S5 := hide hs; clear hs))
    all_goals exact ⟨rfl, S5.out⟩
  case rest =>
    rintro _ V ⟨rfl, hs⟩
    have S3 := hide hs
    clear hs S2
    obtain ⟨g1, G1⟩ := aw_one
    obtain ⟨g2, G2⟩ := aw_two
    have HG1 := hide g1
    have HG2 := hide g2
    have HB := hide awF_byte
    clear g1 g2
    go_wp2_with (refine ld256 rfl (.tmp 2) rfl _ _ rfl S3.out.blk ?_)
    refine (iget_any awF HB.out 64 _).mono ?_
    rintro e V1 ⟨rfl, hw⟩
    rw [HG1.out]
    have S4 := hide (S3.out.below hw)
    have hs4 := S4.out.blk.lt
    clear hw S3
    generalize getI awF 64 = y1 at *
    go_wp2_with (first
      | (refine stI rfl (.tmp 6) (.tmp 24) rfl V1.heap.size (zeroI 0) y1 rfl rfl (IAt.new V1 _ (zeroI 0)) ?_
         intro V2 hr ho
         have I5 := hide hr
         have S5 : Hid (AwSt w B awF V2) := ⟨S4.out.lo, (S4.out.ino.alloc _).only ho (by omega), (S4.out.blk.alloc _).only ho (by omega), (S4.out.old.alloc S4.out.old.size _).trans (ho.below (by omega) (by simp only [World.size_alloc]; omega))⟩
         clear hr ho S4)
      | (refine ld256 rfl (.tmp 2) rfl _ _ rfl S5.out.blk ?_))
    refine (iget_any awF HB.out 0 _).mono ?_
    rintro e V3 ⟨rfl, hw⟩
    rw [HG2.out]
    have S6 := hide (S5.out.below hw)
    have I6 := hide (I5.out.below hw I5.out.lt)
    have hs6 := I6.out.lt
    clear hw S5 I5
    generalize getI awF 0 = y2 at *
    generalize V1.heap.size = C at *
    obtain ⟨f1, f2, f3, f4, f5, f6, f7⟩ := aw_bytes
    have m1 : mayIB (zeroI 9) = true := by decide
    have m2 : mayIB ⟨0, 0, 0, 1, fun _ => 0, 0⟩ = false := by decide
    go_wp2_with (first
      | (refine stI rfl (.tmp 8) (.tmp 29) rfl V3.heap.size (zeroI 0) y2 rfl rfl (IAt.new V3 _ (zeroI 0)) ?_
         intro V4 hr ho
         have K7 := hide hr
         have I7 := hide ((I6.out.alloc (.cells (inoC (zeroI 0)) 27)).only ho (by omega))
         have S7 : Hid (AwSt w B awF V4) := ⟨S6.out.lo, (S6.out.ino.alloc _).only ho (by omega), (S6.out.blk.alloc _).only ho (by omega), (S6.out.old.alloc S6.out.old.size _).trans (ho.below (by omega) (by simp only [World.size_alloc]; omega))⟩
         have b1 := (S7.out.blk.cell (i := 64) (by omega)).trans (by rw [f1])
         have b2 := (S7.out.blk.cell (i := 66) (by omega)).trans (by rw [f2])
         have b3 := (S7.out.blk.cell (i := 72) (by omega)).trans (by rw [f3])
         have b4 := (S7.out.blk.cell (i := 73) (by omega)).trans (by rw [f4])
         have b5 := (S7.out.blk.cell (i := 76) (by omega)).trans (by rw [f5])
         have b6 := (S7.out.blk.cell (i := 116) (by omega)).trans (by rw [f6])
         have b7 := (S7.out.blk.cell (i := 120) (by omega)).trans (by rw [f7])
         clear hr ho I6 S6)
      | (refine ldIg rfl (.tmp 6) rfl _ _ rfl I7.out ?_)
      | (refine ldIg rfl (.tmp 1) rfl _ _ rfl S7.out.ino ?_)
      | (refine ldIg rfl (.tmp 8) rfl _ _ rfl K7.out ?_)
      | (refine eqlIg rfl (.tmp 81) (.tmp 82) rfl _ _ rfl rfl G1 ?_)
      | (refine eqlIg rfl (.tmp 90) (.tmp 91) rfl y2 (zeroI 0) rfl rfl G2 ?_)
      | (go_at_call_of 12 (Value.int .u32 9); refine (imay_is m1 _).mono ?_; rintro e V5 ⟨rfl, hw⟩; have S8 := hide (S7.out.below hw); clear hw S7)
      | (go_at_call_of 12 (Value.int .u32 0); refine (imay_is m2 _).mono ?_; rintro e V6 ⟨rfl, hw⟩; have S9 := hide (S8.out.below hw); clear hw S8))
    go_ret
    exact ⟨rfl, S9.out.old⟩
end Go.Proofs.Ytdnalmikndilpaa
