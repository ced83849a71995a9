/- The walks of quernref06.sealed, short, long. -/
import Derived.Test.YtbngbhildijciaaGeoR
import Derived.Test.YtbngbhildijciaaLSupBack
import Derived.StillTailTactics
namespace Go.Proofs.Ytbngbhildijciaa
open Go.RowKit
set_option linter.unusedVariables false

/-- The block in the making, the result's place. -/
structure SlSt (w : World) (F : Nat → Int) (v : World) : Prop where
  page : Row v w.heap.size 256 F
  res : Row v (w.heap.size + 1) 256 zeroF
  old : Below w.heap.size w v
theorem SlSt.start (w : World) (f : Nat → Int) (t s : TypeId) : SlSt w f ((w.alloc (.cells (bytesOf 256 f) t)).alloc (.cells (bytesOf 256 zeroF) s)) := by
  have n1 := Row.new (w.alloc (.cells (bytesOf 256 f) t)) s 256 zeroF
  simp only [World.size_alloc] at n1
  exact ⟨(Row.new w t 256 f).alloc _, n1, ((Below.refl _ w).alloc (Nat.le_refl _) _).alloc (by simp only [World.size_alloc]; omega) _⟩
theorem SlSt.drew {w v : World} {F : Nat → Int} (h : SlSt w F v) : SlSt w F v.drew := ⟨h.page, h.res, h.old.drew⟩
theorem SlSt.only {w v v' : World} {F G : Nat → Int} (h : SlSt w F v) (k : Only w.heap.size v v') (r : Row v' w.heap.size 256 G) : SlSt w G v' := ⟨r, h.res.only k (by omega), h.old.trans (k.below (Nat.le_refl _) h.old.size)⟩
set_option maxRecDepth 100000 in
set_option maxHeartbeats 1000000 in
theorem sealed_any (f : Nat → Int) (w : World) (hf : IsByte f) :
    Calls Try.prog 30 #[blkV f] w fun e w' => e = .returned (.agg (bytesOf 256 (sealF f))) ∧ Below w.heap.size w w' := by
  have HF := hide hf
  have S0 := hide (SlSt.start w f 29 29)
  have c0 := sumF_nn f 252
  have c1 := sumF_le hf 252
  have HS : Hid (∀ V, Bs V (some ⟨w.heap.size, 0, none⟩) 252 f → Calls Try.prog 40 #[.slice (some ⟨w.heap.size, 0, none⟩) 252 256] V fun e w' => e = .returned (.int .u32 ((sumF f 252 : Nat) : Int)) ∧ V = w') := fun V h => refSum_any _ 252 256 f V (by omega) hf h
  obtain ⟨v, hv⟩ : ∃ v, v = ((sumF f 252 : Nat) : Int) := ⟨_, rfl⟩
  rw [← hv] at c0 c1 HS
  have HV := hide hv
  clear hf hv
  unfold blkV
  go_enter Try.func30, Try.ntmps30
  go_wp2_with (refine allocB rfl rfl ?_)
  refine wp_region_still_tail 3 (by kernel_rfl) (by kernel_rfl) ?_
  simp only [List.take_succ_cons, List.take_zero, List.drop_succ_cons, List.drop_zero]
  still_step
  still_step
  still_call ((HS.out _ (S0.out.drew.page.bs (k := 252) (by omega))).mono fun e w' ⟨h, k⟩ => ⟨h, k.symm⟩)
  refine wpStill_nil ?_
  have HE : Hid (putB f 252 v 4 = sealF f) := by unfold Hid sealF; rw [HV.out]
  go_wp2_with (first
    | (go_at_call 28; refine (rPut32_in w.heap.size 256 _ 252 f v _ rfl S0.out.drew.page HF.out (by omega) c0 c1 (by omega)).mono ?_; rintro e V2 ⟨rfl, hr, ho⟩; rw [HE.out] at hr; have S2 : Hid (SlSt w (sealF f) V2) := S0.out.drew.only ho hr; clear hr ho S0)
    | (refine ld256 rfl (.tmp 1) rfl _ _ rfl S2.out.page ?_)
    | (refine st256 rfl (.tmp 2) (.tmp 7) rfl (w.heap.size + 1) zeroF (sealF f) rfl rfl S2.out.res ?_; intro w3 hr2 ho2; have HR2 := hide hr2; have HO2 := hide ho2; clear hr2 ho2))
  exact bodyPost_ret (results_blk1 rfl _ _ (w.heap.size + 1) _ rfl HR2.out) rfl ⟨rfl, S2.out.old.trans (HO2.out.below (by omega) S2.out.old.size)⟩
theorem rshort_any (f : Nat → Int) (i : Int) (p : Nat) (w : World) (hf : IsByte f) (hi : i = p) (hp : p + 2 ≤ 256) :
    Calls Try.prog 39 #[blkV f, .int .i64 i] w fun e w' => e = .returned (.int .i64 (part f p 2)) ∧ Below w.heap.size w w' := by
  have B0 := hide (Row.new w 29 256 f)
  have O0 := hide ((Below.refl _ w).alloc (Nat.le_refl _) (.cells (bytesOf 256 f) 29))
  have HF := hide hf
  have HI := hide hi
  have HP := hide hp
  have b0 : 0 ≤ part f p 2 := (part_bd hf p 2).1
  have b1 : part f p 2 ≤ 65535 := by have := (part_bd hf p 2).2; have q : (256 : Int) ^ 2 = 65536 := rfl; omega
  clear hf hi hp
  unfold blkV
  go_enter Try.func39, Try.ntmps39
  go_wp2_with fail
  refine (rGet16_in w.heap.size 256 i p f _ HI.out B0.out HF.out (by omega) HP.out).mono ?_
  rintro e w1 ⟨rfl, hs⟩
  have O1 := hide (O0.out.trans (hs.below _))
  clear hs
  generalize hv : part f p 2 = v at *
  have HV := hide hv
  clear hv
  go_wp2_with fail
  go_ret
  exact ⟨by rw [HV.out]; rfl, O1.out⟩
theorem rlong_any (f : Nat → Int) (i : Int) (p : Nat) (w : World) (hf : IsByte f) (hi : i = p) (hp : p + 4 ≤ 256) :
    Calls Try.prog 38 #[blkV f, .int .i64 i] w fun e w' => e = .returned (.int .u32 (part f p 4)) ∧ Below w.heap.size w w' := by
  have B0 := hide (Row.new w 29 256 f)
  have O0 := hide ((Below.refl _ w).alloc (Nat.le_refl _) (.cells (bytesOf 256 f) 29))
  have HF := hide hf
  have HI := hide hi
  have HP := hide hp
  clear hf hi hp
  unfold blkV
  go_enter Try.func38, Try.ntmps38
  go_wp2_with fail
  refine (rGet32_in w.heap.size 256 i p f _ HI.out B0.out HF.out (by omega) HP.out).mono ?_
  rintro e w1 ⟨rfl, hs⟩
  have O1 := hide (O0.out.trans (hs.below _))
  clear hs
  generalize hv : part f p 4 = v at *
  have HV := hide hv
  clear hv
  go_wp2_with fail
  go_ret
  exact ⟨by rw [HV.out]; rfl, O1.out⟩
end Go.Proofs.Ytbngbhildijciaa
