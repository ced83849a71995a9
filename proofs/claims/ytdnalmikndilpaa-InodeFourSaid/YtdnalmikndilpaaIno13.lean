/- The walk of quernref07.Get. -/
import Derived.Test.YtdnalmikndilpaaIno12
namespace Go.Proofs.Ytdnalmikndilpaa
open Go.RowKit
set_option linter.unusedVariables false

/-- The inode that stands from p on: its first k numbers of the middle. -/
def midI (f : Nat → Int) (p k : Nat) : Ino := ⟨f p, part f (p + 2) 2, part f (p + 4) 4, part f (p + 8) 4, fun j => if j < k then part f (p + 12 + 4 * j) 4 else 0, 0⟩
def decI (f : Nat → Int) (p : Nat) : Ino := { midI f p 11 with next := part f (p + 56) 4 }
def goodI (f : Nat → Int) (p : Nat) : Prop := f (p + 1) = 0 ∧ sameB (fun i => f (p + 60 + i)) zeroF 4 = true ∧ mayI (decI f p)
instance (f : Nat → Int) (p : Nat) : Decidable (goodI f p) := by unfold goodI; infer_instance
def getC (f : Nat → Int) (n : Int) : Int := if placeP n then (if goodI f n.toNat then 0 else 70) else 2
def getI (f : Nat → Int) (n : Int) : Ino := if placeP n ∧ goodI f n.toNat then decI f n.toNat else zeroI 0

theorem rGet16_in (g n : Nat) (i : Int) (p : Nat) (f : Nat → Int) (w : World) (hi : i = p) (hs : Row w g n f) (hf : IsByte f) (hn : (n : Int) ≤ 9223372036854775807) (h1 : p + 2 ≤ n) :
    Calls Try.prog 25 #[.slice (some ⟨g, 0, none⟩) n n, .int .i64 i] w fun e w' => e = .returned (.tuple #[.int .u32 (part f p 2), .bool true]) ∧ Still w w' := by
  subst hi
  exact rGet16_yes g 0 n n p f w hn hs.seg0 hf h1
theorem rGet32_in (g n : Nat) (i : Int) (p : Nat) (f : Nat → Int) (w : World) (hi : i = p) (hs : Row w g n f) (hf : IsByte f) (hn : (n : Int) ≤ 9223372036854775807) (h1 : p + 4 ≤ n) :
    Calls Try.prog 26 #[.slice (some ⟨g, 0, none⟩) n n, .int .i64 i] w fun e w' => e = .returned (.tuple #[.int .u32 (part f p 4), .bool true]) ∧ Still w w' := by
  subst hi
  exact rGet32_yes g 0 n n p f w hn hs.seg0 hf h1
theorem part2_bd {f : Nat → Int} (hf : IsByte f) (p : Nat) : 0 ≤ part f p 2 ∧ part f p 2 ≤ 65535 := by
  have := part_bd hf p 2; omega
theorem part4_bd {f : Nat → Int} (hf : IsByte f) (p : Nat) : 0 ≤ part f p 4 ∧ part f p 4 ≤ 4294967295 := by
  have := part_bd hf p 4; omega

section
variable {w : World} {B : Nat} {x : Ino}
theorem IAt.set_ {w w' : World} {B i : Nat} {x y : Ino} {v : Value} (h : IAt w B x) (e : (inoC x).setIfInBounds i v = inoC y) : IAt (w.setCell ⟨B, i, none⟩ v) B y := by
  obtain ⟨t, h⟩ := h
  exact ⟨t, by rw [← e]; simp [World.setCell, Array.getElem?_modify, h]⟩
theorem IAt.congr {w : World} {B : Nat} {x y : Ino} (h : IAt w B x) (e : x = y) : IAt w B y := e ▸ h
theorem IAt.setGen (h : IAt w B x) (v : Int) : IAt (w.setCell ⟨B, 2, none⟩ (.int .u32 v)) B { x with gen := v } := h.set_ (w' := w) rfl
theorem IAt.setNext (h : IAt w B x) (v : Int) : IAt (w.setCell ⟨B, 15, none⟩ (.int .u32 v)) B { x with next := v } := h.set_ (w' := w) rfl
theorem inoC_ptr (x : Ino) {k : Nat} (hk : k < 11) (v : Int) : (inoC x).setIfInBounds (4 + k) (.int .u32 v) = inoC { x with ptr := upd x.ptr k v } := by
  obtain rfl | rfl | rfl | rfl | rfl | rfl | rfl | rfl | rfl | rfl | rfl : k = 0 ∨ k = 1 ∨ k = 2 ∨ k = 3 ∨ k = 4 ∨ k = 5 ∨ k = 6 ∨ k = 7 ∨ k = 8 ∨ k = 9 ∨ k = 10 := by omega
  all_goals simp [inoC, upd]
theorem IAt.setPtr (h : IAt w B x) {k : Nat} (hk : k < 11) (v : Int) : IAt (w.setCell ⟨B, 4 + k, none⟩ (.int .u32 v)) B { x with ptr := upd x.ptr k v } := h.set_ (w' := w) (inoC_ptr x hk v)
theorem midI_step (f : Nat → Int) (p k : Nat) : { midI f p k with ptr := upd (midI f p k).ptr k (part f (p + 12 + 4 * k) 4) } = midI f p (k + 1) := by
  simp only [midI, Ino.mk.injEq, true_and, and_true]
  funext j
  by_cases e : j = k
  · subst e; rw [upd_same, if_pos (by omega)]
  · rw [upd_other _ _ e]
    by_cases h : j < k
    · rw [if_pos h, if_pos (by omega)]
    · rw [if_neg h, if_neg (by omega)]
end
/-- The block, the result's place, the inode in the making. -/
structure GetSt (w : World) (f : Nat → Int) (B : Nat) (y : Ino) (v : World) : Prop where
  lo : w.heap.size + 1 + 1 ≤ B
  blk : Row v w.heap.size 256 f
  res : IAt v (w.heap.size + 1) (zeroI 0)
  ino : IAt v B y
  old : Below w.heap.size w v
section
variable {w v v' : World} {f : Nat → Int} {B : Nat} {y z : Ino}
theorem GetSt.below (h : GetSt w f B y v) (k : Below v.heap.size v v') : GetSt w f B y v' :=
  ⟨h.lo, h.blk.below k h.blk.lt, h.res.below k h.res.lt, h.ino.below k h.ino.lt, h.old.trans (k.mono h.old.size)⟩
theorem GetSt.still (h : GetSt w f B y v) (k : Still v v') : GetSt w f B y v' := h.below (k.below _)
theorem GetSt.set_ (h : GetSt w f B y v) {i : Nat} {u : Value} (k : IAt (v.setCell ⟨B, i, none⟩ u) B z) : GetSt w f B z (v.setCell ⟨B, i, none⟩ u) :=
  have o := (Only.refl B v).setCell i u
  have l := h.lo
  ⟨h.lo, h.blk.only o (by omega), h.res.only o (by omega), k, h.old.trans (o.below (by omega) h.old.size)⟩
end
theorem results_ino {fn : Func} {p u : Tmp} (h : fn.results = #[.cell p 27, .tmp u]) (tmps : Array Value) (w : World) (g : Nat) (y : Ino) (v : Value)
    (hp : tmps.getD p undef = .pointer (some ⟨g, 0, none⟩)) (hu : tmps.getD u undef = v) (hr : IAt w g y) : (results fn tmps).run Try.prog w = .ok (.tuple #[.agg (inoC y), v]) w := by
  obtain ⟨t, hg⟩ := hr
  rw [results_cell_tmp h, hp]
  simp [asAddr, Result.andThen, run_loadVar_row w g t 27 (inoC y) (0, 0) _ hg Try.underlying27 rfl infoI]
  rw [← hu]; simp

theorem alloc2_of {w W0 : World} {A B : Obj} (h : (w.alloc A).alloc B = W0) : W0.heap[w.heap.size]? = some A ∧ W0.heap[w.heap.size + 1]? = some B ∧ W0.heap.size = w.heap.size + 1 + 1 ∧ Below w.heap.size w W0 := by
  subst h
  have n1 := heap_alloc_new (w.alloc A) B
  simp only [World.size_alloc] at n1
  exact ⟨(Below.heap_alloc _ B _ (by simp only [World.size_alloc]; omega)).trans (heap_alloc_new w A), n1, by simp only [World.size_alloc], (((Below.refl _ w).alloc (Nat.le_refl _) A).alloc (by simp only [World.size_alloc]; omega) B)⟩
theorem rget_place (f : Nat → Int) (n : Int) (w : World) (h : ¬ placeP n) : Calls Try.prog 15 #[blkV f, .int .i64 n] w fun e w' => e = .returned (.tuple #[inoV (zeroI 0), .int .i64 2]) ∧ Below w.heap.size w w' := by
  have H : Hid (placeB n = false) := decide_eq_false h
  clear h
  unfold blkV
  go_enter Try.func15, Try.ntmps15
  go_wp2_with fail
  refine (rPlace_any n _).mono ?_
  rintro e w1 ⟨rfl, hw⟩
  obtain ⟨h0, h1, hz, hB⟩ := alloc2_of hw
  have I1 : Hid (IAt w1 (w.heap.size + 1) (zeroI 0)) := ⟨_, h1⟩
  have B1 := hide hB
  clear hw h0 h1 hB
  rw [H.out]
  go_wp2_with (first
    | (refine stI rfl (.tmp 4) (.tmp 15) rfl (w.heap.size + 1) (zeroI 0) (zeroI 0) rfl rfl I1.out ?_; intro w2 hr2 ho2; have HR2 := hide hr2; have HO2 := hide ho2; clear hr2 ho2))
  have HB : Hid (Below w.heap.size w w2) := B1.out.trans (HO2.out.below (by omega) B1.out.size)
  exact bodyPost_ret_by (results_ino rfl _ _ _ _ _ rfl rfl HR2.out) rfl ⟨rfl, HB.out⟩
set_option maxRecDepth 100000 in
set_option maxHeartbeats 4000000 in
theorem rget_in (f : Nat → Int) (hf : IsByte f) (n : Int) (p : Nat) (w : World) (hn : n = (p : Int)) (h : placeP n) (Q : Ending → World → Prop)
    (hQ : ∀ w', Below w.heap.size w w' → Q (.returned (.tuple #[inoV (if goodI f p then decI f p else zeroI 0), .int .i64 (if goodI f p then 0 else 70)])) w') : Calls Try.prog 15 #[blkV f, .int .i64 n] w Q := by
  have H : Hid (placeB n = true) := decide_eq_true h
  have HF := hide hf
  have HQ := hide hQ
  have hp : p ≤ 192 := by have := placeP_four.1 h; omega
  have hp2 : (p : Int) ≤ 192 := by omega
  subst hn
  clear h hf hQ
  unfold blkV
  go_enter Try.func15, Try.ntmps15
  go_wp2_with fail
  refine (rPlace_any _ _).mono ?_
  rintro e w1 ⟨rfl, hw⟩
  obtain ⟨h0, h1, hz, hB⟩ := alloc2_of hw
  have R1 : Hid (Row w1 w.heap.size 256 f) := ⟨_, h0⟩
  have I1 : Hid (IAt w1 (w.heap.size + 1) (zeroI 0)) := ⟨_, h1⟩
  have B1 := hide hB
  have Hz := hide hz
  clear hw h0 h1 hB hz
  rw [H.out]
  go_wp2_with fail
  refine (rGet16_in w.heap.size 256 _ (p + 2) f _ (by go_num) R1.out HF.out (by omega) (by omega)).mono ?_
  rintro e w2 ⟨rfl, hw⟩
  have R2 := hide (R1.out.still hw)
  have I2 := hide (I1.out.still hw)
  have B2 := hide (B1.out.trans (hw.below _))
  have Z2 : Hid (w2.heap.size = w.heap.size + 1 + 1) := by rw [hw.heap]; exact Hz.out
  have d1 := (part2_bd HF.out (p + 2)).1
  have d2 := (part2_bd HF.out (p + 2)).2
  have d3 := (part4_bd HF.out (p + 8)).1
  have d4 := (part4_bd HF.out (p + 8)).2
  clear hw R1 I1 B1 Hz
  go_wp2_with fail
  refine (rGet32_in w.heap.size 256 _ (p + 8) f _ (by go_num) R2.out HF.out (by omega) (by omega)).mono ?_
  rintro e w3 ⟨rfl, hw⟩
  have R3 := hide (R2.out.still hw)
  have I3 := hide (I2.out.still hw)
  have B3 := hide (B2.out.trans (hw.below _))
  have Z3 : Hid (w3.heap.size = w.heap.size + 1 + 1) := by rw [hw.heap]; exact Z2.out
  have hp3 : p < 256 := by omega
  have hc := R3.out.cell hp3
  clear hw R2 I2 B2 Z2
  go_wp2_with (first
    | (refine stI rfl (.tmp 10) (.tmp 37) rfl w3.heap.size (zeroI 0) ⟨f p, part f (p + 2) 2, 0, part f (p + 8) 4, fun _ => 0, 0⟩ rfl rfl (IAt.new w3 _ (zeroI 0)) ?_
       intro w4 hr4 ho4
       have S4 : Hid (GetSt w f w3.heap.size ⟨f p, part f (p + 2) 2, 0, part f (p + 8) 4, fun _ => 0, 0⟩ w4) :=
         ⟨by rw [Z3.out]; exact Nat.le_refl _, (R3.out.alloc _).only ho4 (by rw [Z3.out]; omega), (I3.out.alloc _).only ho4 (by rw [Z3.out]; omega), hr4,
          (B3.out.alloc B3.out.size _).trans (ho4.below (by rw [Z3.out]; omega) (by simp only [World.size_alloc]; rw [Z3.out]; omega))⟩
       clear hr4 ho4 R3 I3 B3 Z3 hc))
  generalize w3.heap.size = B at *
  refine (rGet32_in w.heap.size 256 _ (p + 4) f _ (by go_num) S4.out.blk HF.out (by omega) (by omega)).mono ?_
  rintro e w5 ⟨rfl, hw⟩
  have S5 := hide (S4.out.still hw)
  have S6 : Hid (GetSt w f B (midI f p 0) (w5.setCell ⟨B, 2, none⟩ (.int .u32 (part f (p + 4) 4)))) := S5.out.set_ ((S5.out.ino.setGen _).congr (by simp [midI]))
  have hc2 := S5.out.ino.c2
  have hz2 := S5.out.ino.frozen 2
  clear hw S4 S5 d1 d2 d3 d4
  go_wp2_with fail
  clear hc2 hz2
  generalize w5.setCell _ _ = w6 at *
  go_loopw [11] (fun i wr => ∃ k : Nat, k ≤ 11 ∧ i = .int .i64 k ∧ GetSt w f B (midI f p k) wr) (fun i _ => 11 - (intOf i).toNat)
  case atStart => exact ⟨0, by omega, rfl, S6.out⟩
  case round =>
    obtain ⟨k, hk, rfl, hs⟩ := hrel
    by_cases hlt : k < 11
    · have HS := hide hs
      clear hs S6
      go_wp2_with fail
      refine (rGet32_in w.heap.size 256 _ (p + 12 + 4 * k) f _ (by go_num) HS.out.blk HF.out (by omega) (by omega)).mono ?_
      rintro e w7 ⟨rfl, hw⟩
      have S7 := hide (HS.out.still hw)
      have S8 : Hid (GetSt w f B (midI f p (k + 1)) (w7.setCell ⟨B, 4 + k, none⟩ (.int .u32 (part f (p + 12 + 4 * k) 4)))) := S7.out.set_ (by rw [← midI_step]; exact S7.out.ino.setPtr hlt _)
      have hck := S7.out.ino.cp hlt
      have hzk := S7.out.ino.frozen (4 + k)
      clear hw HS S7
      go_wp2_with fail
      go_roundw
      case rel => exact ⟨k + 1, by omega, by go_num, S8.out⟩
      case measure => simp [intOf]; omega
    · obtain rfl : k = 11 := by omega
      have HS := hide hs
      clear hs S6
      go_wp2_with fail
      refine (rGet32_in w.heap.size 256 _ (p + 56) f _ (by go_num) HS.out.blk HF.out (by omega) (by omega)).mono ?_
      rintro e w7 ⟨rfl, hw⟩
      have S7 := hide (HS.out.still hw)
      have S8 : Hid (GetSt w f B (decI f p) (w7.setCell ⟨B, 15, none⟩ (.int .u32 (part f (p + 56) 4)))) := S7.out.set_ (S7.out.ino.setNext _)
      have hcn := S7.out.ino.cn
      have hzn := S7.out.ino.frozen 15
      have hp1 : p + 1 < 256 := by omega
      have hcb := S8.out.blk.cell hp1
      have q1 : (0 : Int) ≤ (p : Int) + 60 := by omega
      have q2 : (p : Int) + 64 ≤ 256 := by omega
      have q3 : (p : Int) + 60 ≤ (p : Int) + 64 := by omega
      have q4 : ((p : Int) + 60).toNat = p + 60 := by omega
      have q5 : ((p : Int) + 64).toNat = p + 64 := by omega
      have q6 : ¬ 256 = p + 60 := by omega
      have q7 : p + 64 - (p + 60) = 4 := by omega
      clear hw HS S7
      by_cases hb : f (p + 1) = 0
      · have Hb := hide hb
        rw [hb] at hcb
        clear hb
        go_wp2_with fail
        clear hcn hzn hcb
        generalize w7.setCell _ _ = w8 at *
        refine (rZero_any _ 4 _ (fun i => f (p + 60 + i)) (by omega) _ (S8.out.blk.seg (o := p + 60) (m := 4) (by omega)).bs).mono ?_
        rintro e w9 ⟨rfl, hw⟩
        have S9 : Hid (GetSt w f B (decI f p) w9) := hw ▸ S8.out
        clear hw S8
        cases hs : sameB (fun i => f (p + 60 + i)) zeroF 4
        · have hg : Hid (¬ goodI f p) := fun h => by rw [h.2.1] at hs; cases hs
          go_wp2_with (first
            | (refine stI rfl (.tmp 4) (.tmp 90) rfl (w.heap.size + 1) (zeroI 0) (zeroI 0) rfl rfl S9.out.res ?_; intro w12 hr hz; have HR12 := hide hr; have HZ12 := hide hz; clear hr hz))
          have HB : Hid (Below w.heap.size w w12) := S9.out.old.trans (HZ12.out.below (by omega) S9.out.old.size)
          refine bodyPost_ret_by (results_ino rfl _ _ _ _ _ rfl rfl HR12.out) rfl ?_
          have := HQ.out _ HB.out
          rw [if_neg hg.out, if_neg hg.out] at this
          exact this
        · have Hs := hide hs
          clear hs
          have e0 := S9.out.ino.c0
          have e1 := S9.out.ino.c1
          have e2 := S9.out.ino.c2
          have e3 := S9.out.ino.c3
          have e4 := S9.out.ino.cp (i := 0) (by omega)
          have e5 := S9.out.ino.cp (i := 1) (by omega)
          have e6 := S9.out.ino.cp (i := 2) (by omega)
          have e7 := S9.out.ino.cp (i := 3) (by omega)
          have e8 := S9.out.ino.cp (i := 4) (by omega)
          have e9 := S9.out.ino.cp (i := 5) (by omega)
          have e10 := S9.out.ino.cp (i := 6) (by omega)
          have e11 := S9.out.ino.cp (i := 7) (by omega)
          have e12 := S9.out.ino.cp (i := 8) (by omega)
          have e13 := S9.out.ino.cp (i := 9) (by omega)
          have e14 := S9.out.ino.cp (i := 10) (by omega)
          have e15 := S9.out.ino.cn
          go_wp2_with fail
          clear e0 e1 e2 e3 e4 e5 e6 e7 e8 e9 e10 e11 e12 e13 e14 e15
          refine (rMay_any (decI f p) _).mono ?_
          rintro e w10 ⟨rfl, hw⟩
          have S10 := hide (S9.out.below hw)
          clear hw S9
          cases hm : mayIB (decI f p)
          · have hg : Hid (¬ goodI f p) := fun h => absurd (decide_eq_true h.2.2) (by unfold mayIB at hm; rw [hm]; exact Bool.false_ne_true)
            clear hm
            go_wp2_with (refine stI rfl (.tmp 4) (.tmp 90) rfl (w.heap.size + 1) (zeroI 0) (zeroI 0) rfl rfl S10.out.res ?_; intro w12 hr hz; have HR12 := hide hr; have HZ12 := hide hz; clear hr hz)
            have HB : Hid (Below w.heap.size w w12) := S10.out.old.trans (HZ12.out.below (by omega) S10.out.old.size)
            refine bodyPost_ret_by (results_ino rfl _ _ _ _ _ rfl rfl HR12.out) rfl ?_
            have := HQ.out _ HB.out
            rw [if_neg hg.out, if_neg hg.out] at this
            exact this
          · have hg : Hid (goodI f p) := ⟨Hb.out, Hs.out, of_decide_eq_true hm⟩
            clear hm
            go_wp2_with (first
              | (refine ldI rfl (.tmp 10) rfl _ _ rfl S10.out.ino ?_)
              | (refine stI rfl (.tmp 4) (.tmp 91) rfl (w.heap.size + 1) (zeroI 0) (decI f p) rfl rfl S10.out.res ?_; intro w12 hr hz; have HR12 := hide hr; have HZ12 := hide hz; clear hr hz))
            have HB : Hid (Below w.heap.size w w12) := S10.out.old.trans (HZ12.out.below (by omega) S10.out.old.size)
            refine bodyPost_ret_by (results_ino rfl _ _ _ _ _ rfl rfl HR12.out) rfl ?_
            have := HQ.out _ HB.out
            rw [if_pos hg.out, if_pos hg.out] at this
            exact this
      · have hg : Hid (¬ goodI f p) := fun h => hb h.1
        go_wp2_with (refine stI rfl (.tmp 4) (.tmp 90) rfl (w.heap.size + 1) (zeroI 0) (zeroI 0) rfl rfl S8.out.res ?_; intro w12 hr hz; have HR12 := hide hr; have HZ12 := hide hz; clear hr hz)
        have HB : Hid (Below w.heap.size w w12) := S8.out.old.trans (HZ12.out.below (by omega) S8.out.old.size)
        refine bodyPost_ret_by (results_ino rfl _ _ _ _ _ rfl rfl HR12.out) rfl ?_
        have := HQ.out _ HB.out
        rw [if_neg hg.out, if_neg hg.out] at this
        exact this
end Go.Proofs.Ytdnalmikndilpaa
