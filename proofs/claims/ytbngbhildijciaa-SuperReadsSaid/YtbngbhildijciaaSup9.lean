/- The walk of super.Read. -/
import Derived.Test.YtbngbhildijciaaSupP
import Derived.Test.YtbngbhildijciaaZero
namespace Go.Proofs.Ytbngbhildijciaa
open Go.RowKit
set_option linter.unusedVariables false

section
variable {ops : Array Oper} {rest : List Oper} {o : Oper} {a : Act} {w : World} {Q : Exit → Act → World → Prop}
theorem allocP' (B : Nat) (hB : w.heap.size = B) (hgd : o.guard = none) (ho : o.op = .alloc 61)
    (k : wpList Try.prog ops Q rest (a.put o.dst (.pointer (some ⟨B, 0, none⟩))) (w.alloc (.cells (bytesOf 256 zeroF) 61))) : wpList Try.prog ops Q (o :: rest) a w := by
  subst hB; exact allocP hgd ho k
theorem infoS : (Try.prog.info? 26).map (·.size) = some 5 := by kernel_rfl
theorem ldS (hgd : o.guard = none) (x : Operand) (ho : o.op = .load 26 x) (B : Nat) (p q r s t : Int) (hx : a.eval x = .pointer (some ⟨B, 0, none⟩)) (h : SuAt w B p q r s t)
    (k : wpList Try.prog ops Q rest (a.put o.dst (supV p q r s t)) w) : wpList Try.prog ops Q (o :: rest) a w := by
  obtain ⟨ty, h⟩ := h
  exact wpList_load_row hgd _ x ho B hx ty _ (0, 0) _ h Try.underlying26 rfl infoS k
theorem stS (hgd : o.guard = none) (x y : Operand) (ho : o.op = .store 26 x y) (B : Nat) (p q r s t p' q' r' s' t' : Int) (hx : a.eval x = .pointer (some ⟨B, 0, none⟩)) (hy : a.eval y = supV p' q' r' s' t') (hr : SuAt w B p q r s t)
    (k : ∀ w', SuAt w' B p' q' r' s' t' → Only B w w' → wpList Try.prog ops Q rest (a.put o.dst undef) w') : wpList Try.prog ops Q (o :: rest) a w := by
  obtain ⟨ty, hr⟩ := hr
  refine wpList_store_row hgd _ x y ho B _ hx hy ty _ hr infoS rfl (by simp [supC, Value.oneCell']) (k _ ⟨ty, setRow_heap w B _ _ ty _ hr⟩ (only_setRow _ _ _))
end
theorem results_sup {fn : Func} {p u : Tmp} (h : fn.results = #[.cell p 26, .tmp u]) (tmps : Array Value) (w : World) (g : Nat) (a b c d o : Int) (v : Value)
    (hp : tmps.getD p undef = .pointer (some ⟨g, 0, none⟩)) (hu : tmps.getD u undef = v) (hr : SuAt w g a b c d o) : (results fn tmps).run Try.prog w = .ok (.tuple #[supV a b c d o, v]) w := by
  obtain ⟨t, hg⟩ := hr
  rw [results_cell_tmp h, hp]
  simp [asAddr, Result.andThen, run_loadVar_row w g t 26 (supC a b c d o) (0, 0) _ hg Try.underlying26 rfl infoS]
  rw [← hu]; simp [supV]
/-- The block, the result's place, the page. -/
structure RdSt (W : World) (f : Nat → Int) (G : Nat) (v : World) : Prop where
  lo : W.heap.size + 1 < G
  blk : Row v W.heap.size 256 f
  res : SuAt v (W.heap.size + 1) 0 0 0 0 0
  page : Row v G 256 f
  old : Below W.heap.size W v
section
variable {W v v' : World} {f : Nat → Int} {G : Nat}
theorem RdSt.below (h : RdSt W f G v) (k : Below v.heap.size v v') : RdSt W f G v' := ⟨h.lo, h.blk.below k h.blk.lt, h.res.below k h.res.lt, h.page.below k h.page.lt, h.old.trans (k.mono h.old.size)⟩
theorem RdSt.alloc (h : RdSt W f G v) (o : Obj) : RdSt W f G (v.alloc o) := h.below ((Below.refl _ v).alloc (Nat.le_refl _) o)
theorem RdSt.only {g : Nat} (h : RdSt W f G v) (k : Only g v v') (hg : G < g) : RdSt W f G v' := by
  have := h.lo
  exact ⟨h.lo, h.blk.only k (by omega), h.res.only k (by omega), h.page.only k (by omega), h.old.trans (k.below (by omega) h.old.size)⟩
end
theorem rd_head {f : Nat → Int} (h : ¬ hdP f) : rdC f = 60 ∧ rdS f = supV 0 0 0 0 0 := by
  unfold rdC rdS
  rw [if_neg h, if_neg (fun q => h q.1)]; exact ⟨rfl, rfl⟩
theorem rd_geo {f : Nat → Int} (h : hdP f) (g : ¬ rdG f) : rdC f = 50 ∧ rdS f = supV 0 0 0 0 0 := by
  unfold rdC rdS
  rw [if_pos h, if_neg g, if_neg (fun q => g q.2.1)]; exact ⟨rfl, rfl⟩
theorem rd_orphan {f : Nat → Int} (h : hdP f) (g : rdG f) (q : ¬ rdO f) : rdC f = 60 ∧ rdS f = supV 0 0 0 0 0 := by
  unfold rdC rdS
  rw [if_pos h, if_pos g, if_neg q, if_neg (fun r => q r.2.2)]; exact ⟨rfl, rfl⟩
theorem rd_ok {f : Nat → Int} (h : hdP f) (g : rdG f) (q : rdO f) : rdC f = 0 ∧ rdS f = supV (part f 8 2) (part f 10 2) (part f 12 2) (part f 14 2) (part f 16 4) := by
  unfold rdC rdS
  rw [if_pos h, if_pos g, if_pos q, if_pos ⟨h, g, q⟩]; exact ⟨rfl, rfl⟩
set_option maxRecDepth 100000 in
set_option maxHeartbeats 4000000 in
theorem read_any (f : Nat → Int) (w : World) (hf : IsByte f) :
    Calls Try.prog 17 #[blkV f] w fun e w' => e = .returned (.tuple #[rdS f, .int .i64 (rdC f)]) ∧ Below w.heap.size w w' := by
  have HF := hide hf
  have HN : Hid (¬ hdP f → rdC f = 60 ∧ rdS f = supV 0 0 0 0 0) := rd_head
  have S0 : Hid (SuAt ((w.alloc (.cells (bytesOf 256 f) 29)).alloc (.cells (supC 0 0 0 0 0) 26)) (w.heap.size + 1) 0 0 0 0 0) := by
    have := SuAt.new (w.alloc (.cells (bytesOf 256 f) 29)) 26 0 0 0 0 0
    simp only [World.size_alloc] at this
    exact this
  have B0 : Hid (Row ((w.alloc (.cells (bytesOf 256 f) 29)).alloc (.cells (supC 0 0 0 0 0) 26)) w.heap.size 256 f) := (Row.new w _ _ _).alloc _
  have O0 : Hid (Below w.heap.size w ((w.alloc (.cells (bytesOf 256 f) 29)).alloc (.cells (supC 0 0 0 0 0) 26))) := ((Below.refl _ w).alloc (Nat.le_refl _) _).alloc (by simp only [World.size_alloc]; omega) _
  clear hf
  unfold blkV
  go_enter Try.func17, Try.ntmps17
  go_wp2_with (first
    | (refine ld256 rfl (.tmp 1) rfl _ _ rfl B0.out ?_)
    | (refine buildP rfl 10 rfl f rfl ?_)
    | (refine allocP' (w.heap.size + 1 + 1) (by simp only [World.size_alloc]) rfl rfl ?_)
    | (refine stPg rfl (.tmp 4) (.tmp 11) rfl (w.heap.size + 1 + 1) zeroF f rfl rfl (by have := Row.new ((w.alloc (.cells (bytesOf 256 f) 29)).alloc (.cells (supC 0 0 0 0 0) 26)) 61 256 zeroF; simp only [World.size_alloc] at this; exact this) ?_
       intro w2 hr ho
       have T : Hid (RdSt w f (w.heap.size + 1 + 1) w2) := ⟨by omega, (B0.out.alloc _).only ho (by omega), (S0.out.alloc _).only ho (by omega), hr, (O0.out.alloc O0.out.size _).trans (ho.below (by omega) (by simp only [World.size_alloc]; omega))⟩
       clear hr ho S0 B0 O0))
  generalize w.heap.size + 1 + 1 = G at *
  refine (bytes_any G _).mono ?_
  rintro e w3 ⟨rfl, rfl⟩
  go_wp2_with fail
  refine (Get32_in G 256 0 0 f _ rfl T.out.page HF.out (by omega) (by omega)).mono ?_
  rintro e w3 ⟨rfl, rfl⟩
  go_wp2_with fail
  refine (bytes_any G _).mono ?_
  rintro e w3 ⟨rfl, rfl⟩
  go_wp2_with fail
  refine (Get32_in G 256 252 252 f _ rfl T.out.page HF.out (by omega) (by omega)).mono ?_
  rintro e w3 ⟨rfl, rfl⟩
  by_cases e1 : part f 0 4 = 827216465
  case neg =>
    obtain ⟨y1, y2⟩ := HN.out (fun h => e1 h.1)
    have Y1 := hide y1
    have Y2 := hide y2
    clear y1 y2
    go_wp2_with (first
      | (refine stS rfl (.tmp 2) (.tmp 44) rfl (w.heap.size + 1) 0 0 0 0 0 0 0 0 0 0 rfl rfl T.out.res ?_; intro w9 hr2 ho2; have HR2 := hide hr2; have HO2 := hide ho2; clear hr2 ho2))
    exact bodyPost_ret_by (results_sup rfl _ _ _ _ _ _ _ _ _ rfl rfl HR2.out) rfl ⟨by rw [Y1.out, Y2.out]; rfl, T.out.old.trans (HO2.out.below (by omega) T.out.old.size)⟩
  have E1 := hide e1
  rw [e1]
  clear e1
  go_wp2_with fail
  refine (short_any G 4 4 f _ rfl T.out.page HF.out (by omega)).mono ?_
  rintro e w3 ⟨rfl, rfl⟩
  by_cases e2 : part f 4 2 = 1
  case neg =>
    obtain ⟨y1, y2⟩ := HN.out (fun h => e2 h.2.1)
    have Y1 := hide y1
    have Y2 := hide y2
    clear y1 y2
    go_wp2_with (first
      | (refine stS rfl (.tmp 2) (.tmp 44) rfl (w.heap.size + 1) 0 0 0 0 0 0 0 0 0 0 rfl rfl T.out.res ?_; intro w9 hr2 ho2; have HR2 := hide hr2; have HO2 := hide ho2; clear hr2 ho2))
    exact bodyPost_ret_by (results_sup rfl _ _ _ _ _ _ _ _ _ rfl rfl HR2.out) rfl ⟨by rw [Y1.out, Y2.out]; rfl, T.out.old.trans (HO2.out.below (by omega) T.out.old.size)⟩
  have E2 := hide e2
  rw [e2]
  clear e2
  go_wp2_with fail
  refine (short_any G 6 6 f _ rfl T.out.page HF.out (by omega)).mono ?_
  rintro e w3 ⟨rfl, rfl⟩
  by_cases e3 : part f 6 2 = 256
  case neg =>
    obtain ⟨y1, y2⟩ := HN.out (fun h => e3 h.2.2.1)
    have Y1 := hide y1
    have Y2 := hide y2
    clear y1 y2
    go_wp2_with (first
      | (refine stS rfl (.tmp 2) (.tmp 44) rfl (w.heap.size + 1) 0 0 0 0 0 0 0 0 0 0 rfl rfl T.out.res ?_; intro w9 hr2 ho2; have HR2 := hide hr2; have HO2 := hide ho2; clear hr2 ho2))
    exact bodyPost_ret_by (results_sup rfl _ _ _ _ _ _ _ _ _ rfl rfl HR2.out) rfl ⟨by rw [Y1.out, Y2.out]; rfl, T.out.old.trans (HO2.out.below (by omega) T.out.old.size)⟩
  have E3 := hide e3
  rw [e3]
  clear e3
  go_wp2_with fail
  refine (sum1_any _ _ (some ⟨w.heap.size, 0, none⟩) 252 256 1 f _ (heap_alloc_new _ _) ((T.out.alloc _).blk.bs (by omega)) HF.out (by omega) (by omega)).mono ?_
  rintro e w3 ⟨rfl, hw⟩
  replace T := hide ((T.out.alloc _).below hw)
  clear hw
  by_cases e4 : part f 252 4 = ((sumF f 252 : Nat) : Int)
  case neg =>
    obtain ⟨y1, y2⟩ := HN.out (fun h => e4 h.2.2.2.1)
    have Y1 := hide y1
    have Y2 := hide y2
    clear y1 y2
    go_wp2_with (first
      | (refine stS rfl (.tmp 2) (.tmp 44) rfl (w.heap.size + 1) 0 0 0 0 0 0 0 0 0 0 rfl rfl T.out.res ?_; intro w9 hr2 ho2; have HR2 := hide hr2; have HO2 := hide ho2; clear hr2 ho2))
    exact bodyPost_ret_by (results_sup rfl _ _ _ _ _ _ _ _ _ rfl rfl HR2.out) rfl ⟨by rw [Y1.out, Y2.out]; rfl, T.out.old.trans (HO2.out.below (by omega) T.out.old.size)⟩
  have E4 := hide e4
  rw [e4]
  clear e4
  go_wp2_with fail
  refine (Zero_any (some ⟨w.heap.size, 20, none⟩) 232 236 (fun i => f (20 + i)) (by omega) (by omega) (by omega) _ (T.out.blk.bsAt (p := 20) (k := 232) (by omega)) (fun i => HF.out (20 + i))).mono ?_
  rintro e w4 ⟨rfl, hw⟩
  replace T := hide (T.out.below hw)
  clear hw
  cases e5 : sameB (fun i => f (20 + i)) zeroF 232
  case false =>
    obtain ⟨y1, y2⟩ := HN.out (fun h => by rw [h.2.2.2.2] at e5; cases e5)
    have Y1 := hide y1
    have Y2 := hide y2
    clear y1 y2
    go_wp2_with (first
      | (refine stS rfl (.tmp 2) (.tmp 44) rfl (w.heap.size + 1) 0 0 0 0 0 0 0 0 0 0 rfl rfl T.out.res ?_; intro w9 hr2 ho2; have HR2 := hide hr2; have HO2 := hide ho2; clear hr2 ho2))
    exact bodyPost_ret_by (results_sup rfl _ _ _ _ _ _ _ _ _ rfl rfl HR2.out) rfl ⟨by rw [Y1.out, Y2.out]; rfl, T.out.old.trans (HO2.out.below (by omega) T.out.old.size)⟩
  have HP : Hid (hdP f) := ⟨E1.out, E2.out, E3.out, E4.out, e5⟩
  have BA := (part_bd HF.out 16 4)
  have ho0 : 0 ≤ part f 16 4 := BA.1
  have ho1 : part f 16 4 ≤ 4294967295 := by have := BA.2; have q : (256 : Int) ^ 4 = 4294967296 := rfl; omega
  clear e5 E1 E2 E3 E4 HN BA
  go_wp2_with fail
  refine (short_any G 8 8 f _ rfl T.out.page HF.out (by omega)).mono ?_
  rintro e w5 ⟨rfl, rfl⟩
  go_wp2_with fail
  refine (short_any G 10 10 f _ rfl T.out.page HF.out (by omega)).mono ?_
  rintro e w5 ⟨rfl, rfl⟩
  go_wp2_with fail
  refine (short_any G 12 12 f _ rfl T.out.page HF.out (by omega)).mono ?_
  rintro e w5 ⟨rfl, rfl⟩
  go_wp2_with fail
  refine (short_any G 14 14 f _ rfl T.out.page HF.out (by omega)).mono ?_
  rintro e w5 ⟨rfl, rfl⟩
  have hG : G < w4.heap.size := T.out.page.lt
  go_wp2_with (first
    | (refine stS rfl (.tmp 9) (.tmp 50) rfl w4.heap.size 0 0 0 0 0 (part f 8 2) (part f 10 2) (part f 12 2) (part f 14 2) 0 rfl rfl (SuAt.new w4 _ 0 0 0 0 0) ?_
       intro w5 hr ho
       have U := hide hr
       replace T := hide ((T.out.alloc (.cells (supC 0 0 0 0 0) 26)).only ho hG)
       clear hr ho))
  generalize w4.heap.size = B at *
  refine (bytes_any G _).mono ?_
  rintro e w6 ⟨rfl, rfl⟩
  go_wp2_with fail
  refine (Get32_in G 256 16 16 f _ rfl T.out.page HF.out (by omega) (by omega)).mono ?_
  rintro e w6 ⟨rfl, rfl⟩
  have k4 := U.out.cells.2.2.2.2
  have z4 := U.out.frozen 4
  have hB : B < w5.heap.size := U.out.lt
  have U2 := hide (U.out.setO (part f 16 4))
  have T2 := hide (T.out.only ((Only.refl B w5).setCell 4 (.int .u32 (part f 16 4))) hG)
  have s0 := U2.out.cells.1
  have s1 := U2.out.cells.2.1
  have s2 := U2.out.cells.2.2.1
  have s3 := U2.out.cells.2.2.2.1
  clear U T
  go_wp2_with fail
  clear k4 z4 s0 s1 s2 s3
  generalize World.setCell _ _ _ = w6 at *
  refine (may_any (part f 8 2) (part f 10 2) (part f 12 2) (part f 14 2) _).mono ?_
  rintro e w7 ⟨rfl, hw⟩
  have T := hide (T2.out.below hw)
  have U := hide (U2.out.below hw U2.out.lt)
  clear hw T2 U2
  by_cases g : rdG f
  case neg =>
    obtain ⟨y1, y2⟩ := rd_geo HP.out g
    rw [show mayB (part f 8 2) (part f 10 2) (part f 12 2) (part f 14 2) = false from decide_eq_false g]
    have Y1 := hide y1
    have Y2 := hide y2
    clear y1 y2
    go_wp2_with (first
      | (refine stS rfl (.tmp 2) (.tmp 61) rfl (w.heap.size + 1) 0 0 0 0 0 0 0 0 0 0 rfl rfl T.out.res ?_; intro w9 hr2 ho2; have HR2 := hide hr2; have HO2 := hide ho2; clear hr2 ho2))
    exact bodyPost_ret_by (results_sup rfl _ _ _ _ _ _ _ _ _ rfl rfl HR2.out) rfl ⟨by rw [Y1.out, Y2.out]; rfl, T.out.old.trans (HO2.out.below (by omega) T.out.old.size)⟩
  rw [show mayB (part f 8 2) (part f 10 2) (part f 12 2) (part f 14 2) = true from decide_eq_true g]
  have HG := hide g
  clear g
  go_wp2_with (refine ldS rfl (.tmp 9) rfl _ _ _ _ _ _ rfl U.out ?_)
  refine (write_any (part f 8 2) (part f 10 2) (part f 12 2) (part f 14 2) (part f 16 4) _ ho0 ho1).mono ?_
  rintro e w8 ⟨rfl, hw⟩
  replace T := hide (T.out.below hw)
  replace U := hide (U.out.below hw U.out.lt)
  clear hw
  go_wp2_with fail
  refine (same_any G f (wrF (part f 8 2) (part f 10 2) (part f 12 2) (part f 14 2) (part f 16 4)) (wrC (part f 8 2) (part f 10 2) (part f 12 2) (part f 14 2) (part f 16 4)) _ T.out.page).mono ?_
  rintro e w9 ⟨rfl, hw⟩
  replace T := hide (T.out.below hw)
  replace U := hide (U.out.below hw U.out.lt)
  clear hw
  by_cases q : rdO f
  case neg =>
    obtain ⟨y1, y2⟩ := rd_orphan HP.out HG.out q
    rw [show wrC (part f 8 2) (part f 10 2) (part f 12 2) (part f 14 2) (part f 16 4) = 2 by unfold wrC; rw [if_pos (show mayP _ _ _ _ from HG.out), if_neg (show ¬ part f 16 4 ≤ part f 8 2 * part f 12 2 from q)]]
    rw [show (decide ((2 : Int) = 0) && sameB (wrF (part f 8 2) (part f 10 2) (part f 12 2) (part f 14 2) (part f 16 4)) f 256) = false from rfl]
    have Y1 := hide y1
    have Y2 := hide y2
    clear y1 y2
    go_wp2_with (first
      | (refine stS rfl (.tmp 2) (.tmp 68) rfl (w.heap.size + 1) 0 0 0 0 0 0 0 0 0 0 rfl rfl T.out.res ?_; intro w9 hr2 ho2; have HR2 := hide hr2; have HO2 := hide ho2; clear hr2 ho2))
    exact bodyPost_ret_by (results_sup rfl _ _ _ _ _ _ _ _ _ rfl rfl HR2.out) rfl ⟨by rw [Y1.out, Y2.out]; rfl, T.out.old.trans (HO2.out.below (by omega) T.out.old.size)⟩
  obtain ⟨y1, y2⟩ := rd_ok HP.out HG.out q
  rw [show wrC (part f 8 2) (part f 10 2) (part f 12 2) (part f 14 2) (part f 16 4) = 0 by unfold wrC; rw [if_pos (show mayP _ _ _ _ from HG.out), if_pos (show part f 16 4 ≤ part f 8 2 * part f 12 2 from q)]]
  rw [show (decide ((0 : Int) = 0) && sameB (wrF (part f 8 2) (part f 10 2) (part f 12 2) (part f 14 2) (part f 16 4)) f 256) = true by
    have e : sameB (wrF (part f 8 2) (part f 10 2) (part f 12 2) (part f 14 2) (part f 16 4)) f 256 = true := (sameB_iff _ _ _).2 fun i hi => by
      unfold wrF
      rw [if_pos ⟨show mayP _ _ _ _ from HG.out, show part f 16 4 ≤ part f 8 2 * part f 12 2 from q⟩]
      exact write_read HF.out HP.out hi
    rw [e]; rfl]
  have Y1 := hide y1
  have Y2 := hide y2
  clear y1 y2
  go_wp2_with (first
    | (refine ldS rfl (.tmp 9) rfl _ _ _ _ _ _ rfl U.out ?_)
    | (refine stS rfl (.tmp 2) (.tmp 69) rfl (w.heap.size + 1) 0 0 0 0 0 _ _ _ _ _ rfl rfl T.out.res ?_; intro w9 hr2 ho2; have HR2 := hide hr2; have HO2 := hide ho2; clear hr2 ho2))
  exact bodyPost_ret_by (results_sup rfl _ _ _ _ _ _ _ _ _ rfl rfl HR2.out) rfl ⟨by rw [Y1.out, Y2.out]; rfl, T.out.old.trans (HO2.out.below (by omega) T.out.old.size)⟩
end Go.Proofs.Ytbngbhildijciaa
