/- The walk of same; superblocks in memory. -/
import Derived.Test.YtbngbhildijciaaSup7
import Derived.Great.FillDense
namespace Go.Proofs.Ytbngbhildijciaa
open Go.RowKit Go.BigFrame
set_option linter.unusedVariables false

theorem wdescs_any (a b c d : Int) (A : Option Addr) (n cap : Nat) (D : Nat → De) (w : World) (hD : Ds w A n D) :
    Calls Try.prog 13 #[geoV a b c d, .slice A n cap] w fun e w' => e = .returned (.tuple #[.agg (bytesOf 256 (wdF a b c d n D)), .int .i64 (wdC a b c d n D)]) ∧ Below w.heap.size w w' := by
  by_cases h : mayP a b c d
  · by_cases hn : (n : Int) = a
    · exact wdescs_ok a b c d A n cap D w h hn hD
    · obtain ⟨h1, h2⟩ := wd_no (D := D) h (fun q => hn q.1)
      rw [h1, h2]; exact wdescs_len a b c d A n cap D w h hn hD
  · unfold wdF wdC
    rw [if_neg (fun q => h q.1), if_neg h]; exact wdescs_geo a b c d A n cap D w h hD
/-- A block behind a pointer. -/
structure PgSt (W : World) (g : Nat) (f h : Nat → Int) (v : World) : Prop where
  lt : g < W.heap.size
  page : Row v g 256 f
  blk : Row v W.heap.size 256 h
  old : Below W.heap.size W v
theorem PgSt.drew {W v : World} {g : Nat} {f h : Nat → Int} (H : PgSt W g f h v) : PgSt W g f h v.drew := ⟨H.lt, H.page, H.blk, H.old.drew⟩
set_option maxRecDepth 100000 in
set_option maxHeartbeats 1000000 in
theorem same_any (g : Nat) (f h : Nat → Int) (e : Int) (w : World) (hr : Row w g 256 f) :
    Calls Try.prog 37 #[.pointer (some ⟨g, 0, none⟩), blkV h, .int .i64 e] w fun r w' => r = .returned (.bool (decide (e = 0) && sameB h f 256)) ∧ Below w.heap.size w w' := by
  have S0 : Hid (PgSt w g f h (w.alloc (.cells (bytesOf 256 h) 29))) := ⟨hr.lt, hr.alloc _, Row.new w _ _ _, (Below.refl _ w).alloc (Nat.le_refl _) _⟩
  have ne : Nonempty (Of (PgSt w g f h)) := ⟨⟨_, S0.out⟩⟩
  clear hr
  unfold blkV
  go_enter Try.func37, Try.ntmps37
  by_cases he : e = 0
  · subst he
    obtain ⟨b, hb⟩ : ∃ b, sameB h f 256 = b := ⟨_, rfl⟩
    have HV : Hid ((decide ((0 : Int) = 0) && sameB h f 256) = b) := by rw [Hid, hb]; rfl
    go_wp2_with fail
    refine wp_region_sub (PgSt w g f h) (by kernel_rfl) (by kernel_rfl) (S0.out.drew) ?_
    repeat (first
      | go_big_quiet_skip
      | (go_big_quiet_want
         first
         | (refine qldB (.tmp 4) rfl _ _ rfl (fun v h => h.blk) ?_)
         | (refine qldB (.tmp 13) rfl _ _ rfl (fun v h => h.page) ?_)
         | (refine qeqlB (.tmp 10) (.tmp 14) rfl _ _ rfl rfl hb ?_)
         simp only [Act.put, List.setIfInBounds_toArray, List.set_cons_succ, List.set_cons_zero]
         go_big_quiet_on)
      | (go_big_quiet_want
         go_big_quiet_op
         go_big_quiet_on))
    refine wpQuiet_nil ?_
    rintro w' ⟨s, rfl⟩
    go_wp2_with fail
    go_ret
    exact ⟨by first | rfl | (rw [HV.out]; rfl), s.ok.old⟩
  · have r0 : decide (e = 0) = false := decide_eq_false he
    have HV : Hid ((decide (e = 0) && sameB h f 256) = false) := by rw [Hid, r0]; rfl
    have r1 : (e == 0) = false := by simp [he]
    go_wp2_with fail
    refine wp_region_sub (PgSt w g f h) (by kernel_rfl) (by kernel_rfl) (S0.out.drew) ?_
    repeat (first
      | go_big_quiet_skip
      | (go_big_quiet_want
         go_big_quiet_op
         go_big_quiet_on))
    refine wpQuiet_nil ?_
    rintro w' ⟨s, rfl⟩
    go_wp2_with fail
    go_ret
    exact ⟨by first | rfl | (rw [HV.out]; rfl), s.ok.old⟩
section
variable {ops : Array Oper} {rest : List Oper} {o : Oper} {a : Act} {w : World} {Q : Exit → Act → World → Prop}
theorem fill_one (v : Value) (zs : Array Value) (place : Nat → Option (Nat × Nat)) (hp : place 0 = some (0, 256)) (hv : v.cells.size = 256) (hz : zs.size = 256) : Instr.fill place zs [(0, v)] = some v.cells := by
  have h := Go.Great.fill_whole (s := 256) (by decide) [v] zs (fun u hu => by rw [List.mem_singleton.1 hu]; exact hv) (by rw [hz]; exact Nat.one_mul 256)
  have e : ([v].flatMap fun v => v.cells.toList).toArray = v.cells := by simp
  rw [e] at h
  rw [← h]
  simp only [Instr.fill, hp, List.zipIdx_cons, List.zipIdx_nil, List.map_cons, List.map_nil, Nat.zero_mul]
theorem infoP : (Try.prog.info? 61).map (·.size) = some 256 := by kernel_rfl
theorem blk_info : ∃ i, Try.prog.info? 29 = some i ∧ i.size = 256 := by
  have h := info256
  cases hi : Try.prog.info? 29 with
  | none => rw [hi] at h; cases h
  | some i => rw [hi] at h; exact ⟨i, rfl, by simpa using h⟩
set_option maxRecDepth 100000 in
theorem buildP (hgd : o.guard = none) (t : Tmp) (ho : o.op = .build 61 #[(0, .tmp t)]) (f : Nat → Int) (hx : a.eval (.tmp t) = .agg (bytesOf 256 f))
    (k : wpList Try.prog ops Q rest (a.put o.dst (.agg (bytesOf 256 f))) w) : wpList Try.prog ops Q (o :: rest) a w := by
  obtain ⟨i, hi, hz⟩ := zero_page
  obtain ⟨j, hj, hs⟩ := blk_info
  refine wpList_plain hgd fun _ hK => ?_
  unfold Oper.wp execOp
  have hc : (Value.agg (bytesOf 256 f)).cells = bytesOf 256 f := rfl
  have hf := fun (pl : Nat → Option (Nat × Nat)) (hp : pl 0 = some (0, 256)) => fill_one (.agg (bytesOf 256 f)) (bytesOf 256 zeroF) pl hp (by rw [hc, bytesOf_size]) (bytesOf_size 256 zeroF)
  simp [ho, hx, Instr.build, zeroValue, typeInfo, hi, hz, Value.cells, Try.underlying61, underlying, sizeOf, hj, hs]
  rw [hf _ rfl]
  simp [Value.cells]
  exact hK _ _ k
theorem stPg (hgd : o.guard = none) (x y : Operand) (ho : o.op = .store 61 x y) (B : Nat) (f h : Nat → Int) (hx : a.eval x = .pointer (some ⟨B, 0, none⟩)) (hy : a.eval y = .agg (bytesOf 256 h)) (hr : Row w B 256 f)
    (k : ∀ w', Row w' B 256 h → Only B w w' → wpList Try.prog ops Q rest (a.put o.dst undef) w') : wpList Try.prog ops Q (o :: rest) a w := by
  obtain ⟨t, hr⟩ := hr
  refine wpList_store_row hgd _ x y ho B _ hx hy t _ hr (by rw [bytesOf_size]; exact infoP) (by rw [bytesOf_size, bytesOf_size]) (bytes_one _ _) (k _ ⟨t, setRow_heap w B _ _ t _ hr⟩ (only_setRow _ _ _))
end
/-- Block B is a superblock. -/
def SuAt (w : World) (B : Nat) (a b c d o : Int) : Prop := ∃ t, w.heap[B]? = some (.cells (supC a b c d o) t (0, 0))
section
variable {w w' : World} {B : Nat} {a b c d o : Int}
theorem SuAt.lt (h : SuAt w B a b c d o) : B < w.heap.size := by obtain ⟨t, e⟩ := h; exact lt_of_block e
theorem SuAt.below {n : Nat} (h : SuAt w B a b c d o) (k : Below n w w') (hb : B < n) : SuAt w' B a b c d o := by obtain ⟨t, e⟩ := h; exact ⟨t, (k.block B hb).trans e⟩
theorem SuAt.only {g : Nat} (h : SuAt w B a b c d o) (k : Only g w w') (hne : B ≠ g) : SuAt w' B a b c d o := by obtain ⟨t, e⟩ := h; exact ⟨t, (k.block B (lt_of_block e) (fun q => hne (by injection q))).trans e⟩
theorem SuAt.alloc (h : SuAt w B a b c d o) (x : Obj) : SuAt (w.alloc x) B a b c d o := h.below ((Below.refl _ w).alloc (Nat.le_refl _) x) h.lt
theorem SuAt.new (w : World) (t : TypeId) (a b c d o : Int) : SuAt (w.alloc (.cells (supC a b c d o) t)) w.heap.size a b c d o := ⟨t, heap_alloc_new w _⟩
theorem SuAt.cells (h : SuAt w B a b c d o) : w.cell? ⟨B, 0, none⟩ = some (.int .i64 a) ∧ w.cell? ⟨B, 1, none⟩ = some (.int .i64 b) ∧ w.cell? ⟨B, 2, none⟩ = some (.int .i64 c) ∧ w.cell? ⟨B, 3, none⟩ = some (.int .i64 d) ∧ w.cell? ⟨B, 4, none⟩ = some (.int .u32 o) := by
  obtain ⟨t, e⟩ := h
  refine ⟨?_, ?_, ?_, ?_, ?_⟩ <;> (rw [cell_of_row _ _ _ _ _ _ e]; rfl)
theorem SuAt.frozen (h : SuAt w B a b c d o) (i : Nat) : w.frozen? ⟨B, i, none⟩ = false := by
  obtain ⟨t, e⟩ := h
  simp [World.frozen?, e]
theorem SuAt.setO (h : SuAt w B a b c d o) (x : Int) : SuAt (w.setCell ⟨B, 4, none⟩ (.int .u32 x)) B a b c d x := by
  obtain ⟨t, e⟩ := h
  have q : (supC a b c d o).setIfInBounds 4 (.int .u32 x) = supC a b c d x := rfl
  exact ⟨t, by rw [← q]; simp [World.setCell, Array.getElem?_modify, e]⟩
end
end Go.Proofs.Ytbngbhildijciaa
