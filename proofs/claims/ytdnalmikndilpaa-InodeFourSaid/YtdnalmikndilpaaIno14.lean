/- The walk of inode.Get. -/
import Derived.Test.YtdnalmikndilpaaIno13
import Derived.Laws.Cover3
namespace Go.Proofs.Ytdnalmikndilpaa
open Go.RowKit Go.Shelf
set_option linter.unusedVariables false
attribute [local go_sem] Oper.semAt_some

theorem Get16_in (g n : Nat) (i : Int) (p : Nat) (f : Nat → Int) (w : World) (hi : i = p) (hs : Row w g n f) (hf : IsByte f) (hn : (n : Int) ≤ 9223372036854775807) (h1 : p + 2 ≤ n) :
    Calls Try.prog 22 #[.slice (some ⟨g, 0, none⟩) n n, .int .i64 i] w fun e w' => e = .returned (.tuple #[.int .u32 (part f p 2), .bool true]) ∧ w = w' := by
  subst hi
  have := Get16_any (some ⟨g, 0, none⟩) n n p f w hn hs.seg0.bs hf
  rwa [read_yes h1, within_mk h1] at this
theorem Get32_in (g n : Nat) (i : Int) (p : Nat) (f : Nat → Int) (w : World) (hi : i = p) (hs : Row w g n f) (hf : IsByte f) (hn : (n : Int) ≤ 9223372036854775807) (h1 : p + 4 ≤ n) :
    Calls Try.prog 23 #[.slice (some ⟨g, 0, none⟩) n n, .int .i64 i] w fun e w' => e = .returned (.tuple #[.int .u32 (part f p 4), .bool true]) ∧ w = w' := by
  subst hi
  have := Get32_any (some ⟨g, 0, none⟩) n n p f w hn hs.seg0.bs hf
  rwa [read_yes h1, within_mk h1] at this

/-- Another number k. -/
def setN (y : Ino) : Nat → Int → Ino
  | 0, v => { y with gen := v }
  | k + 1, v => if k = 11 then { y with next := v } else { y with ptr := upd y.ptr k v }
theorem IAt.setL {w : World} {B : Nat} {y : Ino} (h : IAt w B y) (k : Fin 13) (v : Int) : IAt (w.setCell ⟨B, ofAt k.val, none⟩ (.int .u32 v)) B (setN y k.val v) := by
  obtain ⟨k, hk⟩ := k
  cases k with
  | zero => exact h.setGen v
  | succ k =>
    show IAt (w.setCell ⟨B, 4 + k, none⟩ (.int .u32 v)) B (if k = 11 then { y with next := v } else { y with ptr := upd y.ptr k v })
    by_cases e : k = 11
    · subst e; rw [if_pos rfl]; exact h.setNext v
    · rw [if_neg e]; exact h.setPtr (by omega) v
/-- Numbers read, one behind the other. -/
def rdN (h : Nat → Int) (y : Ino) (l : List Nat) : Ino := l.foldl (fun y k => setN y k (part h (plN k) 4)) y
theorem rdN_snoc (h : Nat → Int) (y : Ino) (l : List Nat) (k : Nat) : rdN h y (l ++ [k]) = setN (rdN h y l) k (part h (plN k) 4) := by simp [rdN, List.foldl_append]
def headI (h : Nat → Int) : Ino := ⟨h 0, part h 2 2, 0, part h 8 4, fun _ => 0, 0⟩
theorem rdN_all (h : Nat → Int) : rdN h (headI h) (List.range 13) = decI h 0 := by
  have e : List.range 13 = [0, 1, 2, 3, 4, 5, 6, 7, 8, 9, 10, 11, 12] := rfl
  rw [e]
  simp only [rdN, List.foldl_cons, List.foldl_nil, setN, headI, decI, midI, plN]
  simp only [Nat.reduceEqDiff, if_false, if_true, Ino.mk.injEq, Nat.zero_add, Nat.reduceAdd, Nat.reduceMul, true_and, and_true]
  funext j
  by_cases hj : j < 11
  · rw [if_pos hj]
    obtain rfl | rfl | rfl | rfl | rfl | rfl | rfl | rfl | rfl | rfl | rfl : j = 0 ∨ j = 1 ∨ j = 2 ∨ j = 3 ∨ j = 4 ∨ j = 5 ∨ j = 6 ∨ j = 7 ∨ j = 8 ∨ j = 9 ∨ j = 10 := by omega
    all_goals simp [upd]
  · rw [if_neg hj]
    simp only [upd]
    iterate 11 rw [if_neg (by omega)]
/-- A shifted row's inode. -/
def fromF (f : Nat → Int) (p : Nat) : Nat → Int := fun i => f (p + i)
theorem fromF_byte {f : Nat → Int} (hf : IsByte f) (p : Nat) : IsByte (fromF f p) := fun i => hf _
theorem decI_from (f : Nat → Int) (p : Nat) : decI (fromF f p) 0 = decI f p := by
  have e : ∀ a k, part (fromF f p) a k = part f (p + a) k := fun a k => part_congr fun i _ => by unfold fromF; rw [Nat.add_assoc]
  simp only [decI, midI, e, Ino.mk.injEq, Nat.zero_add, Nat.add_assoc, and_true]
  exact rfl
theorem IAt.cl' {w : World} {B : Nat} {x : Ino} (h : IAt w B x) (k : Fin 13) : w.cell? ⟨B, ofAt k.val, none⟩ = some (.int .u32 (lvAt x k.val)) := h.cl k
theorem own_ino {β : Type} (B b : Nat) (f : β → Ino) : OwnFrom B (fun s W => IAt W b (f s)) := fun s W W' row hs hg hr => by
  have e : some b ≠ row := fun e => by
    obtain ⟨_, o, ho, hc⟩ := hr b e.symm
    obtain ⟨t, hs⟩ := hs
    rw [hs] at ho; cases ho; cases hc
  exact hs.of_heap (hg.block b hs.lt e)
/-- 64 bytes out of a block. -/
theorem run_load_sub (w : World) (g N p n : Nat) (f : Nat → Int) (ty : TypeId) (d : TypeDesc) (hg : Row w g N f) (hp : p + n ≤ N) (hu : Try.prog.underlying ty = some d) (hd : (match d with | .struct _ | .array _ _ => true | _ => false) = true) (hi : (Try.prog.info? ty).map (·.size) = some n) :
    (loadVar ty ⟨g, p, none⟩).run Try.prog w = .ok (.agg (bytesOf n (fromF f p))) w := by
  have hl : (loadCells ⟨g, p, none⟩ (bytesOf n (fromF f p)).toList.length).run Try.prog w = .ok (bytesOf n (fromF f p)).toList.toArray w :=
    run_loadCells_list (P := Try.prog) w ⟨g, p, none⟩ (bytesOf n (fromF f p)).toList (fun j v hv => by
      have hadd : (⟨g, p, none⟩ : Addr).add j = ⟨g, p + j, none⟩ := by unfold Addr.add; split <;> simp_all
      have hj : j < n := by
        rcases Nat.lt_or_ge j n with h | h
        · exact h
        · rw [List.getElem?_eq_none (by simp [bytesOf_size]; exact h)] at hv; cases hv
      have hv' : (bytesOf n (fromF f p))[j]? = some v := by simpa using hv
      rw [bytesOf_get _ hj] at hv'
      cases hv'
      rw [hadd]
      exact hg.cell (by omega))
  cases hq : Try.prog.info? ty with
  | none => simp [hq] at hi
  | some i =>
    have hs : i.size = n := by simpa [hq] using hi
    have hagg : (isAgg ty).run Try.prog w = .ok true w := by
      unfold isAgg
      rw [Sem.run_bind, run_underlying hu w]
      cases d <;> simp_all
    simp only [Array.length_toList, Array.toArray_toList, bytesOf_size] at hl
    simp [loadVar, Sem.run_bind, hagg, sizeOf, typeInfo, hq, hs, hl]
theorem ldSub {ops : Array Oper} {rest : List Oper} {o : Oper} {a : Act} {w : World} {Q : Exit → Act → World → Prop} (hgd : o.guard = none) (x : Operand) (ho : o.op = .load 47 x) (B p : Nat) (f : Nat → Int) (hx : a.eval x = .pointer (some ⟨B, p, none⟩)) (hr : Row w B 256 f) (hp : p + 64 ≤ 256)
    (k : wpList Try.prog ops Q rest (a.put o.dst (.agg (bytesOf 64 (fromF f p)))) w) : wpList Try.prog ops Q (o :: rest) a w := by
  refine wpList_plain hgd fun _ hK => ?_
  unfold Oper.wp execOp
  simp only [ho, hx, Instr.loadAt, Instr.sureAddr, Sem.run_bind, Sem.run_pure, Result.andThen_ok, run_load_sub w B 256 p 64 f 47 _ hr hp Try.underlying47 rfl info64]
  exact hK _ _ k

theorem iget_place (f : Nat → Int) (n : Int) (w : World) (h : ¬ placeP n) : Calls Try.prog 14 #[blkV f, .int .i64 n] w fun e w' => e = .returned (.tuple #[inoV (zeroI 0), .int .i64 2]) ∧ Below w.heap.size w w' := by
  have H : Hid (placeB n = false) := decide_eq_false h
  clear h
  unfold blkV
  refine (callsIn_wide (n := 3)).1 ?_
  refine callsIn_of_wp_marks Try.func14 rfl trivial ?_ rfl
  simp only [Try.ntmps14, List.size_toArray, List.length_cons, List.length_nil, Nat.reduceAdd, Nat.reduceSub, Array.replicate_succ, Array.replicate_zero, List.push_toArray, List.append_toArray, List.nil_append, List.cons_append]
  refine wpIn_wide.2 ?_
  go_wp2_with fail
  refine (place_any n _).mono ?_
  rintro e w1 ⟨rfl, hw⟩
  obtain ⟨h0, h1, hz, hB⟩ := alloc2_of hw
  have I1 : Hid (IAt w1 (w.heap.size + 1) (zeroI 0)) := ⟨_, h1⟩
  have B1 := hide hB
  clear hw h0 h1 hB
  rw [H.out]
  go_wp2_with (first
    | (refine stI rfl (.tmp 4) (.tmp 17) rfl (w.heap.size + 1) (zeroI 0) (zeroI 0) rfl rfl I1.out ?_; intro w2 hr2 ho2; have HR2 := hide hr2; have HO2 := hide ho2; clear hr2 ho2))
  have HB : Hid (Below w.heap.size w w2) := B1.out.trans (HO2.out.below (by omega) B1.out.size)
  exact ⟨_, results_ino rfl _ _ _ _ _ rfl rfl HR2.out, rfl, HB.out⟩

/-- The result's place, the array, the inode in the making. -/
structure IGet (w : World) (h : Nat → Int) (A B : Nat) (y : Ino) (v : World) : Prop where
  lo : w.heap.size + 1 + 1 ≤ A
  lt : A < B
  res : IAt v (w.heap.size + 1) (zeroI 0)
  arr : Row v A 64 h
  ino : IAt v B y
  old : Below w.heap.size w v
section
variable {w v v' : World} {h : Nat → Int} {A B : Nat} {y z : Ino}
theorem IGet.below (g : IGet w h A B y v) (k : Below v.heap.size v v') : IGet w h A B y v' :=
  ⟨g.lo, g.lt, g.res.below k g.res.lt, g.arr.below k g.arr.lt, g.ino.below k g.ino.lt, g.old.trans (k.mono g.old.size)⟩
theorem IGet.drew (g : IGet w h A B y v) : IGet w h A B y v.drew := ⟨g.lo, g.lt, g.res, g.arr, g.ino, g.old.drew⟩
theorem IGet.step : ∀ v v', IGet w h A B y v → Below v.heap.size v v' → IGet w h A B y v' := fun _ _ g k => g.below k
theorem IGet.only (g : IGet w h A B y v) (k : Only B v v') (r : IAt v' B z) : IGet w h A B z v' :=
  have l1 := g.lo
  have l2 := g.lt
  ⟨g.lo, g.lt, g.res.only k (by omega), g.arr.only k (by omega), r, g.old.trans (k.below (by omega) g.old.size)⟩
end
/-- At the end: the deferred list, too. -/
structure IEnd (w : World) (h : Nat → Int) (A B : Nat) (y : Ino) (D : Nat) (v : World) : Prop where
  get : IGet w h A B y v
  def_ : v.heap[D]? = some (.deferred (some []))
theorem IEnd.step {w : World} {h : Nat → Int} {A B D : Nat} {y : Ino} : ∀ v v', IEnd w h A B y D v → Below v.heap.size v v' → IEnd w h A B y D v' := fun _ _ g k => ⟨g.get.below k, (k.block D (lt_of_some g.def_)).trans g.def_⟩
theorem IEnd.drew {w v : World} {h : Nat → Int} {A B D : Nat} {y : Ino} (g : IEnd w h A B y D v) : IEnd w h A B y D v.drew := ⟨g.get.drew, g.def_⟩
theorem decI_ok {f : Nat → Int} (hf : IsByte f) (p : Nat) : InoOk (decI f p) := by
  have a := part_bd hf (p + 2) 2
  have b := part_bd hf (p + 8) 4
  refine ⟨hf p, ?_, part4_bd hf (p + 4), ?_, fun i => ?_, part4_bd hf (p + 56)⟩
  · show _ ≤ part f (p + 2) 2 ∧ part f (p + 2) 2 ≤ _; omega
  · show _ ≤ part f (p + 8) 4 ∧ part f (p + 8) 4 ≤ _; omega
  · show 0 ≤ (if i < 11 then part f (p + 12 + 4 * i) 4 else 0) ∧ (if i < 11 then part f (p + 12 + 4 * i) 4 else 0) ≤ _
    split
    · exact part4_bd hf _
    · omega
set_option maxRecDepth 100000 in
set_option maxHeartbeats 4000000 in
theorem iget_in (f : Nat → Int) (hf : IsByte f) (n : Int) (p : Nat) (w : World) (hn : n = (p : Int)) (h : placeP n) (b1 b2 : Bool) (hb1 : mayIB (decI f p) = b1) (hb2 : (!sameB (inoF (decI f p)) (fromF f p) 64) = b2) :
    Calls Try.prog 14 #[blkV f, .int .i64 n] w fun e w' => e = .returned (.tuple #[inoV (if b1 && !b2 then decI f p else zeroI 0), .int .i64 (if b1 && !b2 then 0 else 70)]) ∧ Below w.heap.size w w' := by
  have H : Hid (placeB n = true) := decide_eq_true h
  have HF := hide (fromF_byte hf p)
  have HX := hide (decI_ok hf p)
  have Hb1 := hide hb1
  have Hb2 := hide hb2
  have hp : p ≤ 192 := by have := placeP_four.1 h; omega
  have q0 : (p : Int) ≤ 192 := by omega
  have q1 : (0 : Int) ≤ (p : Int) := by omega
  have q2 : (p : Int) + 64 ≤ 256 := by omega
  have q3 : (p : Int) ≤ (p : Int) + 64 := by omega
  have q5 : ((p : Int) + 64).toNat = p + 64 := by omega
  have q6 : ¬ 256 = p := by omega
  have q7 : p + 64 - p = 64 := by omega
  subst hn
  clear h hf hb1 hb2
  unfold blkV
  refine (callsIn_wide (n := 3)).1 ?_
  refine callsIn_of_wp_marks Try.func14 rfl trivial ?_ rfl
  simp only [Try.ntmps14, List.size_toArray, List.length_cons, List.length_nil, Nat.reduceAdd, Nat.reduceSub, Array.replicate_succ, Array.replicate_zero, List.push_toArray, List.append_toArray, List.nil_append, List.cons_append]
  refine wpIn_wide.2 ?_
  go_wp2_with fail
  refine (place_any _ _).mono ?_
  rintro e w1 ⟨rfl, hw⟩
  obtain ⟨h0, h1, hz, hB⟩ := alloc2_of hw
  have R1 : Hid (Row w1 w.heap.size 256 f) := ⟨_, h0⟩
  have I1 : Hid (IAt w1 (w.heap.size + 1) (zeroI 0)) := ⟨_, h1⟩
  have B1 := hide hB
  have Z1 := hide hz
  clear hw h0 h1 hB hz
  rw [H.out]
  have ha := run_arrayAt (P := Try.prog) (w := w1) 47 5 64 (some ⟨w.heap.size, p, none⟩) 64 (256 - p) Try.underlying47 (Nat.le_refl _)
  go_wp2_with (first
    | (refine ldSub rfl (.tmp 22) rfl w.heap.size p f rfl R1.out (by omega) ?_)
    | (refine st64 rfl (.tmp 6) (.tmp 23) rfl w1.heap.size zeroF (fromF f p) rfl rfl (row_of_lit (heap_alloc_new w1 _) (by rfl)) ?_; intro w2 hr2 ho2; have HR2 := hide hr2; have HO2 := hide ho2; clear hr2 ho2))
  have hA := Nat.le_of_eq Z1.out.symm
  generalize w1.heap.size = A at *
  have I2 := hide ((I1.out.alloc (.cells (bytesOf 64 zeroF) 47)).only HO2.out (by omega))
  have B2 : Hid (Below w.heap.size w w2) := (B1.out.alloc B1.out.size (.cells (bytesOf 64 zeroF) 47)).trans (HO2.out.below (by omega) (by simp only [World.size_alloc]; have := B1.out.size; omega))
  clear Z1 I1 B1 HO2 R1 ha
  refine (Get16_in A 64 2 2 (fromF f p) _ rfl HR2.out HF.out (by omega) (by omega)).mono ?_
  rintro e w3 ⟨rfl, rfl⟩
  go_wp2_with fail
  refine (Get32_in A 64 8 8 (fromF f p) _ rfl HR2.out HF.out (by omega) (by omega)).mono ?_
  rintro e w3 ⟨rfl, rfl⟩
  have d1 := (part2_bd HF.out 2).1
  have d2 := (part2_bd HF.out 2).2
  have d3 := (part4_bd HF.out 8).1
  have d4 := (part4_bd HF.out 8).2
  have hc := HR2.out.cell (i := 0) (by omega)
  have hA2 := HR2.out.lt
  go_wp2_with (first
    | (refine stI rfl (.tmp 11) (.tmp 40) rfl w2.heap.size (zeroI 0) (headI (fromF f p)) rfl rfl (IAt.new w2 _ (zeroI 0)) ?_
       intro w4 hr4 ho4
       have S4 : Hid (IGet w (fromF f p) A w2.heap.size (headI (fromF f p)) w4) :=
         ⟨by omega, hA2, (I2.out.alloc _).only ho4 (by omega), (HR2.out.alloc _).only ho4 (by omega), hr4,
          (B2.out.alloc B2.out.size _).trans (ho4.below (by omega) (by simp only [World.size_alloc]; omega))⟩
       clear hr4 ho4 HR2 I2 B2 hc)
    | (go_at_call 24; refine (callsIn_wide.1 (longs_in 3 _ _)).mono ?_; rintro e w5 ⟨rfl, hw5⟩))
  generalize w2.heap.size = B at *
  clear hw5 w5
  obtain ⟨V3, hV3⟩ : ∃ V3, w4.alloc (.cells #[.pointer (some ⟨B, 0, none⟩)] 56) = V3 := ⟨_, rfl⟩
  rw [hV3]
  have hbx : V3.heap[w4.heap.size]? = some (.cells #[.pointer (some ⟨B, 0, none⟩)] 56 (0, 0)) := by rw [← hV3]; exact heap_alloc_new w4 _
  have HBx := hide hbx
  have hB3 : Hid (Below w4.heap.size w4 V3) := by rw [← hV3]; exact (Below.refl _ w4).alloc (Nat.le_refl _) _
  have hsz : w4.heap.size < V3.heap.size := lt_of_block hbx
  have hBl : B < w4.heap.size := S4.out.ino.lt
  have S5 := hide (S4.out.below hB3.out)
  clear hV3 hbx S4 d1 d2 d3 d4 q1 q2 q3 q5 q6 q7 q0
  refine (wpIn_wide (n := 3)).1 ?_
  refine wpIn_rangeFunc_ownG rfl (by omega) (gf := 32) (lb := #[.pointer (some ⟨w4.heap.size, 0, none⟩)]) rfl trivial (enters_of Try.func32 (by kernel_rfl) rfl)
    (longs_stops 2 (by omega) w4.heap.size B V3 HBx.out)
    (fun h k => h.trans k) (fun W l o o' hl ho hc _ => ⟨by simp, ?kb⟩) (Below.refl _ _) (fun _ => rfl)
    (fun pre W => IAt W B (rdN (fromF f p) (headI (fromF f p)) (pre.map Fin.val)) ∧ Only B V3 W)
    (fun c pre W => False)
    (OwnFrom.and (own_ino _ _ _) (own_only (Nat.le_refl _))) (fun c => ownFrom_pure _ (fun _ => False))
    ⟨S5.out.ino, Only.refl _ _⟩
    (fun k => { tmps := #[Value.agg (bytesOf 256 f), .int .i64 p, .pointer (some ⟨w.heap.size, 0, none⟩), undef, .pointer (some ⟨w.heap.size + 1, 0, none⟩), .int .i64 0, .pointer (some ⟨A, 0, none⟩), .int .u32 (part (fromF f p) 2 2), .bool true, .int .u32 (part (fromF f p) 8 4), .bool true, .pointer (some ⟨B, 0, none⟩), .int .i64 (plAt k.val), .pointer (some ⟨B, ofAt k.val, none⟩), .int .i64 p, .bool true, .bool false, undef, .int .i64 p, .int .i64 p, .int .i64 (p + 64), .slice (some ⟨w.heap.size, p, none⟩) 64 (256 - p), .pointer (some ⟨w.heap.size, p, none⟩), .agg (bytesOf 64 (fromF f p)), .tuple #[.int .u32 (part (fromF f p) 2 2), .bool true], .slice (some ⟨A, 0, none⟩) 64 64, .tuple #[.int .u32 (part (fromF f p) 2 2), .bool true], .int .u32 (part (fromF f p) 2 2), .bool true, .tuple #[.int .u32 (part (fromF f p) 8 4), .bool true], .slice (some ⟨A, 0, none⟩) 64 64, .tuple #[.int .u32 (part (fromF f p) 8 4), .bool true], .int .u32 (part (fromF f p) 8 4), .bool true, .pointer (some ⟨A, 0, none⟩), .int .u8 (fromF f p 0), .int .u32 (part (fromF f p) 2 2), .int .i64 (part (fromF f p) 2 2), .int .u32 (part (fromF f p) 8 4), .int .i64 (part (fromF f p) 8 4), .agg (inoC (headI (fromF f p))), .func (.func 32) #[] #[.pointer (some ⟨w4.heap.size, 0, none⟩)], .int .i64 (plAt k.val), .pointer (some ⟨B, ofAt k.val, none⟩), undef, undef, undef, undef, undef, undef, undef, undef, undef, undef, undef, undef, undef, undef, undef, undef, undef, undef, undef], defers := [] }) ?assign ?body ?done ?stop
  case kb => exact World.putObj_heap_other (by omega)
  case assign =>
    intro l k W K hK
    unfold longEnc
    gi_wp2
    exact hK
  case body =>
    rintro l pre k W ⟨hr, ho⟩ _
    have HR := hide hr
    have HO := hide ho
    have S6 := hide (S5.out.only ho hr)
    have cl := hr.cl' k
    have fz := hr.frozen (ofAt k.val)
    have HS := hide (hr.setL k (part (fromF f p) (plN k.val) 4))
    have HP := hide (plN_plAt k.val)
    have HL := hide (plN_lt k.isLt)
    have AR := hide S6.out.arr
    clear hr ho S6
    generalize plAt k.val = pl at *
    generalize hoff : ofAt k.val = off at *
    gi_wp2_with (refine ⟨trivial, ?_⟩; gi_at_call 23; refine (callsIn_wide.2 (Get32_in A 64 pl (plN k.val) (fromF f p) _ HP.out.symm AR.out HF.out (by omega) HL.out)).mono ?_; rintro e V ⟨rfl, rfl⟩)
    clear cl fz
    have hwz := HO.out.size
    have ho := (Only.refl B W).setCell off (.int .u32 (part (fromF f p) (plN k.val) 4))
    exact ⟨KeepsFrom.of_grownBy ho (fun j e => by cases e; omega), ⟨ho.size, ho.block _ (by omega) (fun e => by injection e; omega)⟩, by rw [List.map_append, List.map_cons, List.map_nil, rdN_snoc]; exact HS.out, HO.out.trans ho⟩
  case done =>
    rintro D ys W hD hys ⟨hr, ho⟩ hK
    have e : rdN (fromF f p) (headI (fromF f p)) (ys.map Fin.val) = decI f p := by rw [hys, rdN_all, decI_from]
    rw [e] at hr
    have P5 : Hid (IEnd w (fromF f p) A B (decI f p) D W) := ⟨S5.out.only ho hr, hK⟩
    clear hr ho hK hys e S5
    dsimp only [Exit.inBlock, Exit.then]
    have hV3 : w.heap.size + 1 + 1 < V3.heap.size := by omega
    cases b1
    · go_wp2_with fail
      have ne : Nonempty (Of (IEnd w (fromF f p) A B (decI f p) D)) := ⟨⟨_, P5.out⟩⟩
      refine wp_region_sub (IEnd w (fromF f p) A B (decI f p) D) (by kernel_rfl) (by kernel_rfl) (P5.out.drew) ?_
      repeat (first
        | go_big_quiet_skip
        | (go_big_quiet_want
           first
           | (refine qldI (.tmp 11) rfl _ _ rfl (fun v h => h.get.ino) ?_)
           | (refine ld64' (.tmp 6) rfl _ _ rfl (fun v h => h.get.arr) ?_)
           | (refine qneq64 (.tmp 57) (.tmp 58) rfl _ _ rfl rfl Hb2.out ?_)
           simp only [Act.put, List.setIfInBounds_toArray, List.set_cons_succ, List.set_cons_zero]
           go_big_quiet_on)
        | (go_big_quiet_want
           go_big_quiet_op
           first
           | go_big_quiet_on
           | go_big_quiet_call (first
             | (go_at_call 12; exact sub_calls IEnd.step (imay_is Hb1.out _))
             | (go_at_call 18; exact sub_calls IEnd.step (bytes_any (decI f p) _ HX.out (of_decide_eq_true Hb1.out))))))
      refine wpQuiet_nil ?_
      rintro w' ⟨s, rfl⟩
      obtain ⟨V, hV⟩ := s
      show Exit.then _ _ _ _ V
      clear ne P5
      have P6 := hide hV
      clear hV
      go_wp2_with ((refine stI rfl (.tmp 4) (.tmp 61) rfl (w.heap.size + 1) (zeroI 0) (zeroI 0) rfl rfl P6.out.get.res ?_; intro V4 hr4 ho4; have HR4 := hide hr4; have HO4 := hide ho4; clear hr4 ho4))
      have l1 := P6.out.get.lo
      have hz4 := HO4.out.size
      have hK4 : V4.heap[D]? = some (.deferred (some [])) := (HO4.out.block D (lt_of_some P6.out.def_) (fun e => by injection e; omega)).trans P6.out.def_
      have hR5 : IAt (V4.putObj D (.deferred none)) (w.heap.size + 1) (zeroI 0) := HR4.out.of_heap (World.putObj_heap_other (by omega))
      have HB : Below w.heap.size w V4 := P6.out.get.old.trans (HO4.out.below (by omega) P6.out.get.old.size)
      refine ⟨by simp, .inl ⟨_, _, rfl, run_takeDeferred hK4, ?_⟩⟩
      exact ⟨_, results_ino rfl _ _ _ _ _ rfl rfl hR5, rfl, HB.trans (belowK_b (w := w) (Nat.le_refl _) _ D _ _ (by omega) hK4 rfl rfl)⟩
    · cases b2
      · go_wp2_with fail
        have ne : Nonempty (Of (IEnd w (fromF f p) A B (decI f p) D)) := ⟨⟨_, P5.out⟩⟩
        refine wp_region_sub (IEnd w (fromF f p) A B (decI f p) D) (by kernel_rfl) (by kernel_rfl) (P5.out.drew) ?_
        repeat (first
          | go_big_quiet_skip
          | (go_big_quiet_want
             first
             | (refine qldI (.tmp 11) rfl _ _ rfl (fun v h => h.get.ino) ?_)
             | (refine ld64' (.tmp 6) rfl _ _ rfl (fun v h => h.get.arr) ?_)
             | (refine qneq64 (.tmp 57) (.tmp 58) rfl _ _ rfl rfl Hb2.out ?_)
             simp only [Act.put, List.setIfInBounds_toArray, List.set_cons_succ, List.set_cons_zero]
             go_big_quiet_on)
          | (go_big_quiet_want
             go_big_quiet_op
             first
             | go_big_quiet_on
             | go_big_quiet_call (first
               | (go_at_call 12; exact sub_calls IEnd.step (imay_is Hb1.out _))
               | (go_at_call 18; exact sub_calls IEnd.step (bytes_any (decI f p) _ HX.out (of_decide_eq_true Hb1.out))))))
        refine wpQuiet_nil ?_
        rintro w' ⟨s, rfl⟩
        obtain ⟨V, hV⟩ := s
        show Exit.then _ _ _ _ V
        clear ne P5
        have P6 := hide hV
        clear hV
        go_wp2_with (first
          | (refine ldI rfl (.tmp 11) rfl _ _ rfl P6.out.get.ino ?_)
          | (refine stI rfl (.tmp 4) (.tmp 62) rfl (w.heap.size + 1) (zeroI 0) (decI f p) rfl rfl P6.out.get.res ?_; intro V4 hr4 ho4; have HR4 := hide hr4; have HO4 := hide ho4; clear hr4 ho4))
        have l1 := P6.out.get.lo
        have hz4 := HO4.out.size
        have hK4 : V4.heap[D]? = some (.deferred (some [])) := (HO4.out.block D (lt_of_some P6.out.def_) (fun e => by injection e; omega)).trans P6.out.def_
        have hR5 : IAt (V4.putObj D (.deferred none)) (w.heap.size + 1) (decI f p) := HR4.out.of_heap (World.putObj_heap_other (by omega))
        have HB : Below w.heap.size w V4 := P6.out.get.old.trans (HO4.out.below (by omega) P6.out.get.old.size)
        refine ⟨by simp, .inl ⟨_, _, rfl, run_takeDeferred hK4, ?_⟩⟩
        exact ⟨_, results_ino rfl _ _ _ _ _ rfl rfl hR5, rfl, HB.trans (belowK_b (w := w) (Nat.le_refl _) _ D _ _ (by omega) hK4 rfl rfl)⟩
      · go_wp2_with fail
        have ne : Nonempty (Of (IEnd w (fromF f p) A B (decI f p) D)) := ⟨⟨_, P5.out⟩⟩
        refine wp_region_sub (IEnd w (fromF f p) A B (decI f p) D) (by kernel_rfl) (by kernel_rfl) (P5.out.drew) ?_
        repeat (first
          | go_big_quiet_skip
          | (go_big_quiet_want
             first
             | (refine qldI (.tmp 11) rfl _ _ rfl (fun v h => h.get.ino) ?_)
             | (refine ld64' (.tmp 6) rfl _ _ rfl (fun v h => h.get.arr) ?_)
             | (refine qneq64 (.tmp 57) (.tmp 58) rfl _ _ rfl rfl Hb2.out ?_)
             simp only [Act.put, List.setIfInBounds_toArray, List.set_cons_succ, List.set_cons_zero]
             go_big_quiet_on)
          | (go_big_quiet_want
             go_big_quiet_op
             first
             | go_big_quiet_on
             | go_big_quiet_call (first
               | (go_at_call 12; exact sub_calls IEnd.step (imay_is Hb1.out _))
               | (go_at_call 18; exact sub_calls IEnd.step (bytes_any (decI f p) _ HX.out (of_decide_eq_true Hb1.out))))))
        refine wpQuiet_nil ?_
        rintro w' ⟨s, rfl⟩
        obtain ⟨V, hV⟩ := s
        show Exit.then _ _ _ _ V
        clear ne P5
        have P6 := hide hV
        clear hV
        go_wp2_with ((refine stI rfl (.tmp 4) (.tmp 61) rfl (w.heap.size + 1) (zeroI 0) (zeroI 0) rfl rfl P6.out.get.res ?_; intro V4 hr4 ho4; have HR4 := hide hr4; have HO4 := hide ho4; clear hr4 ho4))
        have l1 := P6.out.get.lo
        have hz4 := HO4.out.size
        have hK4 : V4.heap[D]? = some (.deferred (some [])) := (HO4.out.block D (lt_of_some P6.out.def_) (fun e => by injection e; omega)).trans P6.out.def_
        have hR5 : IAt (V4.putObj D (.deferred none)) (w.heap.size + 1) (zeroI 0) := HR4.out.of_heap (World.putObj_heap_other (by omega))
        have HB : Below w.heap.size w V4 := P6.out.get.old.trans (HO4.out.below (by omega) P6.out.get.old.size)
        refine ⟨by simp, .inl ⟨_, _, rfl, run_takeDeferred hK4, ?_⟩⟩
        exact ⟨_, results_ino rfl _ _ _ _ _ rfl rfl hR5, rfl, HB.trans (belowK_b (w := w) (Nat.le_refl _) _ D _ _ (by omega) hK4 rfl rfl)⟩
  case stop =>
    rintro D c pre W hD hSp hF
    exact hF.elim
end Go.Proofs.Ytdnalmikndilpaa
