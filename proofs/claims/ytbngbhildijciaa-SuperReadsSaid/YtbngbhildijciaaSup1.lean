/- What the superblock's walks lean on: whole blocks, loaded, stored, compared; numbers in them. -/
import Derived.Test.YtbngbhildijciaaCrc6
import Derived.Test.YtbngbhildijciaaNum3
import Derived.Test.YtbngbhildijciaaNum4I
import Derived.Test.YtbngbhildijciaaRZero
import Derived.Test.YtbngbhildijciaaNumQ
import Derived.ChangeKeysEq
import Derived.Laws.StructEq
import Derived.StillTailTactics
import Derived.Deep.MidRow
import Derived.Deep.QuietTactic
import Derived.BigQuiet
import Derived.BigFrame
import Derived.Laws.ResultCell
namespace Go.Proofs.Ytbngbhildijciaa
open Go.RowKit Go.BigFrame
set_option linter.unusedVariables false

theorem eqItems_ints {P : Program} (w : World) (d : Nat) {e : TypeId} {k : IntKind} (he : P.underlying e = some (.int k)) (f h : Nat → Int) (xs ys : Array Value) : ∀ is : List Nat,
    (∀ i ∈ is, xs[i]? = some (.int k (f i)) ∧ ys[i]? = some (.int k (h i))) → (Op.eqItems (d + 1) e 1 xs ys is).run P w = .ok (is.all fun i => f i == h i) w
  | [], _ => by simp [Op.eqItems]
  | i :: is, H => by
    obtain ⟨hx, hy⟩ := H i (by simp)
    have ih := eqItems_ints w d he f h xs ys is (fun j hj => H j (by simp [hj]))
    have px : (Go.part e xs (i * 1)).run P w = .ok (.int k (f i)) w := by simp [Go.part, isAgg, run_underlying he, hx]
    have py : (Go.part e ys (i * 1)).run P w = .ok (.int k (h i)) w := by simp [Go.part, isAgg, run_underlying he, hy]
    simp only [Op.eqItems, Sem.run_bind, px, py, Result.andThen_ok, run_equalIn_int w d e k k _ _ he, List.all_cons]
    cases hb : (f i == h i)
    · simp
    · simp only [Bool.not_true, Bool.false_eq_true, if_false, Bool.true_and]
      exact ih
theorem all_sameB (f h : Nat → Int) (n : Nat) : ((List.range n).all fun i => f i == h i) = sameB f h n := by
  rw [Bool.eq_iff_iff, sameB_iff, List.all_eq_true]
  simp
/-- Two rows of numbers are the same. -/
theorem equalIn_ints {P : Program} (w : World) (d : Nat) {t e : TypeId} {n : Nat} {k : IntKind} {i : TypeInfo} (ht : P.underlying t = some (.array n e)) (he : P.underlying e = some (.int k)) (hi : P.info? e = some i) (hc : P.cellsOf e = 1)
    (f h : Nat → Int) (xs ys : Array Value) (hx : ∀ i, i < n → xs[i]? = some (.int k (f i))) (hy : ∀ i, i < n → ys[i]? = some (.int k (h i))) :
    (Op.equalIn (d + 2) t (.agg xs) (.agg ys)).run P w = .ok (sameB f h n) w := by
  rw [run_equalIn_array w (d + 1) xs ys ht hi, hc, eqItems_ints w d he f h xs ys _ (fun i hi => ⟨hx i (List.mem_range.1 hi), hy i (List.mem_range.1 hi)⟩), all_sameB]

/-- A block; an inode's bytes. -/
def blkV (f : Nat → Int) : Value := .agg (bytesOf 256 f)
theorem some_info : ∃ i, Try.prog.info? 5 = some i := by
  cases h : Try.prog.info? 5 with
  | some i => exact ⟨i, rfl⟩
  | none =>
    have : (Try.prog.info? 5).isSome = true := by kernel_rfl
    rw [h] at this; cases this
theorem eql_blk (f h : Nat → Int) (w : World) : (binOp .eql 29 (.agg (bytesOf 256 f)) (.agg (bytesOf 256 h))).run Try.prog w = .ok (.bool (sameB f h 256)) w := by
  obtain ⟨i, hi⟩ := some_info
  rw [run_eql_struct, equalIn_ints w 9998 Try.underlying29 Try.underlying5 hi (by kernel_rfl) f h _ _ (fun i hi => bytesOf_get f hi) (fun i hi => bytesOf_get h hi)]
  rfl
theorem neq_blk (f h : Nat → Int) (w : World) : (binOp .neq 29 (.agg (bytesOf 256 f)) (.agg (bytesOf 256 h))).run Try.prog w = .ok (.bool (!sameB f h 256)) w := by
  obtain ⟨i, hi⟩ := some_info
  rw [run_neq_struct, equalIn_ints w 9998 Try.underlying29 Try.underlying5 hi (by kernel_rfl) f h _ _ (fun i hi => bytesOf_get f hi) (fun i hi => bytesOf_get h hi)]
  rfl
section
variable {ops : Array Oper} {rest : List Oper} {o : Oper} {a : Act} {w : World} {Q : Exit → Act → World → Prop}
theorem info256 : (Try.prog.info? 29).map (·.size) = some 256 := by kernel_rfl
theorem ld256 (hgd : o.guard = none) (x : Operand) (ho : o.op = .load 29 x) (B : Nat) (f : Nat → Int) (hx : a.eval x = .pointer (some ⟨B, 0, none⟩)) (h : Row w B 256 f)
    (k : wpList Try.prog ops Q rest (a.put o.dst (.agg (bytesOf 256 f))) w) : wpList Try.prog ops Q (o :: rest) a w := by
  obtain ⟨t, h⟩ := h
  exact wpList_load_row hgd _ x ho B hx t _ (0, 0) _ h Try.underlying29 rfl (by rw [bytesOf_size]; exact info256) k
theorem eqlB (hgd : o.guard = none) (x y : Operand) (ho : o.op = .binOp .eql 29 x y 29) (f h : Nat → Int) (hx : a.eval x = .agg (bytesOf 256 f)) (hy : a.eval y = .agg (bytesOf 256 h))
    (k : wpList Try.prog ops Q rest (a.put o.dst (.bool (sameB f h 256))) w) : wpList Try.prog ops Q (o :: rest) a w := by
  refine wpList_plain hgd fun _ hK => ?_
  unfold Oper.wp execOp
  simp only [ho, hx, hy, Sem.run_bind, run_eqGuard_agg w .eql 29 x y _ _ (by kernel_rfl : Try.prog.eqGuardType Try.prog.depth 29 = false), Result.andThen_ok, eql_blk, Sem.run_pure]
  exact hK _ _ k
theorem neqB (hgd : o.guard = none) (x y : Operand) (ho : o.op = .binOp .neq 29 x y 29) (f h : Nat → Int) (hx : a.eval x = .agg (bytesOf 256 f)) (hy : a.eval y = .agg (bytesOf 256 h))
    (k : wpList Try.prog ops Q rest (a.put o.dst (.bool (!sameB f h 256))) w) : wpList Try.prog ops Q (o :: rest) a w := by
  refine wpList_plain hgd fun _ hK => ?_
  unfold Oper.wp execOp
  simp only [ho, hx, hy, Sem.run_bind, run_eqGuard_agg w .neq 29 x y _ _ (by kernel_rfl : Try.prog.eqGuardType Try.prog.depth 29 = false), Result.andThen_ok, neq_blk, Sem.run_pure]
  exact hK _ _ k
theorem bytes_one (n : Nat) (f : Nat → Int) : (bytesOf n f).all (·.oneCell') = true := by
  rw [Array.all_eq_true]
  intro i hi
  simp [bytesOf, Value.oneCell']
theorem only_setRow (w : World) (g : Nat) (cs : Array Value) : Only g w (w.setRow g cs) :=
  ⟨rfl, rfl, rfl, by simp [World.setRow], fun k _ hk => setRow_other w g k cs (fun e => hk (by rw [e]))⟩
theorem st256 (hgd : o.guard = none) (x y : Operand) (ho : o.op = .store 29 x y) (B : Nat) (f h : Nat → Int) (hx : a.eval x = .pointer (some ⟨B, 0, none⟩)) (hy : a.eval y = .agg (bytesOf 256 h)) (hr : Row w B 256 f)
    (k : ∀ w', Row w' B 256 h → Only B w w' → wpList Try.prog ops Q rest (a.put o.dst undef) w') : wpList Try.prog ops Q (o :: rest) a w := by
  obtain ⟨t, hr⟩ := hr
  refine wpList_store_row hgd _ x y ho B _ hx hy t _ hr (by rw [bytesOf_size]; exact info256) (by rw [bytesOf_size, bytesOf_size]) (bytes_one _ _) (k _ ⟨t, setRow_heap w B _ _ t _ hr⟩ (only_setRow _ _ _))
end
theorem zero_blk : ∃ i, Try.prog.info? 29 = some i ∧ i.zero = some (.agg (bytesOf 256 zeroF)) := by
  have h : (Try.prog.info? 29).map (·.zero) = some (some (.agg (bytesOf 256 zeroF))) := by kernel_rfl
  cases hi : Try.prog.info? 29 with
  | none => rw [hi] at h; cases h
  | some i => rw [hi] at h; exact ⟨i, rfl, by simpa using h⟩
theorem allocB {ops : Array Oper} {rest : List Oper} {o : Oper} {a : Act} {w : World} {Q : Exit → Act → World → Prop} (hgd : o.guard = none) (ho : o.op = .alloc 29)
    (k : wpList Try.prog ops Q rest (a.put o.dst (.pointer (some ⟨w.heap.size, 0, none⟩))) (w.alloc (.cells (bytesOf 256 zeroF) 29))) : wpList Try.prog ops Q (o :: rest) a w := by
  obtain ⟨i, hi, hz⟩ := zero_blk
  refine wpList_plain hgd fun _ hK => ?_
  unfold Oper.wp execOp
  simp [ho, Instr.alloc, zeroValue, typeInfo, hi, hz, newVar, newRow, Value.cells]
  exact hK _ _ k
theorem results_blk {fn : Func} {p u : Tmp} (h : fn.results = #[.cell p 29, .tmp u]) (tmps : Array Value) (w : World) (g : Nat) (f : Nat → Int) (v : Value)
    (hp : tmps.getD p undef = .pointer (some ⟨g, 0, none⟩)) (hu : tmps.getD u undef = v) (hr : Row w g 256 f) : (results fn tmps).run Try.prog w = .ok (.tuple #[.agg (bytesOf 256 f), v]) w := by
  obtain ⟨t, hg⟩ := hr
  rw [results_cell_tmp h, hp]
  simp [asAddr, Result.andThen, run_loadVar_row w g t 29 (bytesOf 256 f) (0, 0) _ hg Try.underlying29 rfl (by rw [bytesOf_size]; exact info256)]
  rw [← hu]; simp
/-- The worlds of a class. -/
structure Of (R : World → Prop) where
  val : World
  ok : R val
/-- A region that draws its order, whose operations only read what every world of a class holds, and whose calls stay in the class. -/
theorem wp_region_sub {P : Program} (R : World → Prop) {id : Nat} {Q : Exit → Act → World → Prop} {a : Act} {w : World} {l : List Oper} (hm : P.follows .mixedOrders = true) (hB : Region.lexB .any l.toArray = true) (h0 : R w.drew)
    (h : wpQuiet P l.toArray (fun w' => ∃ s : Of R, w' = s.val) (fun a' => ∀ w', (∃ s : Of R, w' = s.val) → Q .normal a' w') l a) : (Code.region id l.toArray true).wp P Q a w :=
  wp_region_quiet (C := fun w' => ∃ s : Of R, w' = s.val) hm hB ⟨⟨_, h0⟩, rfl⟩ (by simpa using h)
theorem sub_calls {P : Program} {R : World → Prop} {f : FuncId} {args : Array Value} {v : Value} {s : Of R} (hR : ∀ w w', R w → Below w.heap.size w w' → R w')
    (h : Calls P f args s.val fun e w' => e = .returned v ∧ Below s.val.heap.size s.val w') : Calls P f args s.val fun e w' => e = .returned v ∧ ∃ s' : Of R, w' = s'.val :=
  h.mono fun e w' ⟨he, hw⟩ => ⟨he, ⟨w', hR _ _ s.ok hw⟩, rfl⟩

section
variable {R : World → Prop} {o : Oper} {a : Act} {K : Act → Prop}
theorem qldB (x : Operand) (ho : o.op = .load 29 x) (B : Nat) (f : Nat → Int) (hx : a.eval x = .pointer (some ⟨B, 0, none⟩)) (h : ∀ w, R w → Row w B 256 f)
    (k : K (a.put o.dst (.agg (bytesOf 256 f)))) : o.quiet Try.prog a (fun w' => ∃ s : Of R, w' = s.val) K := by
  refine ⟨_, ?_, k⟩
  rintro _ ⟨s, rfl⟩
  obtain ⟨t, hr⟩ := h _ s.ok
  unfold Oper.quietAt execOp
  simp only [ho, hx, Instr.loadAt, Instr.sureAddr, Sem.run_bind, Sem.run_pure, Result.andThen_ok, run_loadVar_row s.val B t 29 (bytesOf 256 f) (0, 0) _ hr Try.underlying29 rfl (by rw [bytesOf_size]; exact info256)]
  exact ⟨rfl, rfl⟩
theorem qeqlB (x y : Operand) (ho : o.op = .binOp .eql 29 x y 29) (f h : Nat → Int) (hx : a.eval x = .agg (bytesOf 256 f)) (hy : a.eval y = .agg (bytesOf 256 h)) {b : Bool} (hb : sameB f h 256 = b)
    (k : K (a.put o.dst (.bool b))) : o.quiet Try.prog a (fun w' => ∃ s : Of R, w' = s.val) K := by
  subst hb
  refine ⟨_, ?_, k⟩
  rintro _ ⟨s, rfl⟩
  unfold Oper.quietAt execOp
  simp only [ho, hx, hy, Sem.run_bind, run_eqGuard_agg s.val .eql 29 x y _ _ (by kernel_rfl : Try.prog.eqGuardType Try.prog.depth 29 = false), Result.andThen_ok, eql_blk, Sem.run_pure]
  exact ⟨rfl, rfl⟩
theorem qneqB (x y : Operand) (ho : o.op = .binOp .neq 29 x y 29) (f h : Nat → Int) (hx : a.eval x = .agg (bytesOf 256 f)) (hy : a.eval y = .agg (bytesOf 256 h)) {b : Bool} (hb : (!sameB f h 256) = b)
    (k : K (a.put o.dst (.bool b))) : o.quiet Try.prog a (fun w' => ∃ s : Of R, w' = s.val) K := by
  subst hb
  refine ⟨_, ?_, k⟩
  rintro _ ⟨s, rfl⟩
  unfold Oper.quietAt execOp
  simp only [ho, hx, hy, Sem.run_bind, run_eqGuard_agg s.val .neq 29 x y _ _ (by kernel_rfl : Try.prog.eqGuardType Try.prog.depth 29 = false), Result.andThen_ok, neq_blk, Sem.run_pure]
  exact ⟨rfl, rfl⟩
end
theorem sameB_self (f : Nat → Int) (n : Nat) : sameB f f n = true := (sameB_iff f f n).2 fun _ _ => rfl
section
variable {ops : Array Oper} {rest : List Oper} {o : Oper} {a : Act} {w : World} {Q : Exit → Act → World → Prop}
theorem ldBg (hgd : Region.wanted o (yielded ops a.tmps) = true) (x : Operand) (ho : o.op = .load 29 x) (B : Nat) (f : Nat → Int) (hx : a.eval x = .pointer (some ⟨B, 0, none⟩)) (h : Row w B 256 f)
    (k : wpList Try.prog ops Q rest (a.put o.dst (.agg (bytesOf 256 f))) w) : wpList Try.prog ops Q (o :: rest) a w := by
  obtain ⟨t, h⟩ := h
  exact wpList_want hgd fun _ hK => wp_load_row _ x ho B hx t _ (0, 0) _ h Try.underlying29 rfl (by rw [bytesOf_size]; exact info256) (hK _ _ k)
theorem eqlBg (hgd : Region.wanted o (yielded ops a.tmps) = true) (x y : Operand) (ho : o.op = .binOp .eql 29 x y 29) (f h : Nat → Int) (hx : a.eval x = .agg (bytesOf 256 f)) (hy : a.eval y = .agg (bytesOf 256 h)) {b : Bool} (hb : sameB f h 256 = b)
    (k : wpList Try.prog ops Q rest (a.put o.dst (.bool b)) w) : wpList Try.prog ops Q (o :: rest) a w := by
  subst hb
  refine wpList_want hgd fun _ hK => ?_
  unfold Oper.wp execOp
  simp only [ho, hx, hy, Sem.run_bind, run_eqGuard_agg w .eql 29 x y _ _ (by kernel_rfl : Try.prog.eqGuardType Try.prog.depth 29 = false), Result.andThen_ok, eql_blk, Sem.run_pure]
  exact hK _ _ k
theorem neqBg (hgd : Region.wanted o (yielded ops a.tmps) = true) (x y : Operand) (ho : o.op = .binOp .neq 29 x y 29) (f h : Nat → Int) (hx : a.eval x = .agg (bytesOf 256 f)) (hy : a.eval y = .agg (bytesOf 256 h)) {b : Bool} (hb : (!sameB f h 256) = b)
    (k : wpList Try.prog ops Q rest (a.put o.dst (.bool b)) w) : wpList Try.prog ops Q (o :: rest) a w := by
  subst hb
  refine wpList_want hgd fun _ hK => ?_
  unfold Oper.wp execOp
  simp only [ho, hx, hy, Sem.run_bind, run_eqGuard_agg w .neq 29 x y _ _ (by kernel_rfl : Try.prog.eqGuardType Try.prog.depth 29 = false), Result.andThen_ok, neq_blk, Sem.run_pure]
  exact hK _ _ k
end
theorem alloc3 (w : World) (A B C : Obj) : (((w.alloc A).alloc B).alloc C).heap[w.heap.size]? = some A ∧ (((w.alloc A).alloc B).alloc C).heap[w.heap.size + 1]? = some B ∧ (((w.alloc A).alloc B).alloc C).heap[w.heap.size + 1 + 1]? = some C ∧
    Below w.heap.size w (((w.alloc A).alloc B).alloc C) := by
  have n1 := heap_alloc_new (w.alloc A) B
  have n2 := heap_alloc_new ((w.alloc A).alloc B) C
  simp only [World.size_alloc] at n1 n2
  refine ⟨?_, ?_, n2, ?_⟩
  · exact (Below.heap_alloc _ C _ (by simp only [World.size_alloc]; omega)).trans ((Below.heap_alloc _ B _ (by simp only [World.size_alloc]; omega)).trans (heap_alloc_new w A))
  · exact (Below.heap_alloc _ C _ (by simp only [World.size_alloc]; omega)).trans n1
  · exact (((Below.refl _ w).alloc (Nat.le_refl _) A).alloc (by simp only [World.size_alloc]; omega) B).alloc (by simp only [World.size_alloc]; omega) C

theorem alloc3_of {w W0 : World} {A B C : Obj} (h : ((w.alloc A).alloc B).alloc C = W0) : W0.heap[w.heap.size]? = some A ∧ W0.heap[w.heap.size + 1]? = some B ∧ W0.heap[w.heap.size + 1 + 1]? = some C ∧ Below w.heap.size w W0 := h ▸ alloc3 w A B C
theorem Put16_in (g n : Nat) (i : Int) (p : Nat) (f : Nat → Int) (v : Int) (w : World) (hi : i = p) (hs : Row w g n f) (hn : (n : Int) ≤ 9223372036854775807) (hv0 : 0 ≤ v) (hv1 : v ≤ 65535) (h1 : p + 2 ≤ n) :
    Calls Try.prog 45 #[.slice (some ⟨g, 0, none⟩) n n, .int .i64 i, .int .u32 v] w fun e w' => e = .returned (.bool true) ∧ Row w' g n (putB f p v 2) ∧ Only g w w' := by
  subst hi
  have := Put16_yes g n 0 n n p f v w hn hs (by omega) hv0 hv1 h1
  rwa [Nat.zero_add] at this
theorem Put32_in (g n : Nat) (i : Int) (p : Nat) (f : Nat → Int) (v : Int) (w : World) (hi : i = p) (hs : Row w g n f) (hn : (n : Int) ≤ 9223372036854775807) (hv0 : 0 ≤ v) (hv1 : v ≤ 4294967295) (h1 : p + 4 ≤ n) :
    Calls Try.prog 23 #[.slice (some ⟨g, 0, none⟩) n n, .int .i64 i, .int .u32 v] w fun e w' => e = .returned (.bool true) ∧ Row w' g n (putB f p v 4) ∧ Only g w w' := by
  subst hi
  have := Put32_yes g n 0 n n p f v w hn hs (by omega) hv0 hv1 h1
  rwa [Nat.zero_add] at this
theorem rPut16_in (g n : Nat) (i : Int) (p : Nat) (f : Nat → Int) (v : Int) (w : World) (hi : i = p) (hs : Row w g n f) (hf : IsByte f) (hn : (n : Int) ≤ 9223372036854775807) (hv0 : 0 ≤ v) (hv1 : v ≤ 65535) (h1 : p + 2 ≤ n) :
    Calls Try.prog 29 #[.slice (some ⟨g, 0, none⟩) n n, .int .i64 i, .int .u32 v] w fun e w' => e = .returned (.bool true) ∧ Row w' g n (putB f p v 2) ∧ Only g w w' := by
  subst hi
  have := rPut16_yes g n 0 n n p f v w hn hs hf (by omega) hv0 hv1 h1
  rwa [Nat.zero_add] at this
theorem rPut32_in (g n : Nat) (i : Int) (p : Nat) (f : Nat → Int) (v : Int) (w : World) (hi : i = p) (hs : Row w g n f) (hf : IsByte f) (hn : (n : Int) ≤ 9223372036854775807) (hv0 : 0 ≤ v) (hv1 : v ≤ 4294967295) (h1 : p + 4 ≤ n) :
    Calls Try.prog 28 #[.slice (some ⟨g, 0, none⟩) n n, .int .i64 i, .int .u32 v] w fun e w' => e = .returned (.bool true) ∧ Row w' g n (putB f p v 4) ∧ Only g w w' := by
  subst hi
  have := rPut32_yes g n 0 n n p f v w hn hs hf (by omega) hv0 hv1 h1
  rwa [Nat.zero_add] at this
theorem rGet16_in (g n : Nat) (i : Int) (p : Nat) (f : Nat → Int) (w : World) (hi : i = p) (hs : Row w g n f) (hf : IsByte f) (hn : (n : Int) ≤ 9223372036854775807) (h1 : p + 2 ≤ n) :
    Calls Try.prog 47 #[.slice (some ⟨g, 0, none⟩) n n, .int .i64 i] w fun e w' => e = .returned (.tuple #[.int .u32 (part f p 2), .bool true]) ∧ Still w w' := by
  subst hi
  exact rGet16_yes g 0 n n p f w hn hs.seg0 hf h1
theorem rGet32_in (g n : Nat) (i : Int) (p : Nat) (f : Nat → Int) (w : World) (hi : i = p) (hs : Row w g n f) (hf : IsByte f) (hn : (n : Int) ≤ 9223372036854775807) (h1 : p + 4 ≤ n) :
    Calls Try.prog 46 #[.slice (some ⟨g, 0, none⟩) n n, .int .i64 i] w fun e w' => e = .returned (.tuple #[.int .u32 (part f p 4), .bool true]) ∧ Still w w' := by
  subst hi
  exact rGet32_yes g 0 n n p f w hn hs.seg0 hf h1
theorem Get16_in (g n : Nat) (i : Int) (p : Nat) (f : Nat → Int) (w : World) (hi : i = p) (hs : Row w g n f) (hf : IsByte f) (hn : (n : Int) ≤ 9223372036854775807) (h1 : p + 2 ≤ n) :
    Calls Try.prog 52 #[.slice (some ⟨g, 0, none⟩) n n, .int .i64 i] w fun e w' => e = .returned (.tuple #[.int .u32 (part f p 2), .bool true]) ∧ w = w' := by
  subst hi
  have := Get16_any (some ⟨g, 0, none⟩) n n p f w hn hs.seg0.bs hf
  rwa [read_yes h1, within_mk h1] at this
theorem Get32_in (g n : Nat) (i : Int) (p : Nat) (f : Nat → Int) (w : World) (hi : i = p) (hs : Row w g n f) (hf : IsByte f) (hn : (n : Int) ≤ 9223372036854775807) (h1 : p + 4 ≤ n) :
    Calls Try.prog 33 #[.slice (some ⟨g, 0, none⟩) n n, .int .i64 i] w fun e w' => e = .returned (.tuple #[.int .u32 (part f p 4), .bool true]) ∧ w = w' := by
  subst hi
  have := Get32_any (some ⟨g, 0, none⟩) n n p f w hn hs.seg0.bs hf
  rwa [read_yes h1, within_mk h1] at this

end Go.Proofs.Ytbngbhildijciaa
