/- Laws for whole rows: loaded, stored, compared. -/
import Derived.Test.YtdnalmikndilpaaIno1
import Derived.StillTailTactics
import Derived.Deep.MidRow
namespace Go.Proofs.Ytdnalmikndilpaa
open Go.RowKit
set_option linter.unusedVariables false

/-- Block B is an inode. -/
def IAt (w : World) (B : Nat) (x : Ino) : Prop := ∃ t, w.heap[B]? = some (.cells (inoC x) t (0, 0))
section
variable {w w' : World} {B : Nat} {x : Ino}
theorem IAt.lt (h : IAt w B x) : B < w.heap.size := by obtain ⟨t, h⟩ := h; exact lt_of_block h
theorem IAt.of_heap (h : IAt w B x) (e : w'.heap[B]? = w.heap[B]?) : IAt w' B x := by obtain ⟨t, h⟩ := h; exact ⟨t, e.trans h⟩
theorem IAt.below {b : Nat} (h : IAt w B x) (hb : Below b w w') (hg : B < b) : IAt w' B x := h.of_heap (hb.block B hg)
theorem IAt.only {g : Nat} (h : IAt w B x) (k : Only g w w') (hne : B ≠ g) : IAt w' B x := h.of_heap (k.block B h.lt (fun e => hne (by injection e)))
theorem IAt.alloc (h : IAt w B x) (o : Obj) : IAt (w.alloc o) B x := h.of_heap (Below.heap_alloc w o B h.lt)
theorem IAt.drew (h : IAt w B x) : IAt w.drew B x := h
theorem IAt.still (h : IAt w B x) (k : Still w w') : IAt w' B x := h.of_heap (by rw [k.heap])
theorem IAt.new (w : World) (t : TypeId) (x : Ino) : IAt (w.alloc (.cells (inoC x) t)) w.heap.size x := ⟨t, heap_alloc_new w _⟩
theorem IAt.cell (h : IAt w B x) {i : Nat} {v : Value} (hi : (inoC x)[i]? = some v) : w.cell? ⟨B, i, none⟩ = some v := by
  obtain ⟨t, h⟩ := h
  rw [cell_of_row w B i _ t (0, 0) h]; exact hi
theorem IAt.frozen (h : IAt w B x) (i : Nat) : w.frozen? ⟨B, i, none⟩ = false := by
  obtain ⟨t, h⟩ := h
  simp [World.frozen?, h]
theorem IAt.c0 (h : IAt w B x) : w.cell? ⟨B, 0, none⟩ = some (.int .u8 x.kind) := h.cell rfl
theorem IAt.c1 (h : IAt w B x) : w.cell? ⟨B, 1, none⟩ = some (.int .i64 x.links) := h.cell rfl
theorem IAt.c2 (h : IAt w B x) : w.cell? ⟨B, 2, none⟩ = some (.int .u32 x.gen) := h.cell rfl
theorem IAt.c3 (h : IAt w B x) : w.cell? ⟨B, 3, none⟩ = some (.int .i64 x.size) := h.cell rfl
theorem IAt.cp (h : IAt w B x) {i : Nat} (hi : i < 11) : w.cell? ⟨B, 4 + i, none⟩ = some (.int .u32 (x.ptr i)) := by
  obtain rfl | rfl | rfl | rfl | rfl | rfl | rfl | rfl | rfl | rfl | rfl : i = 0 ∨ i = 1 ∨ i = 2 ∨ i = 3 ∨ i = 4 ∨ i = 5 ∨ i = 6 ∨ i = 7 ∨ i = 8 ∨ i = 9 ∨ i = 10 := by omega
  all_goals exact h.cell rfl
theorem IAt.cn (h : IAt w B x) : w.cell? ⟨B, 15, none⟩ = some (.int .u32 x.next) := h.cell rfl
end

section
variable {ops : Array Oper} {rest : List Oper} {o : Oper} {a : Act} {w : World} {Q : Exit → Act → World → Prop}
theorem ldI (hgd : o.guard = none) (x : Operand) (ho : o.op = .load 27 x) (B : Nat) (i : Ino) (hx : a.eval x = .pointer (some ⟨B, 0, none⟩)) (h : IAt w B i)
    (k : wpList Try.prog ops Q rest (a.put o.dst (.agg (inoC i))) w) : wpList Try.prog ops Q (o :: rest) a w := by
  obtain ⟨t, h⟩ := h
  exact wpList_load_row hgd _ x ho B hx t (inoC i) (0, 0) _ h Try.underlying27 rfl (by kernel_rfl) k
theorem info64 : (Try.prog.info? 47).map (·.size) = some 64 := by kernel_rfl
theorem info256 : (Try.prog.info? 23).map (·.size) = some 256 := by kernel_rfl
theorem ld64 (hgd : o.guard = none) (x : Operand) (ho : o.op = .load 47 x) (B : Nat) (f : Nat → Int) (hx : a.eval x = .pointer (some ⟨B, 0, none⟩)) (h : Row w B 64 f)
    (k : wpList Try.prog ops Q rest (a.put o.dst (.agg (bytesOf 64 f))) w) : wpList Try.prog ops Q (o :: rest) a w := by
  obtain ⟨t, h⟩ := h
  exact wpList_load_row hgd _ x ho B hx t _ (0, 0) _ h Try.underlying47 rfl (by rw [bytesOf_size]; exact info64) k
theorem ld256 (hgd : o.guard = none) (x : Operand) (ho : o.op = .load 23 x) (B : Nat) (f : Nat → Int) (hx : a.eval x = .pointer (some ⟨B, 0, none⟩)) (h : Row w B 256 f)
    (k : wpList Try.prog ops Q rest (a.put o.dst (.agg (bytesOf 256 f))) w) : wpList Try.prog ops Q (o :: rest) a w := by
  obtain ⟨t, h⟩ := h
  exact wpList_load_row hgd _ x ho B hx t _ (0, 0) _ h Try.underlying23 rfl (by rw [bytesOf_size]; exact info256) k
theorem eqlI (hgd : o.guard = none) (x y : Operand) (ho : o.op = .binOp .eql 27 x y 27) (i j : Ino) (hx : a.eval x = .agg (inoC i)) (hy : a.eval y = .agg (inoC j))
    (k : wpList Try.prog ops Q rest (a.put o.dst (.bool (inoE i j))) w) : wpList Try.prog ops Q (o :: rest) a w := by
  refine wpList_plain hgd fun _ hK => ?_
  unfold Oper.wp execOp
  simp only [ho, hx, hy, Sem.run_bind, run_eqGuard_agg w .eql 27 x y _ _ (by kernel_rfl : Try.prog.eqGuardType Try.prog.depth 27 = false), Result.andThen_ok, eql_ino, Sem.run_pure]
  exact hK _ _ k
theorem neqI (hgd : o.guard = none) (x y : Operand) (ho : o.op = .binOp .neq 27 x y 27) (i j : Ino) (hx : a.eval x = .agg (inoC i)) (hy : a.eval y = .agg (inoC j))
    (k : wpList Try.prog ops Q rest (a.put o.dst (.bool (!inoE i j))) w) : wpList Try.prog ops Q (o :: rest) a w := by
  refine wpList_plain hgd fun _ hK => ?_
  unfold Oper.wp execOp
  simp only [ho, hx, hy, Sem.run_bind, run_eqGuard_agg w .neq 27 x y _ _ (by kernel_rfl : Try.prog.eqGuardType Try.prog.depth 27 = false), Result.andThen_ok, neq_ino, Sem.run_pure]
  exact hK _ _ k
theorem eqlB (hgd : o.guard = none) (x y : Operand) (ho : o.op = .binOp .eql 23 x y 23) (f h : Nat → Int) (hx : a.eval x = .agg (bytesOf 256 f)) (hy : a.eval y = .agg (bytesOf 256 h))
    (k : wpList Try.prog ops Q rest (a.put o.dst (.bool (sameB f h 256))) w) : wpList Try.prog ops Q (o :: rest) a w := by
  refine wpList_plain hgd fun _ hK => ?_
  unfold Oper.wp execOp
  simp only [ho, hx, hy, Sem.run_bind, run_eqGuard_agg w .eql 23 x y _ _ (by kernel_rfl : Try.prog.eqGuardType Try.prog.depth 23 = false), Result.andThen_ok, eql_blk, Sem.run_pure]
  exact hK _ _ k
theorem neqB (hgd : o.guard = none) (x y : Operand) (ho : o.op = .binOp .neq 23 x y 23) (f h : Nat → Int) (hx : a.eval x = .agg (bytesOf 256 f)) (hy : a.eval y = .agg (bytesOf 256 h))
    (k : wpList Try.prog ops Q rest (a.put o.dst (.bool (!sameB f h 256))) w) : wpList Try.prog ops Q (o :: rest) a w := by
  refine wpList_plain hgd fun _ hK => ?_
  unfold Oper.wp execOp
  simp only [ho, hx, hy, Sem.run_bind, run_eqGuard_agg w .neq 23 x y _ _ (by kernel_rfl : Try.prog.eqGuardType Try.prog.depth 23 = false), Result.andThen_ok, neq_blk, Sem.run_pure]
  exact hK _ _ k
theorem bytes_one (n : Nat) (f : Nat → Int) : (bytesOf n f).all (·.oneCell') = true := by
  rw [Array.all_eq_true]
  intro i hi
  simp [bytesOf, Value.oneCell']
theorem only_setRow (w : World) (g : Nat) (cs : Array Value) : Only g w (w.setRow g cs) :=
  ⟨rfl, rfl, rfl, by simp [World.setRow], fun k _ hk => setRow_other w g k cs (fun e => hk (by rw [e]))⟩
theorem st64 (hgd : o.guard = none) (x y : Operand) (ho : o.op = .store 47 x y) (B : Nat) (f h : Nat → Int) (hx : a.eval x = .pointer (some ⟨B, 0, none⟩)) (hy : a.eval y = .agg (bytesOf 64 h)) (hr : Row w B 64 f)
    (k : ∀ w', Row w' B 64 h → Only B w w' → wpList Try.prog ops Q rest (a.put o.dst undef) w') : wpList Try.prog ops Q (o :: rest) a w := by
  obtain ⟨t, hr⟩ := hr
  refine wpList_store_row hgd _ x y ho B _ hx hy t _ hr (by rw [bytesOf_size]; exact info64) (by rw [bytesOf_size, bytesOf_size]) (bytes_one _ _) (k _ ⟨t, setRow_heap w B _ _ t _ hr⟩ (only_setRow _ _ _))
theorem st256 (hgd : o.guard = none) (x y : Operand) (ho : o.op = .store 23 x y) (B : Nat) (f h : Nat → Int) (hx : a.eval x = .pointer (some ⟨B, 0, none⟩)) (hy : a.eval y = .agg (bytesOf 256 h)) (hr : Row w B 256 f)
    (k : ∀ w', Row w' B 256 h → Only B w w' → wpList Try.prog ops Q rest (a.put o.dst undef) w') : wpList Try.prog ops Q (o :: rest) a w := by
  obtain ⟨t, hr⟩ := hr
  refine wpList_store_row hgd _ x y ho B _ hx hy t _ hr (by rw [bytesOf_size]; exact info256) (by rw [bytesOf_size, bytesOf_size]) (bytes_one _ _) (k _ ⟨t, setRow_heap w B _ _ t _ hr⟩ (only_setRow _ _ _))
theorem infoI : (Try.prog.info? 27).map (·.size) = some 16 := by kernel_rfl
theorem stI (hgd : o.guard = none) (x y : Operand) (ho : o.op = .store 27 x y) (B : Nat) (i j : Ino) (hx : a.eval x = .pointer (some ⟨B, 0, none⟩)) (hy : a.eval y = .agg (inoC j)) (hr : IAt w B i)
    (k : ∀ w', IAt w' B j → Only B w w' → wpList Try.prog ops Q rest (a.put o.dst undef) w') : wpList Try.prog ops Q (o :: rest) a w := by
  obtain ⟨t, hr⟩ := hr
  refine wpList_store_row hgd _ x y ho B _ hx hy t _ hr infoI rfl (by simp [inoC, Value.oneCell']) (k _ ⟨t, setRow_heap w B _ _ t _ hr⟩ (only_setRow _ _ _))
end

def zeroI (g : Int) : Ino := ⟨0, 0, g, 0, fun _ => 0, 0⟩
/-- May an inode be? -/
def mayI (x : Ino) : Prop :=
  (x.kind = 0 ∧ x.links = 0 ∧ x.size = 0 ∧ (∀ i, i < 11 → x.ptr i = 0) ∧ x.next = 0) ∨
  (x.kind = 1 ∧ (0 ≤ x.links ∧ x.links ≤ 1000) ∧ 0 ≤ x.size ∧ x.size ≤ 16777216) ∨
  (x.kind = 2 ∧ x.links = 1 ∧ (0 ≤ x.size ∧ x.size ≤ 16777216) ∧ x.size % 256 = 0 ∧ x.next = 0)
instance (x : Ino) : Decidable (mayI x) := by unfold mayI; infer_instance
def mayIB (x : Ino) : Bool := decide (mayI x)
theorem mayI_free {x : Ino} (h : x.kind = 0) : mayIB x = inoE x (zeroI x.gen) := by
  rw [Bool.eq_iff_iff, inoE_iff, mayIB, decide_eq_true_eq]
  simp [mayI, zeroI, h]

set_option maxRecDepth 100000 in
set_option maxHeartbeats 1000000 in
theorem imay_free (x : Ino) (w : World) (h : x.kind = 0) :
    Calls Try.prog 12 #[inoV x] w fun e w' => e = .returned (.bool (mayIB x)) ∧ Below w.heap.size w w' := by
  have HK := hide h
  rw [mayI_free h]
  have G0 := hide (IAt.new w 27 x)
  have c0 := G0.out.c0
  have c2 := G0.out.c2
  rw [h] at c0
  clear h
  unfold inoV
  go_enter Try.func12, Try.ntmps12
  go_wp2_with (first
    | (refine ldI rfl (.tmp 1) rfl _ _ rfl G0.out ?_)
    | (refine eqlI rfl (.tmp 11) (.tmp 14) rfl x (zeroI x.gen) rfl rfl ?_))
  go_ret
  exact ⟨rfl, (Below.refl _ _).alloc (Nat.le_refl _) _⟩
end Go.Proofs.Ytdnalmikndilpaa
