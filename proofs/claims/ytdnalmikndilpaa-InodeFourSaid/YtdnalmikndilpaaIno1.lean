/- Inodes and blocks as values; when two are the same. -/
import Derived.Test.YtdnalmikndilpaaNum3
import Derived.Test.YtdnalmikndilpaaNum4I
import Derived.Test.YtdnalmikndilpaaRZero
import Derived.ChangeKeysEq
import Derived.Laws.StructEq
namespace Go.Proofs.Ytdnalmikndilpaa
open Go.RowKit
set_option linter.unusedVariables false

theorem eqItems_ints {P : Program} (w : World) (d : Nat) {e : TypeId} {k : IntKind} (he : P.underlying e = some (.int k)) (f h : Nat → Int) (xs ys : Array Value) : ∀ is : List Nat,
    (∀ i ∈ is, xs[i]? = some (.int k (f i)) ∧ ys[i]? = some (.int k (h i))) → (Op.eqItems (d + 1) e 1 xs ys is).run P w = .ok (is.all fun i => f i == h i) w
  | [], _ => by simp [Op.eqItems]
  | i :: is, H => by
    obtain ⟨hx, hy⟩ := H i (by simp)
    have ih := eqItems_ints w d he f h xs ys is (fun j hj => H j (by simp [hj]))
    have px : (Go.part e xs (i * 1)).run P w = .ok (.int k (f i)) w := by simp [Go.part, isAgg, run_underlying he, hx]
    have py : (Go.part e ys (i * 1)).run P w = .ok (.int k (h i)) w := by simp [Go.part, isAgg, run_underlying he, hy]
    simp only [Op.eqItems, Sem.run_bind, px, py, Result.andThen_ok, run_equalIn_int w d e k k _ _ he, List.all_cons]
    cases hb : (f i == h i)
    · simp
    · simp only [Bool.not_true, Bool.false_eq_true, if_false, Bool.true_and]
      exact ih
theorem all_sameB (f h : Nat → Int) (n : Nat) : ((List.range n).all fun i => f i == h i) = sameB f h n := by
  rw [Bool.eq_iff_iff, sameB_iff, List.all_eq_true]
  simp
/-- Two rows of numbers are the same. -/
theorem equalIn_ints {P : Program} (w : World) (d : Nat) {t e : TypeId} {n : Nat} {k : IntKind} {i : TypeInfo} (ht : P.underlying t = some (.array n e)) (he : P.underlying e = some (.int k)) (hi : P.info? e = some i) (hc : P.cellsOf e = 1)
    (f h : Nat → Int) (xs ys : Array Value) (hx : ∀ i, i < n → xs[i]? = some (.int k (f i))) (hy : ∀ i, i < n → ys[i]? = some (.int k (h i))) :
    (Op.equalIn (d + 2) t (.agg xs) (.agg ys)).run P w = .ok (sameB f h n) w := by
  rw [run_equalIn_array w (d + 1) xs ys ht hi, hc, eqItems_ints w d he f h xs ys _ (fun i hi => ⟨hx i (List.mem_range.1 hi), hy i (List.mem_range.1 hi)⟩), all_sameB]

/-- A block; an inode's bytes. -/
def blkV (f : Nat → Int) : Value := .agg (bytesOf 256 f)
def b64V (f : Nat → Int) : Value := .agg (bytesOf 64 f)
theorem some_info : ∃ i, Try.prog.info? 5 = some i := by
  cases h : Try.prog.info? 5 with
  | some i => exact ⟨i, rfl⟩
  | none =>
    have : (Try.prog.info? 5).isSome = true := by kernel_rfl
    rw [h] at this; cases this
theorem eql_blk (f h : Nat → Int) (w : World) : (binOp .eql 23 (.agg (bytesOf 256 f)) (.agg (bytesOf 256 h))).run Try.prog w = .ok (.bool (sameB f h 256)) w := by
  obtain ⟨i, hi⟩ := some_info
  rw [run_eql_struct, equalIn_ints w 9998 Try.underlying23 Try.underlying5 hi (by kernel_rfl) f h _ _ (fun i hi => bytesOf_get f hi) (fun i hi => bytesOf_get h hi)]
  rfl
theorem neq_blk (f h : Nat → Int) (w : World) : (binOp .neq 23 (.agg (bytesOf 256 f)) (.agg (bytesOf 256 h))).run Try.prog w = .ok (.bool (!sameB f h 256)) w := by
  obtain ⟨i, hi⟩ := some_info
  rw [run_neq_struct, equalIn_ints w 9998 Try.underlying23 Try.underlying5 hi (by kernel_rfl) f h _ _ (fun i hi => bytesOf_get f hi) (fun i hi => bytesOf_get h hi)]
  rfl
theorem neq_b64 (f h : Nat → Int) (w : World) : (binOp .neq 47 (.agg (bytesOf 64 f)) (.agg (bytesOf 64 h))).run Try.prog w = .ok (.bool (!sameB f h 64)) w := by
  obtain ⟨i, hi⟩ := some_info
  rw [run_neq_struct, equalIn_ints w 9998 Try.underlying47 Try.underlying5 hi (by kernel_rfl) f h _ _ (fun i hi => bytesOf_get f hi) (fun i hi => bytesOf_get h hi)]
  rfl

/-- What an inode holds. -/
structure Ino where
  kind : Int
  links : Int
  gen : Int
  size : Int
  ptr : Nat → Int
  next : Int
def inoC (x : Ino) : Array Value := #[.int .u8 x.kind, .int .i64 x.links, .int .u32 x.gen, .int .i64 x.size, .int .u32 (x.ptr 0), .int .u32 (x.ptr 1), .int .u32 (x.ptr 2), .int .u32 (x.ptr 3), .int .u32 (x.ptr 4), .int .u32 (x.ptr 5), .int .u32 (x.ptr 6), .int .u32 (x.ptr 7), .int .u32 (x.ptr 8), .int .u32 (x.ptr 9), .int .u32 (x.ptr 10), .int .u32 x.next]
def inoV (x : Ino) : Value := .agg (inoC x)
/-- Are two inodes the same? -/
def inoE (x y : Ino) : Bool := x.kind == y.kind && (x.links == y.links && (x.gen == y.gen && (x.size == y.size && (sameB x.ptr y.ptr 11 && x.next == y.next))))
theorem some_info32 : ∃ i, Try.prog.info? 24 = some i := by
  cases h : Try.prog.info? 24 with
  | some i => exact ⟨i, rfl⟩
  | none =>
    have : (Try.prog.info? 24).isSome = true := by kernel_rfl
    rw [h] at this; cases this
theorem cells_ptrs : Try.prog.cellsOf 25 = 11 := by kernel_rfl
def ptrC (f : Nat → Int) : Array Value := #[.int .u32 (f 0), .int .u32 (f 1), .int .u32 (f 2), .int .u32 (f 3), .int .u32 (f 4), .int .u32 (f 5), .int .u32 (f 6), .int .u32 (f 7), .int .u32 (f 8), .int .u32 (f 9), .int .u32 (f 10)]
theorem ptrC_get (f : Nat → Int) : ∀ i, i < 11 → (ptrC f)[i]? = some (.int .u32 (f i)) := fun i hi => by
  obtain rfl | rfl | rfl | rfl | rfl | rfl | rfl | rfl | rfl | rfl | rfl : i = 0 ∨ i = 1 ∨ i = 2 ∨ i = 3 ∨ i = 4 ∨ i = 5 ∨ i = 6 ∨ i = 7 ∨ i = 8 ∨ i = 9 ∨ i = 10 := by omega
  all_goals rfl
theorem equalIn_ptrs (f h : Nat → Int) (w : World) : (Op.equalIn 9999 25 (.agg (ptrC f)) (.agg (ptrC h))).run Try.prog w = .ok (sameB f h 11) w := by
  obtain ⟨i, hi⟩ := some_info32
  exact equalIn_ints w 9997 Try.underlying25 Try.underlying24 hi (by kernel_rfl) f h _ _ (ptrC_get f) (ptrC_get h)
theorem ino_part (x : Ino) (w : World) : (Go.part 25 (inoC x) 4).run Try.prog w = .ok (.agg (ptrC x.ptr)) w := by
  have h : (Try.prog.info? 25).map (·.size) = some 11 := by kernel_rfl
  cases hj : Try.prog.info? 25 with
  | none => rw [hj] at h; cases h
  | some j =>
    have hs : j.size = 11 := by rw [hj] at h; simpa using h
    simp [Go.part, isAgg, run_underlying Try.underlying25, sizeOf, typeInfo, inoC, hj, hs, ptrC]
theorem part_int {P : Program} {t : TypeId} {k : IntKind} (h : P.underlying t = some (.int k)) (xs : Array Value) (o : Nat) (v : Value) (hx : xs[o]? = some v) (w : World) : (Go.part t xs o).run P w = .ok v w := by
  simp [Go.part, isAgg, run_underlying h, hx]
theorem equal_ino (x y : Ino) (w : World) : (Op.equalIn 10000 27 (.agg (inoC x)) (.agg (inoC y))).run Try.prog w = .ok (inoE x y) w := by
  rw [run_equalIn_agg w 9999 27 _ _ (by kernel_rfl) (by kernel_rfl)]
  simp only [Program.fieldsOf, Try.underlying27, Op.eqFields, Sem.run_bind, Sem.run_ite, Result.andThen_ok,
    part_int Try.underlying5 (inoC x) 0 (.int .u8 x.kind) rfl, part_int Try.underlying5 (inoC y) 0 (.int .u8 y.kind) rfl,
    part_int Try.underlying3 (inoC x) 1 (.int .i64 x.links) rfl, part_int Try.underlying3 (inoC y) 1 (.int .i64 y.links) rfl,
    part_int Try.underlying24 (inoC x) 2 (.int .u32 x.gen) rfl, part_int Try.underlying24 (inoC y) 2 (.int .u32 y.gen) rfl,
    part_int Try.underlying3 (inoC x) 3 (.int .i64 x.size) rfl, part_int Try.underlying3 (inoC y) 3 (.int .i64 y.size) rfl,
    part_int Try.underlying24 (inoC x) 15 (.int .u32 x.next) rfl, part_int Try.underlying24 (inoC y) 15 (.int .u32 y.next) rfl,
    ino_part, equalIn_ptrs, run_equalIn_int w 9998 5 .u8 .u8 _ _ Try.underlying5, run_equalIn_int w 9998 3 .i64 .i64 _ _ Try.underlying3, run_equalIn_int w 9998 24 .u32 .u32 _ _ Try.underlying24]
  unfold inoE
  cases x.kind == y.kind
  · simp
  cases x.links == y.links
  · simp
  cases x.gen == y.gen
  · simp
  cases x.size == y.size
  · simp
  cases sameB x.ptr y.ptr 11
  · simp
  cases x.next == y.next <;> simp
theorem eql_ino (x y : Ino) (w : World) : (binOp .eql 27 (.agg (inoC x)) (.agg (inoC y))).run Try.prog w = .ok (.bool (inoE x y)) w := by
  rw [run_eql_struct, equal_ino]; rfl
theorem neq_ino (x y : Ino) (w : World) : (binOp .neq 27 (.agg (inoC x)) (.agg (inoC y))).run Try.prog w = .ok (.bool (!inoE x y)) w := by
  rw [run_neq_struct, equal_ino]; rfl
theorem inoE_iff (x y : Ino) : inoE x y = true ↔ x.kind = y.kind ∧ x.links = y.links ∧ x.gen = y.gen ∧ x.size = y.size ∧ (∀ i, i < 11 → x.ptr i = y.ptr i) ∧ x.next = y.next := by
  simp [inoE, sameB_iff]
end Go.Proofs.Ytdnalmikndilpaa
