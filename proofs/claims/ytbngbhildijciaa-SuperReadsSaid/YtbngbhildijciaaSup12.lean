/- Arguments opened: blocks, superblocks. -/
import Derived.Test.YtbngbhildijciaaSup11
import Derived.WideKeyArr2
import Derived.OpenShut
namespace Go.Proofs.Ytbngbhildijciaa
open Go.RowKit Go.ChangeShapes Go.WideShapes
set_option linter.unusedVariables false

section
variable {H : Type} {enc : TypeId × Value → H} {P : Program} {W : World} {base : Nat} {sp : Nat → Bool} {held : Bool}
theorem mapM_each {α β : Type} {f : α → Option β} : ∀ (L : List α) (xs : List β), L.mapM f = some xs → ∀ i ∈ L, ∃ y, f i = some y
  | [], _, _, _, hi => by cases hi
  | i :: L, xs, h, j, hj => by
    rw [List.mapM_cons] at h
    simp only [bind, Option.bind_eq_some_iff, pure, Option.some.injEq] at h
    obtain ⟨y, hy, ys, hys, rfl⟩ := h
    cases hj with
    | head => exact ⟨y, hy⟩
    | tail _ hj => exact mapM_each L ys hys j hj
theorem arr_ints {t e : TypeId} {n fuel : Nat} {q : IntKind} {cs : List Value} {x : DataW H × List MemPlace} (ht : P.underlying t = some (.array n e)) (he : P.underlying e = some (.int q)) (hc : P.cellsOf e = 1)
    (h : DataW.trod enc P W base sp held fuel t cs = some x) (i : Nat) (hi : i < n) : ∃ a, cs[i]? = some (.int q a) ∧ (Lit.int q a).wf = true := by
  cases fuel with
  | zero => simp [DataW.trod] at h
  | succ m =>
    unfold DataW.trod at h
    rw [ht] at h
    simp only [hc, Nat.mul_one] at h
    split at h
    · simp only [Option.map_eq_some_iff] at h
      obtain ⟨ys, hy, _⟩ := h
      obtain ⟨y, hy⟩ := mapM_each _ _ hy i (List.mem_range.2 hi)
      obtain ⟨a, ea, _, wa⟩ := DataW.trod_int he hy
      refine ⟨a, ?_, wa⟩
      have := congrArg (fun l => l[0]?) ea
      simpa using this
    · cases h
end
def intAt (cs : List Value) (i : Nat) : Int := match cs[i]? with | some (.int _ a) => a | _ => 0
theorem agg_bytes {cs : Array Value} {n : Nat} {f : Nat → Int} (hs : cs.size = n) (h : ∀ i, i < n → cs[i]? = some (.int .u8 (f i))) : Value.agg cs = .agg (bytesOf n f) := by
  have : cs = bytesOf n f := by
    apply Array.ext_getElem?
    intro i
    by_cases hl : i < n
    · rw [bytesOf_get _ hl, h i hl]
    · rw [Array.getElem?_eq_none (by omega), Array.getElem?_eq_none (by rw [bytesOf_size]; omega)]
  rw [this]
theorem block_form {H : Type} {enc : TypeId × Value → H} {W : World} {base : Nat} {v : Value} {d : DataW H} {p : List MemPlace} (hv : Value.okWide Try.prog W .any base 29 v) (h : DataW.Trod enc Try.prog W 0 (fun _ => true) true 29 v d p) :
    ∃ f : Nat → Int, v = blkV f ∧ IsByte f := by
  simp only [Value.okWide, Try.underlying29] at hv
  obtain ⟨cs, rfl, hsz, _⟩ := hv
  rw [(by kernel_rfl : Try.prog.cellsOf 29 = 256)] at hsz
  obtain ⟨fuel, hf⟩ := h
  have hi := fun i hi => arr_ints Try.underlying29 Try.underlying5 (by kernel_rfl) hf i hi
  simp only [Value.cells] at hi
  refine ⟨fun i => if i < 256 then intAt cs.toList i else 0, agg_bytes hsz fun i hl => ?_, fun i => ?_⟩
  · obtain ⟨a, ea, _⟩ := hi i hl
    have ea' : cs[i]? = some (.int .u8 a) := by simpa using ea
    rw [ea']
    simp only [if_pos hl, intAt, ea]
  · by_cases hl : i < 256
    · obtain ⟨a, ea, wa⟩ := hi i hl
      simp only [if_pos hl, intAt, ea]
      exact u8_of wa
    · simp only [if_neg hl]; exact ⟨by decide, by decide⟩
theorem u32_of' {n : Int} (h : (Lit.int .u32 n).wf = true) : 0 ≤ n ∧ n ≤ 4294967295 := by
  simp [Lit.wf, IntKind.min, IntKind.max, IntKind.bits, IntKind.signed] at h; omega
theorem list5 {α : Type} {cs : Array α} (h : cs.size = 5) : ∃ c0 c1 c2 c3 c4, cs = #[c0, c1, c2, c3, c4] := by
  obtain ⟨l⟩ := cs
  match l, h with
  | [c0, c1, c2, c3, c4], _ => exact ⟨_, _, _, _, _, rfl⟩
theorem some_at {β : Type} {xs : List β} {n i : Nat} (h : xs.length = n) (hi : i < n) : ∃ y, xs[i]? = some y := ⟨_, List.getElem?_eq_getElem (by omega)⟩
def i64P (a : Int) : Prop := -9223372036854775808 ≤ a ∧ a ≤ 9223372036854775807
structure SuOk (x : Su) : Prop where
  a : i64P x.a
  b : i64P x.b
  c : i64P x.c
  d : i64P x.d
  o : 0 ≤ x.o ∧ x.o ≤ 4294967295
set_option maxRecDepth 100000 in
theorem super_form {H : Type} {enc : TypeId × Value → H} {W : World} {base : Nat} {v : Value} {d : DataW H} {p : List MemPlace} (hv : Value.okWide Try.prog W .any base 26 v) (h : DataW.Trod enc Try.prog W 0 (fun _ => true) true 26 v d p) :
    ∃ x : Su, v = suV x ∧ SuOk x := by
  obtain ⟨cs, rfl, hsz⟩ := okWide_struct Try.underlying26 hv
  rw [(by kernel_rfl : Try.prog.cellsOf 26 = 5)] at hsz
  obtain ⟨c0, c1, c2, c3, c4, rfl⟩ := list5 hsz
  obtain ⟨fuel, hf⟩ := h
  obtain ⟨xs, n, _, _, _, hxs, hff⟩ := DataW.trod_struct Try.underlying26 hf
  have h0 := hff 0 _ rfl
  have h1 := hff 1 _ rfl
  simp only [List.size_toArray, List.length_cons, List.length_nil, Nat.reduceAdd] at hxs
  simp only [List.getElem_toArray, List.getElem_cons_zero, List.getElem_cons_succ] at h0 h1
  obtain ⟨y0, e0⟩ := some_at hxs (show 0 < 2 by omega)
  obtain ⟨y1, e1⟩ := some_at hxs (show 1 < 2 by omega)
  rw [e0] at h0; rw [e1] at h1
  obtain ⟨a4, q4, _, w4⟩ := DataW.trod_int Try.underlying24 h1
  rw [(by kernel_rfl : Try.prog.cellsOf 24 = 1)] at q4
  rw [(by kernel_rfl : Try.prog.cellsOf 23 = 4)] at h0
  simp only [Value.cells, List.drop_zero, List.drop_succ_cons, List.take_succ_cons, List.take_zero, List.cons.injEq, and_true] at q4 h0
  obtain ⟨ys, m, _, _, _, hys, hgg⟩ := DataW.trod_struct Try.underlying23 h0
  have g0 := hgg 0 _ rfl
  have g1 := hgg 1 _ rfl
  have g2 := hgg 2 _ rfl
  have g3 := hgg 3 _ rfl
  simp only [List.size_toArray, List.length_cons, List.length_nil, Nat.reduceAdd] at hys
  simp only [List.getElem_toArray, List.getElem_cons_zero, List.getElem_cons_succ] at g0 g1 g2 g3
  obtain ⟨z0, f0⟩ := some_at hys (show 0 < 4 by omega)
  obtain ⟨z1, f1⟩ := some_at hys (show 1 < 4 by omega)
  obtain ⟨z2, f2⟩ := some_at hys (show 2 < 4 by omega)
  obtain ⟨z3, f3⟩ := some_at hys (show 3 < 4 by omega)
  rw [f0] at g0; rw [f1] at g1; rw [f2] at g2; rw [f3] at g3
  obtain ⟨a0, q0, _, w0⟩ := DataW.trod_int Try.underlying3 g0
  obtain ⟨a1, q1, _, w1⟩ := DataW.trod_int Try.underlying3 g1
  obtain ⟨a2, q2, _, w2⟩ := DataW.trod_int Try.underlying3 g2
  obtain ⟨a3, q3, _, w3⟩ := DataW.trod_int Try.underlying3 g3
  rw [(by kernel_rfl : Try.prog.cellsOf 3 = 1)] at q0 q1 q2 q3
  simp only [List.drop_zero, List.drop_succ_cons, List.take_succ_cons, List.take_zero, List.cons.injEq, and_true] at q0 q1 q2 q3
  subst q0 q1 q2 q3 q4
  exact ⟨⟨a0, a1, a2, a3, a4⟩, rfl, ⟨i64_of w0, i64_of w1, i64_of w2, i64_of w3, u32_of' w4⟩⟩
end Go.Proofs.Ytbngbhildijciaa
