/- Blocks and inodes that come in; the two Puts as one contract each; quiet laws for whole rows. -/
import Derived.Test.YtdnalmikndilpaaIno10
import Derived.WideKeyArr2
import Derived.OpenShut
namespace Go.Proofs.Ytdnalmikndilpaa
open Go.RowKit Go.ChangeShapes Go.WideShapes
set_option linter.unusedVariables false

section
variable {H : Type} {enc : TypeId × Value → H} {P : Program} {W : World} {base : Nat} {sp : Nat → Bool} {held : Bool}
theorem mapM_each {α β : Type} {f : α → Option β} : ∀ (L : List α) (xs : List β), L.mapM f = some xs → ∀ i ∈ L, ∃ y, f i = some y
  | [], _, _, _, hi => by cases hi
  | i :: L, xs, h, j, hj => by
    rw [List.mapM_cons] at h
    simp only [bind, Option.bind_eq_some_iff, pure, Option.some.injEq] at h
    obtain ⟨y, hy, ys, hys, rfl⟩ := h
    cases hj with
    | head => exact ⟨y, hy⟩
    | tail _ hj => exact mapM_each L ys hys j hj
theorem arr_ints {t e : TypeId} {n fuel : Nat} {q : IntKind} {cs : List Value} {x : DataW H × List MemPlace} (ht : P.underlying t = some (.array n e)) (he : P.underlying e = some (.int q)) (hc : P.cellsOf e = 1)
    (h : DataW.trod enc P W base sp held fuel t cs = some x) (i : Nat) (hi : i < n) : ∃ a, cs[i]? = some (.int q a) ∧ (Lit.int q a).wf = true := by
  cases fuel with
  | zero => simp [DataW.trod] at h
  | succ m =>
    unfold DataW.trod at h
    rw [ht] at h
    simp only [hc, Nat.mul_one] at h
    split at h
    · simp only [Option.map_eq_some_iff] at h
      obtain ⟨ys, hy, _⟩ := h
      obtain ⟨y, hy⟩ := mapM_each _ _ hy i (List.mem_range.2 hi)
      obtain ⟨a, ea, _, wa⟩ := DataW.trod_int he hy
      refine ⟨a, ?_, wa⟩
      have := congrArg (fun l => l[0]?) ea
      simpa using this
    · cases h
end
def intAt (cs : List Value) (i : Nat) : Int := match cs[i]? with | some (.int _ a) => a | _ => 0
theorem agg_bytes {cs : Array Value} {n : Nat} {f : Nat → Int} (hs : cs.size = n) (h : ∀ i, i < n → cs[i]? = some (.int .u8 (f i))) : Value.agg cs = .agg (bytesOf n f) := by
  have : cs = bytesOf n f := by
    apply Array.ext_getElem?
    intro i
    by_cases hl : i < n
    · rw [bytesOf_get _ hl, h i hl]
    · rw [Array.getElem?_eq_none (by omega), Array.getElem?_eq_none (by rw [bytesOf_size]; omega)]
  rw [this]
theorem block_form {H : Type} {enc : TypeId × Value → H} {W : World} {base : Nat} {v : Value} {d : DataW H} {p : List MemPlace} (hv : Value.okWide Try.prog W .any base 23 v) (h : DataW.Trod enc Try.prog W 0 (fun _ => true) true 23 v d p) :
    ∃ f : Nat → Int, v = blkV f ∧ IsByte f := by
  simp only [Value.okWide, Try.underlying23] at hv
  obtain ⟨cs, rfl, hsz, _⟩ := hv
  rw [(by kernel_rfl : Try.prog.cellsOf 23 = 256)] at hsz
  obtain ⟨fuel, hf⟩ := h
  have hi := fun i hi => arr_ints Try.underlying23 Try.underlying5 (by kernel_rfl) hf i hi
  simp only [Value.cells] at hi
  refine ⟨fun i => if i < 256 then intAt cs.toList i else 0, agg_bytes hsz fun i hl => ?_, fun i => ?_⟩
  · obtain ⟨a, ea, _⟩ := hi i hl
    have ea' : cs[i]? = some (.int .u8 a) := by simpa using ea
    rw [ea']
    simp only [if_pos hl, intAt, ea]
  · by_cases hl : i < 256
    · obtain ⟨a, ea, wa⟩ := hi i hl
      simp only [if_pos hl, intAt, ea]
      exact u8_of wa
    · simp only [if_neg hl]; exact ⟨by decide, by decide⟩
theorem u32_of' {n : Int} (h : (Lit.int .u32 n).wf = true) : 0 ≤ n ∧ n ≤ 4294967295 := by
  simp [Lit.wf, IntKind.min, IntKind.max, IntKind.bits, IntKind.signed] at h; omega
theorem list16 {α : Type} {cs : Array α} (h : cs.size = 16) : ∃ c0 c1 c2 c3 c4 c5 c6 c7 c8 c9 c10 c11 c12 c13 c14 c15, cs = #[c0, c1, c2, c3, c4, c5, c6, c7, c8, c9, c10, c11, c12, c13, c14, c15] := by
  obtain ⟨l⟩ := cs
  match l, h with
  | [c0, c1, c2, c3, c4, c5, c6, c7, c8, c9, c10, c11, c12, c13, c14, c15], _ => exact ⟨_, _, _, _, _, _, _, _, _, _, _, _, _, _, _, _, rfl⟩
theorem some_at {β : Type} {xs : List β} {n i : Nat} (h : xs.length = n) (hi : i < n) : ∃ y, xs[i]? = some y := ⟨_, List.getElem?_eq_getElem (by omega)⟩
set_option maxRecDepth 100000 in
theorem inode_form {H : Type} {enc : TypeId × Value → H} {W : World} {base : Nat} {v : Value} {d : DataW H} {p : List MemPlace} (hv : Value.okWide Try.prog W .any base 27 v) (h : DataW.Trod enc Try.prog W 0 (fun _ => true) true 27 v d p) :
    ∃ x : Ino, v = inoV x ∧ InoOk x := by
  obtain ⟨cs, rfl, hsz⟩ := okWide_struct Try.underlying27 hv
  rw [(by kernel_rfl : Try.prog.cellsOf 27 = 16)] at hsz
  obtain ⟨c0, c1, c2, c3, c4, c5, c6, c7, c8, c9, c10, c11, c12, c13, c14, c15, rfl⟩ := list16 hsz
  obtain ⟨fuel, hf⟩ := h
  obtain ⟨xs, n, _, _, _, hxs, hff⟩ := DataW.trod_struct Try.underlying27 hf
  have h0 := hff 0 _ rfl
  have h1 := hff 1 _ rfl
  have h2 := hff 2 _ rfl
  have h3 := hff 3 _ rfl
  have h4 := hff 4 _ rfl
  have h5 := hff 5 _ rfl
  simp only [List.size_toArray, List.length_cons, List.length_nil, Nat.reduceAdd] at hxs
  simp only [List.getElem_toArray, List.getElem_cons_zero, List.getElem_cons_succ] at h0 h1 h2 h3 h4 h5
  obtain ⟨y0, e0⟩ := some_at hxs (show 0 < 6 by omega)
  obtain ⟨y1, e1⟩ := some_at hxs (show 1 < 6 by omega)
  obtain ⟨y2, e2⟩ := some_at hxs (show 2 < 6 by omega)
  obtain ⟨y3, e3⟩ := some_at hxs (show 3 < 6 by omega)
  obtain ⟨y4, e4⟩ := some_at hxs (show 4 < 6 by omega)
  obtain ⟨y5, e5⟩ := some_at hxs (show 5 < 6 by omega)
  rw [e0] at h0; rw [e1] at h1; rw [e2] at h2; rw [e3] at h3; rw [e4] at h4; rw [e5] at h5
  obtain ⟨a0, q0, _, w0⟩ := DataW.trod_int Try.underlying5 h0
  obtain ⟨a1, q1, _, w1⟩ := DataW.trod_int Try.underlying3 h1
  obtain ⟨a2, q2, _, w2⟩ := DataW.trod_int Try.underlying24 h2
  obtain ⟨a3, q3, _, w3⟩ := DataW.trod_int Try.underlying3 h3
  obtain ⟨a5, q5, _, w5⟩ := DataW.trod_int Try.underlying24 h5
  have h4' := fun i hi => arr_ints Try.underlying25 Try.underlying24 (by kernel_rfl) h4 i hi
  rw [(by kernel_rfl : Try.prog.cellsOf 5 = 1)] at q0
  rw [(by kernel_rfl : Try.prog.cellsOf 3 = 1)] at q1 q3
  rw [(by kernel_rfl : Try.prog.cellsOf 24 = 1)] at q2 q5
  rw [(by kernel_rfl : Try.prog.cellsOf 25 = 11)] at h4'
  simp only [Value.cells, List.drop_zero, List.drop_succ_cons, List.take_succ_cons, List.take_zero, List.cons.injEq, and_true] at q0 q1 q2 q3 q5 h4'
  subst q0 q1 q2 q3 q5
  refine ⟨⟨a0, a1, a2, a3, fun i => if i < 11 then intAt [c4, c5, c6, c7, c8, c9, c10, c11, c12, c13, c14] i else 0, a5⟩, ?_, ⟨u8_of w0, i64_of w1, u32_of' w2, i64_of w3, fun i => ?_, u32_of' w5⟩⟩
  · unfold inoV inoC
    have k0 := h4' 0 (by omega); have k1 := h4' 1 (by omega); have k2 := h4' 2 (by omega); have k3 := h4' 3 (by omega); have k4 := h4' 4 (by omega); have k5 := h4' 5 (by omega)
    have k6 := h4' 6 (by omega); have k7 := h4' 7 (by omega); have k8 := h4' 8 (by omega); have k9 := h4' 9 (by omega); have k10 := h4' 10 (by omega)
    obtain ⟨b0, z0, _⟩ := k0; obtain ⟨b1, z1, _⟩ := k1; obtain ⟨b2, z2, _⟩ := k2; obtain ⟨b3, z3, _⟩ := k3; obtain ⟨b4, z4, _⟩ := k4; obtain ⟨b5, z5, _⟩ := k5
    obtain ⟨b6, z6, _⟩ := k6; obtain ⟨b7, z7, _⟩ := k7; obtain ⟨b8, z8, _⟩ := k8; obtain ⟨b9, z9, _⟩ := k9; obtain ⟨b10, z10, _⟩ := k10
    simp only [List.getElem?_cons_zero, List.getElem?_cons_succ, Option.some.injEq] at z0 z1 z2 z3 z4 z5 z6 z7 z8 z9 z10
    subst z0 z1 z2 z3 z4 z5 z6 z7 z8 z9 z10
    rfl
  · by_cases hl : i < 11
    · obtain ⟨a, ea, wa⟩ := h4' i hl
      simp only [if_pos hl, intAt, ea]
      exact u32_of' wa
    · simp only [if_neg hl]; exact ⟨by decide, by decide⟩
end Go.Proofs.Ytdnalmikndilpaa
