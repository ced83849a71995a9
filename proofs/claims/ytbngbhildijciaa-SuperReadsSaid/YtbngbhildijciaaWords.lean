/- Words for blocks of numbers of 32 bits. -/
import Derived.Test.YtbngbhildijciaaMem
namespace Go.Proofs.Ytbngbhildijciaa
open Go.RowKit

/-- Block g is n numbers of 32 bits; none is frozen. -/
def Words (w : World) (g n : Nat) (f : Nat → Nat) : Prop := ∃ cs t, w.heap[g]? = some (.cells cs t (0, 0)) ∧ cs.size = n ∧ ∀ i, i < n → cs[i]? = some (.int .u32 ((f i : Nat) : Int))
/-- f with another number at one place. -/
def updN (f : Nat → Nat) (i v : Nat) : Nat → Nat := fun j => if j = i then v else f j
theorem updN_same (f : Nat → Nat) (i v : Nat) : updN f i v i = v := by simp [updN]
theorem updN_other (f : Nat → Nat) {i j : Nat} (v : Nat) (h : j ≠ i) : updN f i v j = f j := by simp [updN, h]
section
variable {w w' : World} {g n : Nat} {f : Nat → Nat}
theorem Words.lt (h : Words w g n f) : g < w.heap.size := by
  obtain ⟨cs, t, h, _⟩ := h
  exact lt_of_block h
theorem Words.cell (h : Words w g n f) {i : Nat} (hi : i < n) : w.cell? ⟨g, i, none⟩ = some (.int .u32 ((f i : Nat) : Int)) := by
  obtain ⟨cs, t, h, _, hc⟩ := h
  rw [cell_of_row w g i _ t (0, 0) h]; exact hc i hi
theorem Words.frozen (h : Words w g n f) (i : Nat) : w.frozen? ⟨g, i, none⟩ = false := by
  obtain ⟨cs, t, h, _⟩ := h
  simp [World.frozen?, h]
theorem Words.of_heap (h : Words w g n f) (e : w'.heap[g]? = w.heap[g]?) : Words w' g n f := by
  obtain ⟨cs, t, h, r⟩ := h
  exact ⟨cs, t, e.trans h, r⟩
theorem Words.drew (h : Words w g n f) : Words w.drew g n f := h
theorem Words.alloc (h : Words w g n f) (o : Obj) : Words (w.alloc o) g n f := h.of_heap (Below.heap_alloc w o g h.lt)
theorem Words.set_ (h : Words w g n f) (i v : Nat) : Words (w.setCell ⟨g, i, none⟩ (.int .u32 (v : Int))) g n (updN f i v) := by
  obtain ⟨cs, t, h, hn, hc⟩ := h
  refine ⟨cs.setIfInBounds i (.int .u32 (v : Int)), t, by simp [World.setCell, Array.getElem?_modify, h], by simpa using hn, fun j hj => ?_⟩
  by_cases e : i = j
  · subst e
    rw [updN_same, Array.getElem?_setIfInBounds_self_of_lt (by omega)]
  · rw [Array.getElem?_setIfInBounds_ne e, updN_other f v (fun x => e x.symm)]; exact hc j hj
theorem Words.far (h : Words w g n f) {p : Addr} (hp : g ≠ p.block) (u : Value) : Words (w.setCell p u) g n f := h.of_heap (Below.heap_setCell w p u g hp)
theorem Words.below {B : Nat} (h : Words w g n f) (hb : Below B w w') (hg : g < B) : Words w' g n f := h.of_heap (hb.block g hg)
theorem Words.only {g' : Nat} (h : Words w g n f) (k : Only g' w w') (hne : g ≠ g') : Words w' g n f := h.of_heap (k.block g h.lt (fun e => hne (by injection e)))
theorem Words.congr {f' : Nat → Nat} (h : Words w g n f) (he : ∀ i, i < n → f i = f' i) : Words w g n f' := by
  obtain ⟨cs, t, h, hn, hc⟩ := h
  exact ⟨cs, t, h, hn, fun i hi => by rw [← he i hi]; exact hc i hi⟩
theorem Words.new (w : World) (t : TypeId) (f : Nat → Nat) (cs : Array Value) (hn : cs.size = n) (hc : ∀ i, i < n → cs[i]? = some (.int .u32 ((f i : Nat) : Int))) : Words (w.alloc (.cells cs t)) w.heap.size n f :=
  ⟨cs, t, heap_alloc_new w _, hn, hc⟩
theorem setRow_heap (w : World) (g : Nat) (cs old : Array Value) (t : TypeId) (fr : Nat × Nat) (h : w.heap[g]? = some (.cells old t fr)) : (w.setRow g cs).heap[g]? = some (.cells cs t fr) := by
  simp [World.setRow, Array.getElem?_modify, h]
theorem setRow_other (w : World) (g k : Nat) (cs : Array Value) (h : k ≠ g) : (w.setRow g cs).heap[k]? = w.heap[k]? := by
  simp only [World.setRow, Array.getElem?_modify]
  rw [if_neg (fun e => h e.symm)]
theorem Only.setRow {a w : World} (h : Only g a w) (cs : Array Value) : Only g a (w.setRow g cs) :=
  h.trans ⟨rfl, rfl, rfl, by simp, fun k _ hne => setRow_other w g k cs (fun e => hne (by rw [e]))⟩
theorem below_setRow {B : Nat} {a w : World} (h : Below B a w) (hg : B ≤ g) (cs : Array Value) : Below B a (w.setRow g cs) :=
  h.trans ⟨rfl, rfl, rfl, by simp, fun k hk => setRow_other w g k cs (by omega)⟩
end

/-- n numbers as an array of values. -/
def wordsOf (n : Nat) (f : Nat → Nat) : Array Value := ((List.range n).map fun i => Value.int .u32 ((f i : Nat) : Int)).toArray
theorem wordsOf_size (n : Nat) (f : Nat → Nat) : (wordsOf n f).size = n := by simp [wordsOf]
theorem wordsOf_get {n : Nat} (f : Nat → Nat) {i : Nat} (h : i < n) : (wordsOf n f)[i]? = some (.int .u32 ((f i : Nat) : Int)) := by simp [wordsOf, h]
theorem wordsOf_one (n : Nat) (f : Nat → Nat) : (wordsOf n f).all (·.oneCell') = true := by
  rw [Array.all_eq_true_iff_forall_mem]
  intro x hx
  simp only [wordsOf, List.mem_toArray, List.mem_map] at hx
  obtain ⟨_, _, rfl⟩ := hx
  rfl
theorem Words.heap {w : World} {g n : Nat} {f : Nat → Nat} (h : Words w g n f) : ∃ t, w.heap[g]? = some (.cells (wordsOf n f) t (0, 0)) := by
  obtain ⟨cs, t, h, hn, hc⟩ := h
  refine ⟨t, ?_⟩
  rw [h]
  congr 2
  apply Array.ext_getElem?
  intro i
  by_cases hi : i < n
  · rw [hc i hi, wordsOf_get f hi]
  · rw [Array.getElem?_eq_none (by omega), Array.getElem?_eq_none (by rw [wordsOf_size]; omega)]
theorem Words.of_words {w : World} {g n : Nat} {f : Nat → Nat} {t : TypeId} (h : w.heap[g]? = some (.cells (wordsOf n f) t (0, 0))) : Words w g n f :=
  ⟨_, t, h, wordsOf_size n f, fun _ hi => wordsOf_get f hi⟩
theorem Words.lit (w : World) (t : TypeId) (n : Nat) (f : Nat → Nat) (cs : Array Value) (h : cs = wordsOf n f) : Words (w.alloc (.cells cs t)) w.heap.size n f := by
  subst h; exact Words.of_words (heap_alloc_new w _)
/-- The first k are filled. -/
def fillF (F : Nat → Nat) (k : Nat) : Nat → Nat := fun i => if i < k then F i else 0
theorem fillF_step (F : Nat → Nat) (k i : Nat) : updN (fillF F k) k (F k) i = fillF F (k + 1) i := by
  by_cases h : i = k
  · subst h; rw [updN_same]; simp [fillF]
  · rw [updN_other _ _ h]
    by_cases h2 : i < k
    · simp [fillF, h2, show i < k + 1 by omega]
    · simp [fillF, h2, show ¬ i < k + 1 by omega]
theorem fillF_full (F : Nat → Nat) {n i : Nat} (h : i < n) : fillF F n i = F i := by simp [fillF, h]

theorem two_new (w : World) (t : TypeId) (n : Nat) (f : Nat → Nat) (cs : Array Value) (h : cs = wordsOf n f) :
    Words ((w.alloc (.cells cs t)).alloc (.cells cs t)) w.heap.size n f ∧ Words ((w.alloc (.cells cs t)).alloc (.cells cs t)) (w.heap.size + 1) n f ∧ Below w.heap.size w ((w.alloc (.cells cs t)).alloc (.cells cs t)) := by
  refine ⟨(Words.lit w t n f cs h).alloc _, ?_, ((Below.refl _ w).alloc (Nat.le_refl _) _).alloc (by simp) _⟩
  have := Words.lit (w.alloc (.cells cs t)) t n f cs h
  rwa [World.size_alloc] at this
end Go.Proofs.Ytbngbhildijciaa
