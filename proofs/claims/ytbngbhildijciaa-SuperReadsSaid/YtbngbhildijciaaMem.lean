/- Words for blocks of bytes, and plain lemmas on them. -/
import Derived.WalkKit
import Derived.Deep.Draws
namespace Go.Proofs.Ytbngbhildijciaa
open Go.RowKit

theorem hide {p : Prop} (h : p) : Hid p := h

/-- Q, where a piece of code ends as it should; nothing else is let. -/
def justNormal (Q : Exit → Act → World → Prop) : Exit → Act → World → Prop
  | .normal, a, w => Q .normal a w
  | _, _, _ => False
theorem wp_justNormal {P : Program} {c : Code} {Q : Exit → Act → World → Prop} {a : Act} {w : World} (h : c.wp P (justNormal Q) a w) : c.wp P Q a w :=
  Code.wp_mono (fun e _ _ q => by cases e <;> first | exact q | exact q.elim) h

/-- n bytes: f tells each. -/
def bytesOf (n : Nat) (f : Nat → Int) : Array Value := Array.ofFn (n := n) fun i => .int .u8 (f i)
/-- f with another number at one place. -/
def upd (f : Nat → Int) (i : Nat) (v : Int) : Nat → Int := fun j => if j = i then v else f j
/-- all are bytes. -/
def IsByte (f : Nat → Int) : Prop := ∀ i, 0 ≤ f i ∧ f i ≤ 255

theorem upd_same (f : Nat → Int) (i : Nat) (v : Int) : upd f i v i = v := by simp [upd]
theorem upd_other (f : Nat → Int) {i j : Nat} (v : Int) (h : j ≠ i) : upd f i v j = f j := by simp [upd, h]
theorem IsByte.upd {f : Nat → Int} (h : IsByte f) (i : Nat) {v : Int} (h0 : 0 ≤ v) (h1 : v ≤ 255) : IsByte (upd f i v) := fun j => by
  by_cases e : j = i
  · subst e; rw [upd_same]; exact ⟨h0, h1⟩
  · rw [upd_other f v e]; exact h j

theorem bytesOf_size (n : Nat) (f : Nat → Int) : (bytesOf n f).size = n := by simp [bytesOf]
theorem bytesOf_get {n : Nat} (f : Nat → Int) {i : Nat} (h : i < n) : (bytesOf n f)[i]? = some (.int .u8 (f i)) := by
  simp [bytesOf, h]
theorem bytesOf_set (n : Nat) (f : Nat → Int) (i : Nat) (v : Int) : (bytesOf n f).setIfInBounds i (.int .u8 v) = bytesOf n (upd f i v) := by
  apply Array.ext
  · simp [bytesOf_size]
  · intro j h1 h2
    simp only [Array.size_setIfInBounds, bytesOf_size] at h1
    rw [Array.getElem_setIfInBounds (by simp [bytesOf_size]; exact h1)]
    by_cases e : i = j
    · subst e; simp [bytesOf, upd]
    · have e' : j ≠ i := fun x => e x.symm
      simp [bytesOf, upd, e, e']
theorem bytesOf_congr {n : Nat} {f g : Nat → Int} (h : ∀ i, i < n → f i = g i) : bytesOf n f = bytesOf n g := by
  unfold bytesOf
  congr 1
  funext i
  rw [h i i.isLt]

/-- Block g is just n bytes; none is frozen. -/
def Row (w : World) (g n : Nat) (f : Nat → Int) : Prop := ∃ t, w.heap[g]? = some (.cells (bytesOf n f) t (0, 0))
/-- n bytes stand from a place on. -/
def Seg (w : World) (b off n : Nat) (f : Nat → Int) : Prop := ∀ i, i < n → w.cell? ⟨b, off + i, none⟩ = some (.int .u8 (f i))

section
variable {w w' : World} {g b off n : Nat} {f : Nat → Int}
theorem Row.lt (h : Row w g n f) : g < w.heap.size := by
  obtain ⟨t, h⟩ := h
  exact lt_of_block h
theorem Row.cell (h : Row w g n f) {i : Nat} (hi : i < n) : w.cell? ⟨g, i, none⟩ = some (.int .u8 (f i)) := by
  obtain ⟨t, h⟩ := h
  rw [cell_of_row w g i _ t (0, 0) h]; exact bytesOf_get f hi
theorem Row.frozen (h : Row w g n f) (i : Nat) : w.frozen? ⟨g, i, none⟩ = false := by
  obtain ⟨t, h⟩ := h
  simp [World.frozen?, h]
theorem Row.of_heap (h : Row w g n f) (e : w'.heap[g]? = w.heap[g]?) : Row w' g n f := by
  obtain ⟨t, h⟩ := h
  exact ⟨t, e.trans h⟩
theorem Row.drew (h : Row w g n f) : Row w.drew g n f := h
theorem Row.drewN (h : Row w g n f) (k : Nat) : Row (w.drewN k) g n f := h
theorem Row.alloc (h : Row w g n f) (o : Obj) : Row (w.alloc o) g n f := h.of_heap (Below.heap_alloc w o g h.lt)
theorem Row.set_ (h : Row w g n f) (i : Nat) (v : Int) : Row (w.setCell ⟨g, i, none⟩ (.int .u8 v)) g n (upd f i v) := by
  obtain ⟨t, h⟩ := h
  exact ⟨t, by rw [← bytesOf_set]; simp [World.setCell, Array.getElem?_modify, h]⟩
theorem Row.far (h : Row w g n f) {p : Addr} (hp : g ≠ p.block) (u : Value) : Row (w.setCell p u) g n f := h.of_heap (Below.heap_setCell w p u g hp)
theorem Row.below {B : Nat} (h : Row w g n f) (hb : Below B w w') (hg : g < B) : Row w' g n f := h.of_heap (hb.block g hg)
theorem Row.grown {row : Option Nat} (h : Row w g n f) (hb : w.grownBy w' row) (hg : some g ≠ row) : Row w' g n f := h.of_heap (hb.block g h.lt hg)
theorem Row.congr {f' : Nat → Int} (h : Row w g n f) (he : ∀ i, i < n → f i = f' i) : Row w g n f' := by
  obtain ⟨t, h⟩ := h
  exact ⟨t, by rw [← bytesOf_congr he]; exact h⟩
theorem Row.new (w : World) (t : TypeId) (n : Nat) (f : Nat → Int) : Row (w.alloc (.cells (bytesOf n f) t)) w.heap.size n f :=
  ⟨t, heap_alloc_new w _⟩
theorem Row.seg (h : Row w g n f) {o m : Nat} (hm : o + m ≤ n) : Seg w g o m (fun i => f (o + i)) := fun i hi => h.cell (by omega)
theorem Row.seg0 (h : Row w g n f) : Seg w g 0 n f := fun i hi => by rw [Nat.zero_add]; exact h.cell hi

theorem Seg.drew (h : Seg w b off n f) : Seg w.drew b off n f := h
theorem Seg.drewN (h : Seg w b off n f) (k : Nat) : Seg (w.drewN k) b off n f := h
theorem Seg.below {B : Nat} (h : Seg w b off n f) (hb : Below B w w') (hg : b < B) : Seg w' b off n f := fun i hi => (hb.cell (p := ⟨b, off + i, none⟩) hg).trans (h i hi)
theorem Seg.cut (h : Seg w b off n f) {o m : Nat} (hm : o + m ≤ n) : Seg w b (off + o) m (fun i => f (o + i)) := fun i hi => by
  have := h (o + i) (by omega)
  rwa [← Nat.add_assoc] at this
theorem Seg.congr {f' : Nat → Int} (h : Seg w b off n f) (he : ∀ i, i < n → f i = f' i) : Seg w b off n f' := fun i hi => by rw [← he i hi]; exact h i hi
theorem Seg.lt (h : Seg w b off n f) (hn : 0 < n) : b < w.heap.size := block_lt_of_cell (h 0 hn)
end

/-- A slice's n bytes: wherever they are (of none: anywhere). -/
def Bs (w : World) (A : Option Addr) (n : Nat) (f : Nat → Int) : Prop := 0 < n → ∃ b off, A = some ⟨b, off, none⟩ ∧ Seg w b off n f
section
variable {w w' : World} {A : Option Addr} {n : Nat} {f : Nat → Int}
theorem Bs.at_ (h : Bs w A n f) (hn : 0 < n) : ∃ b off, A = some ⟨b, off, none⟩ ∧ Seg w b off n f := h hn
theorem Seg.bs {b off : Nat} (h : Seg w b off n f) : Bs w (some ⟨b, off, none⟩) n f := fun _ => ⟨b, off, rfl, h⟩
theorem Bs.below {B : Nat} (h : Bs w A n f) (hb : Below B w w') (hB : 0 < n → ∀ b off, A = some ⟨b, off, none⟩ → b < B) : Bs w' A n f := fun hn => by
  obtain ⟨b, off, rfl, hs⟩ := h hn
  exact ⟨b, off, rfl, hs.below hb (hB hn _ _ rfl)⟩
theorem Bs.old {W : World} (h : Bs W A n f) (hb : Below W.heap.size W w') : Bs w' A n f := fun hn => by
  obtain ⟨b, off, rfl, hs⟩ := h hn
  exact ⟨b, off, rfl, hs.below hb (hs.lt hn)⟩
theorem Bs.congr {f' : Nat → Int} (h : Bs w A n f) (he : ∀ i, i < n → f i = f' i) : Bs w A n f' := fun hn => by
  obtain ⟨b, off, e, hs⟩ := h hn
  exact ⟨b, off, e, hs.congr he⟩
theorem Bs.take {m : Nat} (h : Bs w A n f) (hm : m ≤ n) : Bs w A m f := fun hn => by
  obtain ⟨b, off, e, hs⟩ := h (by omega)
  exact ⟨b, off, e, fun i hi => hs i (by omega)⟩
theorem Bs.drew (h : Bs w A n f) : Bs w.drew A n f := h
theorem Bs.ite {p : Prop} [Decidable p] {A' : Option Addr} (h1 : p → Bs w A n f) (h2 : ¬ p → Bs w A' n f) : Bs w (if p then A else A') n f := by
  split
  · exact h1 ‹_›
  · exact h2 ‹_›
theorem Bs.none_ (w : World) (A : Option Addr) (f : Nat → Int) (h : n = 0) : Bs w A n f := fun hn => absurd hn (by omega)
theorem Bs.from_ {k : Nat} (h : Bs w A n f) (hk : k ≤ n) : Bs w (A.map (·.add k)) (n - k) (fun i => f (k + i)) := fun hn => by
  obtain ⟨b, off, rfl, hs⟩ := h (by omega)
  refine ⟨b, off + k, ?_, hs.cut (by omega)⟩
  simp only [Option.map_some, Addr.add]
  split
  · rename_i e; subst e; rfl
  · rfl
theorem Bs.cut {k cap : Nat} (h : Bs w A n f) (hk : k ≤ n) (hc : n ≤ cap) : Bs w (if cap = k then A else A.map (·.add k)) (n - k) (fun i => f (k + i)) := fun hn => by
  obtain ⟨b, off, rfl, hs⟩ := h (by omega)
  rw [if_neg (by omega)]
  refine ⟨b, off + k, ?_, hs.cut (by omega)⟩
  simp only [Option.map_some, Addr.add]
  split
  · rename_i e; subst e; rfl
  · rfl
end

/-- Some answers of the tape have been drawn; nothing else has turned. -/
def Still (w w' : World) : Prop := ∃ q, w' = w.drewN q
section
variable {w w' w'' : World}
theorem Still.refl (w : World) : Still w w := ⟨0, rfl⟩
theorem Still.of_eq (h : w = w') : Still w w' := h ▸ Still.refl w
theorem Still.of (w : World) (q : Nat) : Still w (w.drewN q) := ⟨q, rfl⟩
theorem Still.trans (h : Still w w') (k : Still w' w'') : Still w w'' := by
  obtain ⟨q, rfl⟩ := h
  obtain ⟨r, rfl⟩ := k
  exact ⟨q + r, World.drewN_drewN _ _ _⟩
theorem Still.below (h : Still w w') (B : Nat) : Below B w w' := by
  obtain ⟨q, rfl⟩ := h
  exact ⟨rfl, rfl, rfl, Nat.le_refl _, fun _ _ => rfl⟩
theorem Still.heap (h : Still w w') : w'.heap = w.heap := by
  obtain ⟨q, rfl⟩ := h
  rfl
theorem Row.still {g n : Nat} {f : Nat → Int} (h : Row w g n f) (k : Still w w') : Row w' g n f := h.of_heap (by rw [k.heap])
theorem Seg.still {b off n : Nat} {f : Nat → Int} (h : Seg w b off n f) (k : Still w w') : Seg w' b off n f := by
  obtain ⟨q, rfl⟩ := k
  exact h
theorem Bs.still {A : Option Addr} {n : Nat} {f : Nat → Int} (h : Bs w A n f) (k : Still w w') : Bs w' A n f := by
  obtain ⟨q, rfl⟩ := k
  exact h
end

/-- Only block g, and what is new, may have turned. -/
def Only (g : Nat) (w w' : World) : Prop := w.grownBy w' (some g)
section
variable {g : Nat} {a w w' : World}
theorem Only.refl (g : Nat) (w : World) : Only g w w := World.grownBy.refl w _
theorem Only.trans {b c : World} (h : Only g a b) (k : Only g b c) : Only g a c :=
  ⟨k.os.trans h.os, k.tape.trans h.tape, k.output.trans h.output, Nat.le_trans h.size k.size, fun i hi hne => (k.block i (Nat.lt_of_lt_of_le hi h.size) hne).trans (h.block i hi hne)⟩
theorem Only.setCell (h : Only g a w) (i : Nat) (u : Value) : Only g a (w.setCell ⟨g, i, none⟩ u) :=
  h.trans ⟨rfl, rfl, rfl, by simp [World.setCell], fun i _ hne => Below.heap_setCell w _ u i (fun e => hne (by rw [e]))⟩
theorem Only.drew (h : Only g a w) : Only g a w.drew := ⟨h.os, h.tape, h.output, h.size, h.block⟩
theorem Only.still (h : Only g a w) (k : Still w w') : Only g a w' := by
  obtain ⟨q, rfl⟩ := k
  exact ⟨h.os, h.tape, h.output, h.size, h.block⟩
theorem Only.of_still (k : Still a w) : Only g a w := (Only.refl g a).still k
theorem Only.below {B : Nat} (h : Only g a w) (hB : B ≤ g) (hs : B ≤ a.heap.size) : Below B a w :=
  ⟨h.os, h.tape, h.output, h.size, fun k hk => h.block k (Nat.lt_of_lt_of_le hk hs) (fun e => by injection e; omega)⟩
theorem Row.only {g' n : Nat} {f : Nat → Int} (h : Row a g' n f) (k : Only g a w) (hne : g' ≠ g) : Row w g' n f := h.grown k (fun e => hne (by injection e))
theorem Seg.only {b off n : Nat} {f : Nat → Int} (h : Seg a b off n f) (k : Only g a w) (hne : b ≠ g) : Seg w b off n f := fun i hi =>
  k.cell (a := ⟨b, off + i, none⟩) (h i hi) (fun e => hne (by injection e))
end

/-- Bytes as a list of values. -/
def bl (n : Nat) (f : Nat → Int) : List Value := (List.range n).map fun i => .int .u8 (f i)
theorem bl_length (n : Nat) (f : Nat → Int) : (bl n f).length = n := by simp [bl]
theorem bl_get {n : Nat} (f : Nat → Int) {i : Nat} (h : i < n) : (bl n f)[i]? = some (.int .u8 (f i)) := by simp [bl, h]
theorem bl_congr {n : Nat} {f g : Nat → Int} (h : ∀ i, i < n → f i = g i) : bl n f = bl n g := by
  unfold bl
  exact List.map_congr_left fun i hi => by rw [h i (List.mem_range.1 hi)]
/-- n of the one, then the other. -/
def cat (n : Nat) (f h : Nat → Int) : Nat → Int := fun i => if i < n then f i else h (i - n)
theorem cat_l {n : Nat} (f h : Nat → Int) {i : Nat} (hi : i < n) : cat n f h i = f i := by simp [cat, hi]
theorem cat_r {n : Nat} (f h : Nat → Int) (i : Nat) : cat n f h (n + i) = h i := by
  unfold cat
  rw [if_neg (by omega), Nat.add_sub_cancel_left]
theorem cat_byte {n : Nat} {f h : Nat → Int} (hf : IsByte f) (hh : IsByte h) : IsByte (cat n f h) := fun i => by
  unfold cat; split
  · exact hf i
  · exact hh _
theorem bl_cat (n m : Nat) (f h : Nat → Int) : bl n f ++ bl m h = bl (n + m) (cat n f h) := by
  apply List.ext_getElem?
  intro i
  by_cases hi : i < n
  · rw [List.getElem?_append_left (by rw [bl_length]; exact hi), bl_get f hi, bl_get _ (by omega), cat_l _ _ hi]
  · rw [List.getElem?_append_right (by rw [bl_length]; omega), bl_length]
    by_cases hm : i - n < m
    · rw [bl_get h hm, bl_get _ (by omega)]
      have e : i = n + (i - n) := by omega
      rw [e, cat_r]; simp
    · rw [List.getElem?_eq_none (by rw [bl_length]; omega), List.getElem?_eq_none (by rw [bl_length]; omega)]

section
variable {w w' : World} {base n : Nat} {v : Value} {f : Nat → Int}
theorem Bs.lit (w : World) (t : TypeId) (n : Nat) (f : Nat → Int) (cs : Array Value) (hs : cs.toList = bl n f) : Bs (w.alloc (.cells cs t)) (some ⟨w.heap.size, 0, none⟩) n f := fun _ =>
  ⟨_, _, rfl, fun i hi => by
    rw [cell_of_row _ _ _ cs t (0, 0) (heap_alloc_new w _), Nat.zero_add, ← Array.getElem?_toList, hs]
    exact bl_get f hi⟩
theorem bytes_lit {n : Nat} {f : Nat → Int} {cs : Array Value} (hs : cs.toList = bl n f) : cs = bytesOf n f := by
  apply Array.ext'
  rw [hs]
  apply List.ext_getElem?
  intro i
  by_cases hi : i < n
  · rw [bl_get f hi, Array.getElem?_toList, bytesOf_get f hi]
  · rw [List.getElem?_eq_none (by rw [bl_length]; omega), List.getElem?_eq_none (by rw [Array.length_toList, bytesOf_size]; omega)]
theorem Row.lit (w : World) (t : TypeId) (n : Nat) (f : Nat → Int) (cs : Array Value) (hs : cs.toList = bl n f) : Row (w.alloc (.cells cs t)) w.heap.size n f :=
  ⟨t, by rw [bytes_lit hs]; exact heap_alloc_new w _⟩
/-- The numbers of a list, 0 behind it. -/
def litF (l : List Int) : Nat → Int := fun i => l.getD i 0
theorem litF_byte (l : List Int) (h : l.all (fun x => decide (0 ≤ x ∧ x ≤ 255)) = true) : IsByte (litF l) := fun i => by
  unfold litF
  by_cases hi : i < l.length
  · have := List.all_eq_true.1 h _ (List.getElem_mem hi)
    simp only [decide_eq_true_eq] at this
    rw [List.getD_eq_getElem?_getD, List.getElem?_eq_getElem hi]
    exact this
  · rw [List.getD_eq_getElem?_getD, List.getElem?_eq_none (by omega)]
    exact ⟨Int.le_refl 0, by decide⟩
end

/-- A slice of bytes that came in, as the shells tell of it. -/
theorem bs_of {w : World} {a : Option Addr} {len cap : Nat} {zs : List Int}
    (h : (a = none ∧ len = 0 ∧ cap = 0 ∧ zs = []) ∨ ∃ x : Addr, a = some x ∧ len ≤ cap ∧ cap ≤ maxLen ∧ zs.length = cap ∧ (∀ i, i < zs.length → w.cell? (x.add i) = some (.int .u8 (zs.getD i 0))) ∧ ∀ n ∈ zs, (Lit.int .u8 n).wf = true) :
    ∃ f, Bs w a len f ∧ IsByte f ∧ len ≤ cap ∧ (cap : Int) ≤ 9223372036854775807 := by
  rcases h with ⟨rfl, rfl, rfl, rfl⟩ | ⟨x, rfl, hl, hm, hz, hc, hw⟩
  · exact ⟨fun _ => 0, fun h => absurd h (by omega), fun _ => ⟨Int.le_refl 0, (by decide : (0 : Int) ≤ 255)⟩, Nat.le_refl _, by omega⟩
  · refine ⟨fun i => zs.getD i 0, fun hn => ?_, fun i => ?_, hl, by unfold maxLen at hm; omega⟩
    · have h0 := hc 0 (by omega)
      obtain ⟨b, off, spot⟩ := x
      have hspot : spot = none := by simpa [Addr.add] using World.cell?_spot h0
      subst hspot
      refine ⟨b, off, rfl, fun i hi => ?_⟩
      have := hc i (by omega)
      unfold Addr.add at this
      split at this
      · rename_i e; subst e; exact this
      · exact this
    · by_cases hi : i < zs.length
      · have hb : ∀ n : Int, (Lit.int .u8 n).wf = true → 0 ≤ n ∧ n ≤ 255 := fun n hn => by
          simp [Lit.wf, IntKind.min, IntKind.max, IntKind.bits, IntKind.signed] at hn; omega
        have := hb (zs.getD i 0) (hw _ (by rw [List.getD_eq_getElem?_getD, List.getElem?_eq_getElem hi]; exact List.getElem_mem hi))
        exact this
      · have e : zs.getD i 0 = 0 := by rw [List.getD_eq_getElem?_getD, List.getElem?_eq_none (by omega)]; rfl
        exact ⟨Int.le_of_eq e.symm, Int.le_trans (Int.le_of_eq e) (by decide)⟩
theorem i64_of {n : Int} (h : (Lit.int .i64 n).wf = true) : -9223372036854775808 ≤ n ∧ n ≤ 9223372036854775807 := by
  simp [Lit.wf, IntKind.min, IntKind.max, IntKind.bits, IntKind.signed] at h; omega
theorem u32_of {n : Int} (h : (Lit.int .u32 n).wf = true) : 0 ≤ n ∧ n ≤ 4294967295 := by
  simp [Lit.wf, IntKind.min, IntKind.max, IntKind.bits, IntKind.signed] at h; omega
theorem u8_of {n : Int} (h : (Lit.int .u8 n).wf = true) : 0 ≤ n ∧ n ≤ 255 := by
  simp [Lit.wf, IntKind.min, IntKind.max, IntKind.bits, IntKind.signed] at h; omega
/-- Are the first n the same? -/
def sameB (f h : Nat → Int) : Nat → Bool
  | 0 => true
  | n + 1 => sameB f h n && (f n == h n)
theorem sameB_iff (f h : Nat → Int) : ∀ n, sameB f h n = true ↔ ∀ i, i < n → f i = h i
  | 0 => by simp [sameB]
  | n + 1 => by
    simp only [sameB, Bool.and_eq_true, sameB_iff f h n, beq_iff_eq]
    constructor
    · rintro ⟨a, b⟩ i hi
      by_cases e : i = n
      · subst e; exact b
      · exact a i (by omega)
    · exact fun a => ⟨fun i hi => a i (by omega), a n (by omega)⟩
theorem sameB_mono (f h : Nat → Int) {k n : Nat} (hk : k ≤ n) (hs : sameB f h k = false) : sameB f h n = false := by
  cases e : sameB f h n with
  | false => rfl
  | true =>
    have := (sameB_iff f h k).2 (fun i hi => (sameB_iff f h n).1 e i (by omega))
    rw [hs] at this; cases this


def zeroF : Nat → Int := fun _ => 0
end Go.Proofs.Ytbngbhildijciaa
