/- The law InodeFour. -/
import Derived.Test.YtdnalmikndilpaaIno17
import Derived.Test.YtdnalmikndilpaaInoP
import Derived.Test.YtdnalmikndilpaaInv2
import Derived.Deep.MidRow
import Derived.Great.CaseRows
namespace Go.Proofs.Ytdnalmikndilpaa
open Go.RowKit
set_option linter.unusedVariables false

/-- The law's four inodes. -/
structure FSt (w : World) (x y z u : Ino) (v : World) : Prop where
  i0 : IAt v w.heap.size x
  i1 : IAt v (w.heap.size + 1) y
  i2 : IAt v (w.heap.size + 1 + 1) z
  i3 : IAt v (w.heap.size + 1 + 1 + 1) u
  old : Below w.heap.size w v
section
variable {w v v' : World} {x y z u : Ino}
theorem FSt.lt (h : FSt w x y z u v) : w.heap.size + 4 ≤ v.heap.size := h.i3.lt
theorem FSt.below (h : FSt w x y z u v) (k : Below v.heap.size v v') : FSt w x y z u v' := ⟨h.i0.below k h.i0.lt, h.i1.below k h.i1.lt, h.i2.below k h.i2.lt, h.i3.below k h.i3.lt, h.old.trans (k.mono h.old.size)⟩
theorem FSt.drew (h : FSt w x y z u v) : FSt w x y z u v.drew := ⟨h.i0, h.i1, h.i2, h.i3, h.old.drew⟩
theorem FSt.alloc (h : FSt w x y z u v) (o : Obj) : FSt w x y z u (v.alloc o) := h.below ((Below.refl _ v).alloc (Nat.le_refl _) o)
theorem FSt.only {g : Nat} (h : FSt w x y z u v) (k : Only g v v') (hg : w.heap.size + 4 ≤ g) : FSt w x y z u v' :=
  ⟨h.i0.only k (by omega), h.i1.only k (by omega), h.i2.only k (by omega), h.i3.only k (by omega), h.old.trans (k.below (by omega) h.old.size)⟩
end
theorem FSt.start (w : World) (x y z u : Ino) (t s r q : TypeId) : FSt w x y z u ((((w.alloc (.cells (inoC x) t)).alloc (.cells (inoC y) s)).alloc (.cells (inoC z) r)).alloc (.cells (inoC u) q)) := by
  have n0 := heap_alloc_new w (.cells (inoC x) t)
  have n1 := heap_alloc_new (w.alloc (.cells (inoC x) t)) (.cells (inoC y) s)
  have n2 := heap_alloc_new ((w.alloc (.cells (inoC x) t)).alloc (.cells (inoC y) s)) (.cells (inoC z) r)
  have n3 := heap_alloc_new (((w.alloc (.cells (inoC x) t)).alloc (.cells (inoC y) s)).alloc (.cells (inoC z) r)) (.cells (inoC u) q)
  simp only [World.size_alloc] at n1 n2 n3
  have h0 : IAt (w.alloc (.cells (inoC x) t)) w.heap.size x := ⟨t, n0⟩
  have h1 : IAt ((w.alloc (.cells (inoC x) t)).alloc (.cells (inoC y) s)) (w.heap.size + 1) y := ⟨s, n1⟩
  have h2 : IAt (((w.alloc (.cells (inoC x) t)).alloc (.cells (inoC y) s)).alloc (.cells (inoC z) r)) (w.heap.size + 1 + 1) z := ⟨r, n2⟩
  exact ⟨((h0.alloc _).alloc _).alloc _, (h1.alloc _).alloc _, h2.alloc _, ⟨q, n3⟩, ((((Below.refl _ w).alloc (Nat.le_refl _) _).alloc (by simp only [World.size_alloc]; omega) _).alloc (by simp only [World.size_alloc]; omega) _).alloc (by simp only [World.size_alloc]; omega) _⟩

/-- Four inodes by number. -/
def four (x y z u : Ino) (k : Nat) : Ino := if k = 0 then x else if k = 1 then y else if k = 2 then z else u
def flat (x y z u : Ino) : Array Value := (inoC x ++ inoC y ++ inoC z ++ inoC u)
theorem flat_at (x y z u : Ino) {k : Nat} (hk : k < 4) : ((flat x y z u).extract (16 * k) (16 * k + 16)).toList = (inoC (four x y z u k)).toList := by
  have ln : ∀ x : Ino, (inoC x).toList.length = 16 := fun _ => rfl
  have hd : ∀ (x : Ino) (l : List Value) (n : Nat), ((inoC x).toList ++ l).drop (16 + n) = l.drop n := fun x l n => by rw [List.drop_append, ln, List.drop_eq_nil_of_le (by rw [ln]; omega), List.nil_append, Nat.add_sub_cancel_left]
  have ht : ∀ (x : Ino) (l : List Value), ((inoC x).toList ++ l).take 16 = (inoC x).toList := fun x l => List.take_left' (ln x)
  have ht' : ∀ (x : Ino), (inoC x).toList.take 16 = (inoC x).toList := fun x => List.take_of_length_le (Nat.le_of_eq (ln x))
  unfold flat
  rw [Array.toList_extract, List.extract_eq_take_drop, Nat.add_sub_cancel_left]
  simp only [Array.toList_append, List.append_assoc]
  obtain rfl | rfl | rfl | rfl : k = 0 ∨ k = 1 ∨ k = 2 ∨ k = 3 := by omega
  · exact ht _ _
  · rw [show 16 * 1 = 16 + 0 from rfl, hd]; exact ht _ _
  · rw [show 16 * 2 = 16 + (16 + 0) from rfl, hd, hd]; exact ht _ _
  · rw [show 16 * 3 = 16 + (16 + (16 + 0)) from rfl, hd, hd, hd]; exact ht' _
/-- The four inodes' slice, and the block that is written. -/
structure QSt (w : World) (x y z u : Ino) (g A : Nat) (F : Nat → Int) (v : World) : Prop where
  st : FSt w x y z u v
  sl : ∃ t, v.heap[g]? = some (.cells (flat x y z u) t (0, 0))
  blk : Row v A 256 F
  lo : w.heap.size + 4 ≤ g ∧ g < A
section
variable {w v v' : World} {x y z u : Ino} {g A : Nat} {F G : Nat → Int}
theorem QSt.lt (h : QSt w x y z u g A F v) : A < v.heap.size := h.blk.lt
theorem QSt.below (h : QSt w x y z u g A F v) (k : Below v.heap.size v v') : QSt w x y z u g A F v' :=
  ⟨h.st.below k, by obtain ⟨t, e⟩ := h.sl; exact ⟨t, (k.block g (by have := h.lo.2; have := h.lt; omega)).trans e⟩, h.blk.below k h.blk.lt, h.lo⟩
theorem QSt.drew (h : QSt w x y z u g A F v) : QSt w x y z u g A F v.drew := ⟨h.st.drew, h.sl, h.blk, h.lo⟩
theorem QSt.alloc (h : QSt w x y z u g A F v) (o : Obj) : QSt w x y z u g A F (v.alloc o) := h.below ((Below.refl _ v).alloc (Nat.le_refl _) o)
theorem QSt.put (h : QSt w x y z u g A F v) (k : Only A v v') (r : Row v' A 256 G) : QSt w x y z u g A G v' :=
  ⟨h.st.only k (by have := h.lo; omega), by
    obtain ⟨t, e⟩ := h.sl
    have := h.lo.2
    exact ⟨t, (k.block g (lt_of_block e) (fun q => by injection q; omega)).trans e⟩, r, h.lo⟩
theorem QSt.only {c : Nat} (h : QSt w x y z u g A F v) (k : Only c v v') (hc : A < c) : QSt w x y z u g A F v' :=
  ⟨h.st.only k (by have := h.lo; omega), by
    obtain ⟨t, e⟩ := h.sl
    have := h.lo.2
    exact ⟨t, (k.block g (lt_of_block e) (fun q => by injection q; omega)).trans e⟩, h.blk.only k (by omega), h.lo⟩
theorem QSt.range (h : QSt w x y z u g A F v) {k : Nat} (hk : k < 4) : v.rangeAt g (k * 16) (inoC (four x y z u k)).toList := by
  obtain ⟨t, e⟩ := h.sl
  rw [← flat_at x y z u hk]
  rw [Nat.mul_comm 16 k]; exact World.rangeAt_of_block e (k * 16) 16
end
/-- What the block holds once the inodes of S are put. -/
def fourF (x y z u : Ino) (S : Nat → Bool) (j : Nat) : Int := if j < 256 ∧ S (j / 64) = true ∧ mayI (four x y z u (j / 64)) then inoF (four x y z u (j / 64)) (j % 64) else 0
theorem fourF_none (x y z u : Ino) : fourF x y z u (fun _ => false) = zeroF := by
  funext j; unfold fourF; rw [if_neg (fun h => Bool.noConfusion h.2.1)]; rfl
theorem fourF_put (x y z u : Ino) (S : Nat → Bool) {k : Nat} (hk : k < 4) : putF (fourF x y z u S) (64 * (k : Int)) (four x y z u k) = fourF x y z u (setB S k) := by
  have p : placeP (64 * (k : Int)) := placeP_four.2 (by omega)
  have e : (64 * (k : Int)).toNat = 64 * k := by omega
  funext j
  unfold putF
  by_cases m : mayI (four x y z u k)
  · rw [if_pos ⟨p, m⟩, e]
    unfold spl
    by_cases h : 64 * k ≤ j ∧ j < 64 * k + 64
    · have q : j / 64 = k := by omega
      rw [if_pos h]
      unfold fourF
      rw [q, if_pos ⟨by omega, setB_same S k, m⟩]
      congr 1; omega
    · rw [if_neg h]
      unfold fourF
      by_cases h' : j < 256
      · rw [setB_ne (by omega)]
      · rw [if_neg (fun q => h' q.1), if_neg (fun q => h' q.1)]
  · rw [if_neg (fun q => m q.2)]
    unfold fourF
    by_cases h : j / 64 = k
    · rw [h, if_neg (fun q => m q.2.2), if_neg (fun q => m q.2.2)]
    · rw [setB_ne h]
/-- The inodes that are put in the first i rounds. -/
def fourS (r : Nat) : Nat → Nat → Bool
  | 0 => fun _ => false
  | i + 1 => setB (fourS r i) ((r + i) % 4)
theorem fourS_all {r : Nat} (hr : r < 4) {k : Nat} (hk : k < 4) : fourS r 4 k = true := by
  obtain rfl | rfl | rfl | rfl : r = 0 ∨ r = 1 ∨ r = 2 ∨ r = 3 := by omega
  all_goals
    obtain rfl | rfl | rfl | rfl : k = 0 ∨ k = 1 ∨ k = 2 ∨ k = 3 := by omega
    all_goals rfl
theorem inoF_zero (j : Nat) : inoF (zeroI 0) j = 0 := by
  have z : ∀ i : Nat, (0 : Int) / 256 ^ i % 256 = 0 := fun i => by rw [Int.zero_ediv]; rfl
  by_cases a0 : j = 0
  · subst a0; rw [ino_0]; rfl
  by_cases a1 : j = 1
  · subst a1; rw [ino_1]
  by_cases a2 : j < 4
  · obtain ⟨i, rfl⟩ : ∃ i, j = 2 + i := ⟨j - 2, by omega⟩
    rw [ino_links _ (by omega)]; exact z i
  by_cases a3 : j < 8
  · obtain ⟨i, rfl⟩ : ∃ i, j = 4 + i := ⟨j - 4, by omega⟩
    rw [ino_gen _ (by omega)]; exact z i
  by_cases a4 : j < 12
  · obtain ⟨i, rfl⟩ : ∃ i, j = 8 + i := ⟨j - 8, by omega⟩
    rw [ino_size _ (by omega)]; exact z i
  by_cases a5 : j < 56
  · obtain ⟨k, i, hk, hi, rfl⟩ : ∃ k i, k < 11 ∧ i < 4 ∧ j = 12 + 4 * k + i := ⟨(j - 12) / 4, (j - 12) % 4, by omega, by omega, by omega⟩
    rw [ino_ptr _ hk hi]; exact z i
  by_cases a6 : j < 60
  · obtain ⟨i, rfl⟩ : ∃ i, j = 56 + i := ⟨j - 56, by omega⟩
    rw [ino_next _ (by omega)]; exact z i
  · rw [ino_last _ (by omega)]
theorem zeroI_ok : InoOk (zeroI 0) := ⟨by decide, by decide, by decide, by decide, fun _ => ⟨Int.le_refl 0, (by decide : (0 : Int) ≤ 4294967295)⟩, by decide⟩
theorem zeroI_may : mayI (zeroI 0) := .inl ⟨rfl, rfl, rfl, fun _ _ => rfl, rfl⟩
theorem fourF_byte {x y z u : Ino} {S : Nat → Bool} (h : ∀ k, InoOk (four x y z u k)) : IsByte (fourF x y z u S) := fun j => by
  unfold fourF
  split
  · rename_i q
    have b := putF_byte zeroF_byte 0 (h (j / 64)) (j % 64)
    unfold putF at b
    rw [if_pos ⟨placeP_four.2 (by omega), q.2.2⟩] at b
    have e := spl_in (f := zeroF) (p := 0) (n := 64) (h := inoF (four x y z u (j / 64))) (i := j % 64) (by omega)
    rw [Nat.zero_add] at e
    have e2 : spl zeroF (0 : Int).toNat 64 (inoF (four x y z u (j / 64))) (j % 64) = inoF (four x y z u (j / 64)) (j % 64) := e
    rw [e2] at b
    exact b
  · exact ⟨Int.le_refl 0, (by decide : (0 : Int) ≤ 255)⟩
theorem fourF_get {x y z u : Ino} {S : Nat → Bool} (hS : ∀ k, k < 4 → S k = true) {k : Nat} (hk : k < 4) (h : InoOk (four x y z u k)) :
    getC (fourF x y z u S) (64 * (k : Int)) = 0 ∧ inoE (getI (fourF x y z u S) (64 * (k : Int))) (if mayIB (four x y z u k) = true then four x y z u k else zeroI 0) = true := by
  have p : placeP (64 * (k : Int)) := placeP_four.2 (by omega)
  have e : (64 * (k : Int)).toNat = 64 * k := by omega
  cases m : mayIB (four x y z u k) with
  | true =>
    have m' : mayI (four x y z u k) := of_decide_eq_true m
    have c := get_congr (f := fourF x y z u S) (g := putF zeroF (64 * (k : Int)) (four x y z u k)) (n := 64 * (k : Int)) fun _ i hi => by
      have e1 : putF zeroF (64 * (k : Int)) (four x y z u k) = spl zeroF (64 * k) 64 (inoF (four x y z u k)) := by
        unfold putF
        rw [if_pos ⟨p, m'⟩, e]
      rw [e1, e, spl_in hi]
      unfold fourF
      rw [show (64 * k + i) / 64 = k by omega, show (64 * k + i) % 64 = i by omega, if_pos ⟨by omega, hS k hk, m'⟩]
    rw [c.1, c.2]
    exact get_put zeroF p h m'
  | false =>
    have m' : ¬ mayI (four x y z u k) := of_decide_eq_false m
    have c := get_congr (f := fourF x y z u S) (g := putF zeroF (64 * (k : Int)) (zeroI 0)) (n := 64 * (k : Int)) fun _ i hi => by
      have e1 : putF zeroF (64 * (k : Int)) (zeroI 0) = spl zeroF (64 * k) 64 (inoF (zeroI 0)) := by
        unfold putF
        rw [if_pos ⟨p, zeroI_may⟩, e]
      rw [e1, e, spl_in hi]
      unfold fourF
      rw [show (64 * k + i) / 64 = k by omega, if_neg (fun q => m' q.2.2), inoF_zero]
    rw [c.1, c.2]
    exact get_put zeroF p zeroI_ok zeroI_may
theorem four_ok {x y z u : Ino} (hx : InoOk x) (hy : InoOk y) (hz : InoOk z) (hu : InoOk u) (k : Nat) : InoOk (four x y z u k) := by
  unfold four; split
  · exact hx
  · split
    · exact hy
    · split
      · exact hz
      · exact hu
/-- An inode is put, and whether it may be is asked, in any order. -/
def F10 (w : World) (x y z u : Ino) (g A : Nat) (F G : Nat → Int) (k : Nat) (c : Int) (b : Bool) (p4 p10 p13 p26 p27 p28 p29 p30 p31 p32 p33 p34 p35 p36 p37 : Value) (d : Nat → Bool) (a : Act) (v : World) : Prop := ∃ s38 s39 s40 s41 s42 s43 s44 s45 s46 s47 s48 s49 s50 s51, a = { tmps := (Value.agg (inoC x) :: Value.agg (inoC y) :: Value.agg (inoC z) :: Value.agg (inoC u) :: p4 :: Value.pointer (some ⟨w.heap.size, 0, none⟩) :: Value.pointer (some ⟨w.heap.size + 1, 0, none⟩) :: Value.pointer (some ⟨w.heap.size + 1 + 1, 0, none⟩) :: Value.pointer (some ⟨w.heap.size + 1 + 1 + 1, 0, none⟩) :: undef :: p10 :: Value.slice (some ⟨g, 0, none⟩) 4 4 :: Value.pointer (some ⟨A, 0, none⟩) :: p13 :: Value.int .i64 (k : Int) :: undef :: undef :: undef :: undef :: Value.bool true :: Value.bool false :: Value.agg (inoC x) :: Value.agg (inoC y) :: Value.agg (inoC z) :: Value.agg (inoC u) :: Value.slice (some ⟨g, 0, none⟩) 4 4 :: p26 :: p27 :: p28 :: p29 :: p30 :: p31 :: p32 :: p33 :: p34 :: p35 :: p36 :: p37 :: s38 :: s39 :: s40 :: s41 :: s42 :: s43 :: s44 :: s45 :: s46 :: s47 :: s48 :: s49 :: s50 :: s51 :: undef :: undef :: undef :: undef :: undef :: undef :: undef :: undef :: undef :: undef :: undef :: undef :: undef :: undef :: undef :: undef :: undef :: undef :: undef :: undef :: undef :: undef :: undef :: undef :: undef :: undef :: undef :: undef :: undef :: undef :: undef :: undef :: undef :: undef :: []).toArray, defers := [] } ∧ QSt w x y z u g A (bif d 6 then G else F) v ∧
  (d 0 = true → s38 = Value.int .i64 (k : Int)) ∧ (d 1 = true → s39 = Value.int .i64 (64 * (k : Int))) ∧ (d 2 = true → s40 = Value.slice (some ⟨g, 0, none⟩) 4 4) ∧ (d 3 = true → s41 = Value.int .i64 (k : Int)) ∧ (d 4 = true → s42 = Value.pointer (some ⟨g, k * 16, none⟩)) ∧ (d 5 = true → s43 = Value.agg (inoC (four x y z u k))) ∧ (d 6 = true → s44 = Value.int .i64 c) ∧ (d 7 = true → s45 = Value.bool b) ∧ (d 8 = true → s46 = Value.slice (some ⟨g, 0, none⟩) 4 4) ∧ (d 9 = true → s47 = Value.int .i64 (k : Int)) ∧ (d 10 = true → s48 = Value.pointer (some ⟨g, k * 16, none⟩)) ∧ (d 11 = true → s49 = Value.agg (inoC (four x y z u k))) ∧ (d 12 = true → s50 = Value.bool b) ∧ (d 13 = true → s51 = Value.bool false)
theorem four_ev {a : Act} {A B C D : Value} (h0 : a.eval (.tmp 21) = A) (h1 : a.eval (.tmp 22) = B) (h2 : a.eval (.tmp 23) = C) (h3 : a.eval (.tmp 24) = D) : ∀ i (h : i < [A, B, C, D].length), a.eval (.tmp (21 + i)) = [A, B, C, D][i] := fun i h => by
  have h' : i < 4 := h
  obtain rfl | rfl | rfl | rfl : i = 0 ∨ i = 1 ∨ i = 2 ∨ i = 3 := by omega
  · exact h0
  · exact h1
  · exact h2
  · exact h3
theorem buildI {ops : Array Oper} {rest : List Oper} {o : Oper} {a : Act} {w : World} {Q : Exit → Act → World → Prop} (hg : o.guard = none) (ho : o.op = .buildSlice 43 4 #[(0, .tmp 21), (1, .tmp 22), (2, .tmp 23), (3, .tmp 24)])
    (x y z u : Ino) (h0 : a.eval (.tmp 21) = .agg (inoC x)) (h1 : a.eval (.tmp 22) = .agg (inoC y)) (h2 : a.eval (.tmp 23) = .agg (inoC z)) (h3 : a.eval (.tmp 24) = .agg (inoC u))
    (k : wpList Try.prog ops Q rest (a.put o.dst (.slice (some ⟨w.heap.size, 0, none⟩) 4 4)) (w.alloc (.cells (flat x y z u) 27))) : wpList Try.prog ops Q (o :: rest) a w := by
  refine Go.Great.wpList_buildRows hg 43 27 _ 16 [Value.agg (inoC x), Value.agg (inoC y), Value.agg (inoC z), Value.agg (inoC u)] ho (fun i => 21 + i) w.heap.size rfl _ rfl Try.underlying43 infoI (by kernel_rfl) (by decide) (by show 0 < 4; omega) (by show 4 * 16 ≤ 2 ^ 24; decide) rfl ?_ (four_ev h0 h1 h2 h3) ?_
  · intro v hv
    simp only [List.mem_cons, List.not_mem_nil, or_false] at hv
    rcases hv with rfl | rfl | rfl | rfl <;> rfl
  · have e : ([Value.agg (inoC x), Value.agg (inoC y), Value.agg (inoC z), Value.agg (inoC u)].flatMap fun v => v.cells.toList).toArray = flat x y z u := by
      simp [flat, Value.cells, List.flatMap_cons]
    rw [e]; exact k
set_option maxRecDepth 100000 in
set_option maxHeartbeats 1000000 in
theorem inodeFour_law (x y z u : Ino) (a : Int) (hx : InoOk x) (hy : InoOk y) (hz : InoOk z) (hu : InoOk u) (w : World) : Calls Try.prog 8 #[inoV x, inoV y, inoV z, inoV u, .int .i64 a] w fun e w' => e = .returned (.bool true) ∧ Below w.heap.size w w' := by
  have HX := hide hx
  have HL : ∀ k, InoOk (four x y z u k) := four_ok hx hy hz hu
  clear hx hy hz hu
  have a2 := Int.natAbs_tmod a 4
  rw [show (4 : Int).natAbs = 4 from rfl] at a2
  have a0 : -4 < a.tmod 4 ∧ a.tmod 4 < 4 := by omega
  have a1 : 0 ≤ a.tmod 4 + 4 := by omega
  clear a2
  unfold inoV
  go_enter Try.func8, Try.ntmps8
  have S0 := hide (FSt.start w x y z u 27 27 27 27)
  go_wp2_with fail
  refine (awake_any _).mono ?_
  rintro e w1 ⟨rfl, hw⟩
  have S1 := hide (S0.out.below hw)
  clear hw S0
  go_wp2_with (first
    | (refine ldI rfl (.tmp 5) rfl _ _ rfl S1.out.i0 ?_)
    | (refine ldI rfl (.tmp 6) rfl _ _ rfl S1.out.i1 ?_)
    | (refine ldI rfl (.tmp 7) rfl _ _ rfl S1.out.i2 ?_)
    | (refine ldI rfl (.tmp 8) rfl _ _ rfl S1.out.i3 ?_)
    | (refine allocB rfl rfl ?_)
    | (refine buildI rfl rfl x y z u rfl rfl rfl rfl ?_))
  have S2 : Hid (QSt w x y z u w1.heap.size (w1.heap.size + 1) zeroF ((w1.alloc (.cells (flat x y z u) 27)).alloc (.cells (bytesOf 256 zeroF) 23))) := by
    have n0 := heap_alloc_new w1 (.cells (flat x y z u) 27)
    have q := Row.new (w1.alloc (.cells (flat x y z u) 27)) 23 256 zeroF
    simp only [World.size_alloc] at q
    have b := Below.heap_alloc (w1.alloc (.cells (flat x y z u) 27)) (.cells (bytesOf 256 zeroF) 23)
    exact ⟨(S1.out.alloc _).alloc _, ⟨_, (b _ (by simp only [World.size_alloc]; omega)).trans n0⟩, q, S1.out.lt, by omega⟩
  clear S1
  generalize w1.heap.size + 1 = A at *
  generalize w1.heap.size = g at *
  generalize World.alloc _ _ = w2 at *
  obtain ⟨r, hr, er⟩ : ∃ r : Nat, r < 4 ∧ a.tmod 4 % 4 = r := ⟨(a.tmod 4 % 4).toNat, by omega, by omega⟩
  rw [er]
  generalize a.tmod 4 + 4 = a4
  generalize a.tmod 4 = a3
  clear a0 a1 er
  go_loopw [13] (fun i wr => ∃ k : Nat, k ≤ 4 ∧ i = .int .i64 k ∧ QSt w x y z u g A (fourF x y z u (fourS r k)) wr) (fun i _ => 4 - (intOf i).toNat)
  case atStart => exact ⟨0, by omega, rfl, by rw [show fourF x y z u (fourS r 0) = zeroF from fourF_none x y z u]; exact S2.out⟩
  case round =>
    obtain ⟨i, hi, rfl, hT⟩ := hrel
    have HT := hide hT
    clear hT S2
    by_cases hi' : i = 4
    · subst hi'
      have HB : Hid (IsByte (fourF x y z u (fourS r 4))) := fourF_byte HL
      have HG : Hid (∀ k : Nat, k < 4 → getC (fourF x y z u (fourS r 4)) (64 * (k : Int)) = 0 ∧ inoE (getI (fourF x y z u (fourS r 4)) (64 * (k : Int))) (if mayIB (four x y z u k) = true then four x y z u k else zeroI 0) = true) := fun k hk => fourF_get (fun k hk => fourS_all hr hk) hk (HL k)
      have c1 : putC 256 x = 2 := by unfold putC; rw [if_neg (fun p => by have := placeP_four.1 p; omega)]
      have c2 : putC (-64) x = 2 := by unfold putC; rw [if_neg (fun p => by have := placeP_four.1 p; omega)]
      have C1 := hide c1
      have C2 := hide c2
      clear c1 c2
      go_wp2_with fail
      rw [show ((4 : Nat) : Int) = 4 from rfl]
      go_loopw [15] (fun i wr => ∃ k : Nat, k ≤ 4 ∧ i = .int .i64 k ∧ QSt w x y z u g A (fourF x y z u (fourS r 4)) wr) (fun i _ => 4 - (intOf i).toNat)
      case atStart => exact ⟨0, by omega, rfl, HT.out⟩
      case round =>
        obtain ⟨k, hi, rfl, hT⟩ := hrel
        clear HT
        have HT := hide hT
        clear hT
        by_cases hi' : k = 4
        · subst hi'
          go_wp2_with (refine ldI rfl (.tmp 5) rfl _ _ rfl HT.out.st.i0 ?_)
          refine (iput_any A 256 _ x _ HX.out HT.out.blk).mono ?_
          rintro e v1 ⟨rfl, hr', ho⟩
          rw [C1.out]
          have T1 := hide (HT.out.put ho hr')
          clear hr' ho HT
          go_wp2_with (refine ldIg rfl (.tmp 5) rfl _ _ rfl T1.out.st.i0 ?_)
          refine (iput_any A (-64) _ x _ HX.out T1.out.blk).mono ?_
          rintro e v2 ⟨rfl, hr', ho⟩
          rw [C2.out]
          have T2 := hide (T1.out.put ho hr')
          clear hr' ho T1
          go_wp2_with fail
          go_ret
          exact ⟨rfl, T2.out.st.old⟩
        have hk : k < 4 := by omega
        have hk2 : (k : Int) < 4 := by omega
        have hk3 : (0 : Int) ≤ k := by omega
        have hk4 : ((k : Int)).toNat = k := by omega
        obtain ⟨g1, g2⟩ := HG.out k hk
        cases hb : mayIB (four x y z u k)
        all_goals rw [hb] at g2
        all_goals simp only [if_true, if_false, Bool.false_eq_true] at g2
        all_goals replace g2 := congrArg Bool.not g2
        all_goals rw [show Bool.not true = false from rfl] at g2
        · have hb' := hide hb
          clear hb
          go_wp2_with (refine ld256 rfl (.tmp 12) rfl _ _ rfl HT.out.blk ?_)
          refine (iget_any _ HB.out (64 * (k : Int)) _).mono ?_
          rintro e v1 ⟨rfl, hw⟩
          rw [g1]
          have T1 := hide (HT.out.below hw)
          have hl1 : A < v1.heap.size := T1.out.lt
          clear hw HT g1
          generalize getI (fourF x y z u (fourS r 4)) (64 * (k : Int)) = y1 at *
          go_wp2_with (first
            | (refine stI rfl (.tmp 16) (.tmp 61) rfl v1.heap.size (zeroI 0) y1 rfl rfl (IAt.new v1 _ (zeroI 0)) ?_
               intro v2 hr ho
               have I2 := hide hr
               have T2 := hide ((T1.out.alloc (.cells (inoC (zeroI 0)) 27)).only ho hl1)
               have hl2 : v1.heap.size < v2.heap.size := I2.out.lt
               clear hr ho T1)
            | (refine wpList_load_mid rfl 27 (.tmp 65) rfl g (k * 16) rfl _ _ (T2.out.range hk) Try.underlying27 rfl infoI ?_)
            | (refine stI rfl (.tmp 18) (.tmp 66) rfl v2.heap.size (zeroI 0) (four x y z u k) rfl rfl (IAt.new v2 _ (zeroI 0)) ?_
               intro v3 hr ho
               have I3 := hide hr
               have J3 := hide ((I2.out.alloc (.cells (inoC (zeroI 0)) 27)).only ho (Nat.ne_of_lt hl2))
               have T3 := hide ((T2.out.alloc (.cells (inoC (zeroI 0)) 27)).only ho (by omega))
               clear hr ho T2 I2)
            | (refine ldI rfl (.tmp 18) rfl _ _ rfl I3.out ?_))
          refine (imay_is hb'.out _).mono ?_
          rintro e v4 ⟨rfl, hw⟩
          have I4 := hide (I3.out.below hw I3.out.lt)
          have J4 := hide (J3.out.below hw J3.out.lt)
          have T4 := hide (T3.out.below hw)
          clear hw I3 J3 T3
          go_wp2_with (first
            | (refine stI rfl (.tmp 18) (.tmp 70) rfl v2.heap.size (four x y z u k) (zeroI 0) rfl rfl I4.out ?_
               intro v5 hr ho
               have I5 := hide hr
               have J5 := hide (J4.out.only ho (Nat.ne_of_lt hl2))
               have T5 := hide (T4.out.only ho (by omega))
               clear hr ho T4 I4 J4)
            | (refine ldIg rfl (.tmp 16) rfl _ _ rfl J5.out ?_)
            | (refine ldIg rfl (.tmp 18) rfl _ _ rfl I5.out ?_)
            | (refine neqIg rfl (.tmp 74) (.tmp 75) rfl _ _ rfl rfl g2 ?_))
          go_round
          case rel => exact ⟨k + 1, by omega, by go_num, T5.out⟩
          case measure => simp [intOf]; omega
        · have hb' := hide hb
          clear hb
          go_wp2_with (refine ld256 rfl (.tmp 12) rfl _ _ rfl HT.out.blk ?_)
          refine (iget_any _ HB.out (64 * (k : Int)) _).mono ?_
          rintro e v1 ⟨rfl, hw⟩
          rw [g1]
          have T1 := hide (HT.out.below hw)
          have hl1 : A < v1.heap.size := T1.out.lt
          clear hw HT g1
          generalize getI (fourF x y z u (fourS r 4)) (64 * (k : Int)) = y1 at *
          go_wp2_with (first
            | (refine stI rfl (.tmp 16) (.tmp 61) rfl v1.heap.size (zeroI 0) y1 rfl rfl (IAt.new v1 _ (zeroI 0)) ?_
               intro v2 hr ho
               have I2 := hide hr
               have T2 := hide ((T1.out.alloc (.cells (inoC (zeroI 0)) 27)).only ho hl1)
               have hl2 : v1.heap.size < v2.heap.size := I2.out.lt
               clear hr ho T1)
            | (refine wpList_load_mid rfl 27 (.tmp 65) rfl g (k * 16) rfl _ _ (T2.out.range hk) Try.underlying27 rfl infoI ?_)
            | (refine stI rfl (.tmp 18) (.tmp 66) rfl v2.heap.size (zeroI 0) (four x y z u k) rfl rfl (IAt.new v2 _ (zeroI 0)) ?_
               intro v3 hr ho
               have I3 := hide hr
               have J3 := hide ((I2.out.alloc (.cells (inoC (zeroI 0)) 27)).only ho (Nat.ne_of_lt hl2))
               have T3 := hide ((T2.out.alloc (.cells (inoC (zeroI 0)) 27)).only ho (by omega))
               clear hr ho T2 I2)
            | (refine ldI rfl (.tmp 18) rfl _ _ rfl I3.out ?_))
          refine (imay_is hb'.out _).mono ?_
          rintro e v4 ⟨rfl, hw⟩
          have I4 := hide (I3.out.below hw I3.out.lt)
          have J4 := hide (J3.out.below hw J3.out.lt)
          have T4 := hide (T3.out.below hw)
          clear hw I3 J3 T3
          go_wp2_with (first
            | (refine ldIg rfl (.tmp 16) rfl _ _ rfl J4.out ?_)
            | (refine ldIg rfl (.tmp 18) rfl _ _ rfl I4.out ?_)
            | (refine neqIg rfl (.tmp 74) (.tmp 75) rfl _ _ rfl rfl g2 ?_))
          go_round
          case rel => exact ⟨k + 1, by omega, by go_num, T4.out⟩
          case measure => simp [intOf]; omega
    · have hi1 : i < 4 := by omega
      have hi2 : (i : Int) < 4 := by omega
      have hi3 : (0 : Int) ≤ i := by omega
      have hr2 : (r : Int) < 4 := by omega
      have hr3 : (0 : Int) ≤ r := by omega
      go_wp2_with fail
      have ek : ((r : Int) + (i : Int)) % 4 = (((r + i) % 4 : Nat) : Int) := by omega
      rw [ek]
      have hS : fourS r (i + 1) = setB (fourS r i) ((r + i) % 4) := rfl
      have hk : (r + i) % 4 < 4 := Nat.mod_lt _ (by omega)
      generalize (r + i) % 4 = k at *
      have hG0 := fourF_put x y z u (fourS r i) hk
      rw [← hS] at hG0
      have hG := hide hG0
      clear ek hS hG0
      have hk2 : (k : Int) < 4 := by omega
      have hk3 : (0 : Int) ≤ k := by omega
      have hk4 : ((k : Int)).toNat = k := by omega
      obtain ⟨b, hb⟩ : ∃ b, mayIB (four x y z u k) = b := ⟨_, rfl⟩
      obtain ⟨c, hC, hcb⟩ : ∃ c, putC (64 * (k : Int)) (four x y z u k) = c ∧ ((c = 0 ∧ b = true) ∨ (c = 70 ∧ b = false)) := by
        refine ⟨_, rfl, ?_⟩
        have p : placeP (64 * (k : Int)) := placeP_four.2 (by omega)
        unfold putC
        rw [if_pos p, ← hb]
        by_cases m : mayI (four x y z u k)
        · rw [if_pos m]; exact .inl ⟨rfl, decide_eq_true m⟩
        · rw [if_neg m]; exact .inr ⟨rfl, decide_eq_false m⟩
      replace hb := hide hb
      replace hC := hide hC
      refine wp_region_steps (by kernel_rfl) (by kernel_rfl) (F10 w x y z u g A (fourF x y z u (fourS r i)) (putF (fourF x y z u (fourS r i)) (64 * (k : Int)) (four x y z u k)) k c b _ _ _ _ _ _ _ _ _ _ _ _ _ _ _) ⟨_, _, _, _, _, _, _, _, _, _, _, _, _, _, rfl, HT.out.drew, (fun e => Bool.noConfusion e), (fun e => Bool.noConfusion e), (fun e => Bool.noConfusion e), (fun e => Bool.noConfusion e), (fun e => Bool.noConfusion e), (fun e => Bool.noConfusion e), (fun e => Bool.noConfusion e), (fun e => Bool.noConfusion e), (fun e => Bool.noConfusion e), (fun e => Bool.noConfusion e), (fun e => Bool.noConfusion e), (fun e => Bool.noConfusion e), (fun e => Bool.noConfusion e), (fun e => Bool.noConfusion e)⟩ ?hs ?he
      case hs =>
        refine ⟨?o0, ?o1, ?o2, ?o3, ?o4, ?o5, ?o6, ?o7, ?o8, ?o9, ?o10, ?o11, ?o12, ?o13, trivial⟩
        case o0 =>
          rintro d _ v hd hr ⟨s38, s39, s40, s41, s42, s43, s44, s45, s46, s47, s48, s49, s50, s51, rfl, hQ, h0, h1, h2, h3, h4, h5, h6, h7, h8, h9, h10, h11, h12, h13⟩
          go_wp2_with fail
          exact ⟨_, s39, s40, s41, s42, s43, s44, s45, s46, s47, s48, s49, s50, s51, rfl, hQ, fun _ => rfl, h1, h2, h3, h4, h5, h6, h7, h8, h9, h10, h11, h12, h13⟩
        case o1 =>
          rintro d _ v hd hr ⟨s38, s39, s40, s41, s42, s43, s44, s45, s46, s47, s48, s49, s50, s51, rfl, hQ, h0, h1, h2, h3, h4, h5, h6, h7, h8, h9, h10, h11, h12, h13⟩
          have e0 : d 0 = true := by first | exact hr.1 rfl | exact hr.2.1 rfl | exact hr.2.2.1 rfl | exact hr.2.2.2.1 rfl
          obtain rfl := h0 e0
          go_wp2_with fail
          exact ⟨_, _, s40, s41, s42, s43, s44, s45, s46, s47, s48, s49, s50, s51, rfl, hQ, fun _ => rfl, fun _ => rfl, h2, h3, h4, h5, h6, h7, h8, h9, h10, h11, h12, h13⟩
        case o2 =>
          rintro d _ v hd hr ⟨s38, s39, s40, s41, s42, s43, s44, s45, s46, s47, s48, s49, s50, s51, rfl, hQ, h0, h1, h2, h3, h4, h5, h6, h7, h8, h9, h10, h11, h12, h13⟩
          go_wp2_with fail
          exact ⟨s38, s39, _, s41, s42, s43, s44, s45, s46, s47, s48, s49, s50, s51, rfl, hQ, h0, h1, fun _ => rfl, h3, h4, h5, h6, h7, h8, h9, h10, h11, h12, h13⟩
        case o3 =>
          rintro d _ v hd hr ⟨s38, s39, s40, s41, s42, s43, s44, s45, s46, s47, s48, s49, s50, s51, rfl, hQ, h0, h1, h2, h3, h4, h5, h6, h7, h8, h9, h10, h11, h12, h13⟩
          go_wp2_with fail
          exact ⟨s38, s39, s40, _, s42, s43, s44, s45, s46, s47, s48, s49, s50, s51, rfl, hQ, h0, h1, h2, fun _ => rfl, h4, h5, h6, h7, h8, h9, h10, h11, h12, h13⟩
        case o4 =>
          rintro d _ v hd hr ⟨s38, s39, s40, s41, s42, s43, s44, s45, s46, s47, s48, s49, s50, s51, rfl, hQ, h0, h1, h2, h3, h4, h5, h6, h7, h8, h9, h10, h11, h12, h13⟩
          have e2 : d 2 = true := by first | exact hr.1 rfl | exact hr.2.1 rfl | exact hr.2.2.1 rfl | exact hr.2.2.2.1 rfl
          obtain rfl := h2 e2
          have e3 : d 3 = true := by first | exact hr.1 rfl | exact hr.2.1 rfl | exact hr.2.2.1 rfl | exact hr.2.2.2.1 rfl
          obtain rfl := h3 e3
          go_wp2_with fail
          exact ⟨s38, s39, _, _, _, s43, s44, s45, s46, s47, s48, s49, s50, s51, rfl, hQ, h0, h1, fun _ => rfl, fun _ => rfl, fun _ => rfl, h5, h6, h7, h8, h9, h10, h11, h12, h13⟩
        case o5 =>
          rintro d _ v hd hr ⟨s38, s39, s40, s41, s42, s43, s44, s45, s46, s47, s48, s49, s50, s51, rfl, hQ, h0, h1, h2, h3, h4, h5, h6, h7, h8, h9, h10, h11, h12, h13⟩
          have e4 : d 4 = true := by first | exact hr.1 rfl | exact hr.2.1 rfl | exact hr.2.2.1 rfl | exact hr.2.2.2.1 rfl
          obtain rfl := h4 e4
          refine wpList_load_mid rfl 27 (.tmp 42) rfl g (k * 16) rfl _ _ (hQ.range hk) Try.underlying27 rfl infoI ?_
          exact ⟨s38, s39, s40, s41, _, _, s44, s45, s46, s47, s48, s49, s50, s51, rfl, hQ, h0, h1, h2, h3, fun _ => rfl, fun _ => rfl, h6, h7, h8, h9, h10, h11, h12, h13⟩
        case o6 =>
          rintro d _ v hd hr ⟨s38, s39, s40, s41, s42, s43, s44, s45, s46, s47, s48, s49, s50, s51, rfl, hQ, h0, h1, h2, h3, h4, h5, h6, h7, h8, h9, h10, h11, h12, h13⟩
          have e1 : d 1 = true := by first | exact hr.1 rfl | exact hr.2.1 rfl | exact hr.2.2.1 rfl | exact hr.2.2.2.1 rfl
          obtain rfl := h1 e1
          have e5 : d 5 = true := by first | exact hr.1 rfl | exact hr.2.1 rfl | exact hr.2.2.1 rfl | exact hr.2.2.2.1 rfl
          obtain rfl := h5 e5
          go_wp2_with fail
          rw [hd] at hQ
          refine (iput_any A (64 * (k : Int)) _ _ _ (HL k) hQ.blk).mono ?_
          rintro e v' ⟨rfl, hr', ho'⟩
          rw [hC.out]
          go_wp2_with fail
          exact ⟨s38, _, s40, s41, s42, _, _, s45, s46, s47, s48, s49, s50, s51, rfl, hQ.put ho' hr', h0, fun _ => rfl, h2, h3, h4, fun _ => rfl, fun _ => rfl, h7, h8, h9, h10, h11, h12, h13⟩
        case o7 =>
          rintro d _ v hd hr ⟨s38, s39, s40, s41, s42, s43, s44, s45, s46, s47, s48, s49, s50, s51, rfl, hQ, h0, h1, h2, h3, h4, h5, h6, h7, h8, h9, h10, h11, h12, h13⟩
          have e6 : d 6 = true := by first | exact hr.1 rfl | exact hr.2.1 rfl | exact hr.2.2.1 rfl | exact hr.2.2.2.1 rfl
          obtain rfl := h6 e6
          rcases hcb with ⟨rfl, rfl⟩ | ⟨rfl, rfl⟩ <;> go_wp2_with fail
          all_goals exact ⟨s38, s39, s40, s41, s42, s43, _, _, s46, s47, s48, s49, s50, s51, rfl, hQ, h0, h1, h2, h3, h4, h5, fun _ => rfl, fun _ => rfl, h8, h9, h10, h11, h12, h13⟩
        case o8 =>
          rintro d _ v hd hr ⟨s38, s39, s40, s41, s42, s43, s44, s45, s46, s47, s48, s49, s50, s51, rfl, hQ, h0, h1, h2, h3, h4, h5, h6, h7, h8, h9, h10, h11, h12, h13⟩
          go_wp2_with fail
          exact ⟨s38, s39, s40, s41, s42, s43, s44, s45, _, s47, s48, s49, s50, s51, rfl, hQ, h0, h1, h2, h3, h4, h5, h6, h7, fun _ => rfl, h9, h10, h11, h12, h13⟩
        case o9 =>
          rintro d _ v hd hr ⟨s38, s39, s40, s41, s42, s43, s44, s45, s46, s47, s48, s49, s50, s51, rfl, hQ, h0, h1, h2, h3, h4, h5, h6, h7, h8, h9, h10, h11, h12, h13⟩
          go_wp2_with fail
          exact ⟨s38, s39, s40, s41, s42, s43, s44, s45, s46, _, s48, s49, s50, s51, rfl, hQ, h0, h1, h2, h3, h4, h5, h6, h7, h8, fun _ => rfl, h10, h11, h12, h13⟩
        case o10 =>
          rintro d _ v hd hr ⟨s38, s39, s40, s41, s42, s43, s44, s45, s46, s47, s48, s49, s50, s51, rfl, hQ, h0, h1, h2, h3, h4, h5, h6, h7, h8, h9, h10, h11, h12, h13⟩
          have e8 : d 8 = true := by first | exact hr.1 rfl | exact hr.2.1 rfl | exact hr.2.2.1 rfl | exact hr.2.2.2.1 rfl
          obtain rfl := h8 e8
          have e9 : d 9 = true := by first | exact hr.1 rfl | exact hr.2.1 rfl | exact hr.2.2.1 rfl | exact hr.2.2.2.1 rfl
          obtain rfl := h9 e9
          go_wp2_with fail
          exact ⟨s38, s39, s40, s41, s42, s43, s44, s45, _, _, _, s49, s50, s51, rfl, hQ, h0, h1, h2, h3, h4, h5, h6, h7, fun _ => rfl, fun _ => rfl, fun _ => rfl, h11, h12, h13⟩
        case o11 =>
          rintro d _ v hd hr ⟨s38, s39, s40, s41, s42, s43, s44, s45, s46, s47, s48, s49, s50, s51, rfl, hQ, h0, h1, h2, h3, h4, h5, h6, h7, h8, h9, h10, h11, h12, h13⟩
          have e10 : d 10 = true := by first | exact hr.1 rfl | exact hr.2.1 rfl | exact hr.2.2.1 rfl | exact hr.2.2.2.1 rfl
          obtain rfl := h10 e10
          refine wpList_load_mid rfl 27 (.tmp 48) rfl g (k * 16) rfl _ _ (hQ.range hk) Try.underlying27 rfl infoI ?_
          exact ⟨s38, s39, s40, s41, s42, s43, s44, s45, s46, s47, _, _, s50, s51, rfl, hQ, h0, h1, h2, h3, h4, h5, h6, h7, h8, h9, fun _ => rfl, fun _ => rfl, h12, h13⟩
        case o12 =>
          rintro d _ v hd hr ⟨s38, s39, s40, s41, s42, s43, s44, s45, s46, s47, s48, s49, s50, s51, rfl, hQ, h0, h1, h2, h3, h4, h5, h6, h7, h8, h9, h10, h11, h12, h13⟩
          have e11 : d 11 = true := by first | exact hr.1 rfl | exact hr.2.1 rfl | exact hr.2.2.1 rfl | exact hr.2.2.2.1 rfl
          obtain rfl := h11 e11
          go_wp2_with fail
          refine (imay_is hb.out _).mono ?_
          rintro e v' ⟨rfl, hw⟩
          go_wp2_with fail
          exact ⟨s38, s39, s40, s41, s42, s43, s44, s45, s46, s47, s48, _, _, s51, rfl, hQ.below hw, h0, h1, h2, h3, h4, h5, h6, h7, h8, h9, h10, fun _ => rfl, fun _ => rfl, h13⟩
        case o13 =>
          rintro d _ v hd hr ⟨s38, s39, s40, s41, s42, s43, s44, s45, s46, s47, s48, s49, s50, s51, rfl, hQ, h0, h1, h2, h3, h4, h5, h6, h7, h8, h9, h10, h11, h12, h13⟩
          have e7 : d 7 = true := by first | exact hr.1 rfl | exact hr.2.1 rfl | exact hr.2.2.1 rfl | exact hr.2.2.2.1 rfl
          obtain rfl := h7 e7
          have e12 : d 12 = true := by first | exact hr.1 rfl | exact hr.2.1 rfl | exact hr.2.2.1 rfl | exact hr.2.2.2.1 rfl
          obtain rfl := h12 e12
          cases b <;> go_wp2_with fail
          all_goals exact ⟨s38, s39, s40, s41, s42, s43, s44, _, s46, s47, s48, s49, _, _, rfl, hQ, h0, h1, h2, h3, h4, h5, h6, fun _ => rfl, h8, h9, h10, h11, fun _ => rfl, fun _ => rfl⟩
      case he =>
        rintro d _ v hd ⟨s38, s39, s40, s41, s42, s43, s44, s45, s46, s47, s48, s49, s50, s51, rfl, hQ, -, -, -, -, -, -, -, -, -, -, -, -, -, h13⟩
        obtain rfl := h13 (hd 13 (by decide))
        rw [hd 6 (by decide)] at hQ
        go_wp2_with fail
        go_round
        case rel => exact ⟨i + 1, by omega, by go_num, hG.out ▸ hQ⟩
        case measure => simp [intOf]; omega
end Go.Proofs.Ytdnalmikndilpaa
