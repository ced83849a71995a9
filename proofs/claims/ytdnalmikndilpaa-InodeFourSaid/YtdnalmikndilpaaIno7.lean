/- The walk of inode.Put. -/
import Derived.Test.YtdnalmikndilpaaIno6
import Derived.Laws.CopyRow
namespace Go.Proofs.Ytdnalmikndilpaa
open Go.RowKit
set_option linter.unusedVariables false

/-- f, with n of h at p. -/
def spl (f : Nat → Int) (p n : Nat) (h : Nat → Int) : Nat → Int := fun i => if p ≤ i ∧ i < p + n then h (i - p) else f i
theorem bytesOf_list (n : Nat) (f : Nat → Int) : (bytesOf n f).toList = bl n f := by
  apply List.ext_getElem?
  intro i
  by_cases hi : i < n
  · rw [bl_get f hi, Array.getElem?_toList, bytesOf_get f hi]
  · rw [List.getElem?_eq_none (by rw [Array.length_toList, bytesOf_size]; omega), List.getElem?_eq_none (by rw [bl_length]; omega)]
theorem Only.alloc {g : Nat} {a w : World} (h : Only g a w) (o : Obj) : Only g a (w.alloc o) := h.trans (World.grownBy_alloc w o _)
theorem Only.then {g : Nat} {a w w' : World} (h : Only g a w) (k : Below w.heap.size w w') : Only g a w' := h.trans ⟨k.os, k.tape, k.output, k.size, fun i hi _ => k.block i hi⟩
theorem Only.new {g b : Nat} {a w w' : World} (h : Only g a w) (k : Only b w w') (hb : a.heap.size ≤ b) : Only g a w' :=
  ⟨k.os.trans h.os, k.tape.trans h.tape, k.output.trans h.output, Nat.le_trans h.size k.size, fun i hi hne => (k.block i (Nat.lt_of_lt_of_le hi h.size) (fun e => by injection e; omega)).trans (h.block i hi hne)⟩
theorem spl_cells (N : Nat) (f : Nat → Int) (p n : Nat) (h : Nat → Int) (hp : p + n ≤ N) : ((bytesOf N f).toList.take p ++ bl n h ++ (bytesOf N f).toList.drop (p + n)).toArray = bytesOf N (spl f p n h) := by
  apply Array.ext'
  rw [bytesOf_list, bytesOf_list]
  apply List.ext_getElem?
  intro i
  have ht : (List.take p (bl N f)).length = p := by rw [List.length_take, bl_length]; omega
  by_cases hi : i < p
  · rw [List.append_assoc, List.getElem?_append_left (by rw [ht]; exact hi), List.getElem?_take, if_pos hi, bl_get f (by omega), bl_get _ (by omega)]
    unfold spl; rw [if_neg (by omega)]
  · by_cases hj : i < p + n
    · rw [List.append_assoc, List.getElem?_append_right (by rw [ht]; omega), ht, List.getElem?_append_left (by rw [bl_length]; omega), bl_get h (by omega), bl_get _ (by omega)]
      unfold spl; rw [if_pos (by omega)]
    · rw [List.getElem?_append_right (by rw [List.length_append, ht, bl_length]; omega), List.length_append, ht, bl_length, List.getElem?_drop]
      have e : p + n + (i - (p + n)) = i := by omega
      rw [e]
      by_cases hN : i < N
      · rw [bl_get f hN, bl_get _ hN]
        unfold spl; rw [if_neg (by omega)]
      · rw [List.getElem?_eq_none (by rw [bl_length]; omega), List.getElem?_eq_none (by rw [bl_length]; omega)]
theorem copyB {ops : Array Oper} {rest : List Oper} {o : Oper} {a : Act} {w : World} {Q : Exit → Act → World → Prop} (hgd : o.guard = none) (d s : Operand)
    (ho : o.op = .call { callee := .builtin .copy, args := #[d, s], argTypes := #[49, 49] }) (g N p dl dc B n c : Nat) (f h : Nat → Int)
    (hd : a.eval d = .slice (some ⟨g, p, none⟩) dl dc) (hs : a.eval s = .slice (some ⟨B, 0, none⟩) n c) (hr : Row w g N f) (hb : Row w B n h) (hn : n ≤ dl) (hp : p + n ≤ N)
    (k : ∀ w', Row w' g N (spl f p n h) → Only g w w' → wpList Try.prog ops Q rest (a.put o.dst (.int .i64 n)) w') : wpList Try.prog ops Q (o :: rest) a w := by
  obtain ⟨t, hr⟩ := hr
  have hrun := run_copy_row (P := Try.prog) w 49 49 o.type 5 g p dl dc ⟨B, 0, none⟩ n c (bytesOf N f) t (bl n h) Try.underlying49 (by kernel_rfl) hr (by rw [bl_length]; exact (Nat.min_eq_left hn).symm)
    (fun j v hv => by
      have hj : j < n := by
        rcases Nat.lt_or_ge j n with h | h
        · exact h
        · rw [List.getElem?_eq_none (by rw [bl_length]; exact h)] at hv; cases hv
      rw [bl_get h hj] at hv
      cases hv
      have := hb.cell hj
      unfold Addr.add
      split
      · rename_i e; subst e; exact this
      · simpa using this) (by rw [bl_length, bytesOf_size]; exact hp)
    (fun v hv => by
      simp only [bl, List.mem_map] at hv
      obtain ⟨_, _, rfl⟩ := hv
      rfl)
  rw [bl_length, spl_cells N f p n h hp] at hrun
  refine wpList_plain hgd fun _ hK => ?_
  unfold Oper.wp execOp
  simp only [ho, resolve, invoke, builtin, Sem.run_bind, Sem.run_pure, Result.andThen_ok, List.map_toArray, List.map_cons, List.map_nil, hd, hs]
  rw [hrun]
  exact hK _ _ (k _ ⟨t, setRow_heap w g _ _ t _ hr⟩ (only_setRow _ _ _))

theorem iput_nil (n : Int) (x : Ino) (w : World) : Calls Try.prog 10 #[.pointer none, .int .i64 n, inoV x] w fun e w' => e = .returned (.int .i64 1) ∧ Below w.heap.size w w' := by
  unfold inoV
  go_enter Try.func10, Try.ntmps10
  go_wp2_with fail
  go_ret
  exact ⟨rfl, (Below.refl _ _).alloc (Nat.le_refl _) _⟩
theorem iput_place (g : Nat) (n : Int) (x : Ino) (w : World) (h : ¬ placeP n) : Calls Try.prog 10 #[.pointer (some ⟨g, 0, none⟩), .int .i64 n, inoV x] w fun e w' => e = .returned (.int .i64 2) ∧ Below w.heap.size w w' := by
  have H : Hid (placeB n = false) := decide_eq_false h
  clear h
  unfold inoV
  go_enter Try.func10, Try.ntmps10
  go_wp2_with fail
  refine (place_any n _).mono ?_
  rintro e w1 ⟨rfl, rfl⟩
  rw [H.out]
  go_wp2_with fail
  go_ret
  exact ⟨rfl, (Below.refl _ _).alloc (Nat.le_refl _) _⟩
theorem iput_may (g : Nat) (n : Int) (x : Ino) (w : World) (h : placeP n) (hm : ¬ mayI x) : Calls Try.prog 10 #[.pointer (some ⟨g, 0, none⟩), .int .i64 n, inoV x] w fun e w' => e = .returned (.int .i64 70) ∧ Below w.heap.size w w' := by
  have H : Hid (placeB n = true) := decide_eq_true h
  have Hm : Hid (mayIB x = false) := decide_eq_false hm
  have G0 := hide (IAt.new w 27 x)
  clear h hm
  unfold inoV
  go_enter Try.func10, Try.ntmps10
  go_wp2_with fail
  refine (place_any n _).mono ?_
  rintro e w1 ⟨rfl, rfl⟩
  rw [H.out]
  go_wp2_with (refine ldI rfl (.tmp 5) rfl _ _ rfl G0.out ?_)
  refine (imay_any x _).mono ?_
  rintro e w2 ⟨rfl, hw⟩
  have HB : Hid (Below w.heap.size w w2) := ((Below.refl _ w).alloc (Nat.le_refl _) _).trans (hw.mono (by simp))
  clear hw
  rw [Hm.out]
  go_wp2_with fail
  go_ret
  exact ⟨rfl, HB.out⟩
set_option maxRecDepth 100000 in
set_option maxHeartbeats 2000000 in
theorem iput_ok (g : Nat) (n : Int) (p : Nat) (f : Nat → Int) (x : Ino) (w : World) (hn : n = (p : Int)) (h : placeP n) (hx : InoOk x) (hm : mayI x) (hr : Row w g 256 f) :
    Calls Try.prog 10 #[.pointer (some ⟨g, 0, none⟩), .int .i64 n, inoV x] w fun e w' => e = .returned (.int .i64 0) ∧ Row w' g 256 (spl f p 64 (inoF x)) ∧ Only g w w' := by
  have H : Hid (placeB n = true) := decide_eq_true h
  have Hm : Hid (mayIB x = true) := decide_eq_true hm
  have HX := hide hx
  have HM := hide hm
  have G0 := hide (IAt.new w 27 x)
  have R0 := hide (hr.alloc (.cells (inoC x) 27))
  have hg := hr.lt
  have hp : p = 0 ∨ p = 64 ∨ p = 128 ∨ p = 192 := by have := placeP_four.1 h; omega
  clear h hx hm hr
  subst hn
  unfold inoV
  go_enter Try.func10, Try.ntmps10
  go_wp2_with fail
  refine (place_any p _).mono ?_
  rintro e w1 ⟨rfl, rfl⟩
  rw [H.out]
  go_wp2_with (refine ldI rfl (.tmp 5) rfl _ _ rfl G0.out ?_)
  refine (imay_any x _).mono ?_
  rintro e w2 ⟨rfl, hw⟩
  have O2 : Hid (Only g w w2) := ((Only.refl g w).alloc _).then hw
  have G2 := hide (G0.out.below hw G0.out.lt)
  have R2 := hide (R0.out.below hw R0.out.lt)
  have hz2 : w.heap.size < w2.heap.size := G2.out.lt
  clear hw G0 R0
  rw [Hm.out]
  go_wp2_with (refine ldI rfl (.tmp 5) rfl _ _ rfl G2.out ?_)
  refine (bytes_any x _ HX.out HM.out).mono ?_
  rintro e w3 ⟨rfl, hw⟩
  have O3 := hide (O2.out.then hw)
  have R3 := hide (R2.out.below hw R2.out.lt)
  have hz3 := hw.size
  clear hw G2 R2 O2
  go_wp2_with (refine st64 rfl (.tmp 7) (.tmp 20) rfl w3.heap.size zeroF (inoF x) rfl rfl (row_of_lit (heap_alloc_new w3 _) (by rfl)) ?_; intro w4 hr4 ho4; have HR4 := hide hr4; have HO4 := hide ho4; clear hr4 ho4)
  have O4 : Hid (Only g w w4) := (O3.out.alloc _).new HO4.out O3.out.size
  have R4 : Hid (Row w4 g 256 f) := (R3.out.alloc _).only HO4.out (by have := O3.out.size; omega)
  clear O3 R3 HO4
  dsimp only [Act.put]
  have hp1 : p ≤ 256 := by omega
  have hp2 : (p : Int) ≤ 256 := by omega
  have hp3 : p ≠ 256 := by omega
  have hp4 : ¬ 256 = p := by omega
  go_still_tail 5, (by kernel_rfl)
  go_wp2_with (refine copyB rfl (.tmp 24) (.tmp 25) rfl g 256 p (256 - p) (256 - p) w3.heap.size 64 64 f (inoF x) rfl rfl R4.out.drew HR4.out.drew (by omega) (by omega) ?_; intro w5 hr5 ho5; have HR5 := hide hr5; have HO5 := hide ho5; clear hr5 ho5)
  go_ret
  exact ⟨rfl, HR5.out, O4.out.drew.trans HO5.out⟩
end Go.Proofs.Ytdnalmikndilpaa
