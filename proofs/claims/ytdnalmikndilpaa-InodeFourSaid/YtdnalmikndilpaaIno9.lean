/- The walk of quernref07.Put. -/
import Derived.Laws.ResultCell
import Derived.Test.YtdnalmikndilpaaIno8
namespace Go.Proofs.Ytdnalmikndilpaa
open Go.RowKit
set_option linter.unusedVariables false

theorem rPut16_in (g n : Nat) (i : Int) (p : Nat) (f : Nat → Int) (v : Int) (w : World) (hi : i = p) (hs : Row w g n f) (hf : IsByte f) (hn : (n : Int) ≤ 9223372036854775807) (hv0 : 0 ≤ v) (hv1 : v ≤ 65535) (h1 : p + 2 ≤ n) :
    Calls Try.prog 20 #[.slice (some ⟨g, 0, none⟩) n n, .int .i64 i, .int .u32 v] w fun e w' => e = .returned (.bool true) ∧ Row w' g n (putB f p v 2) ∧ Only g w w' := by
  subst hi
  have := rPut16_yes g n 0 n n p f v w hn hs hf (by omega) hv0 hv1 h1
  rwa [Nat.zero_add] at this
theorem rPut32_in (g n : Nat) (i : Int) (p : Nat) (f : Nat → Int) (v : Int) (w : World) (hi : i = p) (hs : Row w g n f) (hf : IsByte f) (hn : (n : Int) ≤ 9223372036854775807) (hv0 : 0 ≤ v) (hv1 : v ≤ 4294967295) (h1 : p + 4 ≤ n) :
    Calls Try.prog 21 #[.slice (some ⟨g, 0, none⟩) n n, .int .i64 i, .int .u32 v] w fun e w' => e = .returned (.bool true) ∧ Row w' g n (putB f p v 4) ∧ Only g w w' := by
  subst hi
  have := rPut32_yes g n 0 n n p f v w hn hs hf (by omega) hv0 hv1 h1
  rwa [Nat.zero_add] at this
theorem spl_byte {f h : Nat → Int} (hf : IsByte f) (hh : IsByte h) (p n : Nat) : IsByte (spl f p n h) := fun i => by
  unfold spl; split
  · exact hh _
  · exact hf _
theorem zeroF_byte : IsByte zeroF := fun i => ⟨Int.le_refl 0, (by decide : (0 : Int) ≤ 255)⟩
theorem zero_blk : ∃ i, Try.prog.info? 23 = some i ∧ i.zero = some (.agg (bytesOf 256 zeroF)) := by
  have h : (Try.prog.info? 23).map (·.zero) = some (some (.agg (bytesOf 256 zeroF))) := by kernel_rfl
  cases hi : Try.prog.info? 23 with
  | none => rw [hi] at h; cases h
  | some i => rw [hi] at h; exact ⟨i, rfl, by simpa using h⟩
theorem allocB {ops : Array Oper} {rest : List Oper} {o : Oper} {a : Act} {w : World} {Q : Exit → Act → World → Prop} (hgd : o.guard = none) (ho : o.op = .alloc 23)
    (k : wpList Try.prog ops Q rest (a.put o.dst (.pointer (some ⟨w.heap.size, 0, none⟩))) (w.alloc (.cells (bytesOf 256 zeroF) 23))) : wpList Try.prog ops Q (o :: rest) a w := by
  obtain ⟨i, hi, hz⟩ := zero_blk
  refine wpList_plain hgd fun _ hK => ?_
  unfold Oper.wp execOp
  simp [ho, Instr.alloc, zeroValue, typeInfo, hi, hz, newVar, newRow, Value.cells]
  exact hK _ _ k
theorem spl_step (f : Nat → Int) (p k : Nat) : ∀ j, upd (spl f p k zeroF) (p + k) 0 j = spl f p (k + 1) zeroF j := fun j => by
  by_cases e : j = p + k
  · subst e; rw [upd_same, spl_in (by omega)]; rfl
  · rw [upd_other _ _ e]
    unfold spl
    by_cases h : p ≤ j ∧ j < p + k
    · rw [if_pos h, if_pos (by omega)]
    · rw [if_neg h, if_neg (by omega)]

theorem results_blk {fn : Func} {p u : Tmp} (h : fn.results = #[.cell p 23, .tmp u]) (tmps : Array Value) (w : World) (g : Nat) (f : Nat → Int) (v : Value)
    (hp : tmps.getD p undef = .pointer (some ⟨g, 0, none⟩)) (hu : tmps.getD u undef = v) (hr : Row w g 256 f) : (results fn tmps).run Try.prog w = .ok (.tuple #[.agg (bytesOf 256 f), v]) w := by
  obtain ⟨t, hg⟩ := hr
  rw [results_cell_tmp h, hp]
  simp [asAddr, Result.andThen, run_loadVar_row w g t 23 (bytesOf 256 f) (0, 0) _ hg Try.underlying23 rfl (by rw [bytesOf_size]; exact info256)]
  rw [← hu]; simp
/-- The block in the making, the inode, the result's place. -/
structure PutSt (w : World) (x : Ino) (F : Nat → Int) (v : World) : Prop where
  row : Row v w.heap.size 256 F
  ino : IAt v (w.heap.size + 1) x
  res : Row v (w.heap.size + 1 + 1) 256 zeroF
  old : Below w.heap.size w v
theorem PutSt.below {w v v' : World} {x : Ino} {F : Nat → Int} (h : PutSt w x F v) (k : Below v.heap.size v v') : PutSt w x F v' :=
  ⟨h.row.below k h.row.lt, h.ino.below k h.ino.lt, h.res.below k h.res.lt, h.old.trans (k.mono h.old.size)⟩
theorem PutSt.drew {w v : World} {x : Ino} {F : Nat → Int} (h : PutSt w x F v) : PutSt w x F v.drew := ⟨h.row, h.ino, h.res, h.old.drew⟩
theorem PutSt.only {w v v' : World} {x : Ino} {F F' : Nat → Int} (h : PutSt w x F v) (k : Only w.heap.size v v') (r : Row v' w.heap.size 256 F') : PutSt w x F' v' :=
  ⟨r, h.ino.only k (by omega), h.res.only k (by omega), h.old.trans (k.below (Nat.le_refl _) h.old.size)⟩
theorem PutSt.set_ {w v : World} {x : Ino} {F F' : Nat → Int} (h : PutSt w x F v) (i : Nat) (b : Int) (e : ∀ j, j < 256 → upd F i b j = F' j) : PutSt w x F' (v.setCell ⟨w.heap.size, i, none⟩ (.int .u8 b)) :=
  h.only ((Only.refl _ v).setCell i _) ((h.row.set_ i b).congr e)

theorem rput_place (f : Nat → Int) (n : Int) (x : Ino) (w : World) (h : ¬ placeP n) : Calls Try.prog 11 #[blkV f, .int .i64 n, inoV x] w fun e w' => e = .returned (.tuple #[.agg (bytesOf 256 f), .int .i64 2]) ∧ Below w.heap.size w w' := by
  have H : Hid (placeB n = false) := decide_eq_false h
  clear h
  unfold inoV blkV
  go_enter Try.func11, Try.ntmps11
  go_wp2_with (refine allocB rfl rfl ?_)
  refine (rPlace_any n _).mono ?_
  rintro e w1 ⟨rfl, hw⟩
  obtain ⟨h0, h1, h2, hB⟩ := alloc3_of hw
  have S1 : Hid (PutSt w x f w1) := ⟨⟨_, h0⟩, ⟨_, h1⟩, ⟨_, h2⟩, hB⟩
  clear hw h0 h1 h2 hB
  rw [H.out]
  go_wp2_with (first
    | (refine ld256 rfl (.tmp 3) rfl _ _ rfl S1.out.row ?_)
    | (refine st256 rfl (.tmp 6) (.tmp 13) rfl (w.heap.size + 1 + 1) zeroF f rfl rfl S1.out.res ?_; intro w2 hr2 ho2; have HR2 := hide hr2; have HO2 := hide ho2; clear hr2 ho2))
  have HB : Hid (Below w.heap.size w w2) := S1.out.old.trans ((HO2.out.below (by omega) S1.out.old.size))
  exact bodyPost_ret_by (results_blk rfl _ _ _ _ _ rfl rfl HR2.out) rfl ⟨rfl, HB.out⟩
theorem rput_may (f : Nat → Int) (n : Int) (x : Ino) (w : World) (h : placeP n) (hm : ¬ mayI x) : Calls Try.prog 11 #[blkV f, .int .i64 n, inoV x] w fun e w' => e = .returned (.tuple #[.agg (bytesOf 256 f), .int .i64 70]) ∧ Below w.heap.size w w' := by
  have H : Hid (placeB n = true) := decide_eq_true h
  have Hm : Hid (mayIB x = false) := decide_eq_false hm
  clear h hm
  unfold inoV blkV
  go_enter Try.func11, Try.ntmps11
  go_wp2_with (refine allocB rfl rfl ?_)
  refine (rPlace_any n _).mono ?_
  rintro e w1 ⟨rfl, hw⟩
  obtain ⟨h0, h1, h2, hB⟩ := alloc3_of hw
  have S1 : Hid (PutSt w x f w1) := ⟨⟨_, h0⟩, ⟨_, h1⟩, ⟨_, h2⟩, hB⟩
  clear hw h0 h1 h2 hB
  rw [H.out]
  go_wp2_with (refine ldI rfl (.tmp 5) rfl _ _ rfl S1.out.ino ?_)
  refine (rMay_any x _).mono ?_
  rintro e w3 ⟨rfl, hw⟩
  have S3 := hide (S1.out.below hw)
  clear hw S1
  rw [Hm.out]
  go_wp2_with (first
    | (refine ld256 rfl (.tmp 3) rfl _ _ rfl S3.out.row ?_)
    | (refine st256 rfl (.tmp 6) (.tmp 17) rfl (w.heap.size + 1 + 1) zeroF f rfl rfl S3.out.res ?_; intro w2 hr2 ho2; have HR2 := hide hr2; have HO2 := hide ho2; clear hr2 ho2))
  have HB : Hid (Below w.heap.size w w2) := S3.out.old.trans ((HO2.out.below (by omega) S3.out.old.size))
  exact bodyPost_ret_by (results_blk rfl _ _ _ _ _ rfl rfl HR2.out) rfl ⟨rfl, HB.out⟩
end Go.Proofs.Ytdnalmikndilpaa
