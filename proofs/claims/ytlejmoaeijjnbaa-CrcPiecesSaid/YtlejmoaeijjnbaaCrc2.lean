/- The walks of crc.matrix.twice and crc.Join. -/
import Derived.Test.YtlejmoaeijjnbaaCrc1
namespace Go.Proofs.Ytlejmoaeijjnbaa
open Go.RowKit
set_option linter.unusedVariables false

theorem zeros32 : (#[Value.int .u32 0, Value.int .u32 0, Value.int .u32 0, Value.int .u32 0, Value.int .u32 0, Value.int .u32 0, Value.int .u32 0, Value.int .u32 0, Value.int .u32 0, Value.int .u32 0, Value.int .u32 0, Value.int .u32 0, Value.int .u32 0, Value.int .u32 0, Value.int .u32 0, Value.int .u32 0, Value.int .u32 0, Value.int .u32 0, Value.int .u32 0, Value.int .u32 0, Value.int .u32 0, Value.int .u32 0, Value.int .u32 0, Value.int .u32 0, Value.int .u32 0, Value.int .u32 0, Value.int .u32 0, Value.int .u32 0, Value.int .u32 0, Value.int .u32 0, Value.int .u32 0, Value.int .u32 0] : Array Value) = wordsOf 32 (fun _ => 0) := by rfl

theorem mat_twice (k i : Nat) : shN k (mat k i) = mat (k + k) i := by
  unfold mat; rw [shN_add]
theorem mat_lt {k i : Nat} (h : i < 32) : mat k i < 4294967296 := shN_lt (show 2 ^ i < 4294967296 from Nat.pow_lt_pow_right (by omega) (show i < 32 by omega)) k

set_option maxHeartbeats 400000 in
theorem twice_any (g k : Nat) (w : World) (hm : Words w g 32 (mat k)) : Calls Try.prog 23 #[.pointer (some ⟨g, 0, none⟩)] w fun e w' => e = .returned (.agg (wordsOf 32 (mat (k + k)))) ∧ Below w.heap.size w w' := by
  have Hm := hide hm
  have hlt := hm.lt
  clear hm
  go_enter Try.func23, Try.ntmps23
  go_wp2_with fail
  obtain ⟨hA, hT, hB⟩ := two_new w 43 32 _ _ zeros32
  generalize ((w.alloc (.cells #[Value.int .u32 0, Value.int .u32 0, Value.int .u32 0, Value.int .u32 0, Value.int .u32 0, Value.int .u32 0, Value.int .u32 0, Value.int .u32 0, Value.int .u32 0, Value.int .u32 0, Value.int .u32 0, Value.int .u32 0, Value.int .u32 0, Value.int .u32 0, Value.int .u32 0, Value.int .u32 0, Value.int .u32 0, Value.int .u32 0, Value.int .u32 0, Value.int .u32 0, Value.int .u32 0, Value.int .u32 0, Value.int .u32 0, Value.int .u32 0, Value.int .u32 0, Value.int .u32 0, Value.int .u32 0, Value.int .u32 0, Value.int .u32 0, Value.int .u32 0, Value.int .u32 0, Value.int .u32 0] 43)).alloc (.cells #[Value.int .u32 0, Value.int .u32 0, Value.int .u32 0, Value.int .u32 0, Value.int .u32 0, Value.int .u32 0, Value.int .u32 0, Value.int .u32 0, Value.int .u32 0, Value.int .u32 0, Value.int .u32 0, Value.int .u32 0, Value.int .u32 0, Value.int .u32 0, Value.int .u32 0, Value.int .u32 0, Value.int .u32 0, Value.int .u32 0, Value.int .u32 0, Value.int .u32 0, Value.int .u32 0, Value.int .u32 0, Value.int .u32 0, Value.int .u32 0, Value.int .u32 0, Value.int .u32 0, Value.int .u32 0, Value.int .u32 0, Value.int .u32 0, Value.int .u32 0, Value.int .u32 0, Value.int .u32 0] 43)) = W at *
  obtain ⟨tA, hA'⟩ := hA.heap
  have HA := hide hA'
  have HM := hide (Hm.out.below hB hlt)
  have hsz := hT.lt
  clear hA hA' Hm
  go_loopw [5] (fun i wr => ∃ j : Nat, j ≤ 32 ∧ i = .int .i64 j ∧ Words wr (w.heap.size + 1) 32 (fillF (mat (k + k)) j) ∧ Only (w.heap.size + 1) W wr) (fun i _ => 32 - (intOf i).toNat)
  case atStart => exact ⟨0, by omega, rfl, hT.congr (fun _ _ => by simp [fillF]), Only.refl _ _⟩
  case round =>
    obtain ⟨j, hj, rfl, hr, ho⟩ := hrel
    by_cases hlt2 : j < 32
    · have hm' := HM.out.only ho (by omega)
      have hcm := hm'.cell hlt2
      have hc := hr.cell hlt2
      have hz := hr.frozen j
      have Hmm := hide hm'
      have Hr := hide ((hr.set_ j (mat (k + k) j)).congr fun i _ => fillF_step (mat (k + k)) j i)
      have Ho := hide ho
      have Ht := hide (mat_twice k j)
      have hmlt := mat_lt (k := k) hlt2
      clear hr ho hT hB hm' HM
      generalize hmm : mat k j = x at *
      clear hmm
      go_wp2_with (go_at_call 22; refine (times_any g k x _ Hmm.out (by omega)).mono ?_; rintro e w1 ⟨rfl, rfl⟩; rw [Ht.out])
      go_roundw
      case rel => exact ⟨j + 1, by omega, by go_num, Hr.out, Ho.out.setCell _ _⟩
      case measure => simp [intOf]; omega
    · obtain rfl : j = 32 := by omega
      have hr' := hr.congr (f' := mat (k + k)) fun i hi => fillF_full _ hi
      obtain ⟨t1, hg1⟩ := hr'.heap
      have hg0 : wr.heap[w.heap.size]? = some (.cells (wordsOf 32 (fun _ => 0)) tA (0, 0)) := (ho.block w.heap.size (by omega) (fun e => by injection e; omega)).trans HA.out
      have HB := hide (hB.trans (ho.below (B := w.heap.size) (by omega) (by omega)))
      have hi32 : ∀ f, (Try.prog.info? 43).map (·.size) = some (wordsOf 32 f).size := fun f => by rw [wordsOf_size]; kernel_rfl
      clear hr hr' hT
      have Hg1 := hide hg1
      have Hg0 := hide hg0
      clear hg1 hg0 hB ho HM
      go_wp2_with (first
        | (refine wpList_load_row rfl 43 (.tmp 3) rfl (w.heap.size + 1) rfl t1 (wordsOf 32 (mat (k + k))) (0, 0) _ Hg1.out Try.underlying43 rfl (hi32 _) ?_)
        | (refine wpList_store_row rfl 43 (.tmp 2) (.tmp 18) rfl w.heap.size (wordsOf 32 (mat (k + k))) rfl rfl tA (wordsOf 32 (fun _ => 0)) Hg0.out (hi32 _) (by rw [wordsOf_size, wordsOf_size]) (wordsOf_one _ _) ?_))
      refine bodyPost_ret (results_cell_row rfl _ _ w.heap.size tA (wordsOf 32 (mat (k + k))) (0, 0) _ rfl (setRow_heap _ _ _ _ _ _ Hg0.out) Try.underlying43 rfl (hi32 _)) rfl ?_
      exact ⟨rfl, below_setRow HB.out (Nat.le_refl _) _⟩
end Go.Proofs.Ytlejmoaeijjnbaa
