/- The walks of crc.step, table, times, twice. -/
import Derived.Test.YtbngbhildijciaaCrcP
import Derived.Test.YtbngbhildijciaaWords
import Derived.Test.YtbngbhildijciaaProg
namespace Go.Proofs.Ytbngbhildijciaa
open Go.RowKit
set_option linter.unusedVariables false

theorem step_any (v k : Nat) (w : World) (hv : v < 4294967296) (hk : k ≤ 64) :
    Calls Try.prog 58 #[.int .u32 (v : Int), .int .i64 (k : Int)] w fun e w' => e = .returned (.int .u32 ((shN k v : Nat) : Int)) ∧ w = w' := by
  go_enter Try.func58, Try.ntmps58
  go_wp2_with fail
  go_loop [0, 6] (fun x i => ∃ j : Nat, j ≤ k ∧ i = .int .i64 j ∧ x = .int .u32 ((shN j v : Nat) : Int)) (fun _ i => k - (intOf i).toNat)
  case atStart => exact ⟨0, by omega, rfl, rfl⟩
  case round =>
    obtain ⟨j, hj, rfl, rfl⟩ := hrel
    by_cases hlt : j < k
    · have hx := shN_lt hv j
      have Hs := hide (step_bits hx)
      have He : Hid (shN (j + 1) v = sh (shN j v)) := rfl
      generalize shN j v = x at *
      go_wp2
      go_round
      case rel => exact ⟨j + 1, by omega, by go_num, by rw [He.out, ← Hs.out]⟩
      case measure => simp [intOf]; omega
    · obtain rfl : j = k := by omega
      go_wp2
      go_ret
      exact ⟨rfl, rfl⟩

theorem zeros16 : (#[Value.int .u32 0, Value.int .u32 0, Value.int .u32 0, Value.int .u32 0, Value.int .u32 0, Value.int .u32 0, Value.int .u32 0, Value.int .u32 0, Value.int .u32 0, Value.int .u32 0, Value.int .u32 0, Value.int .u32 0, Value.int .u32 0, Value.int .u32 0, Value.int .u32 0, Value.int .u32 0] : Array Value) = wordsOf 16 (fillF (shN 4) 0) := by rfl

set_option maxHeartbeats 400000 in
theorem table_any (w : World) : Calls Try.prog 51 #[] w fun e w' => e = .returned (.agg (wordsOf 16 (shN 4))) ∧ Below w.heap.size w w' := by
  go_enter Try.func51, Try.ntmps51
  go_wp2_with fail
  obtain ⟨hA, hT, hB⟩ := two_new w 84 16 _ _ zeros16
  generalize ((w.alloc (.cells #[Value.int .u32 0, Value.int .u32 0, Value.int .u32 0, Value.int .u32 0, Value.int .u32 0, Value.int .u32 0, Value.int .u32 0, Value.int .u32 0, Value.int .u32 0, Value.int .u32 0, Value.int .u32 0, Value.int .u32 0, Value.int .u32 0, Value.int .u32 0, Value.int .u32 0, Value.int .u32 0] 84)).alloc (.cells #[Value.int .u32 0, Value.int .u32 0, Value.int .u32 0, Value.int .u32 0, Value.int .u32 0, Value.int .u32 0, Value.int .u32 0, Value.int .u32 0, Value.int .u32 0, Value.int .u32 0, Value.int .u32 0, Value.int .u32 0, Value.int .u32 0, Value.int .u32 0, Value.int .u32 0, Value.int .u32 0] 84)) = W at *
  obtain ⟨tA, hA'⟩ := hA.heap
  have HA := hide hA'
  have hsz := hT.lt
  clear hA hA'
  go_loopw [3] (fun i wr => ∃ k : Nat, k ≤ 16 ∧ i = .int .i64 k ∧ Words wr (w.heap.size + 1) 16 (fillF (shN 4) k) ∧ Only (w.heap.size + 1) W wr) (fun i _ => 16 - (intOf i).toNat)
  case atStart => exact ⟨0, by omega, rfl, hT, Only.refl _ _⟩
  case round =>
    obtain ⟨k, hk, rfl, hr, ho⟩ := hrel
    by_cases hlt : k < 16
    · have hc := hr.cell hlt
      have hz := hr.frozen k
      have Hr := hide ((hr.set_ k (shN 4 k)).congr fun i _ => fillF_step (shN 4) k i)
      have Ho := hide ho
      clear hr ho hT hB
      go_wp2_with (go_at_call 58; refine (step_any k 4 _ (by omega) (by omega)).mono ?_; rintro e w1 ⟨rfl, rfl⟩)
      go_roundw
      case rel => exact ⟨k + 1, by omega, by go_num, Hr.out, Ho.out.setCell _ _⟩
      case measure => simp [intOf]; omega
    · obtain rfl : k = 16 := by omega
      have hr' := hr.congr (f' := shN 4) fun i hi => fillF_full _ hi
      obtain ⟨t1, hg1⟩ := hr'.heap
      have hg0 : wr.heap[w.heap.size]? = some (.cells (wordsOf 16 (fillF (shN 4) 0)) tA (0, 0)) := (ho.block w.heap.size (by omega) (fun e => by injection e; omega)).trans HA.out
      have HB := hide (hB.trans (ho.below (B := w.heap.size) (by omega) (by omega)))
      have hi16 : ∀ f, (Try.prog.info? 84).map (·.size) = some (wordsOf 16 f).size := fun f => by rw [wordsOf_size]; kernel_rfl
      clear hr hr' hT
      have Hg1 := hide hg1
      have Hg0 := hide hg0
      clear hg1 hg0 hB ho
      go_wp2_with (first
        | (refine wpList_load_row rfl 84 (.tmp 1) rfl (w.heap.size + 1) rfl t1 (wordsOf 16 (shN 4)) (0, 0) _ Hg1.out Try.underlying84 rfl (hi16 _) ?_)
        | (refine wpList_store_row rfl 84 (.tmp 0) (.tmp 12) rfl w.heap.size (wordsOf 16 (shN 4)) rfl rfl tA (wordsOf 16 (fillF (shN 4) 0)) Hg0.out (hi16 _) (by rw [wordsOf_size, wordsOf_size]) (wordsOf_one _ _) ?_))
      refine bodyPost_ret (results_cell_row rfl _ _ w.heap.size tA (wordsOf 16 (shN 4)) (0, 0) _ rfl (setRow_heap _ _ _ _ _ _ Hg0.out) Try.underlying84 rfl (hi16 _)) rfl ?_
      exact ⟨rfl, below_setRow HB.out (Nat.le_refl _) _⟩

theorem times_bits {x y : Nat} (hx : x < 4294967296) (hy : y < 4294967296) : bits .xor .u32 (x : Int) (y : Int) = ((x ^^^ y : Nat) : Int) := u32_xor_nat x y hx hy

end Go.Proofs.Ytbngbhildijciaa
