/- The walks of crc.step, table, times, twice. -/
import Derived.Test.YtlejmoaeijjnbaaCrcP
import Derived.Test.YtlejmoaeijjnbaaWords
import Derived.Test.YtlejmoaeijjnbaaProg
namespace Go.Proofs.Ytlejmoaeijjnbaa
open Go.RowKit
set_option linter.unusedVariables false

theorem step_any (v k : Nat) (w : World) (hv : v < 4294967296) (hk : k ≤ 64) :
    Calls Try.prog 21 #[.int .u32 (v : Int), .int .i64 (k : Int)] w fun e w' => e = .returned (.int .u32 ((shN k v : Nat) : Int)) ∧ w = w' := by
  go_enter Try.func21, Try.ntmps21
  go_wp2_with fail
  go_loop [0, 6] (fun x i => ∃ j : Nat, j ≤ k ∧ i = .int .i64 j ∧ x = .int .u32 ((shN j v : Nat) : Int)) (fun _ i => k - (intOf i).toNat)
  case atStart => exact ⟨0, by omega, rfl, rfl⟩
  case round =>
    obtain ⟨j, hj, rfl, rfl⟩ := hrel
    by_cases hlt : j < k
    · have hx := shN_lt hv j
      have Hs := hide (step_bits hx)
      have He : Hid (shN (j + 1) v = sh (shN j v)) := rfl
      generalize shN j v = x at *
      go_wp2
      go_round
      case rel => exact ⟨j + 1, by omega, by go_num, by rw [He.out, ← Hs.out]⟩
      case measure => simp [intOf]; omega
    · obtain rfl : j = k := by omega
      go_wp2
      go_ret
      exact ⟨rfl, rfl⟩

theorem zeros16 : (#[Value.int .u32 0, Value.int .u32 0, Value.int .u32 0, Value.int .u32 0, Value.int .u32 0, Value.int .u32 0, Value.int .u32 0, Value.int .u32 0, Value.int .u32 0, Value.int .u32 0, Value.int .u32 0, Value.int .u32 0, Value.int .u32 0, Value.int .u32 0, Value.int .u32 0, Value.int .u32 0] : Array Value) = wordsOf 16 (fillF (shN 4) 0) := by rfl

set_option maxHeartbeats 400000 in
theorem table_any (w : World) : Calls Try.prog 19 #[] w fun e w' => e = .returned (.agg (wordsOf 16 (shN 4))) ∧ Below w.heap.size w w' := by
  go_enter Try.func19, Try.ntmps19
  go_wp2_with fail
  obtain ⟨hA, hT, hB⟩ := two_new w 38 16 _ _ zeros16
  generalize ((w.alloc (.cells #[Value.int .u32 0, Value.int .u32 0, Value.int .u32 0, Value.int .u32 0, Value.int .u32 0, Value.int .u32 0, Value.int .u32 0, Value.int .u32 0, Value.int .u32 0, Value.int .u32 0, Value.int .u32 0, Value.int .u32 0, Value.int .u32 0, Value.int .u32 0, Value.int .u32 0, Value.int .u32 0] 38)).alloc (.cells #[Value.int .u32 0, Value.int .u32 0, Value.int .u32 0, Value.int .u32 0, Value.int .u32 0, Value.int .u32 0, Value.int .u32 0, Value.int .u32 0, Value.int .u32 0, Value.int .u32 0, Value.int .u32 0, Value.int .u32 0, Value.int .u32 0, Value.int .u32 0, Value.int .u32 0, Value.int .u32 0] 38)) = W at *
  obtain ⟨tA, hA'⟩ := hA.heap
  have HA := hide hA'
  have hsz := hT.lt
  clear hA hA'
  go_loopw [3] (fun i wr => ∃ k : Nat, k ≤ 16 ∧ i = .int .i64 k ∧ Words wr (w.heap.size + 1) 16 (fillF (shN 4) k) ∧ Only (w.heap.size + 1) W wr) (fun i _ => 16 - (intOf i).toNat)
  case atStart => exact ⟨0, by omega, rfl, hT, Only.refl _ _⟩
  case round =>
    obtain ⟨k, hk, rfl, hr, ho⟩ := hrel
    by_cases hlt : k < 16
    · have hc := hr.cell hlt
      have hz := hr.frozen k
      have Hr := hide ((hr.set_ k (shN 4 k)).congr fun i _ => fillF_step (shN 4) k i)
      have Ho := hide ho
      clear hr ho hT hB
      go_wp2_with (go_at_call 21; refine (step_any k 4 _ (by omega) (by omega)).mono ?_; rintro e w1 ⟨rfl, rfl⟩)
      go_roundw
      case rel => exact ⟨k + 1, by omega, by go_num, Hr.out, Ho.out.setCell _ _⟩
      case measure => simp [intOf]; omega
    · obtain rfl : k = 16 := by omega
      have hr' := hr.congr (f' := shN 4) fun i hi => fillF_full _ hi
      obtain ⟨t1, hg1⟩ := hr'.heap
      have hg0 : wr.heap[w.heap.size]? = some (.cells (wordsOf 16 (fillF (shN 4) 0)) tA (0, 0)) := (ho.block w.heap.size (by omega) (fun e => by injection e; omega)).trans HA.out
      have HB := hide (hB.trans (ho.below (B := w.heap.size) (by omega) (by omega)))
      have hi16 : ∀ f, (Try.prog.info? 38).map (·.size) = some (wordsOf 16 f).size := fun f => by rw [wordsOf_size]; kernel_rfl
      clear hr hr' hT
      have Hg1 := hide hg1
      have Hg0 := hide hg0
      clear hg1 hg0 hB ho
      go_wp2_with (first
        | (refine wpList_load_row rfl 38 (.tmp 1) rfl (w.heap.size + 1) rfl t1 (wordsOf 16 (shN 4)) (0, 0) _ Hg1.out Try.underlying38 rfl (hi16 _) ?_)
        | (refine wpList_store_row rfl 38 (.tmp 0) (.tmp 12) rfl w.heap.size (wordsOf 16 (shN 4)) rfl rfl tA (wordsOf 16 (fillF (shN 4) 0)) Hg0.out (hi16 _) (by rw [wordsOf_size, wordsOf_size]) (wordsOf_one _ _) ?_))
      refine bodyPost_ret (results_cell_row rfl _ _ w.heap.size tA (wordsOf 16 (shN 4)) (0, 0) _ rfl (setRow_heap _ _ _ _ _ _ Hg0.out) Try.underlying38 rfl (hi16 _)) rfl ?_
      exact ⟨rfl, below_setRow HB.out (Nat.le_refl _) _⟩

/-- The step of k bits: what each bit comes to. -/
def mat (k : Nat) : Nat → Nat := fun i => shN k (2 ^ i)

theorem times_bits {x y : Nat} (hx : x < 4294967296) (hy : y < 4294967296) : bits .xor .u32 (x : Int) (y : Int) = ((x ^^^ y : Nat) : Int) := u32_xor_nat x y hx hy

set_option maxHeartbeats 400000 in
theorem times_any (g k v : Nat) (w : World) (hm : Words w g 32 (mat k)) (hv : v < 4294967296) :
    Calls Try.prog 22 #[.pointer (some ⟨g, 0, none⟩), .int .u32 (v : Int)] w fun e w' => e = .returned (.int .u32 ((shN k v : Nat) : Int)) ∧ w = w' := by
  have Hm := hide hm
  clear hm
  go_enter Try.func22, Try.ntmps22
  go_wp2_with fail
  go_loop [1, 5, 6] (fun x o i => ∃ j : Nat, j ≤ 32 ∧ i = .int .i64 j ∧ x = .int .u32 ((v / 2 ^ j : Nat) : Int) ∧ o = .int .u32 ((shN k (v % 2 ^ j) : Nat) : Int)) (fun _ _ i => 32 - (intOf i).toNat)
  case atStart => exact ⟨0, by omega, rfl, by simp, by simp [Nat.mod_one, shN_zero]⟩
  case round =>
    obtain ⟨j, hj, rfl, rfl, rfl⟩ := hrel
    by_cases hz : v / 2 ^ j = 0
    · have he : v % 2 ^ j = v := Nat.mod_eq_of_lt ((Nat.div_eq_zero_iff_lt (Nat.two_pow_pos j)).1 hz)
      rw [he]
      rw [hz]
      clear he hz
      go_wp2
      go_ret
      exact ⟨rfl, rfl⟩
    · have hj32 : j < 32 := by
        refine Nat.lt_of_not_le fun h => hz ?_
        have : v < 2 ^ j := Nat.lt_of_lt_of_le hv (show 2 ^ 32 ≤ 2 ^ j from Nat.pow_le_pow_right (by omega) h)
        exact Nat.div_eq_of_lt this
      have hc := Hm.out.cell hj32
      have Hsp := hide (shN_split k v j)
      have Hdv : Hid (v / 2 ^ (j + 1) = v / 2 ^ j / 2) := by rw [Hid, Nat.pow_succ, Nat.div_div_eq_div_mul]
      have hlo := shN_lt (v := v % 2 ^ j) (Nat.lt_of_le_of_lt (Nat.mod_le _ _) hv) k
      have hmt : mat k j < 4294967296 := shN_lt (show 2 ^ j < 4294967296 from Nat.pow_lt_pow_right (by omega) (show j < 32 by omega)) k
      have Hx := hide (times_bits hlo hmt)
      have hx : v / 2 ^ j < 4294967296 := Nat.lt_of_le_of_lt (Nat.div_le_self _ _) hv
      have e1 : bits .and .u32 ((v / 2 ^ j : Nat) : Int) 1 = ((v / 2 ^ j % 2 : Nat) : Int) := by
        have := u32_and_nat (v / 2 ^ j) 1 hx (by omega)
        rw [nat_mask1] at this
        exact this
      have Hmat : Hid (mat k j = shN k (2 ^ j)) := rfl
      generalize v / 2 ^ j = x at *
      generalize shN k (v % 2 ^ j) = lo at *
      generalize mat k j = m at *
      have hne : ((x : Int) != 0) = true := by simp; omega
      by_cases hb : x % 2 = 1
      · have hbe : (bits .and .u32 (x : Int) 1 == 1) = true := by rw [e1, hb]; rfl
        have Hb := hide hb
        clear e1 hz hb
        go_wp2
        go_round
        case rel => exact ⟨j + 1, by omega, by go_num, by rw [Hdv.out]; go_num, by rw [Hsp.out, if_pos Hb.out, ← Hmat.out, Hx.out]⟩
        case measure => simp [intOf]; omega
      · have hbe : (bits .and .u32 (x : Int) 1 == 1) = false := by rw [e1, show x % 2 = 0 by omega]; rfl
        have Hb := hide hb
        clear e1 hz hb
        go_wp2
        go_round
        case rel => exact ⟨j + 1, by omega, by go_num, by rw [Hdv.out]; go_num, by rw [Hsp.out, if_neg Hb.out, Nat.xor_zero]⟩
        case measure => simp [intOf]; omega
end Go.Proofs.Ytlejmoaeijjnbaa
