/- The walk of crc.Join. -/
import Derived.Test.YtlejmoaeijjnbaaCrc2
namespace Go.Proofs.Ytlejmoaeijjnbaa
open Go.RowKit
set_option linter.unusedVariables false

theorem i64_and1 (x : Nat) (h : x < 9223372036854775808) : bits .and .i64 (x : Int) 1 = ((x % 2 : Nat) : Int) := by
  show IntKind.i64.wrap ((BitVec.ofInt 64 (x : Int) &&& BitVec.ofInt 64 1).toNat : Int) = _
  rw [BitVec.toNat_and]
  have e1 : (BitVec.ofInt 64 (x : Int)).toNat = x := by
    rw [BitVec.ofInt_natCast, BitVec.toNat_ofNat]; exact Nat.mod_eq_of_lt (by omega)
  have e2 : (BitVec.ofInt 64 1).toNat = 1 := by decide
  rw [e1, e2, nat_mask1, IntKind.wrap_i64]
  omega

theorem join_neg (a b n : Int) (w : World) (hn : n < 0) :
    Calls Try.prog 16 #[.int .u32 a, .int .u32 b, .int .i64 n] w fun e w' => e = .returned (.int .u32 0) ∧ w = w' := by
  go_enter Try.func16, Try.ntmps16
  go_wp2
  go_ret
  exact ⟨rfl, rfl⟩

set_option maxHeartbeats 1000000 in
theorem join_any (a b n : Nat) (w : World) (ha : a < 4294967296) (hb : b < 4294967296) (hn : n < 9223372036854775808) :
    Calls Try.prog 16 #[.int .u32 (a : Int), .int .u32 (b : Int), .int .i64 (n : Int)] w fun e w' => e = .returned (.int .u32 ((shN (8 * n) a ^^^ b : Nat) : Int)) ∧ Below w.heap.size w w' := by
  have hn0 : (0 : Int) ≤ (n : Int) := by omega
  go_enter Try.func16, Try.ntmps16
  go_wp2_with fail
  have hA := Words.lit w 43 32 _ _ zeros32
  have hB : Below w.heap.size w (w.alloc (.cells #[Value.int .u32 0, Value.int .u32 0, Value.int .u32 0, Value.int .u32 0, Value.int .u32 0, Value.int .u32 0, Value.int .u32 0, Value.int .u32 0, Value.int .u32 0, Value.int .u32 0, Value.int .u32 0, Value.int .u32 0, Value.int .u32 0, Value.int .u32 0, Value.int .u32 0, Value.int .u32 0, Value.int .u32 0, Value.int .u32 0, Value.int .u32 0, Value.int .u32 0, Value.int .u32 0, Value.int .u32 0, Value.int .u32 0, Value.int .u32 0, Value.int .u32 0, Value.int .u32 0, Value.int .u32 0, Value.int .u32 0, Value.int .u32 0, Value.int .u32 0, Value.int .u32 0, Value.int .u32 0] 43)) := (Below.refl _ w).alloc (Nat.le_refl _) _
  generalize (w.alloc (.cells #[Value.int .u32 0, Value.int .u32 0, Value.int .u32 0, Value.int .u32 0, Value.int .u32 0, Value.int .u32 0, Value.int .u32 0, Value.int .u32 0, Value.int .u32 0, Value.int .u32 0, Value.int .u32 0, Value.int .u32 0, Value.int .u32 0, Value.int .u32 0, Value.int .u32 0, Value.int .u32 0, Value.int .u32 0, Value.int .u32 0, Value.int .u32 0, Value.int .u32 0, Value.int .u32 0, Value.int .u32 0, Value.int .u32 0, Value.int .u32 0, Value.int .u32 0, Value.int .u32 0, Value.int .u32 0, Value.int .u32 0, Value.int .u32 0, Value.int .u32 0, Value.int .u32 0, Value.int .u32 0] 43)) = W at *
  have HBW := hide hB
  have hsz := hA.lt
  clear hB
  go_loopw [11] (fun i wr => ∃ j : Nat, j ≤ 32 ∧ i = .int .i64 j ∧ Words wr w.heap.size 32 (fillF (mat 8) j) ∧ Only w.heap.size W wr) (fun i _ => 32 - (intOf i).toNat)
  case atStart => exact ⟨0, by omega, rfl, hA.congr (fun _ _ => by simp [fillF]), Only.refl _ _⟩
  case round =>
    obtain ⟨j, hj, rfl, hr, ho⟩ := hrel
    by_cases hlt2 : j < 32
    · have hc := hr.cell hlt2
      have hz := hr.frozen j
      have Hr := hide ((hr.set_ j (mat 8 j)).congr fun i _ => fillF_step (mat 8) j i)
      have Ho := hide ho
      have hp : 2 ^ j < 4294967296 := Nat.pow_lt_pow_right (by omega) (show j < 32 by omega)
      have Hsh : Hid ((2 : Int) ^ j % 4294967296 = ((2 ^ j : Nat) : Int)) := by
        have h1 : ((2 ^ j : Nat) : Int) = (2 : Int) ^ j := by simp
        rw [Hid, ← h1]; exact Int.emod_eq_of_lt (Int.natCast_nonneg _) (Int.ofNat_lt.2 hp)
      have Hst : Hid (∀ w0, Calls Try.prog 21 #[.int .u32 ((2 ^ j : Nat) : Int), .int .i64 ((8 : Nat) : Int)] w0 fun e w' => e = .returned (.int .u32 ((mat 8 j : Nat) : Int)) ∧ w0 = w') := fun w0 => step_any (2 ^ j) 8 w0 hp (by omega)
      clear hr ho hA hp
      go_wp2_with fail
      rw [Hsh.out]
      refine (Hst.out _).mono ?_
      rintro e w1 ⟨rfl, rfl⟩
      go_wp2_with fail
      go_roundw
      case rel => exact ⟨j + 1, by omega, by go_num, Hr.out, Ho.out.setCell _ _⟩
      case measure => simp [intOf]; omega
    · obtain rfl : j = 32 := by omega
      have hr8 := hr.congr (f' := mat (8 * 2 ^ 0)) fun i hi => fillF_full _ hi
      have HBr : Hid (Below w.heap.size w wr) := HBW.out.trans (ho.below (Nat.le_refl _) (by omega))
      have Hm := hide hr8
      clear hr hr8 ho hA HBW hsz
      go_wp2_with fail
      generalize wr = w0 at *
      go_loopw [0, 2] (fun x y wr => ∃ t : Nat, t ≤ 63 ∧ y = .int .i64 ((n / 2 ^ t : Nat) : Int) ∧ x = .int .u32 ((shN (8 * (n % 2 ^ t)) a : Nat) : Int) ∧ Words wr w.heap.size 32 (mat (8 * 2 ^ t)) ∧ Below w.heap.size w wr) (fun _ y _ => (intOf y).toNat)
      case atStart => exact ⟨0, by omega, by simp, by simp [Nat.mod_one, shN], Hm.out, HBr.out⟩
      case round =>
        obtain ⟨t, ht, rfl, rfl, hm, hB⟩ := hrel
        by_cases hz : n / 2 ^ t = 0
        · have he : n % 2 ^ t = n := Nat.mod_eq_of_lt ((Nat.div_eq_zero_iff_lt (Nat.two_pow_pos t)).1 hz)
          rw [hz, he]
          have Hx := hide (times_bits (shN_lt ha (8 * n)) hb)
          have HB := hide hB
          clear hz he hm hB Hm HBr
          go_wp2_with fail
          go_ret
          exact ⟨by rw [← Hx.out]; rfl, HB.out⟩
        · have ht63 : t < 63 := by
            refine Nat.lt_of_not_le fun h => hz ?_
            have : n < 2 ^ t := Nat.lt_of_lt_of_le hn (show 2 ^ 63 ≤ 2 ^ t from Nat.pow_le_pow_right (by omega) h)
            exact Nat.div_eq_of_lt this
          have Hdv : Hid (n / 2 ^ (t + 1) = n / 2 ^ t / 2) := by rw [Hid, Nat.pow_succ, Nat.div_div_eq_div_mul]
          have hmd : n % 2 ^ (t + 1) = n % 2 ^ t + (if n / 2 ^ t % 2 = 1 then 2 ^ t else 0) := by
            rw [Nat.pow_succ, Nat.mod_mul]
            split
            · rename_i h; rw [h, Nat.mul_one]
            · rename_i h; rw [show n / 2 ^ t % 2 = 0 by omega, Nat.mul_zero]
          have Hsh : Hid (shN (8 * (n % 2 ^ (t + 1))) a = if n / 2 ^ t % 2 = 1 then shN (8 * 2 ^ t) (shN (8 * (n % 2 ^ t)) a) else shN (8 * (n % 2 ^ t)) a) := by
            rw [Hid, hmd]
            split
            · rw [Nat.mul_add, shN_add]
            · rfl
          have Hk : Hid (mat (8 * 2 ^ t + 8 * 2 ^ t) = mat (8 * 2 ^ (t + 1))) := by rw [Hid, Nat.pow_succ]; congr 1; omega
          have hx : n / 2 ^ t < 9223372036854775808 := Nat.lt_of_le_of_lt (Nat.div_le_self _ _) hn
          have e1 := i64_and1 _ hx
          have hal := shN_lt ha (8 * (n % 2 ^ t))
          obtain ⟨tm, hmh⟩ := hm.heap
          have HM := hide hm
          have HB := hide hB
          have hbs := hB.size
          have hgl := hm.lt
          have hi32 : ∀ f, (Try.prog.info? 43).map (·.size) = some (wordsOf 32 f).size := fun f => by rw [wordsOf_size]; kernel_rfl
          generalize n / 2 ^ t = x at *
          generalize shN (8 * (n % 2 ^ t)) a = al at *
          generalize 8 * 2 ^ t = k at *
          have hpos : (0 : Int) < (x : Int) := by omega
          have Hmh := hide hmh
          clear hmd hm hB hmh Hm HBr hz
          by_cases hbit : x % 2 = 1
          · have hbe : (bits .and .i64 (x : Int) 1 == 1) = true := by rw [e1, hbit]; rfl
            have Hbit := hide hbit
            clear e1 hbit
            go_wp2_with (first
              | (go_at_call 22; refine (times_any w.heap.size k al _ HM.out hal).mono ?_; rintro e w1 ⟨rfl, rfl⟩)
              | (go_at_call 23; refine (twice_any w.heap.size k _ HM.out).mono ?_; rintro e w2 ⟨rfl, h2⟩; have H2 := hide h2; have H2s := h2.size; have Hmh2 := hide ((h2.block w.heap.size hgl).trans Hmh.out); clear h2)
              | (refine wpList_store_row rfl 43 (.tmp 7) (.tmp 29) rfl w.heap.size (wordsOf 32 (mat (k + k))) rfl rfl tm (wordsOf 32 (mat k)) Hmh2.out (hi32 _) (by rw [wordsOf_size, wordsOf_size]) (wordsOf_one _ _) ?_))
            go_roundw
            case rel => ((repeat apply Exists.intro); exact ⟨⟨t + 1, by omega, by rw [Hdv.out]; go_num, by rw [Hsh.out, if_pos Hbit.out], by rw [← Hk.out]; exact Words.of_words (setRow_heap _ _ _ _ _ _ Hmh2.out), below_setRow (HB.out.trans (H2.out.mono (by omega))) (Nat.le_refl _) _⟩, rfl⟩)
            case measure => simp [intOf]; omega
          · have hbe : (bits .and .i64 (x : Int) 1 == 1) = false := by rw [e1, show x % 2 = 0 by omega]; rfl
            have Hbit := hide hbit
            clear e1 hbit
            go_wp2_with (first
              | (go_at_call 23; refine (twice_any w.heap.size k _ HM.out).mono ?_; rintro e w2 ⟨rfl, h2⟩; have H2 := hide h2; have H2s := h2.size; have Hmh2 := hide ((h2.block w.heap.size hgl).trans Hmh.out); clear h2)
              | (refine wpList_store_row rfl 43 (.tmp 7) (.tmp 29) rfl w.heap.size (wordsOf 32 (mat (k + k))) rfl rfl tm (wordsOf 32 (mat k)) Hmh2.out (hi32 _) (by rw [wordsOf_size, wordsOf_size]) (wordsOf_one _ _) ?_))
            go_roundw
            case rel => ((repeat apply Exists.intro); exact ⟨⟨t + 1, by omega, by rw [Hdv.out]; go_num, by rw [Hsh.out, if_neg Hbit.out], by rw [← Hk.out]; exact Words.of_words (setRow_heap _ _ _ _ _ _ Hmh2.out), below_setRow (HB.out.trans (H2.out.mono (by omega))) (Nat.le_refl _) _⟩, rfl⟩)
            case measure => simp [intOf]; omega
end Go.Proofs.Ytlejmoaeijjnbaa
