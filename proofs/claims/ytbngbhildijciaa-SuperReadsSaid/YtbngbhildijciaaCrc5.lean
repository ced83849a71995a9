/- The walk of crc.Sum. -/
import Derived.Test.YtbngbhildijciaaCrc4
namespace Go.Proofs.Ytbngbhildijciaa
open Go.RowKit
set_option linter.unusedVariables false

/-- Pieces of bytes, one behind the other: where each lies, how long it is, what it holds. -/
structure Pcs (w : World) (A : Option Addr) (n : Nat) (P : Nat → Option Addr) (l c : Nat → Nat) (f : Nat → Nat → Int) : Prop where
  top : 0 < n → ∃ b off, A = some ⟨b, off, none⟩ ∧ ∀ i, i < n → w.cell? ⟨b, off + i, none⟩ = some (.slice (P i) (l i) (c i))
  each : ∀ i, i < n → Bs w (P i) (l i) (f i)
  byte : ∀ i, i < n → IsByte (f i)
  len : ∀ i, i < n → l i ≤ c i
  cap : ∀ i, i < n → (c i : Int) ≤ 9223372036854775807

/-- The state behind so many pieces. -/
def stP (s : Nat) (f : Nat → Nat → Int) (l : Nat → Nat) : Nat → Nat
  | 0 => s
  | k + 1 => stF (stP s f l k) (f k) (l k)
theorem stP_lt {s : Nat} (hs : s < 4294967296) {f : Nat → Nat → Int} {l : Nat → Nat} : ∀ {n : Nat}, (∀ i, i < n → IsByte (f i)) → stP s f l n < 4294967296
  | 0, _ => hs
  | n + 1, h => stF_lt (stP_lt hs fun i hi => h i (by omega)) (h n (by omega)) _
/-- The sum of pieces. -/
def sumP (f : Nat → Nat → Int) (l : Nat → Nat) (n : Nat) : Nat := stP ones f l n ^^^ ones

theorem and15 {x : Nat} (hx : x < 4294967296) : bits .and .u32 (x : Int) 15 = ((x % 16 : Nat) : Int) := by
  have := u32_and_nat x 15 hx (by omega)
  rw [show x &&& 15 = x % 16 from Nat.and_two_pow_sub_one_eq_mod x 4] at this
  exact this
theorem half {x : Nat} (hx : x < 4294967296) : bits .xor .u32 ((shN 4 (x % 16) : Nat) : Int) ((x : Int) / 16) = ((shN 4 x : Nat) : Int) := by
  rw [sh4 x]
  exact u32_xor_nat (shN 4 (x % 16)) (x / 16) (shN_lt (by omega) 4) (by omega)
theorem step8 (x : Nat) : shN 4 (shN 4 x) = shN 8 x := (shN_add x 4 4).symm

set_option maxHeartbeats 1000000 in
theorem sum_any (A : Option Addr) (n cap : Nat) (P : Nat → Option Addr) (l c : Nat → Nat) (f : Nat → Nat → Int) (w : World) (hl : (n : Int) ≤ 9223372036854775807) (hP : Pcs w A n P l c f) :
    Calls Try.prog 34 #[.slice A n cap] w fun e w' => e = .returned (.int .u32 ((sumP f l n : Nat) : Int)) ∧ Below w.heap.size w w' := by
  have hP1 : ∀ w', Below w.heap.size w w' → Pcs w' A n P l c f := fun w' hB => ⟨fun hn => by
    obtain ⟨b, off, hA, h⟩ := hP.top hn
    exact ⟨b, off, hA, fun i hi => (hB.cell (p := ⟨b, off + i, none⟩) (block_lt_of_cell (h i hi))).trans (h i hi)⟩, fun i hi => (hP.each i hi).old hB, hP.byte, hP.len, hP.cap⟩
  clear hP
  have hi16 : ∀ f, (Try.prog.info? 84).map (·.size) = some (wordsOf 16 f).size := fun f => by rw [wordsOf_size]; kernel_rfl
  go_enter Try.func34, Try.ntmps34
  go_wp2_with (first
    | (go_at_call 51; refine (table_any _).mono ?_; rintro e w1 ⟨rfl, hB1⟩)
    | (refine wpList_store_row rfl 84 (.tmp 3) (.tmp 9) rfl _ (wordsOf 16 (shN 4)) rfl rfl _ _ (heap_alloc_new _ _) (hi16 _) (by rw [wordsOf_size]; rfl) (wordsOf_one _ _) ?_))
  have hW := Words.of_words (setRow_heap (w1.alloc (.cells #[Value.int .u32 0, Value.int .u32 0, Value.int .u32 0, Value.int .u32 0, Value.int .u32 0, Value.int .u32 0, Value.int .u32 0, Value.int .u32 0, Value.int .u32 0, Value.int .u32 0, Value.int .u32 0, Value.int .u32 0, Value.int .u32 0, Value.int .u32 0, Value.int .u32 0, Value.int .u32 0] 84)) w1.heap.size (wordsOf 16 (shN 4)) _ _ _ (heap_alloc_new _ _))
  have hBW := below_setRow (g := w1.heap.size) (hB1.alloc hB1.size (.cells #[Value.int .u32 0, Value.int .u32 0, Value.int .u32 0, Value.int .u32 0, Value.int .u32 0, Value.int .u32 0, Value.int .u32 0, Value.int .u32 0, Value.int .u32 0, Value.int .u32 0, Value.int .u32 0, Value.int .u32 0, Value.int .u32 0, Value.int .u32 0, Value.int .u32 0, Value.int .u32 0] 84)) hB1.size (wordsOf 16 (shN 4))
  generalize (w1.alloc (.cells #[Value.int .u32 0, Value.int .u32 0, Value.int .u32 0, Value.int .u32 0, Value.int .u32 0, Value.int .u32 0, Value.int .u32 0, Value.int .u32 0, Value.int .u32 0, Value.int .u32 0, Value.int .u32 0, Value.int .u32 0, Value.int .u32 0, Value.int .u32 0, Value.int .u32 0, Value.int .u32 0] 84)).setRow w1.heap.size (wordsOf 16 (shN 4)) = W at *
  have HP := hide (hP1 W hBW)
  have HBW := hide hBW
  have HW := hide hW
  clear hP1 hBW hW hB1 hi16
  generalize w1.heap.size = g at *
  go_loop [4, 12] (fun x i => ∃ k : Nat, k ≤ n ∧ i = .int .i64 k ∧ x = .int .u32 ((stP ones f l k : Nat) : Int)) (fun _ i => n - (intOf i).toNat)
  case atStart => exact ⟨0, by omega, rfl, rfl⟩
  case round =>
    obtain ⟨k, hk, rfl, rfl⟩ := hrel
    by_cases hlt : k < n
    · obtain ⟨b, off, rfl, sA⟩ := HP.out.top (by omega)
      have hc0 := sA k hlt
      have b0 : (0 : Int) ≤ k := by omega
      have b1 : (k : Int) < n := by omega
      have hs := stP_lt (f := f) (l := l) ones_lt (n := k) (fun i hi => HP.out.byte i (by omega))
      have Hb := hide (HP.out.each k hlt)
      have Hf := hide (HP.out.byte k hlt)
      have hle := HP.out.len k hlt
      have hcp := HP.out.cap k hlt
      have He : Hid (stP ones f l (k + 1) = stF (stP ones f l k) (f k) (l k)) := rfl
      clear sA HP
      generalize stP ones f l k = s at *
      generalize f k = fk at *
      generalize l k = lk at *
      generalize c k = ck at *
      generalize P k = Pk at *
      go_wp2_with fail
      go_loop [4, 18] (fun x i => ∃ j : Nat, j ≤ lk ∧ i = .int .i64 j ∧ x = .int .u32 ((stF s fk j : Nat) : Int)) (fun _ i => lk - (intOf i).toNat)
      case atStart => exact ⟨0, by omega, rfl, rfl⟩
      case round =>
        obtain ⟨j, hj, rfl, rfl⟩ := hrel
        by_cases hlj : j < lk
        · obtain ⟨b', o', rfl, sB⟩ := Hb.out.at_ (by omega)
          have hc1 := sB j hlj
          have b2 : (0 : Int) ≤ j := by omega
          have b3 : (j : Int) < lk := by omega
          obtain ⟨y, hy, hye⟩ : ∃ y : Nat, y < 256 ∧ fk j = (y : Int) := ⟨_, (byteNat Hf.out j).1, (byteNat Hf.out j).2⟩
          have hx := stF_lt hs Hf.out j
          have Hs8 : Hid (stF s fk (j + 1) = shN 4 (shN 4 (stF s fk j ^^^ y))) := by rw [Hid, step8, stF, hye]; rfl
          have hxe := times_bits hx (show y < 4294967296 by omega)
          have hxy : stF s fk j ^^^ y < 4294967296 := Nat.xor_lt_two_pow (n := 32) hx (by omega)
          rw [hye] at hc1
          clear hye sB Hb Hf
          generalize stF s fk j = x at *
          generalize x ^^^ y = z at *
          have ha1 := and15 hxy
          have hh1 := half hxy
          have hz1 := shN_lt hxy 4
          have hw1 := HW.out.cell (i := z % 16) (by omega)
          generalize shN 4 z = z1 at *
          have ha2 := and15 hz1
          have hh2 := half hz1
          have hw2 := HW.out.cell (i := z1 % 16) (by omega)
          clear HW
          go_wp2_with fail
          go_round
          case rel => exact ⟨j + 1, by omega, by go_num, by rw [Hs8.out]⟩
          case measure => simp [intOf]; omega
        · obtain rfl : j = lk := by omega
          rw [← He.out]
          go_wp2_with fail
          go_round
          case rel => exact ⟨k + 1, by omega, by go_num, rfl⟩
          case measure => simp [intOf]; omega
    · obtain rfl : k = n := by omega
      have hs := stP_lt (f := f) (l := l) ones_lt (n := k) (fun i hi => HP.out.byte i (by omega))
      have Hx : Hid (bits .xor .u32 IntKind.u32.max ((stP ones f l k : Nat) : Int) = ((sumP f l k : Nat) : Int)) := by
        rw [Hid, sumP, Nat.xor_comm]; exact times_bits ones_lt hs
      generalize stP ones f l k = s at *
      go_wp2_with fail
      go_ret
      exact ⟨by rw [← Hx.out]; rfl, HBW.out⟩
end Go.Proofs.Ytbngbhildijciaa
