/- nums.Tell: the iterator's contract. -/
import Derived.Test.YtbngbhildijciaaNum3
import Derived.RangeFuncNested
import Derived.RangeFuncBound
import Derived.RangeFuncCalls
import Derived.RangeFuncLeaves
import Derived.RangeFuncBox
import Derived.Shelf.Abstract
import Derived.Shelf.RegionOpen
import Derived.OwnWalkIn
import Derived.TacticsInMore
import Derived.LoopNIn
import Derived.LoopIn
namespace Go.Proofs.Ytbngbhildijciaa
open Go.RowKit Go.Shelf
set_option linter.unusedVariables false
attribute [local go_sem] Oper.semAt_some

/-- A function value held against nil. -/
theorem run_seq_nil (w : World) (fn : Fn) (c : Array Value) : (binOp .eql 88 (.func fn #[] c) .nilFunc).run Try.prog w = .ok (.bool false) w := by
  have h : ∀ d : Nat, (Op.equalIn (d + 1) 88 (.func fn #[] c) .nilFunc).run Try.prog w = .ok false w := fun d => by
    simp [Op.equalIn, run_underlying Try.underlying88]
  simp only [binOp]
  simp [Op.equal, Op.maxDepth, h 9999]

/-- What is told in round x. -/
def tellEnc (f : Nat → Int) (len : Nat) (x : Nat) : Array Value := #[.int .i64 (4 * (x : Int)), .int .u32 (read 4 f len (4 * (x : Int)))]

theorem Tell_in (n : Nat) (A : Option Addr) (len cap : Nat) (w : World) :
    CallsIn Fence.wide n Try.prog 53 #[.slice A len cap] w fun e w' => e = .returned (.func (.func 60) #[] #[.pointer (some ⟨w.heap.size, 0, none⟩)]) ∧ w' = w.alloc (.cells #[.slice A len cap] 63) := by
  refine callsIn_of_wp Try.func53 rfl trivial ?_ rfl
  simp only [Try.ntmps53, List.size_toArray, List.length_cons, List.length_nil, Nat.reduceAdd, Nat.reduceSub, Array.replicate_succ, Array.replicate_zero, List.push_toArray, List.append_toArray, List.nil_append, List.cons_append]
  gi_wp2
  go_ret
  exact ⟨rfl, rfl⟩

theorem range_snoc (k : Nat) : List.range (k + 1) = List.range k ++ [k] := List.range_succ

set_option maxRecDepth 100000 in
set_option maxHeartbeats 2000000 in
theorem Tell1_in (n : Nat) (hn : 1 ≤ n) (l Bx n₀ : Nat) (A : Option Addr) (len cap : Nat) (f : Nat → Int) (hl : (len : Int) ≤ 1000000000) (J Jx : List Nat → World → Prop)
    (hY : ∀ pre x W, J pre W → pre.length < len / 4 → YieldAt Fence.wide (n - 1) Try.prog l (tellEnc f len x) W fun e W' =>
      (e = .returned (.bool true) ∧ J (pre ++ [x]) W' ∧ Below n₀ W W') ∨ (e = .returned (.bool false) ∧ Jx (pre ++ [x]) W'))
    (W : World) (hBn : Bx < n₀) (hBs : W.cell? ⟨Bx, 0, none⟩ = some (.slice A len cap)) (hA : 0 < len → ∀ b off, A = some ⟨b, off, none⟩ → b < n₀) (hb : Bs W A len f) (hf : IsByte f) (h0 : J [] W) :
    CallsIn Fence.wide n Try.prog 60 #[.func (.yield l) #[] #[], .pointer (some ⟨Bx, 0, none⟩)] W fun e W' => (∃ v, e = .returned v) ∧
      ((∃ ys, ys = List.range (len / 4) ∧ J ys W') ∨ (∃ pre, (∃ k, k ≤ len / 4 ∧ pre = List.range k) ∧ Jx pre W')) := by
  have Hb := hide hb
  have Hf := hide hf
  clear hb hf
  refine callsIn_of_wp Try.func60 rfl trivial ?_ rfl
  simp only [Try.ntmps60, List.size_toArray, List.length_cons, List.length_nil, Nat.reduceAdd, Nat.reduceSub, Array.replicate_succ, Array.replicate_zero, List.push_toArray, List.append_toArray, List.nil_append, List.cons_append]
  gi_wp2
  gi_loopw [3] (fun i wr => ∃ k : Nat, k ≤ len / 4 ∧ i = .int .i64 (4 * (k : Int)) ∧ J (List.range k) wr ∧ Below n₀ W wr)
    (fun i _ => len / 4 - (intOf i).toNat / 4)
  case atStart => exact ⟨0, Nat.zero_le _, rfl, h0, Below.refl _ _⟩
  case round =>
    obtain ⟨k, hk, rfl, hJs, hnx⟩ := hrel
    have hcx : wr.cell? ⟨Bx, 0, none⟩ = some (.slice A len cap) := (hnx.cell (p := ⟨Bx, 0, none⟩) hBn).trans hBs
    have Hbr := hide (Hb.out.below hnx hA)
    by_cases hlt : k < len / 4
    · obtain ⟨fn, tmps, assign, body, hy, hR⟩ := hY _ k wr hJs (by rw [List.length_range]; exact hlt)
      unfold tellEnc at hy
      have HR := hide hR
      clear hR
      have hle : (4 * (k : Int)) + 4 ≤ len := by omega
      gi_wp2_with (refine ⟨trivial, ?_⟩; gi_at_call 33; refine (callsIn_wide.2 (Get32_any _ _ _ _ f _ (by omega) Hbr.out Hf.out)).mono ?_; rintro e w1 ⟨rfl, rfl⟩)
      refine HR.out.mono ?_
      rintro e W3 (⟨rfl, hJ3, hk3⟩ | ⟨rfl, hJx3⟩)
      · have HJ := hide hJ3
        have HK := hide (hnx.trans hk3)
        clear hJ3 hk3 hnx hJs
        gi_wp2
        go_roundw
        case rel => exact ⟨k + 1, by omega, by go_num, by rw [range_snoc]; exact HJ.out, HK.out⟩
        case measure => simp [intOf]; omega
      · gi_wp2
        refine bodyPost_ret (results_none rfl _ _ _) rfl ?_
        exact ⟨⟨_, rfl⟩, .inr ⟨_, ⟨k + 1, by omega, rfl⟩, by rw [range_snoc]; exact hJx3⟩⟩
    · obtain rfl : k = len / 4 := by omega
      have hle : (len : Int) < (4 * ((len / 4 : Nat) : Int)) + 4 := by omega
      gi_wp2
      go_end0
      exact ⟨⟨_, rfl⟩, .inl ⟨_, rfl, hJs⟩⟩

/-- What nums.Tell hands back stops where the body says so: it tells the numbers 0, 1, .. in order. -/
theorem Tell_stops (n : Nat) (hn : 1 ≤ n) (Bx n₀ : Nat) (A : Option Addr) (len cap : Nat) (f : Nat → Int) (hl : (len : Int) ≤ 1000000000) (w : World) (hBn : Bx < n₀) (hn₀ : n₀ ≤ w.heap.size)
    (hc : w.cell? ⟨Bx, 0, none⟩ = some (.slice A len cap)) (hA : 0 < len → ∀ b off, A = some ⟨b, off, none⟩ → b < n₀) (hb : Bs w A len f) (hf : IsByte f) :
    SeqStopsK Fence.wide n Try.prog 60 #[.pointer (some ⟨Bx, 0, none⟩)] (tellEnc f len) (Below n₀) (fun ys => ys = List.range (len / 4)) (fun pre => ∃ k, k ≤ len / 4 ∧ pre = List.range k) (len / 4) w := fun l J Jx W hW _ _ hY h0 =>
  Tell1_in n hn l Bx n₀ A len cap f hl J Jx hY W hBn ((hW.cell (p := ⟨Bx, 0, none⟩) (Nat.lt_of_lt_of_le hBn hn₀)).trans hc) hA (hb.below (hW.mono hn₀) hA) hf h0
end Go.Proofs.Ytbngbhildijciaa
