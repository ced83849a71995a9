/- geo.parts: the iterator's contract. -/
import Derived.Test.YtcigoodmkfnnfaaGeo8
import Derived.RangeFuncNested
import Derived.RangeFuncBound
import Derived.RangeFuncCalls
import Derived.RangeFuncLeaves
import Derived.RangeFuncBox
import Derived.Shelf.Abstract
import Derived.Shelf.RegionOpen
import Derived.OwnWalkIn
import Derived.TacticsInMore
import Derived.LoopNIn
import Derived.LoopIn
namespace Go.Proofs.Ytcigoodmkfnnfaa
open Go.RowKit Go.Shelf
set_option linter.unusedVariables false
attribute [local go_sem] Oper.semAt_some

/-- Where part x begins. -/
def partAt (b c : Int) : Nat → Int
  | 0 => 0
  | 1 => 1
  | 2 => 2
  | 3 => 2 + c / 4
  | _ => b
/-- What part x is. -/
def kindAt : Nat → Int
  | 0 => 4
  | 1 => 5
  | 2 => 6
  | 3 => 7
  | _ => 8
/-- What is told in round x. -/
def partEnc (b c : Int) (x : Nat) : Array Value := #[.agg #[.int .i64 (partAt b c x), .int .i64 (partAt b c (x + 1)), .int .u8 (kindAt x)]]

theorem parts_in (n : Nat) (a b c d : Int) (w : World) :
    CallsIn Fence.wide n Try.prog 32 #[geoV a b c d] w fun e w' => e = .returned (.func (.func 33) #[] #[.pointer (some ⟨w.heap.size, 0, none⟩)]) ∧ w' = w.alloc (.cells #[.int .i64 a, .int .i64 b, .int .i64 c, .int .i64 d] 23) := by
  unfold geoV
  refine callsIn_of_wp Try.func32 rfl trivial ?_ rfl
  simp only [Try.ntmps32, List.size_toArray, List.length_cons, List.length_nil, Nat.reduceAdd, Nat.reduceSub, Array.replicate_succ, Array.replicate_zero, List.push_toArray, List.append_toArray, List.nil_append, List.cons_append]
  gi_wp2
  go_ret
  exact ⟨rfl, rfl⟩
theorem range_snoc (k : Nat) : List.range (k + 1) = List.range k ++ [k] := List.range_succ

set_option maxRecDepth 100000 in
set_option maxHeartbeats 4000000 in
theorem parts1_in (n : Nat) (hn : 1 ≤ n) (l Bx n₀ : Nat) (a b c d : Int) (hc0 : 0 ≤ c) (hc1 : c ≤ 1000) (J Jx : List Nat → World → Prop)
    (hY : ∀ pre x W, J pre W → pre.length < 4 → YieldAt Fence.wide (n - 1) Try.prog l (partEnc b c x) W fun e W' =>
      (e = .returned (.bool true) ∧ J (pre ++ [x]) W' ∧ Below n₀ W W') ∨ (e = .returned (.bool false) ∧ Jx (pre ++ [x]) W'))
    (W : World) (hBn : Bx < n₀) (hc2 : W.cell? ⟨Bx, 2, none⟩ = some (.int .i64 c)) (hb1 : W.cell? ⟨Bx, 1, none⟩ = some (.int .i64 b)) (h0 : J [] W) :
    CallsIn Fence.wide n Try.prog 33 #[.func (.yield l) #[] #[], .pointer (some ⟨Bx, 0, none⟩)] W fun e W' => (∃ v, e = .returned v) ∧
      ((∃ ys, ys = List.range 4 ∧ J ys W') ∨ (∃ pre, (∃ k, k ≤ 4 ∧ pre = List.range k) ∧ Jx pre W')) := by
  refine callsIn_of_wp Try.func33 rfl trivial ?_ rfl
  simp only [Try.ntmps33, List.size_toArray, List.length_cons, List.length_nil, Nat.reduceAdd, Nat.reduceSub, Array.replicate_succ, Array.replicate_zero, List.push_toArray, List.append_toArray, List.nil_append, List.cons_append]
  gi_wp2
  gi_loopw [3, 4] (fun at_ i wr => ∃ k : Nat, k ≤ 4 ∧ i = .int .u8 (kindAt k) ∧ at_ = .int .i64 (partAt b c k) ∧ J (List.range k) wr ∧ Below n₀ W wr)
    (fun _ i _ => 8 - (intOf i).toNat)
  case atStart => exact ⟨0, Nat.zero_le _, rfl, rfl, h0, Below.refl _ _⟩
  case round =>
    obtain ⟨k, hk, rfl, rfl, hJs, hnx⟩ := hrel
    have k2 : wr.cell? ⟨Bx, 2, none⟩ = some (.int .i64 c) := (hnx.cell (p := ⟨Bx, 2, none⟩) hBn).trans hc2
    have k1 : wr.cell? ⟨Bx, 1, none⟩ = some (.int .i64 b) := (hnx.cell (p := ⟨Bx, 1, none⟩) hBn).trans hb1
    by_cases hlt : k < 4
    · obtain ⟨fn, tmps, assign, body, hy, hR⟩ := hY _ k wr hJs (by rw [List.length_range]; exact hlt)
      have HR := hide hR
      clear hR
      obtain rfl | rfl | rfl | rfl : k = 0 ∨ k = 1 ∨ k = 2 ∨ k = 3 := by omega
      all_goals
        simp only [partEnc, partAt, kindAt] at hy ⊢
        gi_wp2
        refine HR.out.mono ?_
        rintro e W3 (⟨rfl, hJ3, hk3⟩ | ⟨rfl, hJx3⟩)
        · have HJ := hide hJ3
          have HK := hide (hnx.trans hk3)
          clear hJ3 hk3 hnx hJs
          gi_wp2
          go_roundw
          case rel => first | exact ⟨1, by decide, rfl, rfl, HJ.out, HK.out⟩ | exact ⟨2, by decide, rfl, rfl, HJ.out, HK.out⟩ | exact ⟨3, by decide, rfl, rfl, HJ.out, HK.out⟩ | exact ⟨4, by decide, rfl, rfl, HJ.out, HK.out⟩
          case measure => simp [intOf]
        · gi_wp2
          refine bodyPost_ret (results_none rfl _ _ _) rfl ?_
          first | exact ⟨⟨_, rfl⟩, .inr ⟨List.range 1, ⟨1, by decide, rfl⟩, hJx3⟩⟩ | exact ⟨⟨_, rfl⟩, .inr ⟨List.range 2, ⟨2, by decide, rfl⟩, hJx3⟩⟩ | exact ⟨⟨_, rfl⟩, .inr ⟨List.range 3, ⟨3, by decide, rfl⟩, hJx3⟩⟩ | exact ⟨⟨_, rfl⟩, .inr ⟨List.range 4, ⟨4, by decide, rfl⟩, hJx3⟩⟩
    · obtain rfl : k = 4 := by omega
      gi_wp2
      go_end0
      exact ⟨⟨_, rfl⟩, .inl ⟨_, rfl, hJs⟩⟩
theorem parts_stops (n : Nat) (hn : 1 ≤ n) (Bx n₀ : Nat) (a b c d : Int) (hc0 : 0 ≤ c) (hc1 : c ≤ 1000) (w : World) (hBn : Bx < n₀) (hn₀ : n₀ ≤ w.heap.size)
    (hc2 : w.cell? ⟨Bx, 2, none⟩ = some (.int .i64 c)) (hb1 : w.cell? ⟨Bx, 1, none⟩ = some (.int .i64 b)) :
    SeqStopsK Fence.wide n Try.prog 33 #[.pointer (some ⟨Bx, 0, none⟩)] (partEnc b c) (Below n₀) (fun ys => ys = List.range 4) (fun pre => ∃ k, k ≤ 4 ∧ pre = List.range k) 4 w := fun l J Jx W hW _ _ hY h0 =>
  parts1_in n hn l Bx n₀ a b c d hc0 hc1 J Jx hY W hBn ((hW.cell (p := ⟨Bx, 2, none⟩) (Nat.lt_of_lt_of_le hBn hn₀)).trans hc2) ((hW.cell (p := ⟨Bx, 1, none⟩) (Nat.lt_of_lt_of_le hBn hn₀)).trans hb1) h0
end Go.Proofs.Ytcigoodmkfnnfaa
