/- inode.longs: the iterator's contract. -/
import Derived.Test.YtdnalmikndilpaaIno4
import Derived.RangeFuncNested
import Derived.RangeFuncBound
import Derived.RangeFuncCalls
import Derived.RangeFuncLeaves
import Derived.RangeFuncBox
import Derived.Shelf.Abstract
import Derived.Shelf.RegionOpen
import Derived.OwnWalkIn
import Derived.TacticsInMore
import Derived.LoopNIn
import Derived.LoopIn
namespace Go.Proofs.Ytdnalmikndilpaa
open Go.RowKit Go.Shelf
set_option linter.unusedVariables false
attribute [local go_sem] Oper.semAt_some

/-- Where number x of an inode stands among its bytes; among its fields. -/
def plAt : Nat → Int
  | 0 => 4
  | x + 1 => 12 + 4 * (x : Int)
def ofAt : Nat → Nat
  | 0 => 2
  | x + 1 => 4 + x
def longEnc (B : Nat) (x : Fin 13) : Array Value := #[.int .i64 (plAt x.val), .pointer (some ⟨B, ofAt x.val, none⟩)]
/-- The first k of them. -/
def Firsts (k : Nat) (pre : List (Fin 13)) : Prop := pre.map Fin.val = List.range k
theorem Firsts.snoc {k : Nat} {pre : List (Fin 13)} (h : Firsts k pre) (hk : k < 13) : Firsts (k + 1) (pre ++ [⟨k, hk⟩]) := by unfold Firsts at *; rw [List.map_append, h, List.range_succ]; rfl
theorem Firsts.len {k : Nat} {pre : List (Fin 13)} (h : Firsts k pre) : pre.length = k := by have := congrArg List.length h; simpa using this
/-- Block b lies as it lay. -/
def Keeps1 (b : Nat) (A C : World) : Prop := A.heap.size ≤ C.heap.size ∧ C.heap[b]? = A.heap[b]?
theorem Keeps1.refl (b : Nat) (A : World) : Keeps1 b A A := ⟨Nat.le_refl _, rfl⟩
theorem Keeps1.trans {b : Nat} {A C D : World} (h : Keeps1 b A C) (k : Keeps1 b C D) : Keeps1 b A D := ⟨Nat.le_trans h.1 k.1, k.2.trans h.2⟩

theorem longs_in (n : Nat) (B : Nat) (w : World) :
    CallsIn Fence.wide n Try.prog 24 #[.pointer (some ⟨B, 0, none⟩)] w fun e w' => e = .returned (.func (.func 32) #[] #[.pointer (some ⟨w.heap.size, 0, none⟩)]) ∧ w' = w.alloc (.cells #[.pointer (some ⟨B, 0, none⟩)] 56) := by
  refine callsIn_of_wp Try.func24 rfl trivial ?_ rfl
  simp only [Try.ntmps24, List.size_toArray, List.length_cons, List.length_nil, Nat.reduceAdd, Nat.reduceSub, Array.replicate_succ, Array.replicate_zero, List.push_toArray, List.append_toArray, List.nil_append, List.cons_append]
  gi_wp2
  go_ret
  exact ⟨rfl, rfl⟩

set_option maxRecDepth 100000 in
set_option maxHeartbeats 4000000 in
theorem longs1_in (n : Nat) (hn : 1 ≤ n) (l Bx B : Nat) (J Jx : List (Fin 13) → World → Prop)
    (hY : ∀ pre x W, J pre W → pre.length < 13 → YieldAt Fence.wide (n - 1) Try.prog l (longEnc B x) W fun e W' =>
      (e = .returned (.bool true) ∧ J (pre ++ [x]) W' ∧ Keeps1 Bx W W') ∨ (e = .returned (.bool false) ∧ Jx (pre ++ [x]) W'))
    (W : World) (hBs : W.heap[Bx]? = some (.cells #[.pointer (some ⟨B, 0, none⟩)] 56 (0, 0))) (h0 : J [] W) :
    CallsIn Fence.wide n Try.prog 32 #[.func (.yield l) #[] #[], .pointer (some ⟨Bx, 0, none⟩)] W fun e W' => (∃ v, e = .returned v) ∧
      ((∃ ys, Firsts 13 ys ∧ J ys W') ∨ (∃ pre, (∃ k, k ≤ 13 ∧ Firsts k pre) ∧ Jx pre W')) := by
  have HBs := hide hBs
  have cellB : Hid (∀ w', Keeps1 Bx W w' → w'.cell? ⟨Bx, 0, none⟩ = some (.pointer (some ⟨B, 0, none⟩))) := fun w' hk => by
    rw [cell_of_row w' Bx 0 _ _ (0, 0) (hk.2.trans HBs.out)]; rfl
  clear hBs
  have c0 := cellB.out W (Keeps1.refl _ _)
  obtain ⟨fn, tmps, assign, body, hy, hR⟩ := hY [] ⟨0, by decide⟩ W h0 (by decide)
  have HR := hide hR
  clear hR
  unfold longEnc at hy
  simp only [plAt, ofAt] at hy
  refine callsIn_of_wp Try.func32 rfl trivial ?_ rfl
  simp only [Try.ntmps32, List.size_toArray, List.length_cons, List.length_nil, Nat.reduceAdd, Nat.reduceSub, Array.replicate_succ, Array.replicate_zero, List.push_toArray, List.append_toArray, List.nil_append, List.cons_append]
  gi_wp2
  refine HR.out.mono ?_
  rintro e W1 (⟨rfl, hJ1, hk1⟩ | ⟨rfl, hJx1⟩)
  case inr =>
    gi_wp2
    refine bodyPost_ret (results_none rfl _ _ _) rfl ?_
    exact ⟨⟨_, rfl⟩, .inr ⟨_, ⟨1, by decide, Firsts.snoc (k := 0) (pre := []) rfl (by decide)⟩, hJx1⟩⟩
  have HJ := hide hJ1
  have HK := hide hk1
  clear hJ1 hk1 hy c0 h0
  gi_wp2
  gi_loopw [10] (fun i wr => ∃ (k : Nat) (pre : List (Fin 13)), k ≤ 11 ∧ i = .int .i64 k ∧ Firsts (k + 1) pre ∧ J pre wr ∧ Keeps1 Bx W wr) (fun i _ => 11 - (intOf i).toNat)
  case atStart => exact ⟨0, _, Nat.zero_le _, rfl, Firsts.snoc (k := 0) (pre := []) rfl (by decide), HJ.out, HK.out⟩
  case round =>
    obtain ⟨k, pre, hk, rfl, hpre, hJs, hkx⟩ := hrel
    have HP := hide hpre
    have hlen := hpre.len
    have HL := hide hlen
    clear hpre hlen
    have c1 := cellB.out wr hkx
    have HK2 := hide hkx
    clear hkx HJ HK
    by_cases hlt : k < 11
    · have hlt' : (k : Int) < 11 := by omega
      obtain ⟨fn, tmps, assign, body, hy, hR⟩ := hY _ ⟨k + 1, by omega⟩ wr hJs (by rw [HL.out]; omega)
      have HR2 := hide hR
      clear hR hJs
      unfold longEnc at hy
      simp only [plAt, ofAt] at hy
      gi_wp2
      refine HR2.out.mono ?_
      rintro e W3 (⟨rfl, hJ3, hk3⟩ | ⟨rfl, hJx3⟩)
      · have HJ3 := hide hJ3
        have HK3 := hide (HK2.out.trans hk3)
        clear hJ3 hk3
        gi_wp2
        go_roundw
        case rel => exact ⟨k + 1, _, by omega, by go_num, HP.out.snoc (by omega), HJ3.out, HK3.out⟩
        case measure => simp [intOf]; omega
      · gi_wp2
        refine bodyPost_ret (results_none rfl _ _ _) rfl ?_
        exact ⟨⟨_, rfl⟩, .inr ⟨_, ⟨k + 2, by omega, HP.out.snoc (by omega)⟩, hJx3⟩⟩
    · obtain rfl : k = 11 := by omega
      obtain ⟨fn, tmps, assign, body, hy, hR⟩ := hY _ ⟨12, by omega⟩ wr hJs (by rw [HL.out]; omega)
      have HR2 := hide hR
      clear hR hJs
      unfold longEnc at hy
      simp only [show plAt 12 = 56 from rfl, show ofAt 12 = 15 from rfl] at hy
      gi_wp2
      refine HR2.out.mono ?_
      rintro e W3 (⟨rfl, hJ3, hk3⟩ | ⟨rfl, hJx3⟩)
      · have HJ3 := hide hJ3
        clear hJ3 hk3
        gi_wp2
        go_end0
        exact ⟨⟨_, rfl⟩, .inl ⟨_, HP.out.snoc (by omega), HJ3.out⟩⟩
      · gi_wp2
        go_end0
        exact ⟨⟨_, rfl⟩, .inr ⟨_, ⟨13, by omega, HP.out.snoc (by omega)⟩, hJx3⟩⟩
theorem longs_stops (n : Nat) (hn : 1 ≤ n) (Bx B : Nat) (w : World) (hBs : w.heap[Bx]? = some (.cells #[.pointer (some ⟨B, 0, none⟩)] 56 (0, 0))) :
    SeqStopsK Fence.wide n Try.prog 32 #[.pointer (some ⟨Bx, 0, none⟩)] (longEnc B) (Keeps1 Bx) (fun ys => Firsts 13 ys) (fun pre => ∃ k, k ≤ 13 ∧ Firsts k pre) 13 w := fun l J Jx W hW _ _ hY h0 =>
  longs1_in n hn l Bx B J Jx hY W ((hW.block _ (lt_of_block hBs)).trans hBs) h0
end Go.Proofs.Ytdnalmikndilpaa
