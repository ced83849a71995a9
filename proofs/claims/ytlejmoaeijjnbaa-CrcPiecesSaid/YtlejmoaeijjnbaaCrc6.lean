/- crc.Sum of no piece, one, two, three; quernlaw02.awake. -/
import Derived.Test.YtlejmoaeijjnbaaCrc5
import Derived.Lib.SlBytesConst
import Derived.Lib.SmallJoins
namespace Go.Proofs.Ytlejmoaeijjnbaa
open Go.RowKit
set_option linter.unusedVariables false

theorem stF_ones (s : Nat) (f : Nat → Int) (n : Nat) : stF s f n ^^^ ones = shN (8 * n) (s ^^^ ones) ^^^ sumF f n := by
  unfold sumF
  have e : s = ones ^^^ (s ^^^ ones) := by rw [Nat.xor_comm ones, Nat.xor_assoc, Nat.xor_self, Nat.xor_zero]
  conv => lhs; rw [e]
  rw [stF_xor, Nat.xor_comm (stF ones f n), Nat.xor_assoc]
theorem sumP_step (f : Nat → Nat → Int) (l : Nat → Nat) (n : Nat) : sumP f l (n + 1) = shN (8 * l n) (sumP f l n) ^^^ sumF (f n) (l n) := by
  unfold sumP
  rw [stP, stF_ones]
theorem sumP_zero (f : Nat → Nat → Int) (l : Nat → Nat) : sumP f l 0 = 0 := by unfold sumP stP; exact Nat.xor_self _
theorem sumP_one (f : Nat → Nat → Int) (l : Nat → Nat) : sumP f l 1 = sumF (f 0) (l 0) := by rw [sumP_step, sumP_zero, shN_zero, Nat.zero_xor]

/-- One of three. -/
def of3 {α : Type} (a b c : α) : Nat → α
  | 0 => a
  | 1 => b
  | _ => c

theorem B_alloc {a w : World} (h : Below a.heap.size a w) (o : Obj) : Below a.heap.size a (w.alloc o) := h.alloc h.size o
theorem B_then {a w w' : World} (h : Below a.heap.size a w) (k : Below w.heap.size w w') : Below a.heap.size a w' := h.trans (k.mono h.size)
theorem Bs.alloc {w : World} {A : Option Addr} {n : Nat} {f : Nat → Int} (h : Bs w A n f) (o : Obj) : Bs (w.alloc o) A n f := h.old ((Below.refl _ _).alloc (Nat.le_refl _) _)
theorem zeroF_isByte : IsByte zeroF := fun _ => ⟨Int.le_refl 0, (by decide : (0 : Int) ≤ 255)⟩
/-- A marked row of bytes reads as it was laid. -/
theorem Bs.litm (w : World) (t : TypeId) (fr : Nat × Nat) (n : Nat) (f : Nat → Int) (cs : Array Value) (hs : cs.toList = bl n f) : Bs (w.alloc (.cells cs t fr)) (some ⟨w.heap.size, 0, none⟩) n f := fun _ =>
  ⟨_, _, rfl, fun i hi => by
    rw [cell_of_row _ _ _ cs t fr (heap_alloc_new w _), Nat.zero_add, ← Array.getElem?_toList, hs]
    exact bl_get f hi⟩
theorem Bs.litm2 (w : World) (o : Obj) (t : TypeId) (fr : Nat × Nat) (n : Nat) (f : Nat → Int) (cs : Array Value) (hs : cs.toList = bl n f) : Bs ((w.alloc o).alloc (.cells cs t fr)) (some ⟨w.heap.size + 1, 0, none⟩) n f := by
  have h := Bs.litm (w.alloc o) t fr n f cs hs
  rwa [World.size_alloc] at h
theorem heap_alloc_new2 (w : World) (o p : Obj) : ((w.alloc o).alloc p).heap[w.heap.size + 1]? = some p := by
  have := heap_alloc_new (w.alloc o) p
  rwa [World.size_alloc] at this
theorem heap_alloc_new3 (w : World) (o p q : Obj) : (((w.alloc o).alloc p).alloc q).heap[w.heap.size + 1 + 1]? = some q := by
  have := heap_alloc_new2 (w.alloc o) p q
  rwa [World.size_alloc] at this

theorem sum0_any (w : World) : Calls Try.prog 12 #[.slice none 0 0] w fun e w' => e = .returned (.int .u32 ((0 : Nat) : Int)) ∧ Below w.heap.size w w' := by
  have h := sum_any none 0 0 (fun _ => none) (fun _ => 0) (fun _ => 0) (fun _ => zeroF) w (by decide) ⟨fun h => absurd h (by omega), fun i h => absurd h (by omega), fun i h => absurd h (by omega), fun i h => absurd h (by omega), fun i h => absurd h (by omega)⟩
  rw [sumP_zero] at h
  exact h

theorem sum1_any (g : Nat) (t : TypeId) (A : Option Addr) (len cap k : Nat) (f : Nat → Int) (w : World) (h : w.heap[g]? = some (.cells #[.slice A len cap] t (0, 0))) (hb : Bs w A len f) (hf : IsByte f) (hl : len ≤ cap) (hc : (cap : Int) ≤ 9223372036854775807) :
    Calls Try.prog 12 #[.slice (some ⟨g, 0, none⟩) 1 k] w fun e w' => e = .returned (.int .u32 ((sumF f len : Nat) : Int)) ∧ Below w.heap.size w w' := by
  have h := sum_any (some ⟨g, 0, none⟩) 1 k (fun _ => A) (fun _ => len) (fun _ => cap) (fun _ => f) w (by decide) ⟨fun _ => ⟨g, 0, rfl, fun i hi => by
    obtain rfl : i = 0 := by omega
    rw [cell_of_row w g _ _ t (0, 0) h]; rfl⟩, fun i _ => hb, fun i _ => hf, fun i _ => hl, fun i _ => hc⟩
  rw [sumP_one] at h
  exact h

theorem sum3_pcs (g : Nat) (t : TypeId) (A0 A1 A2 : Option Addr) (l0 l1 l2 c0 c1 c2 : Nat) (f0 f1 f2 : Nat → Int) (w : World) (cs : Array Value) (n : Nat) (hn : n ≤ 3) (h : w.heap[g]? = some (.cells cs t (0, 0)))
    (hcs : ∀ i, i < n → cs[i]? = some (.slice (of3 A0 A1 A2 i) (of3 l0 l1 l2 i) (of3 c0 c1 c2 i)))
    (hb0 : Bs w A0 l0 f0) (hf0 : IsByte f0) (hl0 : l0 ≤ c0) (hc0 : (c0 : Int) ≤ 9223372036854775807)
    (hb1 : Bs w A1 l1 f1) (hf1 : IsByte f1) (hl1 : l1 ≤ c1) (hc1 : (c1 : Int) ≤ 9223372036854775807)
    (hb2 : Bs w A2 l2 f2) (hf2 : IsByte f2) (hl2 : l2 ≤ c2) (hc2 : (c2 : Int) ≤ 9223372036854775807) :
    Pcs w (some ⟨g, 0, none⟩) n (of3 A0 A1 A2) (of3 l0 l1 l2) (of3 c0 c1 c2) (of3 f0 f1 f2) := by
  refine ⟨fun _ => ⟨g, 0, rfl, fun i hi => ?_⟩, fun i hi => ?_, fun i hi => ?_, fun i hi => ?_, fun i hi => ?_⟩
  · rw [cell_of_row w g _ _ t (0, 0) h, Nat.zero_add]; exact hcs i hi
  all_goals
    obtain rfl | rfl | rfl : i = 0 ∨ i = 1 ∨ i = 2 := by omega
    all_goals assumption

theorem sum2_any (g : Nat) (t : TypeId) (A0 A1 : Option Addr) (l0 l1 c0 c1 k : Nat) (f0 f1 : Nat → Int) (w : World) (h : w.heap[g]? = some (.cells #[.slice A0 l0 c0, .slice A1 l1 c1] t (0, 0)))
    (hb0 : Bs w A0 l0 f0) (hf0 : IsByte f0) (hl0 : l0 ≤ c0) (hc0 : (c0 : Int) ≤ 9223372036854775807)
    (hb1 : Bs w A1 l1 f1) (hf1 : IsByte f1) (hl1 : l1 ≤ c1) (hc1 : (c1 : Int) ≤ 9223372036854775807) :
    Calls Try.prog 12 #[.slice (some ⟨g, 0, none⟩) 2 k] w fun e w' => e = .returned (.int .u32 ((shN (8 * l1) (sumF f0 l0) ^^^ sumF f1 l1 : Nat) : Int)) ∧ Below w.heap.size w w' := by
  have h := sum_any (some ⟨g, 0, none⟩) 2 k _ _ _ _ w (by decide) (sum3_pcs g t A0 A1 none l0 l1 0 c0 c1 0 f0 f1 zeroF w _ 2 (by omega) h (fun i hi => by
    obtain rfl | rfl : i = 0 ∨ i = 1 := by omega
    all_goals rfl) hb0 hf0 hl0 hc0 hb1 hf1 hl1 hc1 (Bs.none_ _ _ _ rfl) zeroF_isByte (Nat.le_refl _) (by decide))
  rw [sumP_step, sumP_one] at h
  exact h

theorem sum3_any (g : Nat) (t : TypeId) (A0 A1 A2 : Option Addr) (l0 l1 l2 c0 c1 c2 k : Nat) (f0 f1 f2 : Nat → Int) (w : World) (h : w.heap[g]? = some (.cells #[.slice A0 l0 c0, .slice A1 l1 c1, .slice A2 l2 c2] t (0, 0)))
    (hb0 : Bs w A0 l0 f0) (hf0 : IsByte f0) (hl0 : l0 ≤ c0) (hc0 : (c0 : Int) ≤ 9223372036854775807)
    (hb1 : Bs w A1 l1 f1) (hf1 : IsByte f1) (hl1 : l1 ≤ c1) (hc1 : (c1 : Int) ≤ 9223372036854775807)
    (hb2 : Bs w A2 l2 f2) (hf2 : IsByte f2) (hl2 : l2 ≤ c2) (hc2 : (c2 : Int) ≤ 9223372036854775807) :
    Calls Try.prog 12 #[.slice (some ⟨g, 0, none⟩) 3 k] w fun e w' => e = .returned (.int .u32 ((shN (8 * l2) (shN (8 * l1) (sumF f0 l0) ^^^ sumF f1 l1) ^^^ sumF f2 l2 : Nat) : Int)) ∧ Below w.heap.size w w' := by
  have h := sum_any (some ⟨g, 0, none⟩) 3 k _ _ _ _ w (by decide) (sum3_pcs g t A0 A1 A2 l0 l1 l2 c0 c1 c2 f0 f1 f2 w _ 3 (by omega) h (fun i hi => by
    obtain rfl | rfl | rfl : i = 0 ∨ i = 1 ∨ i = 2 := by omega
    all_goals rfl) hb0 hf0 hl0 hc0 hb1 hf1 hl1 hc1 hb2 hf2 hl2 hc2)
  rw [sumP_step, sumP_step, sumP_one] at h
  exact h

theorem litA : (#[Value.int IntKind.u8 97] : Array Value).toList = bl 1 (litF [97]) := by rfl
theorem litB : (#[Value.int IntKind.u8 49, Value.int IntKind.u8 50, Value.int IntKind.u8 51, Value.int IntKind.u8 52] : Array Value).toList = bl 4 (litF [49, 50, 51, 52]) := by rfl
theorem litC : (#[Value.int IntKind.u8 53, Value.int IntKind.u8 54, Value.int IntKind.u8 55, Value.int IntKind.u8 56, Value.int IntKind.u8 57] : Array Value).toList = bl 5 (litF [53, 54, 55, 56, 57]) := by rfl

theorem join_lit (w : World) : Calls Try.prog 16 #[.int .u32 3904355907, .int .u32 0, .int .i64 0] w fun e w' => e = .returned (.int .u32 3904355907) ∧ Below w.heap.size w w' := by
  have h := join_any 3904355907 0 0 w (by decide) (by decide) (by decide)
  rw [show shN (8 * 0) 3904355907 ^^^ 0 = 3904355907 by kernel_rfl] at h
  exact h

set_option maxHeartbeats 1000000 in
theorem awake02_any (w : World) : Calls Try.prog 18 #[] w fun e w' => e = .returned (.bool true) ∧ Below w.heap.size w w' := by
  have F1 := hide (litF_byte [97] rfl)
  have F2 := hide (litF_byte [49, 50, 51, 52] rfl)
  have F3 := hide (litF_byte [53, 54, 55, 56, 57] rfl)
  have V1 := hide (show sumF (litF [97]) 1 = 3904355907 by kernel_rfl)
  have V2 := hide (show shN (8 * 5) (shN (8 * 0) (sumF (litF [49, 50, 51, 52]) 4) ^^^ sumF zeroF 0) ^^^ sumF (litF [53, 54, 55, 56, 57]) 5 = 3421780262 by kernel_rfl)
  have V3 := hide (show shN (8 * 0) 3904355907 ^^^ 0 = 3904355907 by kernel_rfl)
  have kc := fun (w : World) (C : Array Value) (n c : Nat) => Lib.run_convert_bytes_const (P := Try.prog) w 24 5 C n c Try.underlying24 Try.underlying5
  have kc2 := fun (w : World) (o : Obj) (C : Array Value) (n c : Nat) => Joins.run_convert_bytes_const_at (P := Try.prog) (w.alloc o) 24 5 C n c (w.heap.size + 1) (by simp) Try.underlying24 Try.underlying5
  go_enter Try.func18, Try.ntmps18
  go_wp2_with fail
  refine (sum0_any _).mono ?_
  rintro e w1 ⟨rfl, hB1⟩
  have B1 := hide hB1
  clear hB1
  go_wp2_with fail
  refine (sum1_any _ _ _ 1 1 1 (litF [97]) _ (heap_alloc_new2 _ _ _) ((Bs.litm w1 _ (1, 2) 1 _ _ litA).alloc _) F1.out (Nat.le_refl _) (by decide)).mono ?_
  rintro e w2 ⟨rfl, hw⟩
  have B2 : Hid (Below w.heap.size w w2) := B_then (B_alloc (B_alloc B1.out _) _) hw
  clear hw B1
  rw [V1.out]
  go_wp2_with fail
  refine (sum3_any _ _ _ _ _ 4 0 5 4 0 5 3 (litF [49, 50, 51, 52]) zeroF (litF [53, 54, 55, 56, 57]) _ (heap_alloc_new3 _ _ _ _) (((Bs.litm w2 _ (4, 5) 4 _ _ litB).alloc _).alloc _) F2.out (Nat.le_refl _) (by decide) (Bs.none_ _ _ _ rfl) zeroF_isByte (Nat.le_refl _) (by decide) ((Bs.litm2 w2 _ _ (5, 6) 5 _ _ litC).alloc _) F3.out (Nat.le_refl _) (by decide)).mono ?_
  rintro e w3 ⟨rfl, hw⟩
  have B3 : Hid (Below w.heap.size w w3) := B_then (B_alloc (B_alloc (B_alloc B2.out _) _) _) hw
  clear hw B2
  rw [V2.out]
  go_wp2_with fail
  refine (join_lit _).mono ?_
  rintro e w4 ⟨rfl, hw⟩
  have B4 : Hid (Below w.heap.size w w4) := B_then B3.out hw
  clear hw B3
  go_wp2_with fail
  refine (join_neg 1 2 (-1) _ (by decide)).mono ?_
  rintro e w5 ⟨rfl, rfl⟩
  go_wp2_with fail
  go_ret
  exact ⟨rfl, B4.out⟩
end Go.Proofs.Ytlejmoaeijjnbaa
