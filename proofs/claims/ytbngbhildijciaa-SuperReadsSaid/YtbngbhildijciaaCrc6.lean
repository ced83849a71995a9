/- crc.Sum of no piece, of one. -/
import Derived.Test.YtbngbhildijciaaCrc5
import Derived.Test.YtbngbhildijciaaGeo4
import Derived.Lib.SlBytesConst
import Derived.Lib.SmallJoins
namespace Go.Proofs.Ytbngbhildijciaa
open Go.RowKit
set_option linter.unusedVariables false

theorem stF_ones (s : Nat) (f : Nat → Int) (n : Nat) : stF s f n ^^^ ones = shN (8 * n) (s ^^^ ones) ^^^ sumF f n := by
  unfold sumF
  have e : s = ones ^^^ (s ^^^ ones) := by rw [Nat.xor_comm ones, Nat.xor_assoc, Nat.xor_self, Nat.xor_zero]
  conv => lhs; rw [e]
  rw [stF_xor, Nat.xor_comm (stF ones f n), Nat.xor_assoc]
theorem sumP_step (f : Nat → Nat → Int) (l : Nat → Nat) (n : Nat) : sumP f l (n + 1) = shN (8 * l n) (sumP f l n) ^^^ sumF (f n) (l n) := by
  unfold sumP
  rw [stP, stF_ones]
theorem sumP_zero (f : Nat → Nat → Int) (l : Nat → Nat) : sumP f l 0 = 0 := by unfold sumP stP; exact Nat.xor_self _
theorem sumP_one (f : Nat → Nat → Int) (l : Nat → Nat) : sumP f l 1 = sumF (f 0) (l 0) := by rw [sumP_step, sumP_zero, shN_zero, Nat.zero_xor]

/-- One of three. -/
def of3 {α : Type} (a b c : α) : Nat → α
  | 0 => a
  | 1 => b
  | _ => c

theorem B_alloc {a w : World} (h : Below a.heap.size a w) (o : Obj) : Below a.heap.size a (w.alloc o) := h.alloc h.size o
theorem Bs.alloc {w : World} {A : Option Addr} {n : Nat} {f : Nat → Int} (h : Bs w A n f) (o : Obj) : Bs (w.alloc o) A n f := h.old ((Below.refl _ _).alloc (Nat.le_refl _) _)
theorem zeroF_isByte : IsByte zeroF := fun _ => ⟨Int.le_refl 0, (by decide : (0 : Int) ≤ 255)⟩
/-- A marked row of bytes reads as it was laid. -/
theorem Bs.litm (w : World) (t : TypeId) (fr : Nat × Nat) (n : Nat) (f : Nat → Int) (cs : Array Value) (hs : cs.toList = bl n f) : Bs (w.alloc (.cells cs t fr)) (some ⟨w.heap.size, 0, none⟩) n f := fun _ =>
  ⟨_, _, rfl, fun i hi => by
    rw [cell_of_row _ _ _ cs t fr (heap_alloc_new w _), Nat.zero_add, ← Array.getElem?_toList, hs]
    exact bl_get f hi⟩
theorem Bs.litm2 (w : World) (o : Obj) (t : TypeId) (fr : Nat × Nat) (n : Nat) (f : Nat → Int) (cs : Array Value) (hs : cs.toList = bl n f) : Bs ((w.alloc o).alloc (.cells cs t fr)) (some ⟨w.heap.size + 1, 0, none⟩) n f := by
  have h := Bs.litm (w.alloc o) t fr n f cs hs
  rwa [World.size_alloc] at h
theorem heap_alloc_new2 (w : World) (o p : Obj) : ((w.alloc o).alloc p).heap[w.heap.size + 1]? = some p := by
  have := heap_alloc_new (w.alloc o) p
  rwa [World.size_alloc] at this
theorem heap_alloc_new3 (w : World) (o p q : Obj) : (((w.alloc o).alloc p).alloc q).heap[w.heap.size + 1 + 1]? = some q := by
  have := heap_alloc_new2 (w.alloc o) p q
  rwa [World.size_alloc] at this

theorem sum0_any (w : World) : Calls Try.prog 34 #[.slice none 0 0] w fun e w' => e = .returned (.int .u32 ((0 : Nat) : Int)) ∧ Below w.heap.size w w' := by
  have h := sum_any none 0 0 (fun _ => none) (fun _ => 0) (fun _ => 0) (fun _ => zeroF) w (by decide) ⟨fun h => absurd h (by omega), fun i h => absurd h (by omega), fun i h => absurd h (by omega), fun i h => absurd h (by omega), fun i h => absurd h (by omega)⟩
  rw [sumP_zero] at h
  exact h

theorem sum1_any (g : Nat) (t : TypeId) (A : Option Addr) (len cap k : Nat) (f : Nat → Int) (w : World) (h : w.heap[g]? = some (.cells #[.slice A len cap] t (0, 0))) (hb : Bs w A len f) (hf : IsByte f) (hl : len ≤ cap) (hc : (cap : Int) ≤ 9223372036854775807) :
    Calls Try.prog 34 #[.slice (some ⟨g, 0, none⟩) 1 k] w fun e w' => e = .returned (.int .u32 ((sumF f len : Nat) : Int)) ∧ Below w.heap.size w w' := by
  have h := sum_any (some ⟨g, 0, none⟩) 1 k (fun _ => A) (fun _ => len) (fun _ => cap) (fun _ => f) w (by decide) ⟨fun _ => ⟨g, 0, rfl, fun i hi => by
    obtain rfl : i = 0 := by omega
    rw [cell_of_row w g _ _ t (0, 0) h]; rfl⟩, fun i _ => hb, fun i _ => hf, fun i _ => hl, fun i _ => hc⟩
  rw [sumP_one] at h
  exact h

end Go.Proofs.Ytbngbhildijciaa
