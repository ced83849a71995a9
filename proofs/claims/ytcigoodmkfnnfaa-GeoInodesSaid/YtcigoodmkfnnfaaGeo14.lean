/- The document's list of all blocks. -/
import Derived.Test.YtcigoodmkfnnfaaGeo13
import Derived.Maps.AppendAt
import Derived.OwnWalk
namespace Go.Proofs.Ytcigoodmkfnnfaa
open Go.RowKit
set_option linter.unusedVariables false

/-- Of a table's block: the number of its first inode. -/
def inoAt (c g r : Int) : Int := if 2 ≤ r ∧ r < 2 + c / 4 then 1 + g * c + 4 * (r - 2) else 0
def thingI (a b c d n : Int) : Int := if 2 + d ≤ n ∧ n < 2 + d + a * b then inoAt c ((n - (2 + d)) / b) ((n - (2 + d)) % b) else 0
def th4 (a b c d n : Int) : List Value := [.int .u8 (thingK a b c d n), .int .i64 (thingG a b c d n), .int .i64 (thingA a b c d n), .int .i64 (thingI a b c d n)]
/-- The first n blocks, one by one. -/
def thL (a b c d : Int) : Nat → List Value
  | 0 => []
  | n + 1 => thL a b c d n ++ th4 a b c d n
theorem thL_length (a b c d : Int) : ∀ n, (thL a b c d n).length = n * 4
  | 0 => rfl
  | n + 1 => by simp only [thL, List.length_append, thL_length a b c d n, th4, List.length_cons, List.length_nil]; omega
theorem thL_get (a b c d : Int) (f : Nat) (hf : f < 4) : ∀ n i, i < n → (thL a b c d n)[i * 4 + f]? = (th4 a b c d i)[f]?
  | 0, i, h => absurd h (by omega)
  | n + 1, i, h => by
    simp only [thL]
    by_cases e : i < n
    · rw [List.getElem?_append_left (by rw [thL_length]; omega)]
      exact thL_get a b c d f hf n i e
    · obtain rfl : i = n := by omega
      rw [List.getElem?_append_right (by rw [thL_length]; omega), thL_length, Nat.add_sub_cancel_left]
theorem thing_inI {a b c d g r : Int} (h : groupP a b c d g) (hr0 : 0 ≤ r) (hr : r < b) : thingI a b c d (2 + d + g * b + r) = inoAt c g r := by
  have hb : 16 ≤ b ∧ b ≤ 512 := h.1.2.1
  have t := (thing_in h hr0 hr).2.2.2
  have hg := h.mul
  have e : 2 + d + g * b + r - (2 + d) = r + b * g := by rw [Int.mul_comm b g]; omega
  have e1 : (r + b * g) % b = r := by rw [Int.add_mul_emod_self_left]; exact Int.emod_eq_of_lt hr0 hr
  have e2 : (r + b * g) / b = g := by rw [Int.add_mul_ediv_left _ _ (by omega), Int.ediv_eq_zero_of_lt hr0 hr]; omega
  unfold thingI
  rw [if_pos (by omega), e, e1, e2]
theorem th4_in {a b c d g r n : Int} (h : groupP a b c d g) (hr0 : 0 ≤ r) (hr : r < b) (hn : n = 2 + d + g * b + r) : th4 a b c d n = [.int .u8 (thingAt c r), .int .i64 g, .int .i64 r, .int .i64 (inoAt c g r)] := by
  subst hn
  have t := thing_in h hr0 hr
  unfold th4
  rw [t.1, t.2.1, t.2.2.1, thing_inI h hr0 hr]

/-- append onto a list of things of the call's own. -/
theorem thing_info : (Try.prog.info? 41).map (fun i => (i.zero, i.size, i.bytes)) = some (some (.agg #[.int .u8 0, .int .i64 0, .int .i64 0, .int .i64 0]), 4, 32) := by kernel_rfl
theorem appT {ops : Array Oper} {rest : List Oper} {o : Oper} {a : Act} {w : World} {Q : Exit → Act → World → Prop} (hgd : o.guard = none) (s x : Operand)
    (ho : o.op = .call { callee := .builtin .append, args := #[s, x], argTypes := #[38, 38] })
    (base n m c : Nat) (v : Value) (xs : List Value) (cs : Array Value) (hs : a.eval s = v) (hown : w.ownsRow base 41 4 v n xs) (hx : a.eval x = .slice (some ⟨w.heap.size, 0, none⟩) m c)
    (hcs : cs.size = m * 4) (h1 : ∀ u ∈ cs.toList, u.oneCell' = true) (hlen : n + m ≤ 100000) (hbase : base ≤ w.heap.size)
    (k : ∀ v' w', w'.ownsRow base 41 4 v' (n + m) (xs ++ cs.toList) → Below base w w' → wpList Try.prog ops Q rest (a.put o.dst v') w') : wpList Try.prog ops Q (o :: rest) a (w.alloc (.cells cs 41)) := by
  obtain ⟨i0, hi, hz0, hz1, hz2⟩ := info_parts thing_info
  obtain ⟨v', w', hrun, h2, h3, _, _⟩ := run_append_own_at (P := Try.prog) (w.alloc (.cells cs 41)) base _ o.type _ i0 _ 4 32 Try.underlying38 hi hz0 hz1 hz2 rfl (by omega) v n xs (hown.alloc _) ⟨w.heap.size, 0, none⟩ m c cs.toList (by rw [Array.length_toList, hcs])
    (fun j u hu => by
      have hc : (w.alloc (.cells cs 41)).cell? ⟨w.heap.size, j, none⟩ = some u := by
        rw [cell_of_row _ _ _ cs 41 (0, 0) (heap_alloc_new w _), ← Array.getElem?_toList]; exact hu
      unfold Addr.add
      split
      · rename_i e; subst e; exact hc
      · simpa using hc) h1 (by unfold maxLen; omega) (by omega) (by simp; omega)
  refine wpList_plain hgd fun _ hK => ?_
  unfold Oper.wp execOp
  simp only [ho, resolve, invoke, builtin, Sem.run_bind, Sem.run_pure, Result.andThen_ok, List.map_toArray, List.map_cons, List.map_nil, hs, hx]
  rw [hrun]
  refine hK _ _ (k v' w' h2 ?_)
  exact ((Below.refl base w).alloc hbase _).trans ((Below.refl _ _).grown h3 (by simp; omega) fun k hk => (World.ownsRow.lt hown k hk).1)
theorem GAt.grow {W w w' : World} {n B : Nat} {a b c d : Int} (h : GAt W n a b c d w) (k : Below B w w') (hn : n < B) (hW : W.heap.size ≤ B) : GAt W n a b c d w' :=
  ⟨h.old.trans (k.mono hW), (k.block _ hn).trans h.geo⟩

/-- What the document's list of all is good for. -/
def AllPost (a b c d : Int) (w : World) (e : Ending) (w' : World) : Prop := ∃ v, e = .returned v ∧ w'.ownsRow (w.heap.size + 1) 41 4 v (2 + d + a * b).toNat (thL a b c d (2 + d + a * b).toNat) ∧ Below w.heap.size w w'
end Go.Proofs.Ytcigoodmkfnnfaa
