/- A slice of slices of bytes of the call's own. -/
import Derived.Test.YtlejmoaeijjnbaaCrc7
namespace Go.Proofs.Ytlejmoaeijjnbaa
open Go.RowKit
set_option linter.unusedVariables false

/-- So many slices as values. -/
def sl (k : Nat) (P : Nat → Option Addr) (l c : Nat → Nat) : List Value := (List.range k).map fun i => .slice (P i) (l i) (c i)
theorem sl_length (k : Nat) (P : Nat → Option Addr) (l c : Nat → Nat) : (sl k P l c).length = k := by simp [sl]
theorem sl_get {k : Nat} (P : Nat → Option Addr) (l c : Nat → Nat) {i : Nat} (h : i < k) : (sl k P l c)[i]? = some (.slice (P i) (l i) (c i)) := by simp [sl, h]
theorem sl_step (k : Nat) (P : Nat → Option Addr) (l c : Nat → Nat) (A : Option Addr) (d : Nat) :
    sl k P l c ++ [.slice A (l k) d] = sl (k + 1) (fun i => if i = k then A else P i) l (fun i => if i = k then d else c i) := by
  unfold sl
  rw [List.range_succ, List.map_append]
  congr 1
  · refine List.map_congr_left fun i hi => ?_
    have := List.mem_range.1 hi
    have hne : ¬ i = k := by omega
    simp only [if_neg hne]
  · simp

theorem Bs.grown {w w' : World} {A : Option Addr} {n : Nat} {f : Nat → Int} {row : Option Nat} (h : Bs w A n f) (hb : w.grownBy w' row) (hne : 0 < n → ∀ b off, A = some ⟨b, off, none⟩ → row ≠ some b) : Bs w' A n f := fun hn => by
  obtain ⟨b, off, e, hs⟩ := h.at_ hn
  exact ⟨b, off, e, fun i hi => hb.cell (a := ⟨b, off + i, none⟩) (hs i hi) (fun x => hne hn b off e x.symm)⟩
theorem own_below {w w' : World} {base size n : Nat} {e : TypeId} {v : Value} {xs : List Value} (h : w.ownsRow base e size v n xs) (hB : Below w.heap.size w w') : w'.ownsRow base e size v n xs := by
  obtain ⟨h1, h2 | ⟨g, cap, cur, rfl, hg, hh, r⟩⟩ := h
  · exact ⟨h1, .inl h2⟩
  · exact ⟨h1, .inr ⟨g, cap, cur, rfl, hg, (hB.block g (lt_of_block hh)).trans hh, r⟩⟩

/-- k slices of bytes of the call's own, one behind the other in a row of the call's own. -/
def Mine (w : World) (base : Nat) (v : Value) (k : Nat) (l : Nat → Nat) (f : Nat → Nat → Int) : Prop :=
  ∃ P c, w.ownsRow base 24 1 v k (sl k P l c) ∧ ∀ i, i < k → Bs w (P i) (l i) (f i) ∧ l i ≤ c i ∧ (c i : Int) ≤ 9223372036854775807 ∧ (0 < l i → ∃ b, P i = some ⟨b, 0, none⟩ ∧ v.ownBlock ≠ some b)
theorem Mine.nil (w : World) (base : Nat) (l : Nat → Nat) (f : Nat → Nat → Int) : Mine w base (.slice none 0 0) 0 l f :=
  ⟨fun _ => none, fun _ => 0, World.ownsRow_nil w base _ 1, fun i h => absurd h (by omega)⟩
theorem Mine.below {w w' : World} {base : Nat} {v : Value} {k : Nat} {l : Nat → Nat} {f : Nat → Nat → Int} (h : Mine w base v k l f) (hB : Below w.heap.size w w') : Mine w' base v k l f := by
  obtain ⟨P, c, h1, h2⟩ := h
  exact ⟨P, c, own_below h1 hB, fun i hi => ⟨(h2 i hi).1.old hB, (h2 i hi).2⟩⟩
theorem Mine.lt {w : World} {base : Nat} {v : Value} {k b : Nat} {l : Nat → Nat} {f : Nat → Nat → Int} (h : Mine w base v k l f) (hb : v.ownBlock = some b) : b < w.heap.size := by
  obtain ⟨P, c, h1, h2⟩ := h
  exact (World.ownsRow.lt h1 b hb).2
/-- What is read off it. -/
theorem Mine.out {w : World} {base : Nat} {v : Value} {k : Nat} {l : Nat → Nat} {f : Nat → Nat → Int} (h : Mine w base v k l f) (hf : ∀ i, i < k → IsByte (f i)) :
    ∃ A cap P c, v = .slice A k cap ∧ Pcs w A k P l c f := by
  obtain ⟨P, c, ⟨hl, h1⟩, h2⟩ := h
  rcases h1 with ⟨rfl, rfl⟩ | ⟨g, cap, cur, rfl, hg, hh, hn, hcap, hs, ht⟩
  · exact ⟨_, _, P, c, rfl, ⟨fun h => absurd h (by omega), fun i h => absurd h (by omega), fun i h => absurd h (by omega), fun i h => absurd h (by omega), fun i h => absurd h (by omega)⟩⟩
  · refine ⟨_, _, P, c, rfl, ⟨fun _ => ⟨g, 0, rfl, fun i hi => ?_⟩, fun i hi => (h2 i hi).1, hf, fun i hi => (h2 i hi).2.1, fun i hi => (h2 i hi).2.2.1⟩⟩
    rw [cell_of_row w g _ _ _ (0, 0) hh, Nat.zero_add]
    have := sl_get P l c hi
    rw [← ht, List.getElem?_take, if_pos (by omega)] at this
    simpa using this

theorem bs_info : (Try.prog.info? 24).map (fun i => (i.zero, i.size, i.bytes)) = some (some (.slice none 0 0), 1, 24) := by kernel_rfl

theorem run_mine {w : World} {base k g d : Nat} {v : Value} {l : Nat → Nat} {f : Nat → Nat → Int} {A : Option Addr} (ty t : TypeId) (fr : Nat × Nat) (hown : Mine w base v k l f)
    (hg : w.heap[g]? = some (.cells #[.slice A (l k) d] t fr)) (hA : Bs w A (l k) (f k)) (hd : l k ≤ d) (hd2 : (d : Int) ≤ 9223372036854775807) (hnew : 0 < l k → ∃ b, A = some ⟨b, 0, none⟩ ∧ v.ownBlock ≠ some b)
    (hlen : k ≤ 1000000) (hbase : base ≤ w.heap.size) :
    ∃ v' w', (Builtin.append_ #[22, 22] ty #[v, .slice (some ⟨g, 0, none⟩) 1 1]).run Try.prog w = .ok v' w' ∧ Mine w' base v' (k + 1) l f ∧ Below base w w' := by
  obtain ⟨i0, hi, hz0, hz1, hz2⟩ := info_parts bs_info
  obtain ⟨P, c, h1, h2⟩ := hown
  obtain ⟨v', w', hrun, h3, h4, _, h5⟩ := run_append_own_at (P := Try.prog) w base _ ty _ i0 _ 1 24 Try.underlying22 hi hz0 hz1 hz2 rfl (by omega) v k _ h1 ⟨g, 0, none⟩ 1 1 [.slice A (l k) d] (by simp)
    (fun j u hu => by
      obtain rfl : j = 0 := by
        rcases Nat.eq_zero_or_pos j with e | e
        · exact e
        · rw [List.getElem?_eq_none (by simp; omega)] at hu; cases hu
      cases hu
      show w.cell? ⟨g, 0, none⟩ = _
      rw [cell_of_row w g _ _ _ fr hg]; rfl)
    (fun u hu => by
      simp only [List.mem_singleton] at hu
      subst hu; rfl)
    (by unfold maxLen; omega) (by omega) hbase
  rw [sl_step] at h3
  refine ⟨v', w', hrun, ⟨_, _, h3, fun i hi => ?_⟩, (Below.refl _ _).grown h4 hbase fun k hk => (World.ownsRow.lt h1 k hk).1⟩
  have fresh : ∀ {n : Nat} {B : Option Addr} {fb : Nat → Int}, Bs w B n fb → (0 < n → ∃ b, B = some ⟨b, 0, none⟩ ∧ v.ownBlock ≠ some b) → Bs w' B n fb ∧ (0 < n → ∃ b, B = some ⟨b, 0, none⟩ ∧ v'.ownBlock ≠ some b) := by
    intro n B fb hb hn
    refine ⟨hb.grown h4 fun h0 b off e => ?_, fun h0 => ?_⟩
    · obtain ⟨b', e', hne⟩ := hn h0
      rw [e] at e'
      cases e'
      exact hne
    · obtain ⟨b', e', hne⟩ := hn h0
      refine ⟨b', e', ?_⟩
      obtain ⟨b, off, e, hs⟩ := hb.at_ h0
      rw [e] at e'
      cases e'
      have hlt := hs.lt h0
      rcases h5 with h5 | h5
      · rw [h5]; exact hne
      · rw [h5]; intro x; injection x; omega
  by_cases e : i = k
  · subst e
    simp only [if_true]
    exact ⟨(fresh hA hnew).1, hd, hd2, (fresh hA hnew).2⟩
  · simp only [if_neg e]
    have q := h2 i (by omega)
    exact ⟨(fresh q.1 q.2.2.2).1, q.2.1, q.2.2.1, (fresh q.1 q.2.2.2).2⟩

theorem appMine {ops : Array Oper} {rest : List Oper} {o : Oper} {a : Act} {w : World} {Q : Exit → Act → World → Prop} (hgd : o.guard = none) (s x : Operand)
    (ho : o.op = .call { callee := .builtin .append, args := #[s, x], argTypes := #[22, 22] })
    (base k g d : Nat) (v : Value) (l : Nat → Nat) (f : Nat → Nat → Int) (A : Option Addr) (t : TypeId) (fr : Nat × Nat) (hs : a.eval s = v) (hown : Mine w base v k l f) (hx : a.eval x = .slice (some ⟨g, 0, none⟩) 1 1)
    (hg : w.heap[g]? = some (.cells #[.slice A (l k) d] t fr)) (hA : Bs w A (l k) (f k)) (hd : l k ≤ d) (hd2 : (d : Int) ≤ 9223372036854775807) (hnew : 0 < l k → ∃ b, A = some ⟨b, 0, none⟩ ∧ v.ownBlock ≠ some b)
    (hlen : k ≤ 1000000) (hbase : base ≤ w.heap.size)
    (K : ∀ v' w', Mine w' base v' (k + 1) l f → Below base w w' → wpList Try.prog ops Q rest (a.put o.dst v') w') : wpList Try.prog ops Q (o :: rest) a w := by
  obtain ⟨v', w', hrun, h2, h3⟩ := run_mine o.type t fr hown hg hA hd hd2 hnew hlen hbase
  refine wpList_plain hgd fun _ hK => ?_
  unfold Oper.wp execOp
  simp only [ho, resolve, invoke, builtin, Sem.run_bind, Sem.run_pure, Result.andThen_ok, List.map_toArray, List.map_cons, List.map_nil, hs, hx]
  rw [hrun]
  exact hK _ _ (K v' w' h2 h3)
end Go.Proofs.Ytlejmoaeijjnbaa
