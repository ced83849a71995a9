/- append onto a slice of bytes of the call's own. -/
import Derived.Test.YtlejmoaeijjnbaaMem
import Derived.Test.YtlejmoaeijjnbaaProg
import Derived.Maps.AppendAt
import Derived.OwnWalk
namespace Go.Proofs.Ytlejmoaeijjnbaa
open Go.RowKit

theorem u8_info : (Try.prog.info? 5).map (fun i => (i.zero, i.size, i.bytes)) = some (some (.int .u8 0), 1, 1) := by kernel_rfl

theorem run_appB {w : World} {base n m c : Nat} {v : Value} {f h : Nat → Int} {A : Option Addr} (ty : TypeId) (hown : OwnB w base v n f) (hb : Bs w A m h) (hlen : n + m ≤ 100000000) (hbase : base ≤ w.heap.size) :
    ∃ v' w', (Builtin.append_ #[24, 24] ty #[v, .slice A m c]).run Try.prog w = .ok v' w' ∧ OwnB w' base v' (n + m) (cat n f h) ∧ Below base w w' := by
  obtain ⟨i0, hi, hz0, hz1, hz2⟩ := info_parts u8_info
  rcases Nat.eq_zero_or_pos m with rfl | hm
  · have hcat : OwnB w base v (n + 0) (cat n f h) := hown.congr fun i hi => (cat_l f h hi).symm
    cases A with
    | none =>
      refine ⟨v, w, ?_, hcat, Below.refl _ _⟩
      obtain ⟨_, ⟨rfl, rfl⟩ | ⟨g, cap, cur, rfl, _, _, hnc, _⟩⟩ := hown
      · simp [Builtin.append_, run_underlying Try.underlying24, sizeOf, typeInfo, hi, Builtin.lenOf, Builtin.firstCells]
      · simp [Builtin.append_, run_underlying Try.underlying24, sizeOf, typeInfo, hi, Builtin.lenOf, Builtin.firstCells, hnc, storeCells]
    | some ad =>
      obtain ⟨v', w', hrun, h2, h3, _, _⟩ := run_append_own_at (P := Try.prog) w base _ ty _ i0 _ 1 1 Try.underlying24 hi hz0 hz1 hz2 rfl (by omega) v n _ hown ad 0 c [] rfl (by simp) (by simp) (by unfold maxLen; omega) (by omega) hbase
      refine ⟨v', w', hrun, ?_, (Below.refl _ _).grown h3 hbase fun k hk => (World.ownsRow.lt hown k hk).1⟩
      rw [List.append_nil] at h2
      exact OwnB.congr h2 fun i hi => (cat_l f h hi).symm
  · obtain ⟨b, off, rfl, hs⟩ := hb.at_ hm
    obtain ⟨v', w', hrun, h2, h3, _, _⟩ := run_append_own_at (P := Try.prog) w base _ ty _ i0 _ 1 1 Try.underlying24 hi hz0 hz1 hz2 rfl (by omega) v n _ hown ⟨b, off, none⟩ m c (bl m h) (by rw [bl_length]; omega)
      (fun j u hu => by
        have hj : j < m := by
          rcases Nat.lt_or_ge j m with h | h
          · exact h
          · rw [List.getElem?_eq_none (by rw [bl_length]; exact h)] at hu; cases hu
        rw [bl_get h hj] at hu
        cases hu
        have := hs j hj
        unfold Addr.add
        split
        · rename_i e; subst e; simpa using this
        · exact this)
      (fun u hu => by
        simp only [bl, List.mem_map] at hu
        obtain ⟨_, _, rfl⟩ := hu
        rfl)
      (by unfold maxLen; omega) (by omega) hbase
    refine ⟨v', w', hrun, ?_, (Below.refl _ _).grown h3 hbase fun k hk => (World.ownsRow.lt hown k hk).1⟩
    rw [bl_cat] at h2
    exact h2

theorem appB {ops : Array Oper} {rest : List Oper} {o : Oper} {a : Act} {w : World} {Q : Exit → Act → World → Prop} (hgd : o.guard = none) (s x : Operand)
    (ho : o.op = .call { callee := .builtin .append, args := #[s, x], argTypes := #[24, 24] })
    (base n m c : Nat) (v : Value) (f h : Nat → Int) (A : Option Addr) (hs : a.eval s = v) (hown : OwnB w base v n f) (hx : a.eval x = .slice A m c) (hb : Bs w A m h) (hlen : n + m ≤ 100000000) (hbase : base ≤ w.heap.size)
    (k : ∀ v' w', OwnB w' base v' (n + m) (cat n f h) → Below base w w' → wpList Try.prog ops Q rest (a.put o.dst v') w') : wpList Try.prog ops Q (o :: rest) a w := by
  obtain ⟨v', w', hrun, h2, h3⟩ := run_appB o.type hown hb hlen hbase
  refine wpList_plain hgd fun _ hK => ?_
  unfold Oper.wp execOp
  simp only [ho, resolve, invoke, builtin, Sem.run_bind, Sem.run_pure, Result.andThen_ok, List.map_toArray, List.map_cons, List.map_nil, hs, hx]
  rw [hrun]
  exact hK _ _ (k v' w' h2 h3)
theorem OwnB.drew {w : World} {base n : Nat} {v : Value} {f : Nat → Int} (h : OwnB w base v n f) : OwnB w.drew base v n f := h
/-- The same inside a region that draws its order. -/
theorem stepB {ops : Array Oper} {o : Oper} {a : Act} {w : World} {K : Act → World → Prop} {Q : Exit → Act → World → Prop} {E : Prop} (hgd : o.guard = none) (s x : Operand)
    (ho : o.op = .call { callee := .builtin .append, args := #[s, x], argTypes := #[24, 24] })
    (base n m c : Nat) (v : Value) (f h : Nat → Int) (A : Option Addr) (hs : a.eval s = v) (hown : OwnB w base v n f) (hx : a.eval x = .slice A m c) (hb : Bs w A m h) (hlen : n + m ≤ 100000000) (hbase : base ≤ w.heap.size)
    (k : ∀ v' w', OwnB w' base v' (n + m) (cat n f h) → Below base w w' → K (a.put o.dst v') w') : if Region.wanted o (yielded ops a.tmps) = true then Oper.wp Try.prog o a w K Q else E := by
  have hw : Region.wanted o (yielded ops a.tmps) = true := by simp [Region.wanted, hgd]
  rw [if_pos hw]
  obtain ⟨v', w', hrun, h2, h3⟩ := run_appB o.type hown hb hlen hbase
  unfold Oper.wp execOp
  simp only [ho, resolve, invoke, builtin, Sem.run_bind, Sem.run_pure, Result.andThen_ok, List.map_toArray, List.map_cons, List.map_nil, hs, hx]
  rw [hrun]
  exact k v' w' h2 h3
end Go.Proofs.Ytlejmoaeijjnbaa
