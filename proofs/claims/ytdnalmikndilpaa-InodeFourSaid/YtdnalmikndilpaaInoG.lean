/- Laws for whole rows under guards. -/
import Derived.Test.YtdnalmikndilpaaIno16
import Derived.BigFrame
namespace Go.Proofs.Ytdnalmikndilpaa
open Go.RowKit Go.BigFrame
set_option linter.unusedVariables false

section
variable {ops : Array Oper} {rest : List Oper} {o : Oper} {a : Act} {w : World} {Q : Exit → Act → World → Prop}
theorem ldIg (hgd : Region.wanted o (yielded ops a.tmps) = true) (x : Operand) (ho : o.op = .load 27 x) (B : Nat) (i : Ino) (hx : a.eval x = .pointer (some ⟨B, 0, none⟩)) (h : IAt w B i)
    (k : wpList Try.prog ops Q rest (a.put o.dst (.agg (inoC i))) w) : wpList Try.prog ops Q (o :: rest) a w := by
  obtain ⟨t, h⟩ := h
  exact wpList_want hgd fun _ hK => wp_load_row _ x ho B hx t (inoC i) (0, 0) _ h Try.underlying27 rfl (by kernel_rfl) (hK _ _ k)
theorem ldBg (hgd : Region.wanted o (yielded ops a.tmps) = true) (x : Operand) (ho : o.op = .load 23 x) (B : Nat) (f : Nat → Int) (hx : a.eval x = .pointer (some ⟨B, 0, none⟩)) (h : Row w B 256 f)
    (k : wpList Try.prog ops Q rest (a.put o.dst (.agg (bytesOf 256 f))) w) : wpList Try.prog ops Q (o :: rest) a w := by
  obtain ⟨t, h⟩ := h
  exact wpList_want hgd fun _ hK => wp_load_row _ x ho B hx t _ (0, 0) _ h Try.underlying23 rfl (by rw [bytesOf_size]; exact info256) (hK _ _ k)
theorem eqlIg (hgd : Region.wanted o (yielded ops a.tmps) = true) (x y : Operand) (ho : o.op = .binOp .eql 27 x y 27) (i j : Ino) (hx : a.eval x = .agg (inoC i)) (hy : a.eval y = .agg (inoC j)) {b : Bool} (hb : inoE i j = b)
    (k : wpList Try.prog ops Q rest (a.put o.dst (.bool b)) w) : wpList Try.prog ops Q (o :: rest) a w := by
  subst hb
  refine wpList_want hgd fun _ hK => ?_
  unfold Oper.wp execOp
  simp only [ho, hx, hy, Sem.run_bind, run_eqGuard_agg w .eql 27 x y _ _ (by kernel_rfl : Try.prog.eqGuardType Try.prog.depth 27 = false), Result.andThen_ok, eql_ino, Sem.run_pure]
  exact hK _ _ k
theorem neqIg (hgd : Region.wanted o (yielded ops a.tmps) = true) (x y : Operand) (ho : o.op = .binOp .neq 27 x y 27) (i j : Ino) (hx : a.eval x = .agg (inoC i)) (hy : a.eval y = .agg (inoC j)) {b : Bool} (hb : (!inoE i j) = b)
    (k : wpList Try.prog ops Q rest (a.put o.dst (.bool b)) w) : wpList Try.prog ops Q (o :: rest) a w := by
  subst hb
  refine wpList_want hgd fun _ hK => ?_
  unfold Oper.wp execOp
  simp only [ho, hx, hy, Sem.run_bind, run_eqGuard_agg w .neq 27 x y _ _ (by kernel_rfl : Try.prog.eqGuardType Try.prog.depth 27 = false), Result.andThen_ok, neq_ino, Sem.run_pure]
  exact hK _ _ k
theorem eqlBg (hgd : Region.wanted o (yielded ops a.tmps) = true) (x y : Operand) (ho : o.op = .binOp .eql 23 x y 23) (f h : Nat → Int) (hx : a.eval x = .agg (bytesOf 256 f)) (hy : a.eval y = .agg (bytesOf 256 h)) {b : Bool} (hb : sameB f h 256 = b)
    (k : wpList Try.prog ops Q rest (a.put o.dst (.bool b)) w) : wpList Try.prog ops Q (o :: rest) a w := by
  subst hb
  refine wpList_want hgd fun _ hK => ?_
  unfold Oper.wp execOp
  simp only [ho, hx, hy, Sem.run_bind, run_eqGuard_agg w .eql 23 x y _ _ (by kernel_rfl : Try.prog.eqGuardType Try.prog.depth 23 = false), Result.andThen_ok, eql_blk, Sem.run_pure]
  exact hK _ _ k
theorem neqBg (hgd : Region.wanted o (yielded ops a.tmps) = true) (x y : Operand) (ho : o.op = .binOp .neq 23 x y 23) (f h : Nat → Int) (hx : a.eval x = .agg (bytesOf 256 f)) (hy : a.eval y = .agg (bytesOf 256 h)) {b : Bool} (hb : (!sameB f h 256) = b)
    (k : wpList Try.prog ops Q rest (a.put o.dst (.bool b)) w) : wpList Try.prog ops Q (o :: rest) a w := by
  subst hb
  refine wpList_want hgd fun _ hK => ?_
  unfold Oper.wp execOp
  simp only [ho, hx, hy, Sem.run_bind, run_eqGuard_agg w .neq 23 x y _ _ (by kernel_rfl : Try.prog.eqGuardType Try.prog.depth 23 = false), Result.andThen_ok, neq_blk, Sem.run_pure]
  exact hK _ _ k
end
end Go.Proofs.Ytdnalmikndilpaa
