/- A slice of descriptors that came in. -/
import Derived.Test.YtbngbhildijciaaSupG
import Derived.Deep.Slices
namespace Go.Proofs.Ytbngbhildijciaa
open Go.RowKit
open Go.ChangeShapes Go.WideShapes
set_option linter.unusedVariables false

theorem list3 {α : Type} {cs : List α} (h : cs.length = 3) : ∃ c0 c1 c2, cs = [c0, c1, c2] := by
  match cs, h with
  | [c0, c1, c2], _ => exact ⟨_, _, _, rfl⟩
theorem descs_form {H : Type} {enc : TypeId × Value → H} {W : World} {base : Nat} {v : Value} {d : DataW H} {p : List MemPlace} (hv : Value.okWide Try.prog W .any base 27 v) (h : DataW.Trod enc Try.prog W 0 (fun _ => true) true 27 v d p) :
    ∃ A len cap D, v = .slice A len cap ∧ Ds W A len D ∧ len ≤ cap ∧ cap ≤ maxLen := by
  obtain ⟨a, len, cap, rfl⟩ := okWide_slice Try.underlying27 hv
  obtain ⟨fuel, hf⟩ := h
  simp only [Value.cells] at hf
  rcases Go.Deep.open_slice Try.underlying27 hf with ⟨e, _⟩ | ⟨a', len', cap', m, n, D, Pl, e, hb, hl, hm, hmm, _, hx⟩
  · simp only [List.cons.injEq, and_true] at e
    cases e
    exact ⟨none, 0, 0, fun _ => ⟨0, 0, 0⟩, rfl, fun q => absurd q (by omega), Nat.le_refl _, by decide⟩
  · simp only [List.cons.injEq, and_true] at e
    cases e
    have hlm : len ≤ m := by rw [hmm]; simp; omega
    have each : ∀ i, i < m → ∃ x : De, W.cell? (a'.add (i * 3)) = some (.int .i64 x.bl) ∧ W.cell? (a'.add (i * 3 + 1)) = some (.int .i64 x.ino) ∧ W.cell? (a'.add (i * 3 + 2)) = some (.int .i64 x.dir) := by
      intro i hi
      obtain ⟨cs', h1, h2⟩ := hx i hi
      rw [(by kernel_rfl : Try.prog.cellsOf 50 = 3)] at h1
      obtain ⟨_, hlen, hcell⟩ := World.cells?_some h1
      obtain ⟨c0, c1, c2, rfl⟩ := list3 hlen
      obtain ⟨xs, k, _, _, _, hxl, hff⟩ := DataW.trod_struct Try.underlying50 h2
      have g0 := hff 0 _ rfl
      have g1 := hff 1 _ rfl
      have g2 := hff 2 _ rfl
      simp only [List.size_toArray, List.length_cons, List.length_nil, Nat.reduceAdd] at hxl
      simp only [List.getElem_toArray, List.getElem_cons_zero, List.getElem_cons_succ] at g0 g1 g2
      obtain ⟨z0, f0⟩ := some_at hxl (show 0 < 3 by omega)
      obtain ⟨z1, f1⟩ := some_at hxl (show 1 < 3 by omega)
      obtain ⟨z2, f2⟩ := some_at hxl (show 2 < 3 by omega)
      rw [f0] at g0; rw [f1] at g1; rw [f2] at g2
      obtain ⟨a0, q0, _, _⟩ := DataW.trod_int Try.underlying3 g0
      obtain ⟨a1, q1, _, _⟩ := DataW.trod_int Try.underlying3 g1
      obtain ⟨a2, q2, _, _⟩ := DataW.trod_int Try.underlying3 g2
      rw [(by kernel_rfl : Try.prog.cellsOf 3 = 1)] at q0 q1 q2
      simp only [List.drop_zero, List.drop_succ_cons, List.take_succ_cons, List.take_zero, List.cons.injEq, and_true] at q0 q1 q2
      subst q0 q1 q2
      have e0 := hcell 0 (by omega)
      have e1 := hcell 1 (by omega)
      have e2 := hcell 2 (by omega)
      rw [Go.Deep.add_add] at e0 e1 e2
      exact ⟨⟨a0, a1, a2⟩, by simpa using e0, by simpa using e1, by simpa using e2⟩
    have each' : ∃ E : Nat → De, ∀ i, i < m → W.cell? (a'.add (i * 3)) = some (.int .i64 (E i).bl) ∧ W.cell? (a'.add (i * 3 + 1)) = some (.int .i64 (E i).ino) ∧ W.cell? (a'.add (i * 3 + 2)) = some (.int .i64 (E i).dir) := by
      have : Inhabited De := ⟨⟨0, 0, 0⟩⟩
      exact Go.Deep.choose_lt each
    obtain ⟨E, hE⟩ := each'
    refine ⟨_, _, _, E, rfl, fun hn => ?_, hl, hm⟩
    obtain ⟨b, off, spot⟩ := a'
    cases spot with
    | none => exact ⟨b, off, rfl, fun i hi => by
        have q := hE i (by omega)
        simp only [add_plain] at q
        exact q⟩
    | some s =>
      exfalso
      have q := (hE 0 (by omega)).1
      unfold World.cell? at q
      have sp : ((⟨b, off, some s⟩ : Addr).add (0 * 3)).spot.isSome = true := by unfold Addr.add; split <;> simp_all
      split at q
      · rw [sp] at q; simp at q
      · cases q
end Go.Proofs.Ytbngbhildijciaa
