/- Pieces that came in. -/
import Derived.Test.YtlejmoaeijjnbaaMine
namespace Go.Proofs.Ytlejmoaeijjnbaa
open Go.RowKit
set_option linter.unusedVariables false

theorem pcs_none (w : World) : ∃ P l c f, Pcs w none 0 P l c f :=
  ⟨fun _ => none, fun _ => 0, fun _ => 0, fun _ => zeroF, ⟨fun h => absurd h (by omega), fun i h => absurd h (by omega), fun i h => absurd h (by omega), fun i h => absurd h (by omega), fun i h => absurd h (by omega)⟩⟩
theorem pcs_of {w : World} {base : Nat} {a : Addr} {len cap : Nat} {A : Nat → Option Addr} {L C : Nat → Nat} {Z : Nat → List Int} (hl : len ≤ cap)
    (hr : ∀ r, r < cap → w.cell? (a.add r) = some (.slice (A r) (L r) (C r)) ∧ L r ≤ C r ∧ C r ≤ maxLen ∧ (Z r).length = C r ∧ (∀ n ∈ Z r, (Lit.int .u8 n).wf = true) ∧ (A r = none → C r = 0) ∧
      ∀ a', A r = some a' → base ≤ a'.block ∧ ∀ c, c < C r → w.cell? (a'.add c) = some (.int .u8 ((Z r).getD c 0))) : ∃ P l c f, Pcs w (some a) len P l c f := by
  have each : ∀ r, ∃ f : Nat → Int, r < cap → Bs w (A r) (L r) f ∧ IsByte f := fun r => by
    by_cases h : r < cap
    · obtain ⟨h1, h2, h3, h4, h5, h6, h7⟩ := hr r h
      obtain ⟨f, q1, q2, _⟩ := bs_of (w := w) (a := A r) (len := L r) (cap := C r) (zs := Z r) (by
        cases e : A r with
        | none =>
          have := h6 e
          exact .inl ⟨rfl, by omega, this, List.eq_nil_of_length_eq_zero (by omega)⟩
        | some x => exact .inr ⟨x, rfl, h2, h3, h4, fun i hi => (h7 x e).2 i (by omega), h5⟩)
      exact ⟨f, fun _ => ⟨q1, q2⟩⟩
    · exact ⟨zeroF, fun x => absurd x h⟩
  obtain ⟨f, hf⟩ := Classical.axiomOfChoice each
  refine ⟨A, L, C, f, ⟨fun hn => ?_, fun i hi => (hf i (by omega)).1, fun i hi => (hf i (by omega)).2, fun i hi => (hr i (by omega)).2.1, fun i hi => ?_⟩⟩
  · have h0 := (hr 0 (by omega)).1
    obtain ⟨b, off, spot⟩ := a
    have hspot : spot = none := by simpa [Addr.add] using World.cell?_spot h0
    subst hspot
    refine ⟨b, off, rfl, fun i hi => ?_⟩
    have := (hr i (by omega)).1
    unfold Addr.add at this
    split at this
    · rename_i e; subst e; exact this
    · exact this
  · have := (hr i (by omega)).2.2.1
    unfold maxLen at this; omega
end Go.Proofs.Ytlejmoaeijjnbaa
