/- Plain laws: what was read is written as just that block; what is not written is a block of noughts. -/
import Derived.Test.YtbngbhildijciaaSup15
namespace Go.Proofs.Ytbngbhildijciaa
open Go.RowKit
set_option linter.unusedVariables false

theorem back_sup {f : Nat → Int} (hf : IsByte f) (h : rdC f = 0) : ∃ u : Su, rdS f = suV u ∧ (0 ≤ u.o ∧ u.o ≤ 4294967295) ∧ wrC u.a u.b u.c u.d u.o = 0 ∧ sameB (wrF u.a u.b u.c u.d u.o) f 256 = true := by
  have hp : hdP f ∧ rdG f ∧ rdO f := by
    unfold rdC at h
    by_cases p : hdP f
    · rw [if_pos p] at h
      by_cases g : rdG f
      · rw [if_pos g] at h
        by_cases q : rdO f
        · exact ⟨p, g, q⟩
        · rw [if_neg q] at h; omega
      · rw [if_neg g] at h; omega
    · rw [if_neg p] at h; omega
  obtain ⟨p, g, q⟩ := hp
  have b := part_bd hf 16 4
  have e : (256 : Int) ^ 4 = 4294967296 := rfl
  refine ⟨⟨part f 8 2, part f 10 2, part f 12 2, part f 14 2, part f 16 4⟩, (rd_ok p g q).2, ⟨b.1, by have := b.2; show part f 16 4 ≤ 4294967295; omega⟩, ?_, ?_⟩
  · unfold wrC
    rw [if_pos (show mayP _ _ _ _ from g), if_pos (show part f 16 4 ≤ part f 8 2 * part f 12 2 from q)]
  · refine (sameB_iff _ _ _).2 fun i hi => ?_
    unfold wrF
    rw [if_pos ⟨show mayP _ _ _ _ from g, show part f 16 4 ≤ part f 8 2 * part f 12 2 from q⟩]
    exact write_read hf p hi
theorem back_desc {a b c d : Int} {f : Nat → Int} (h : ldC a b c d f = 0) : wdC a b c d a.toNat (rdD f) = 0 ∧ sameB (wdF a b c d a.toNat (rdD f)) f 256 = true := by
  unfold ldC at h
  by_cases m : mayP a b c d
  · rw [if_pos m] at h
    by_cases k : okD a b c f
    · obtain ⟨h1, h2⟩ := wd_yes (n := a.toNat) m (by have := m.1; omega) k.1
      rw [h1, h2]; exact ⟨rfl, k.2⟩
    · rw [if_neg k] at h; omega
  · rw [if_neg m] at h; omega
theorem wr_none {x : Su} (h : wrC x.a x.b x.c x.d x.o ≠ 0) : wrF x.a x.b x.c x.d x.o = zeroF := by
  unfold wrC at h
  unfold wrF
  by_cases m : mayP x.a x.b x.c x.d
  · rw [if_pos m] at h
    by_cases q : x.o ≤ x.a * x.c
    · rw [if_pos q] at h; exact absurd rfl h
    · rw [if_neg (fun r => q r.2)]
  · rw [if_neg (fun r => m r.1)]
theorem wd_none {a b c d : Int} {n : Nat} {D : Nat → De} (h : wdC a b c d n D ≠ 0) : wdF a b c d n D = zeroF := by
  unfold wdC at h
  unfold wdF
  by_cases m : mayP a b c d
  · rw [if_pos m] at h
    by_cases q : (n : Int) = a ∧ mayDs b c n D
    · rw [if_pos q] at h; exact absurd rfl h
    · rw [if_neg (fun r => q r.2)]
  · rw [if_neg (fun r => m r.1)]
end Go.Proofs.Ytbngbhildijciaa
