/- Plain laws: descriptors read by a geometry of one group less. -/
import Derived.Test.YtbngbhildijciaaSupR
namespace Go.Proofs.Ytbngbhildijciaa
open Go.RowKit
set_option linter.unusedVariables false

def de0 : De := ⟨0, 0, 0⟩
theorem may_less {a b c d : Int} (m : mayP a b c d) (h : a ≠ 1) : mayP (a - 1) b c d := by
  obtain ⟨h1, h2, h3, h4, h5, h6, h7⟩ := m
  refine ⟨by omega, h2, h3, h4, h5, h6, ?_⟩
  have e : (a - 1) * b = a * b - b := by rw [Int.sub_mul, Int.one_mul]
  rw [e]; omega
theorem desc_void_last {D : Nat → De} {n : Nat} (h : D n = de0) (j : Nat) : descF D (n + 1) j = descF D n j := by
  by_cases c : j < 8 * n
  · exact desc_lo D c
  · rw [desc_hi D (n := n) (by omega)]
    conv => lhs; unfold descF
    rw [h]
    have z : ∀ i : Nat, (0 : Int) / 256 ^ i % 256 = 0 := fun i => by rw [Int.zero_ediv]; rfl
    by_cases c4 : 8 * n + 4 ≤ j ∧ j < 8 * n + 6
    · obtain ⟨r, rfl⟩ : ∃ r, j = 8 * n + 4 + r := ⟨j - (8 * n + 4), by omega⟩
      rw [putB_in _ _ _ (by omega)]; exact z r
    rw [putB_out _ (8 * n + 4) _ (by omega)]
    by_cases c2 : 8 * n + 2 ≤ j ∧ j < 8 * n + 4
    · obtain ⟨r, rfl⟩ : ∃ r, j = 8 * n + 2 + r := ⟨j - (8 * n + 2), by omega⟩
      rw [putB_in _ _ _ (by omega)]; exact z r
    rw [putB_out _ (8 * n + 2) _ (by omega)]
    by_cases c0 : j < 8 * n + 2
    · obtain ⟨r, rfl⟩ : ∃ r, j = 8 * n + r := ⟨j - 8 * n, by omega⟩
      rw [putB_in _ _ _ (by omega)]; exact z r
    rw [putB_out _ (8 * n) _ (by omega)]
    exact desc_hi D (by omega)
/-- Behind a writing: one group less reads just if the last one is noughts. -/
theorem row_less {a b c d : Int} {n : Nat} {D : Nat → De} (h : wdC a b c d (n + 1) D = 0) (ha : a ≠ 1) : (ldC (a - 1) b c d (wdF a b c d (n + 1) D) = 0 ↔ D n = de0) ∧ (a - 1).toNat = n ∧ (ldC (a - 1) b c d (wdF a b c d (n + 1) D) = 0 ∨ ldC (a - 1) b c d (wdF a b c d (n + 1) D) = 60) ∧ ∀ i, i < n → rdD (wdF a b c d (n + 1) D) i = D i := by
  obtain ⟨m, hn, hm, e⟩ := wd_zero h
  have hna : (a - 1).toNat = n := by omega
  have m' := may_less m ha
  have h4 : n + 1 ≤ 4 := by have := m.1; omega
  have hr : ∀ i, i < n → rdD (sealF (descF D (n + 1))) i = D i := fun i hi => rdD_seal m hn hm (by omega)
  rw [e]
  have dc : descF (rdD (sealF (descF D (n + 1)))) n = descF D n := desc_congr hr
  have key : okD (a - 1) b c (sealF (descF D (n + 1))) ↔ D n = de0 := by
    unfold okD
    rw [hna, dc]
    constructor
    · rintro ⟨_, s⟩
      have s := (sameB_iff _ _ _).1 s
      obtain ⟨m0, m1, m2, m3, m4, m5⟩ := hm n (by omega)
      have hb : b - 2 - c / 4 ≤ 65535 ∧ c ≤ 65535 := by have := m.2.1; have := m.2.2.1; omega
      have at_ : ∀ j, 8 * n ≤ j → j < 252 → descF D (n + 1) j = 0 := fun j h1 h2 => by
        have q := s j (by omega)
        rw [sealF_lo _ h2, sealF_lo _ h2, desc_hi D h1] at q
        exact q.symm
      have v2 : ∀ v : Int, 0 ≤ v → v ≤ 65535 → v / 256 ^ 0 % 256 = 0 → v / 256 ^ 1 % 256 = 0 → v = 0 := fun v h0 h1 e0 e1 => by
        have q0 : (256 : Int) ^ 0 = 1 := rfl
        have q1 : (256 : Int) ^ 1 = 256 := rfl
        rw [q0] at e0; rw [q1] at e1
        omega
      have z0 : (D n).bl = 0 := v2 _ m0 (by omega) ((desc_bl D (n := n + 1) (i := n) (r := 0) (by omega) (by omega)).symm.trans (at_ _ (by omega) (by omega))) ((desc_bl D (n := n + 1) (i := n) (r := 1) (by omega) (by omega)).symm.trans (at_ _ (by omega) (by omega)))
      have z1 : (D n).ino = 0 := v2 _ m2 (by omega) ((desc_ino D (n := n + 1) (i := n) (r := 0) (by omega) (by omega)).symm.trans (at_ _ (by omega) (by omega))) ((desc_ino D (n := n + 1) (i := n) (r := 1) (by omega) (by omega)).symm.trans (at_ _ (by omega) (by omega)))
      have z2 : (D n).dir = 0 := v2 _ m3 (by omega) ((desc_dir D (n := n + 1) (i := n) (r := 0) (by omega) (by omega)).symm.trans (at_ _ (by omega) (by omega))) ((desc_dir D (n := n + 1) (i := n) (r := 1) (by omega) (by omega)).symm.trans (at_ _ (by omega) (by omega)))
      unfold de0
      cases hd : D n
      rw [hd] at z0 z1 z2
      simp_all
    · intro hz
      refine ⟨fun i hi => ?_, ?_⟩
      · rw [hr i hi]; exact hm i (by omega)
      · have q : ∀ i, i < 252 → descF D n i = descF D (n + 1) i := fun i _ => (desc_void_last hz i).symm
        refine (sameB_iff _ _ _).2 fun i hi => ?_
        by_cases c : i < 252
        · rw [sealF_lo _ c, sealF_lo _ c]; exact q i c
        · obtain ⟨r, rfl⟩ : ∃ r, i = 252 + r := ⟨i - 252, by omega⟩
          rw [sealF_in _ (by omega), sealF_in _ (by omega), sumF_congr q]
  refine ⟨?_, hna, ?_, hr⟩
  · unfold ldC
    rw [if_pos m']
    by_cases k : okD (a - 1) b c (sealF (descF D (n + 1)))
    · rw [if_pos k]; exact ⟨fun _ => key.1 k, fun _ => rfl⟩
    · rw [if_neg k]; exact ⟨fun q => by omega, fun q => absurd (key.2 q) k⟩
  · unfold ldC
    rw [if_pos m']
    split <;> simp
end Go.Proofs.Ytbngbhildijciaa
