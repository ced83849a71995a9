/- An inode's bytes, one by one. -/
import Derived.Test.YtdnalmikndilpaaIno7
namespace Go.Proofs.Ytdnalmikndilpaa
open Go.RowKit
set_option linter.unusedVariables false

theorem plN_far {k m : Nat} (h : k ≠ m) : plN k + 4 ≤ plN m ∨ plN m + 4 ≤ plN k := by
  cases k <;> cases m <;> simp [plN] <;> omega
theorem foN_range (g : Nat → Int) (x : Ino) (m : Nat) : foN g x (List.range (m + 1)) = putB (foN g x (List.range m)) (plN m) (lvAt x m) 4 := by rw [List.range_succ, foN_snoc]
theorem foN_out (g : Nat → Int) (x : Ino) (j : Nat) : ∀ m : Nat, (∀ k, k < m → j < plN k ∨ plN k + 4 ≤ j) → foN g x (List.range m) j = g j
  | 0, _ => rfl
  | m + 1, h => by rw [foN_range, putB_out _ _ _ (h m (by omega)), foN_out g x j m (fun k hk => h k (by omega))]
theorem foN_in (g : Nat → Int) (x : Ino) (k i : Nat) (hi : i < 4) : ∀ m : Nat, k < m → foN g x (List.range m) (plN k + i) = lvAt x k / 256 ^ i % 256
  | 0, h => absurd h (by omega)
  | m + 1, h => by
    rw [foN_range]
    by_cases e : k = m
    · subst e; exact putB_in _ _ _ hi
    · rw [putB_out _ _ _ (by have := plN_far e; omega)]
      exact foN_in g x k i hi m (by omega)
theorem head_0 (x : Ino) : headF x 0 = x.kind := by
  unfold headF; rw [putB_out _ _ _ (by omega), putB_out _ _ _ (by omega), upd_same]
theorem head_1 (x : Ino) : headF x 1 = 0 := by
  unfold headF; rw [putB_out _ _ _ (by omega), putB_out _ _ _ (by omega), upd_other _ _ (by omega)]; rfl
theorem head_links (x : Ino) {i : Nat} (hi : i < 2) : headF x (2 + i) = x.links / 256 ^ i % 256 := by
  unfold headF; rw [putB_out _ _ _ (by omega), putB_in _ _ _ hi]
theorem head_size (x : Ino) {i : Nat} (hi : i < 4) : headF x (8 + i) = x.size / 256 ^ i % 256 := by
  unfold headF; rw [putB_in _ _ _ hi]
theorem head_out (x : Ino) {j : Nat} (hj : 12 ≤ j) : headF x j = 0 := by
  unfold headF; rw [putB_out _ _ _ (by omega), putB_out _ _ _ (by omega), upd_other _ _ (by omega)]; rfl
theorem pl_low {j : Nat} (h : j < 4 ∨ (8 ≤ j ∧ j < 12) ∨ 60 ≤ j) : ∀ k, k < 13 → j < plN k ∨ plN k + 4 ≤ j := fun k hk => by
  cases k <;> simp [plN] <;> omega
theorem ino_0 (x : Ino) : inoF x 0 = x.kind := by unfold inoF; rw [foN_out _ _ _ _ (pl_low (by omega)), head_0]
theorem ino_1 (x : Ino) : inoF x 1 = 0 := by unfold inoF; rw [foN_out _ _ _ _ (pl_low (by omega)), head_1]
theorem ino_links (x : Ino) {i : Nat} (hi : i < 2) : inoF x (2 + i) = x.links / 256 ^ i % 256 := by unfold inoF; rw [foN_out _ _ _ _ (pl_low (by omega)), head_links x hi]
theorem ino_size (x : Ino) {i : Nat} (hi : i < 4) : inoF x (8 + i) = x.size / 256 ^ i % 256 := by unfold inoF; rw [foN_out _ _ _ _ (pl_low (by omega)), head_size x hi]
theorem ino_gen (x : Ino) {i : Nat} (hi : i < 4) : inoF x (4 + i) = x.gen / 256 ^ i % 256 := by unfold inoF; exact foN_in _ x 0 i hi 13 (by omega)
theorem ino_ptr (x : Ino) {k i : Nat} (hk : k < 11) (hi : i < 4) : inoF x (12 + 4 * k + i) = x.ptr k / 256 ^ i % 256 := by
  unfold inoF
  have := foN_in (headF x) x (k + 1) i hi 13 (by omega)
  have e : lvAt x (k + 1) = x.ptr k := by show (if k = 11 then x.next else x.ptr k) = x.ptr k; rw [if_neg (by omega)]
  rw [e] at this
  exact this
theorem ino_next (x : Ino) {i : Nat} (hi : i < 4) : inoF x (56 + i) = x.next / 256 ^ i % 256 := by unfold inoF; exact foN_in _ x 12 i hi 13 (by omega)
theorem ino_last (x : Ino) {j : Nat} (hj : 60 ≤ j) : inoF x j = 0 := by unfold inoF; rw [foN_out _ _ _ _ (pl_low (by omega)), head_out x (by omega)]

/-- What the document's Put comes to, step by step. -/
def rHead (f : Nat → Int) (p : Nat) (x : Ino) : Nat → Int := putB (putB (putB (upd (spl f p 64 zeroF) p x.kind) (p + 2) x.links 2) (p + 4) x.gen 4) (p + 8) x.size 4
def rPtrs (f : Nat → Int) (p : Nat) (x : Ino) : Nat → Nat → Int
  | 0 => rHead f p x
  | k + 1 => putB (rPtrs f p x k) (p + 12 + 4 * k) (x.ptr k) 4
def rAll (f : Nat → Int) (p : Nat) (x : Ino) : Nat → Int := putB (rPtrs f p x 11) (p + 56) x.next 4
theorem rPtrs_out (f : Nat → Int) (p : Nat) (x : Ino) (j : Nat) : ∀ m : Nat, j < p + 12 ∨ p + 12 + 4 * m ≤ j → rPtrs f p x m j = rHead f p x j
  | 0, _ => rfl
  | m + 1, h => by unfold rPtrs; rw [putB_out _ _ _ (by omega), rPtrs_out f p x j m (by omega)]
theorem rPtrs_in (f : Nat → Int) (p : Nat) (x : Ino) (k i : Nat) (hi : i < 4) : ∀ m : Nat, k < m → rPtrs f p x m (p + 12 + 4 * k + i) = x.ptr k / 256 ^ i % 256
  | 0, h => absurd h (by omega)
  | m + 1, h => by
    unfold rPtrs
    by_cases e : k = m
    · subst e; exact putB_in _ _ _ hi
    · rw [putB_out _ _ _ (by omega)]
      exact rPtrs_in f p x k i hi m (by omega)
theorem spl_in {f : Nat → Int} {p n : Nat} {h : Nat → Int} {i : Nat} (hi : i < n) : spl f p n h (p + i) = h i := by unfold spl; rw [if_pos (by omega), Nat.add_sub_cancel_left]
theorem spl_out {f : Nat → Int} {p n : Nat} {h : Nat → Int} {j : Nat} (hj : j < p ∨ p + n ≤ j) : spl f p n h j = f j := by unfold spl; rw [if_neg (by omega)]
theorem rAll_eq (f : Nat → Int) (p : Nat) (x : Ino) (j : Nat) : rAll f p x j = spl f p 64 (inoF x) j := by
  by_cases h : j < p ∨ p + 64 ≤ j
  · rw [spl_out h]
    unfold rAll
    rw [putB_out _ _ _ (by omega), rPtrs_out _ _ _ _ _ (by omega)]
    unfold rHead
    rw [putB_out _ _ _ (by omega), putB_out _ _ _ (by omega), putB_out _ _ _ (by omega), upd_other _ _ (by omega), spl_out h]
  obtain ⟨i, rfl⟩ : ∃ i, j = p + i := ⟨j - p, by omega⟩
  rw [spl_in (by omega)]
  unfold rAll
  by_cases h1 : 56 ≤ i ∧ i < 60
  · obtain ⟨r, rfl⟩ : ∃ r, i = 56 + r := ⟨i - 56, by omega⟩
    rw [ino_next x (by omega), ← Nat.add_assoc, putB_in _ _ _ (by omega)]
  rw [putB_out _ _ _ (by omega)]
  by_cases h2 : 12 ≤ i ∧ i < 56
  · obtain ⟨k, r, hk, hr, rfl⟩ : ∃ k r, k < 11 ∧ r < 4 ∧ i = 12 + 4 * k + r := ⟨(i - 12) / 4, (i - 12) % 4, by omega, by omega, by omega⟩
    rw [ino_ptr x hk hr, show p + (12 + 4 * k + r) = p + 12 + 4 * k + r by omega, rPtrs_in _ _ _ _ _ hr _ hk]
  rw [rPtrs_out _ _ _ _ _ (by omega)]
  unfold rHead
  by_cases h3 : 8 ≤ i ∧ i < 12
  · obtain ⟨r, rfl⟩ : ∃ r, i = 8 + r := ⟨i - 8, by omega⟩
    rw [ino_size x (by omega), ← Nat.add_assoc, putB_in _ _ _ (by omega)]
  rw [putB_out _ _ _ (by omega)]
  by_cases h4 : 4 ≤ i ∧ i < 8
  · obtain ⟨r, rfl⟩ : ∃ r, i = 4 + r := ⟨i - 4, by omega⟩
    rw [ino_gen x (by omega), ← Nat.add_assoc, putB_in _ _ _ (by omega)]
  rw [putB_out _ _ _ (by omega)]
  by_cases h5 : 2 ≤ i ∧ i < 4
  · obtain ⟨r, rfl⟩ : ∃ r, i = 2 + r := ⟨i - 2, by omega⟩
    rw [ino_links x (by omega), ← Nat.add_assoc, putB_in _ _ _ (by omega)]
  rw [putB_out _ _ _ (by omega)]
  by_cases h6 : i = 0
  · subst h6; rw [Nat.add_zero, upd_same, ino_0]
  rw [upd_other _ _ (by omega), spl_in (by omega)]
  by_cases h7 : i = 1
  · subst h7; rw [ino_1]; rfl
  · rw [ino_last x (by omega)]; rfl
end Go.Proofs.Ytdnalmikndilpaa
