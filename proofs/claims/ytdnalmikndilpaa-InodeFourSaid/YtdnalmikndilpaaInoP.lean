/- Plain laws of inodes' bytes: unlike, commuting, at other places. -/
import Derived.Test.YtdnalmikndilpaaIno16
namespace Go.Proofs.Ytdnalmikndilpaa
open Go.RowKit
set_option linter.unusedVariables false

theorem inoF_congr {x y : Ino} (h : inoE x y = true) : inoF x = inoF y := by
  obtain ⟨h1, h2, h3, h4, h5, h6⟩ := (inoE_iff x y).1 h
  funext j
  by_cases a0 : j = 0
  · subst a0; rw [ino_0, ino_0, h1]
  by_cases a1 : j = 1
  · subst a1; rw [ino_1, ino_1]
  by_cases a2 : j < 4
  · obtain ⟨i, rfl⟩ : ∃ i, j = 2 + i := ⟨j - 2, by omega⟩
    rw [ino_links x (by omega), ino_links y (by omega), h2]
  by_cases a3 : j < 8
  · obtain ⟨i, rfl⟩ : ∃ i, j = 4 + i := ⟨j - 4, by omega⟩
    rw [ino_gen x (by omega), ino_gen y (by omega), h3]
  by_cases a4 : j < 12
  · obtain ⟨i, rfl⟩ : ∃ i, j = 8 + i := ⟨j - 8, by omega⟩
    rw [ino_size x (by omega), ino_size y (by omega), h4]
  by_cases a5 : j < 56
  · obtain ⟨k, i, hk, hi, rfl⟩ : ∃ k i, k < 11 ∧ i < 4 ∧ j = 12 + 4 * k + i := ⟨(j - 12) / 4, (j - 12) % 4, by omega, by omega, by omega⟩
    rw [ino_ptr x hk hi, ino_ptr y hk hi, h5 k hk]
  by_cases a6 : j < 60
  · obtain ⟨i, rfl⟩ : ∃ i, j = 56 + i := ⟨j - 56, by omega⟩
    rw [ino_next x (by omega), ino_next y (by omega), h6]
  · rw [ino_last x (by omega), ino_last y (by omega)]
theorem inoE_symm {x y : Ino} (h : inoE x y = true) : inoE y x = true := by
  obtain ⟨h1, h2, h3, h4, h5, h6⟩ := (inoE_iff x y).1 h
  exact (inoE_iff y x).2 ⟨h1.symm, h2.symm, h3.symm, h4.symm, fun i hi => (h5 i hi).symm, h6.symm⟩
theorem inoE_trans {x y z : Ino} (h : inoE x y = true) (k : inoE y z = true) : inoE x z = true := by
  obtain ⟨h1, h2, h3, h4, h5, h6⟩ := (inoE_iff x y).1 h
  obtain ⟨k1, k2, k3, k4, k5, k6⟩ := (inoE_iff y z).1 k
  exact (inoE_iff x z).2 ⟨h1.trans k1, h2.trans k2, h3.trans k3, h4.trans k4, fun i hi => (h5 i hi).trans (k5 i hi), h6.trans k6⟩
theorem dec_congr {f g : Nat → Int} {p : Nat} (h : ∀ i, i < 64 → f (p + i) = g (p + i)) : decI f p = decI g p := by
  have hp : ∀ a k, a + k ≤ 64 → part f (p + a) k = part g (p + a) k := fun a k hk => part_congr fun i hi => by rw [Nat.add_assoc]; exact h _ (by omega)
  have h0 := h 0 (by omega)
  rw [Nat.add_zero] at h0
  have hq : (fun j => if j < 11 then part f (p + 12 + 4 * j) 4 else 0) = fun j => if j < 11 then part g (p + 12 + 4 * j) 4 else 0 := by
    funext j
    by_cases hj : j < 11
    · rw [if_pos hj, if_pos hj, Nat.add_assoc]; exact hp _ _ (by omega)
    · rw [if_neg hj, if_neg hj]
  unfold decI midI
  rw [h0, hp 2 2 (by omega), hp 4 4 (by omega), hp 8 4 (by omega), hp 56 4 (by omega), hq]
theorem good_congr {f g : Nat → Int} {p : Nat} (h : ∀ i, i < 64 → f (p + i) = g (p + i)) : goodI f p ↔ goodI g p := by
  unfold goodI
  rw [dec_congr h, h 1 (by omega), sameB_iff, sameB_iff]
  have : ∀ i, i < 4 → f (p + 60 + i) = g (p + 60 + i) := fun i hi => by rw [Nat.add_assoc]; exact h _ (by omega)
  constructor
  · exact fun ⟨a, b, c⟩ => ⟨a, fun i hi => (this i hi) ▸ b i hi, c⟩
  · exact fun ⟨a, b, c⟩ => ⟨a, fun i hi => (this i hi).symm ▸ b i hi, c⟩
theorem get_congr {f g : Nat → Int} {n : Int} (h : placeP n → ∀ i, i < 64 → f (n.toNat + i) = g (n.toNat + i)) : getC f n = getC g n ∧ getI f n = getI g n := by
  unfold getC getI
  by_cases hp : placeP n
  · have e := good_congr (h hp)
    have d := dec_congr (h hp)
    rw [d]
    by_cases k : goodI g n.toNat
    · have k' := e.2 k
      simp [hp, k, k']
    · have k' : ¬ goodI f n.toNat := fun q => k (e.1 q)
      simp [hp, k, k']
  · simp [hp]
theorem places_far {n m : Int} (h : placeP n) (k : placeP m) (ne : n ≠ m) : n.toNat + 64 ≤ m.toNat ∨ m.toNat + 64 ≤ n.toNat := by
  rcases placeP_four.1 h with rfl | rfl | rfl | rfl <;> rcases placeP_four.1 k with rfl | rfl | rfl | rfl <;> first | exact absurd rfl ne | exact .inl (by decide) | exact .inr (by decide)
theorem get_far {f : Nat → Int} {n m : Int} {x : Ino} (ne : n ≠ m) : getC (putF f m x) n = getC f n ∧ getI (putF f m x) n = getI f n := by
  refine get_congr fun hp i hi => ?_
  unfold putF
  split
  · rename_i k
    exact spl_out (by have := places_far hp k.1 ne; omega)
  · rfl
theorem put_comm {f : Nat → Int} {n m : Int} {x y : Ino} (ne : n ≠ m) : putF (putF f n x) m y = putF (putF f m y) n x := by
  unfold putF
  by_cases a : placeP n ∧ mayI x <;> by_cases b : placeP m ∧ mayI y
  · simp only [if_pos a, if_pos b]
    have := places_far a.1 b.1 ne
    funext j
    unfold spl
    by_cases u : n.toNat ≤ j ∧ j < n.toNat + 64
    · have v : ¬ (m.toNat ≤ j ∧ j < m.toNat + 64) := by omega
      simp only [if_neg v, if_pos u]
    · by_cases v : m.toNat ≤ j ∧ j < m.toNat + 64
      · simp only [if_pos v, if_neg u]
      · simp only [if_neg v, if_neg u]
  · simp only [if_pos a, if_neg b]
  · simp only [if_neg a, if_pos b]
  · simp only [if_neg a, if_neg b]
theorem unlike (f : Nat → Int) {x y : Ino} (hx : InoOk x) (hy : InoOk y) (mx : mayI x) (my : mayI y) : sameB (putF f 64 x) (putF f 64 y) 256 = inoE x y := by
  have p : placeP 64 := placeP_four.2 (by omega)
  rw [Bool.eq_iff_iff, sameB_iff]
  constructor
  · intro h
    have e := (get_congr (f := putF f 64 x) (g := putF f 64 y) (n := 64) fun _ i hi => h _ (by show 64 + i < 256; omega)).2
    have a := (get_put f p hx mx).2
    have b := (get_put f p hy my).2
    rw [e] at a
    exact inoE_trans (inoE_symm a) b
  · intro h i hi
    unfold putF
    rw [if_pos ⟨p, mx⟩, if_pos ⟨p, my⟩, inoF_congr h]
theorem putC_may {n : Int} {x : Ino} (h : putC n x = 0) : placeP n ∧ mayI x := by
  unfold putC at h
  by_cases p : placeP n
  · rw [if_pos p] at h
    by_cases m : mayI x
    · exact ⟨p, m⟩
    · rw [if_neg m] at h; omega
  · rw [if_neg p] at h; omega
theorem putF_ne {f : Nat → Int} {n : Int} {x : Ino} (h : putC n x ≠ 0) : putF f n x = f := by
  unfold putF
  rw [if_neg]
  intro ⟨p, m⟩
  exact h (by unfold putC; rw [if_pos p, if_pos m])
end Go.Proofs.Ytdnalmikndilpaa
