/- The two Gets as one contract each. -/
import Derived.Test.YtdnalmikndilpaaIno14
namespace Go.Proofs.Ytdnalmikndilpaa
open Go.RowKit
set_option linter.unusedVariables false

theorem byte_2 {f : Nat → Int} (hf : IsByte f) (a : Nat) {i : Nat} (hi : i < 2) : part f a 2 / 256 ^ i % 256 = f (a + i) := by
  rw [part_2]
  have h0 := hf a
  have h1 := hf (a + 1)
  obtain rfl | rfl : i = 0 ∨ i = 1 := by omega
  · simp only [Int.pow_zero, Nat.add_zero]; omega
  · have : (256 : Int) ^ 1 = 256 := rfl
    rw [this]; omega
theorem byte_4 {f : Nat → Int} (hf : IsByte f) (a : Nat) {i : Nat} (hi : i < 4) : part f a 4 / 256 ^ i % 256 = f (a + i) := by
  rw [part_4]
  have h0 := hf a
  have h1 := hf (a + 1)
  have h2 := hf (a + 2)
  have h3 := hf (a + 3)
  obtain rfl | rfl | rfl | rfl : i = 0 ∨ i = 1 ∨ i = 2 ∨ i = 3 := by omega
  · simp only [Int.pow_zero, Nat.add_zero]; omega
  · have : (256 : Int) ^ 1 = 256 := rfl
    rw [this]; omega
  · have : (256 : Int) ^ 2 = 65536 := rfl
    rw [this]; omega
  · have : (256 : Int) ^ 3 = 16777216 := rfl
    rw [this]; omega
theorem dec_bytes {f : Nat → Int} (hf : IsByte f) (p i : Nat) (hi : i < 60) (h1 : i ≠ 1) : inoF (decI f p) i = f (p + i) := by
  by_cases h0 : i = 0
  · subst h0; rw [ino_0]; rfl
  by_cases h2 : i < 4
  · obtain ⟨r, rfl⟩ : ∃ r, i = 2 + r := ⟨i - 2, by omega⟩
    rw [ino_links _ (by omega)]
    show part f (p + 2) 2 / 256 ^ r % 256 = _
    rw [byte_2 hf _ (by omega), Nat.add_assoc]
  by_cases h4 : i < 8
  · obtain ⟨r, rfl⟩ : ∃ r, i = 4 + r := ⟨i - 4, by omega⟩
    rw [ino_gen _ (by omega)]
    show part f (p + 4) 4 / 256 ^ r % 256 = _
    rw [byte_4 hf _ (by omega), Nat.add_assoc]
  by_cases h8 : i < 12
  · obtain ⟨r, rfl⟩ : ∃ r, i = 8 + r := ⟨i - 8, by omega⟩
    rw [ino_size _ (by omega)]
    show part f (p + 8) 4 / 256 ^ r % 256 = _
    rw [byte_4 hf _ (by omega), Nat.add_assoc]
  by_cases h56 : i < 56
  · obtain ⟨k, r, hk, hr, rfl⟩ : ∃ k r, k < 11 ∧ r < 4 ∧ i = 12 + 4 * k + r := ⟨(i - 12) / 4, (i - 12) % 4, by omega, by omega, by omega⟩
    rw [ino_ptr _ hk hr]
    show (if k < 11 then part f (p + 12 + 4 * k) 4 else 0) / 256 ^ r % 256 = _
    rw [if_pos hk, byte_4 hf _ hr]
    congr 1; omega
  · obtain ⟨r, rfl⟩ : ∃ r, i = 56 + r := ⟨i - 56, by omega⟩
    rw [ino_next _ (by omega)]
    show part f (p + 56) 4 / 256 ^ r % 256 = _
    rw [byte_4 hf _ (by omega), Nat.add_assoc]
theorem good_iff {f : Nat → Int} (hf : IsByte f) (p : Nat) : goodI f p ↔ (mayIB (decI f p) && !(!sameB (inoF (decI f p)) (fromF f p) 64)) = true := by
  rw [Bool.not_not, Bool.and_eq_true, mayIB, decide_eq_true_eq, sameB_iff]
  unfold goodI
  rw [sameB_iff]
  constructor
  · rintro ⟨h1, h2, h3⟩
    refine ⟨h3, fun i hi => ?_⟩
    show _ = f (p + i)
    by_cases e : i = 1
    · subst e; rw [ino_1, h1]
    by_cases e : i < 60
    · exact dec_bytes hf p i e (by assumption)
    · rw [ino_last _ (by omega)]
      have := h2 (i - 60) (by omega)
      simp only [zeroF] at this
      rw [← this]; congr 1; omega
  · rintro ⟨h3, h⟩
    refine ⟨?_, fun i hi => ?_, h3⟩
    · have := h 1 (by omega); rw [ino_1] at this; exact this.symm
    · have := h (60 + i) (by omega); rw [ino_last _ (by omega)] at this
      show f (p + 60 + i) = 0
      rw [Nat.add_assoc]; exact this.symm
theorem iget_any (f : Nat → Int) (hf : IsByte f) (n : Int) (w : World) : Calls Try.prog 14 #[blkV f, .int .i64 n] w fun e w' => e = .returned (.tuple #[inoV (getI f n), .int .i64 (getC f n)]) ∧ Below w.heap.size w w' := by
  unfold getI getC
  by_cases h : placeP n
  · have := iget_in f hf n n.toNat w (placeP_nat h) h _ _ rfl rfl
    have e := good_iff hf n.toNat
    rw [if_pos h]
    by_cases g : goodI f n.toNat
    · rw [if_pos g, if_pos ⟨h, g⟩]
      rw [e.1 g, if_pos rfl, if_pos rfl] at this
      exact this
    · rw [if_neg g, if_neg (fun k => g k.2)]
      rw [if_neg (fun k => g (e.2 k)), if_neg (fun k => g (e.2 k))] at this
      exact this
  · rw [if_neg h, if_neg (fun k => h k.1)]
    exact iget_place f n w h
theorem rget_any (f : Nat → Int) (hf : IsByte f) (n : Int) (w : World) : Calls Try.prog 15 #[blkV f, .int .i64 n] w fun e w' => e = .returned (.tuple #[inoV (getI f n), .int .i64 (getC f n)]) ∧ Below w.heap.size w w' := by
  unfold getI getC
  by_cases h : placeP n
  · refine rget_in f hf n n.toNat w (placeP_nat h) h _ fun w' hb => ⟨?_, hb⟩
    rw [if_pos h]
    by_cases g : goodI f n.toNat
    · rw [if_pos g, if_pos g, if_pos ⟨h, g⟩]
    · rw [if_neg g, if_neg g, if_neg (fun k => g k.2)]
  · rw [if_neg h, if_neg (fun k => h k.1)]
    exact rget_place f n w h
end Go.Proofs.Ytdnalmikndilpaa
