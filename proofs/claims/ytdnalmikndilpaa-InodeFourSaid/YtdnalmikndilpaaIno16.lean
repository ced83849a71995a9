/- What Get tells behind Put. -/
import Derived.Test.YtdnalmikndilpaaIno15
namespace Go.Proofs.Ytdnalmikndilpaa
open Go.RowKit
set_option linter.unusedVariables false

theorem inoE_may {x y : Ino} (h : inoE x y = true) (hm : mayI y) : mayI x := by
  obtain ⟨h1, h2, h3, h4, h5, h6⟩ := (inoE_iff x y).1 h
  unfold mayI at *
  rw [h1, h2, h4, h6]
  rcases hm with hm | hm | hm
  · exact .inl ⟨hm.1, hm.2.1, hm.2.2.1, fun i hi => (h5 i hi).trans (hm.2.2.2.1 i hi), hm.2.2.2.2⟩
  · exact .inr (.inl hm)
  · exact .inr (.inr hm)
theorem part_spl (f h : Nat → Int) (p n a k : Nat) (hk : a + k ≤ n) : part (spl f p n h) (p + a) k = part h a k :=
  part_congr fun i hi => by rw [Nat.add_assoc]; exact spl_in (by omega)
theorem part2_of {h : Nat → Int} {a : Nat} {v : Int} (h0 : 0 ≤ v) (h1 : v ≤ 65535) (e : ∀ i, i < 2 → h (a + i) = v / 256 ^ i % 256) : part h a 2 = v := by
  have e0 := e 0 (by omega)
  have e1 := e 1 (by omega)
  have q0 : (256 : Int) ^ 0 = 1 := rfl
  have q1 : (256 : Int) ^ 1 = 256 := rfl
  rw [q0] at e0; rw [q1] at e1
  rw [Nat.add_zero] at e0
  rw [part_2, e0, e1]; omega
theorem part4_of {h : Nat → Int} {a : Nat} {v : Int} (h0 : 0 ≤ v) (h1 : v ≤ 4294967295) (e : ∀ i, i < 4 → h (a + i) = v / 256 ^ i % 256) : part h a 4 = v := by
  have e0 := e 0 (by omega)
  have e1 := e 1 (by omega)
  have e2 := e 2 (by omega)
  have e3 := e 3 (by omega)
  have q0 : (256 : Int) ^ 0 = 1 := rfl
  have q1 : (256 : Int) ^ 1 = 256 := rfl
  have q2 : (256 : Int) ^ 2 = 65536 := rfl
  have q3 : (256 : Int) ^ 3 = 16777216 := rfl
  rw [q0] at e0; rw [q1] at e1; rw [q2] at e2; rw [q3] at e3
  rw [Nat.add_zero] at e0
  rw [part_4, e0, e1, e2, e3]; omega
theorem dec_spl (f : Nat → Int) (p : Nat) {x : Ino} (hx : InoOk x) (hm : mayI x) : inoE (decI (spl f p 64 (inoF x)) p) x = true := by
  obtain ⟨⟨l0, l1⟩, s0, s1⟩ := hm.bounds
  refine (inoE_iff _ _).2 ⟨?_, ?_, ?_, ?_, fun i hi => ?_, ?_⟩
  · show spl f p 64 (inoF x) p = x.kind
    have := spl_in (f := f) (p := p) (n := 64) (h := inoF x) (i := 0) (by omega)
    rw [Nat.add_zero] at this
    rw [this, ino_0]
  · show part _ (p + 2) 2 = x.links
    rw [part_spl _ _ _ _ _ _ (by omega)]
    exact part2_of (by omega) (by omega) fun i hi => ino_links x hi
  · show part _ (p + 4) 4 = x.gen
    rw [part_spl _ _ _ _ _ _ (by omega)]
    exact part4_of hx.gen.1 hx.gen.2 fun i hi => ino_gen x hi
  · show part _ (p + 8) 4 = x.size
    rw [part_spl _ _ _ _ _ _ (by omega)]
    exact part4_of (by omega) (by omega) fun i hi => ino_size x hi
  · show (if i < 11 then part _ (p + 12 + 4 * i) 4 else 0) = x.ptr i
    rw [if_pos hi, Nat.add_assoc, part_spl _ _ _ _ _ _ (by omega)]
    exact part4_of (hx.ptr i).1 (hx.ptr i).2 fun j hj => ino_ptr x hi hj
  · show part _ (p + 56) 4 = x.next
    rw [part_spl _ _ _ _ _ _ (by omega)]
    exact part4_of hx.next.1 hx.next.2 fun i hi => ino_next x hi
theorem good_spl (f : Nat → Int) (p : Nat) {x : Ino} (hx : InoOk x) (hm : mayI x) : goodI (spl f p 64 (inoF x)) p := by
  refine ⟨?_, (sameB_iff _ _ _).2 fun i hi => ?_, inoE_may (dec_spl f p hx hm) hm⟩
  · rw [spl_in (by omega), ino_1]
  · show spl f p 64 (inoF x) (p + 60 + i) = 0
    rw [Nat.add_assoc, spl_in (by omega), ino_last _ (by omega)]
/-- Get behind Put. -/
theorem get_put (f : Nat → Int) {n : Int} {x : Ino} (h : placeP n) (hx : InoOk x) (hm : mayI x) : getC (putF f n x) n = 0 ∧ inoE (getI (putF f n x) n) x = true := by
  unfold getC getI putF
  rw [if_pos (⟨h, hm⟩ : placeP n ∧ mayI x), if_pos h, if_pos (good_spl f _ hx hm), if_pos ⟨h, good_spl f _ hx hm⟩]
  exact ⟨rfl, dec_spl f _ hx hm⟩
/-- Put behind Get gives the block back. -/
theorem put_get {f : Nat → Int} (hf : IsByte f) {n : Int} (h : getC f n = 0) : putC n (getI f n) = 0 ∧ (∀ i, putF f n (getI f n) i = f i) ∧ mayI (getI f n) ∧ InoOk (getI f n) := by
  unfold getC at h
  by_cases hp : placeP n
  · rw [if_pos hp] at h
    by_cases g : goodI f n.toNat
    · have e : getI f n = decI f n.toNat := by unfold getI; rw [if_pos ⟨hp, g⟩]
      rw [e]
      refine ⟨by unfold putC; rw [if_pos hp, if_pos g.2.2], fun i => ?_, g.2.2, decI_ok hf _⟩
      unfold putF
      rw [if_pos ⟨hp, g.2.2⟩]
      unfold spl
      split
      · rename_i hi
        obtain ⟨r, rfl⟩ : ∃ r, i = n.toNat + r := ⟨i - n.toNat, by omega⟩
        rw [Nat.add_sub_cancel_left]
        by_cases e1 : r = 1
        · subst e1; rw [ino_1, g.1]
        by_cases e6 : r < 60
        · exact dec_bytes hf _ r e6 e1
        · rw [ino_last _ (by omega)]
          have := (sameB_iff _ _ _).1 g.2.1 (r - 60) (by omega)
          simp only [zeroF] at this
          rw [← this]; congr 1; omega
      · rfl
    · rw [if_neg g] at h; omega
  · rw [if_neg hp] at h; omega
theorem getI_ok {f : Nat → Int} (hf : IsByte f) (n : Int) : InoOk (getI f n) := by
  unfold getI; split
  · exact decI_ok hf _
  · exact ⟨by decide, by decide, by decide, by decide, fun _ => ⟨Int.le_refl 0, (by decide : (0 : Int) ≤ 4294967295)⟩, by decide⟩
theorem putF_byte {f : Nat → Int} (hf : IsByte f) (n : Int) {x : Ino} (hx : InoOk x) : IsByte (putF f n x) := by
  unfold putF; split
  · refine spl_byte hf ?_ _ _
    unfold inoF
    have hh : IsByte (headF x) := putB_byte (putB_byte (zeroF_byte.upd 0 hx.kind.1 hx.kind.2) _ _ _) _ _ _
    have : ∀ (l : List Nat) (g : Nat → Int), IsByte g → IsByte (foN g x l) := by
      intro l
      induction l with
      | nil => exact fun g hg => hg
      | cons k l ih => exact fun g hg => ih _ (putB_byte hg _ _ _)
    exact this _ _ hh
  · exact hf
end Go.Proofs.Ytdnalmikndilpaa
