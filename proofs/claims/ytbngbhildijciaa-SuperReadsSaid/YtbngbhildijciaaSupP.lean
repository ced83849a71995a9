/- Plain laws of the superblock's bytes. -/
import Derived.Test.YtbngbhildijciaaSup8
import Derived.Test.YtbngbhildijciaaNumQ
namespace Go.Proofs.Ytbngbhildijciaa
open Go.RowKit
set_option linter.unusedVariables false

theorem byte_2 {f : Nat → Int} (hf : IsByte f) (a : Nat) {i : Nat} (hi : i < 2) : part f a 2 / 256 ^ i % 256 = f (a + i) := by
  rw [part_2]
  have h0 := hf a
  have h1 := hf (a + 1)
  obtain rfl | rfl : i = 0 ∨ i = 1 := by omega
  · simp only [Int.pow_zero, Nat.add_zero]; omega
  · have : (256 : Int) ^ 1 = 256 := rfl
    rw [this]; omega
theorem byte_4 {f : Nat → Int} (hf : IsByte f) (a : Nat) {i : Nat} (hi : i < 4) : part f a 4 / 256 ^ i % 256 = f (a + i) := by
  rw [part_4]
  have h0 := hf a
  have h1 := hf (a + 1)
  have h2 := hf (a + 2)
  have h3 := hf (a + 3)
  obtain rfl | rfl | rfl | rfl : i = 0 ∨ i = 1 ∨ i = 2 ∨ i = 3 := by omega
  · simp only [Int.pow_zero, Nat.add_zero]; omega
  · have : (256 : Int) ^ 1 = 256 := rfl
    rw [this]; omega
  · have : (256 : Int) ^ 2 = 65536 := rfl
    rw [this]; omega
  · have : (256 : Int) ^ 3 = 16777216 := rfl
    rw [this]; omega
theorem part2_of {h : Nat → Int} {a : Nat} {v : Int} (h0 : 0 ≤ v) (h1 : v ≤ 65535) (e : ∀ i, i < 2 → h (a + i) = v / 256 ^ i % 256) : part h a 2 = v := by
  have e0 := e 0 (by omega)
  have e1 := e 1 (by omega)
  have q0 : (256 : Int) ^ 0 = 1 := rfl
  have q1 : (256 : Int) ^ 1 = 256 := rfl
  rw [q0] at e0; rw [q1] at e1
  rw [Nat.add_zero] at e0
  rw [part_2, e0, e1]; omega
theorem part4_of {h : Nat → Int} {a : Nat} {v : Int} (h0 : 0 ≤ v) (h1 : v ≤ 4294967295) (e : ∀ i, i < 4 → h (a + i) = v / 256 ^ i % 256) : part h a 4 = v := by
  have e0 := e 0 (by omega)
  have e1 := e 1 (by omega)
  have e2 := e 2 (by omega)
  have e3 := e 3 (by omega)
  have q0 : (256 : Int) ^ 0 = 1 := rfl
  have q1 : (256 : Int) ^ 1 = 256 := rfl
  have q2 : (256 : Int) ^ 2 = 65536 := rfl
  have q3 : (256 : Int) ^ 3 = 16777216 := rfl
  rw [q0] at e0; rw [q1] at e1; rw [q2] at e2; rw [q3] at e3
  rw [Nat.add_zero] at e0
  rw [part_4, e0, e1, e2, e3]; omega
theorem sumF_congr {f g : Nat → Int} {n : Nat} (h : ∀ i, i < n → f i = g i) : sumF f n = sumF g n := by unfold sumF; rw [stF_congr h]
theorem sumF_nn (f : Nat → Int) (n : Nat) : (0 : Int) ≤ ((sumF f n : Nat) : Int) := Int.natCast_nonneg _
theorem sumF_le {f : Nat → Int} (hf : IsByte f) (n : Nat) : ((sumF f n : Nat) : Int) ≤ 4294967295 := by have := sumF_lt hf n; omega
theorem sealF_lo (f : Nat → Int) {i : Nat} (h : i < 252) : sealF f i = f i := putB_out _ _ _ (.inl h)
theorem sealF_in (f : Nat → Int) {r : Nat} (h : r < 4) : sealF f (252 + r) = ((sumF f 252 : Nat) : Int) / 256 ^ r % 256 := putB_in _ _ _ h
theorem sealF_byte {f : Nat → Int} (hf : IsByte f) : IsByte (sealF f) := putB_byte hf _ _ _
theorem sealF_sum {f : Nat → Int} : sumF (sealF f) 252 = sumF f 252 := sumF_congr fun i hi => sealF_lo f hi
theorem sealF_part {f : Nat → Int} (hf : IsByte f) : part (sealF f) 252 4 = ((sumF (sealF f) 252 : Nat) : Int) := by
  rw [sealF_sum]
  exact part4_of (sumF_nn _ _) (sumF_le hf _) fun i hi => sealF_in f hi
theorem sealF_lows {f : Nat → Int} {p k : Nat} (h : p + k ≤ 252) : part (sealF f) p k = part f p k := part_congr fun i hi => sealF_lo f (by omega)
/-- A block whose sum is right is what is sealed. -/
theorem seal_of {f g : Nat → Int} (hf : IsByte f) (h : ∀ i, i < 252 → g i = f i) (hs : part f 252 4 = ((sumF f 252 : Nat) : Int)) {i : Nat} (hi : i < 256) : sealF g i = f i := by
  by_cases c : i < 252
  · rw [sealF_lo g c, h i c]
  · obtain ⟨r, rfl⟩ : ∃ r, i = 252 + r := ⟨i - 252, by omega⟩
    rw [sealF_in g (by omega), sumF_congr h, ← hs, byte_4 hf _ (by omega)]
theorem page_0 (a b c d o : Int) {r : Nat} (h : r < 4) : pageF a b c d o (0 + r) = 827216465 / 256 ^ r % 256 := by
  unfold pageF
  rw [putB_out _ 16 _ (.inl (by omega)), putB_out _ 14 _ (.inl (by omega)), putB_out _ 12 _ (.inl (by omega)), putB_out _ 10 _ (.inl (by omega)), putB_out _ 8 _ (.inl (by omega)), putB_out _ 6 _ (.inl (by omega)), putB_out _ 4 _ (.inl (by omega)), putB_in _ _ _ h]
theorem page_4 (a b c d o : Int) {r : Nat} (h : r < 2) : pageF a b c d o (4 + r) = 1 / 256 ^ r % 256 := by
  unfold pageF
  rw [putB_out _ 16 _ (.inl (by omega)), putB_out _ 14 _ (.inl (by omega)), putB_out _ 12 _ (.inl (by omega)), putB_out _ 10 _ (.inl (by omega)), putB_out _ 8 _ (.inl (by omega)), putB_out _ 6 _ (.inl (by omega)), putB_in _ _ _ h]
theorem page_6 (a b c d o : Int) {r : Nat} (h : r < 2) : pageF a b c d o (6 + r) = 256 / 256 ^ r % 256 := by
  unfold pageF
  rw [putB_out _ 16 _ (.inl (by omega)), putB_out _ 14 _ (.inl (by omega)), putB_out _ 12 _ (.inl (by omega)), putB_out _ 10 _ (.inl (by omega)), putB_out _ 8 _ (.inl (by omega)), putB_in _ _ _ h]
theorem page_8 (a b c d o : Int) {r : Nat} (h : r < 2) : pageF a b c d o (8 + r) = a / 256 ^ r % 256 := by
  unfold pageF
  rw [putB_out _ 16 _ (.inl (by omega)), putB_out _ 14 _ (.inl (by omega)), putB_out _ 12 _ (.inl (by omega)), putB_out _ 10 _ (.inl (by omega)), putB_in _ _ _ h]
theorem page_10 (a b c d o : Int) {r : Nat} (h : r < 2) : pageF a b c d o (10 + r) = b / 256 ^ r % 256 := by
  unfold pageF
  rw [putB_out _ 16 _ (.inl (by omega)), putB_out _ 14 _ (.inl (by omega)), putB_out _ 12 _ (.inl (by omega)), putB_in _ _ _ h]
theorem page_12 (a b c d o : Int) {r : Nat} (h : r < 2) : pageF a b c d o (12 + r) = c / 256 ^ r % 256 := by
  unfold pageF
  rw [putB_out _ 16 _ (.inl (by omega)), putB_out _ 14 _ (.inl (by omega)), putB_in _ _ _ h]
theorem page_14 (a b c d o : Int) {r : Nat} (h : r < 2) : pageF a b c d o (14 + r) = d / 256 ^ r % 256 := by
  unfold pageF
  rw [putB_out _ 16 _ (.inl (by omega)), putB_in _ _ _ h]
theorem page_16 (a b c d o : Int) {r : Nat} (h : r < 4) : pageF a b c d o (16 + r) = o / 256 ^ r % 256 := by
  unfold pageF
  rw [putB_in _ _ _ h]
theorem page_hi (a b c d o : Int) {j : Nat} (h : 20 ≤ j) : pageF a b c d o j = 0 := by
  unfold pageF
  rw [putB_out _ 16 _ (.inr (by omega)), putB_out _ 14 _ (.inr (by omega)), putB_out _ 12 _ (.inr (by omega)), putB_out _ 10 _ (.inr (by omega)), putB_out _ 8 _ (.inr (by omega)), putB_out _ 6 _ (.inr (by omega)), putB_out _ 4 _ (.inr (by omega)), putB_out _ 0 _ (.inr (by omega))]
  rfl
/-- A superblock's head is right. -/
def hdP (f : Nat → Int) : Prop := part f 0 4 = 827216465 ∧ part f 4 2 = 1 ∧ part f 6 2 = 256 ∧ part f 252 4 = ((sumF f 252 : Nat) : Int) ∧ sameB (fun i => f (20 + i)) zeroF 232 = true
instance (f : Nat → Int) : Decidable (hdP f) := by unfold hdP; infer_instance
def rdG (f : Nat → Int) : Prop := mayP (part f 8 2) (part f 10 2) (part f 12 2) (part f 14 2)
instance (f : Nat → Int) : Decidable (rdG f) := by unfold rdG; infer_instance
def rdO (f : Nat → Int) : Prop := part f 16 4 ≤ part f 8 2 * part f 12 2
instance (f : Nat → Int) : Decidable (rdO f) := by unfold rdO; infer_instance
/-- What Read tells. -/
def rdC (f : Nat → Int) : Int := if hdP f then (if rdG f then (if rdO f then 0 else 60) else 50) else 60
def rdS (f : Nat → Int) : Value := if hdP f ∧ rdG f ∧ rdO f then supV (part f 8 2) (part f 10 2) (part f 12 2) (part f 14 2) (part f 16 4) else supV 0 0 0 0 0
theorem page_of {f : Nat → Int} (hf : IsByte f) (h : hdP f) {i : Nat} (hi : i < 252) : pageF (part f 8 2) (part f 10 2) (part f 12 2) (part f 14 2) (part f 16 4) i = f i := by
  obtain ⟨h0, h4, h6, hs, hz⟩ := h
  by_cases c0 : i < 4
  · obtain ⟨r, rfl⟩ : ∃ r, i = 0 + r := ⟨i - 0, by omega⟩
    have q := byte_4 hf 0 (i := r) (by omega)
    rw [h0] at q; rw [page_0 _ _ _ _ _ (by omega)]; exact q
  by_cases c4 : i < 6
  · obtain ⟨r, rfl⟩ : ∃ r, i = 4 + r := ⟨i - 4, by omega⟩
    have q := byte_2 hf 4 (i := r) (by omega)
    rw [h4] at q; rw [page_4 _ _ _ _ _ (by omega)]; exact q
  by_cases c6 : i < 8
  · obtain ⟨r, rfl⟩ : ∃ r, i = 6 + r := ⟨i - 6, by omega⟩
    have q := byte_2 hf 6 (i := r) (by omega)
    rw [h6] at q; rw [page_6 _ _ _ _ _ (by omega)]; exact q
  by_cases c8 : i < 10
  · obtain ⟨r, rfl⟩ : ∃ r, i = 8 + r := ⟨i - 8, by omega⟩
    have q := byte_2 hf 8 (i := r) (by omega)
    rw [page_8 _ _ _ _ _ (by omega)]; exact q
  by_cases c10 : i < 12
  · obtain ⟨r, rfl⟩ : ∃ r, i = 10 + r := ⟨i - 10, by omega⟩
    have q := byte_2 hf 10 (i := r) (by omega)
    rw [page_10 _ _ _ _ _ (by omega)]; exact q
  by_cases c12 : i < 14
  · obtain ⟨r, rfl⟩ : ∃ r, i = 12 + r := ⟨i - 12, by omega⟩
    have q := byte_2 hf 12 (i := r) (by omega)
    rw [page_12 _ _ _ _ _ (by omega)]; exact q
  by_cases c14 : i < 16
  · obtain ⟨r, rfl⟩ : ∃ r, i = 14 + r := ⟨i - 14, by omega⟩
    have q := byte_2 hf 14 (i := r) (by omega)
    rw [page_14 _ _ _ _ _ (by omega)]; exact q
  by_cases c16 : i < 20
  · obtain ⟨r, rfl⟩ : ∃ r, i = 16 + r := ⟨i - 16, by omega⟩
    have q := byte_4 hf 16 (i := r) (by omega)
    rw [page_16 _ _ _ _ _ (by omega)]; exact q
  rw [page_hi _ _ _ _ _ (by omega)]
  have := (sameB_iff _ _ _).1 hz (i - 20) (by omega)
  rw [show 20 + (i - 20) = i by omega] at this
  rw [this]; rfl
/-- What was read is written as just that block. -/
theorem write_read {f : Nat → Int} (hf : IsByte f) (h : hdP f) {i : Nat} (hi : i < 256) : sealF (pageF (part f 8 2) (part f 10 2) (part f 12 2) (part f 14 2) (part f 16 4)) i = f i :=
  seal_of hf (fun i hi => page_of hf h hi) h.2.2.2.1 hi
/-- What was written is read. -/
theorem read_write {a b c d o : Int} (h : mayP a b c d) (ho0 : 0 ≤ o) (ho1 : o ≤ 4294967295) : hdP (sealF (pageF a b c d o)) ∧ part (sealF (pageF a b c d o)) 8 2 = a ∧ part (sealF (pageF a b c d o)) 10 2 = b ∧ part (sealF (pageF a b c d o)) 12 2 = c ∧ part (sealF (pageF a b c d o)) 14 2 = d ∧ part (sealF (pageF a b c d o)) 16 4 = o := by
  obtain ⟨m0, m1, m2, m3, m4, m5, m6⟩ := h
  have p0 : part (sealF (pageF a b c d o)) 0 4 = 827216465 := by
    rw [sealF_lows (by omega)]; exact part4_of (by omega) (by omega) fun i hi => page_0 a b c d o hi
  have p4 : part (sealF (pageF a b c d o)) 4 2 = 1 := by
    rw [sealF_lows (by omega)]; exact part2_of (by omega) (by omega) fun i hi => page_4 a b c d o hi
  have p6 : part (sealF (pageF a b c d o)) 6 2 = 256 := by
    rw [sealF_lows (by omega)]; exact part2_of (by omega) (by omega) fun i hi => page_6 a b c d o hi
  have p8 : part (sealF (pageF a b c d o)) 8 2 = a := by
    rw [sealF_lows (by omega)]; exact part2_of (by omega) (by omega) fun i hi => page_8 a b c d o hi
  have p10 : part (sealF (pageF a b c d o)) 10 2 = b := by
    rw [sealF_lows (by omega)]; exact part2_of (by omega) (by omega) fun i hi => page_10 a b c d o hi
  have p12 : part (sealF (pageF a b c d o)) 12 2 = c := by
    rw [sealF_lows (by omega)]; exact part2_of (by omega) (by omega) fun i hi => page_12 a b c d o hi
  have p14 : part (sealF (pageF a b c d o)) 14 2 = d := by
    rw [sealF_lows (by omega)]; exact part2_of (by omega) (by omega) fun i hi => page_14 a b c d o hi
  have p16 : part (sealF (pageF a b c d o)) 16 4 = o := by
    rw [sealF_lows (by omega)]; exact part4_of ho0 ho1 fun i hi => page_16 a b c d o hi
  refine ⟨⟨p0, p4, p6, sealF_part (pageF_byte a b c d o), (sameB_iff _ _ _).2 fun i hi => ?_⟩, p8, p10, p12, p14, p16⟩
  rw [sealF_lo _ (by omega), page_hi _ _ _ _ _ (by omega)]; rfl
theorem supV_inj {a b c d o a' b' c' d' o' : Int} (h : supV a b c d o = supV a' b' c' d' o') : a = a' ∧ b = b' ∧ c = c' ∧ d = d' ∧ o = o' := by
  injection h with h
  have e : ∀ i : Nat, (supC a b c d o)[i]? = (supC a' b' c' d' o')[i]? := fun i => by rw [h]
  have e0 : some (Value.int IntKind.i64 a) = some (.int .i64 a') := e 0
  have e1 : some (Value.int IntKind.i64 b) = some (.int .i64 b') := e 1
  have e2 : some (Value.int IntKind.i64 c) = some (.int .i64 c') := e 2
  have e3 : some (Value.int IntKind.i64 d) = some (.int .i64 d') := e 3
  have e4 : some (Value.int IntKind.u32 o) = some (.int .u32 o') := e 4
  injection e0 with e0; injection e1 with e1; injection e2 with e2; injection e3 with e3; injection e4 with e4
  injection e0 with _ e0; injection e1 with _ e1; injection e2 with _ e2; injection e3 with _ e3; injection e4 with _ e4
  exact ⟨e0, e1, e2, e3, e4⟩
end Go.Proofs.Ytbngbhildijciaa
