/- Plain laws: what was written is read; a byte otherwise is told by the sum. -/
import Derived.Test.YtbngbhildijciaaLSupKinds
namespace Go.Proofs.Ytbngbhildijciaa
open Go.RowKit
set_option linter.unusedVariables false

theorem xor_cancel {s a b : Nat} (h : s ^^^ a = s ^^^ b) : a = b := by
  have e : s ^^^ (s ^^^ a) = s ^^^ (s ^^^ b) := by rw [h]
  rwa [← Nat.xor_assoc, ← Nat.xor_assoc, Nat.xor_self, Nat.zero_xor, Nat.zero_xor] at e
theorem xor_cancel' {s t a : Nat} (h : s ^^^ a = t ^^^ a) : s = t := by
  rw [Nat.xor_comm s, Nat.xor_comm t] at h; exact xor_cancel h
theorem st_step_lt {f : Nat → Int} (hf : IsByte f) (n : Nat) : stF ones f n ^^^ (f n).toNat < 4294967296 := Nat.xor_lt_two_pow (n := 32) (stF_lt ones_lt hf n) (by have := (byteNat hf n).1; omega)
theorem st_back {f g : Nat → Int} (hf : IsByte f) (hg : IsByte g) (i : Nat) : ∀ n, i < n → (∀ j, i < j → f j = g j) → stF ones f n = stF ones g n → stF ones f (i + 1) = stF ones g (i + 1)
  | 0, h, _, _ => absurd h (by omega)
  | n + 1, h, hs, e => by
    by_cases c : n = i
    · subst c; exact e
    · simp only [stF] at e
      have e' := shN_inj (st_step_lt hf n) (st_step_lt hg n) e
      rw [hs n (by omega)] at e'
      exact st_back hf hg i n (by omega) hs (xor_cancel' e')
theorem sum_tell {f g : Nat → Int} (hf : IsByte f) (hg : IsByte g) {i n : Nat} (hi : i < n) (hne : f i ≠ g i) (hs : ∀ j, j ≠ i → f j = g j) : sumF f n ≠ sumF g n := fun h => by
  unfold sumF at h
  have e := st_back hf hg i n hi (fun j hj => hs j (by omega)) (xor_cancel' h)
  simp only [stF] at e
  have e' := shN_inj (st_step_lt hf i) (st_step_lt hg i) e
  have q : stF ones f i = stF ones g i := stF_congr fun j hj => hs j (by omega)
  rw [q] at e'
  have e2 := xor_cancel e'
  have a := (byteNat hf i).2
  have b := (byteNat hg i).2
  exact hne (by rw [a, b, e2])
/-- A byte otherwise: the sum is wrong. -/
theorem sum_wrong {f g : Nat → Int} (hf : IsByte f) (hg : IsByte g) {i : Nat} (hi : i < 256) (hne : f i ≠ g i) (hs : ∀ j, j ≠ i → f j = g j) (h : part f 252 4 = ((sumF f 252 : Nat) : Int)) : ¬ part g 252 4 = ((sumF g 252 : Nat) : Int) := fun k => by
  by_cases c : i < 252
  · have e : part f 252 4 = part g 252 4 := part_congr fun r hr => hs _ (by omega)
    rw [h, k] at e
    exact sum_tell hf hg c hne hs (by exact_mod_cast e)
  · have e : sumF f 252 = sumF g 252 := sumF_congr fun j hj => hs j (by omega)
    have q : part f 252 4 = part g 252 4 := by rw [h, k, e]
    obtain ⟨r, rfl⟩ : ∃ r, i = 252 + r := ⟨i - 252, by omega⟩
    have a := byte_4 hf 252 (i := r) (by omega)
    have b := byte_4 hg 252 (i := r) (by omega)
    rw [q] at a
    exact hne (a.symm.trans b)
theorem rd_wrong {g : Nat → Int} (h : ¬ part g 252 4 = ((sumF g 252 : Nat) : Int)) : rdC g = 60 := (rd_head fun q => h q.2.2.2.1).1
theorem ok_sum {a b c : Int} {g : Nat → Int} (h : okD a b c g) : part g 252 4 = ((sumF g 252 : Nat) : Int) := by
  have s := (sameB_iff _ _ _).1 h.2
  have e1 : part g 252 4 = part (sealF (descF (rdD g) a.toNat)) 252 4 := part_congr fun r hr => (s _ (by omega)).symm
  have e2 : sumF g 252 = sumF (sealF (descF (rdD g) a.toNat)) 252 := sumF_congr fun j hj => (s j (by omega)).symm
  rw [e1, e2]; exact sealF_part (descF_byte _ _)
theorem ld_wrong {a b c d : Int} {g : Nat → Int} (h : ¬ part g 252 4 = ((sumF g 252 : Nat) : Int)) : ldC a b c d g = 50 ∨ ldC a b c d g = 60 := by
  unfold ldC
  by_cases m : mayP a b c d
  · rw [if_pos m, if_neg (fun k => h (ok_sum k))]; exact .inr rfl
  · rw [if_neg m]; exact .inl rfl
theorem wr_back {x : Su} (x0 : 0 ≤ x.o) (x1 : x.o ≤ 4294967295) (h : wrC x.a x.b x.c x.d x.o = 0) : rdC (wrF x.a x.b x.c x.d x.o) = 0 ∧ rdS (wrF x.a x.b x.c x.d x.o) = suV x := by
  obtain ⟨m, e⟩ := wr_zero h
  rw [e]
  obtain ⟨p0, p1, p2, p3, p4, p5⟩ := read_write m x0 x1
  have q : x.o ≤ x.a * x.c := by
    unfold wrC at h
    rw [if_pos m] at h
    by_cases q : x.o ≤ x.a * x.c
    · exact q
    · rw [if_neg q] at h; omega
  have r := rd_ok p0 (by unfold rdG; rw [p1, p2, p3, p4]; exact m) (by unfold rdO; rw [p1, p3, p5]; exact q)
  rw [p1, p2, p3, p4, p5] at r
  exact r
theorem desc_congr {D E : Nat → De} : ∀ {n : Nat}, (∀ i, i < n → D i = E i) → descF D n = descF E n
  | 0, _ => rfl
  | n + 1, h => by
    unfold descF
    rw [desc_congr (fun i hi => h i (by omega)), h n (by omega)]
theorem rdD_seal {a b c d : Int} {n : Nat} {D : Nat → De} (m : mayP a b c d) (hn : (n : Int) = a) (hm : mayDs b c n D) {i : Nat} (hi : i < n) : rdD (sealF (descF D n)) i = D i := by
  have h4 : n ≤ 4 := by have := m.1; omega
  obtain ⟨m0, m1, m2, m3, m4, m5⟩ := hm i hi
  have hb : b - 2 - c / 4 ≤ 65535 ∧ c ≤ 65535 := by have := m.2.1; have := m.2.2.1; omega
  have e1 : part (sealF (descF D n)) (8 * i) 2 = (D i).bl := by
    rw [sealF_lows (by omega)]; exact part2_of m0 (by omega) fun r hr => desc_bl D hi hr
  have e2 : part (sealF (descF D n)) (8 * i + 2) 2 = (D i).ino := by
    rw [sealF_lows (by omega)]; exact part2_of m2 (by omega) fun r hr => desc_ino D hi hr
  have e3 : part (sealF (descF D n)) (8 * i + 4) 2 = (D i).dir := by
    rw [sealF_lows (by omega)]; exact part2_of m3 (by omega) fun r hr => desc_dir D hi hr
  unfold rdD
  rw [e1, e2, e3]
theorem wd_back {a b c d : Int} {n : Nat} {D : Nat → De} (h : wdC a b c d n D = 0) : ldC a b c d (wdF a b c d n D) = 0 ∧ a.toNat = n ∧ ∀ i, i < n → rdD (wdF a b c d n D) i = D i := by
  obtain ⟨m, hn, hm, e⟩ := wd_zero h
  have hna : a.toNat = n := by omega
  have hr : ∀ i, i < n → rdD (sealF (descF D n)) i = D i := fun i hi => rdD_seal m hn hm hi
  rw [e]
  refine ⟨?_, hna, hr⟩
  unfold ldC
  rw [if_pos m, if_pos]
  refine ⟨?_, ?_⟩
  · rw [hna]; intro i hi
    rw [hr i hi]; exact hm i hi
  · rw [hna, desc_congr hr]; exact sameB_self _ _
theorem wd_sum {a b c d : Int} {n : Nat} {D : Nat → De} (h : wdC a b c d n D = 0) : part (wdF a b c d n D) 252 4 = ((sumF (wdF a b c d n D) 252 : Nat) : Int) := by
  rw [(wd_zero h).2.2.2]; exact sealF_part (descF_byte D n)
theorem wr_sum {x : Su} (h : wrC x.a x.b x.c x.d x.o = 0) : part (wrF x.a x.b x.c x.d x.o) 252 4 = ((sumF (wrF x.a x.b x.c x.d x.o) 252 : Nat) : Int) := by
  rw [(wr_zero h).2]; exact sealF_part (pageF_byte _ _ _ _ _)
/-- A byte put over another one. -/
def flipF (f : Nat → Int) (i : Nat) (v : Int) : Nat → Int := upd f i (bits .xor .u8 (f i) v)
theorem flip_zero {f : Nat → Int} (hf : IsByte f) (i : Nat) : flipF f i 0 = f := by
  funext j
  unfold flipF
  obtain ⟨h1, h2⟩ := byteNat hf i
  have e : bits .xor .u8 (f i) 0 = f i := by
    have := u8_xor_nat (f i).toNat 0 h1 (by omega)
    rw [← h2, Nat.xor_zero, ← h2] at this
    exact this
  rw [e]
  by_cases c : j = i
  · subst c; rw [upd_same]
  · rw [upd_other _ _ c]
theorem flip_ne {f : Nat → Int} (hf : IsByte f) (i : Nat) {v : Int} (v0 : 0 ≤ v) (v1 : v ≤ 255) (hv : v ≠ 0) : IsByte (flipF f i v) ∧ f i ≠ flipF f i v i ∧ ∀ j, j ≠ i → f j = flipF f i v j := by
  obtain ⟨h1, h2⟩ := byteNat hf i
  obtain ⟨u, rfl⟩ := Int.eq_ofNat_of_zero_le v0
  have hu : u < 256 := by omega
  have e : bits .xor .u8 (f i) (u : Int) = (((f i).toNat ^^^ u : Nat) : Int) := by
    have := u8_xor_nat (f i).toNat u h1 hu
    rw [← h2] at this; exact this
  have hx : (f i).toNat ^^^ u < 256 := Nat.xor_lt_two_pow (n := 8) h1 hu
  unfold flipF
  rw [e]
  refine ⟨hf.upd i (by omega) (by omega), ?_, fun j hj => (upd_other _ _ hj).symm⟩
  rw [upd_same]
  intro q
  have q' : (f i).toNat = (f i).toNat ^^^ u := by omega
  have z : (f i).toNat ^^^ 0 = (f i).toNat ^^^ u := by rw [Nat.xor_zero]; exact q'
  have := xor_cancel z
  omega
end Go.Proofs.Ytbngbhildijciaa
