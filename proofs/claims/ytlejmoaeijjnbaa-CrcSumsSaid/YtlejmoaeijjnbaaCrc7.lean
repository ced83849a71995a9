/- The walks of quernlaw02.great, ref02.All; pieces one behind the other. -/
import Derived.Test.YtlejmoaeijjnbaaCrc6
import Derived.Test.YtlejmoaeijjnbaaApp
namespace Go.Proofs.Ytlejmoaeijjnbaa
open Go.RowKit
set_option linter.unusedVariables false

/-- How long so many pieces are together. -/
def lsum (l : Nat → Nat) : Nat → Nat
  | 0 => 0
  | k + 1 => lsum l k + l k
theorem lsum_mono (l : Nat → Nat) {i n : Nat} (h : i ≤ n) : lsum l i ≤ lsum l n := by
  induction n with
  | zero => obtain rfl : i = 0 := by omega
            exact Nat.le_refl _
  | succ n ih =>
    by_cases e : i = n + 1
    · subst e; exact Nat.le_refl _
    · have := ih (by omega)
      simp only [lsum]; omega
/-- So many pieces, one behind the other. -/
def allF (f : Nat → Nat → Int) (l : Nat → Nat) : Nat → Nat → Int
  | 0 => zeroF
  | k + 1 => cat (lsum l k) (allF f l k) (f k)
theorem allF_byte {f : Nat → Nat → Int} {l : Nat → Nat} : ∀ {n : Nat}, (∀ i, i < n → IsByte (f i)) → IsByte (allF f l n)
  | 0, _ => zeroF_isByte
  | n + 1, h => cat_byte (allF_byte fun i hi => h i (by omega)) (h n (by omega))
theorem stP_all (s : Nat) (f : Nat → Nat → Int) (l : Nat → Nat) : ∀ n, stP s f l n = stF s (allF f l n) (lsum l n)
  | 0 => rfl
  | n + 1 => by
    simp only [stP, lsum]
    rw [stF_add, stP_all s f l n]
    have e1 : stF s (allF f l (n + 1)) (lsum l n) = stF s (allF f l n) (lsum l n) := stF_congr fun i hi => cat_l _ _ hi
    have e2 : ∀ t, stF t (fun i => allF f l (n + 1) (lsum l n + i)) (l n) = stF t (f n) (l n) := fun t => stF_congr fun i _ => cat_r _ _ i
    rw [e1, e2]
theorem sumP_all (f : Nat → Nat → Int) (l : Nat → Nat) (n : Nat) : sumP f l n = sumF (allF f l n) (lsum l n) := by
  unfold sumP sumF; rw [stP_all]

theorem Pcs.old {w w' : World} {A : Option Addr} {n : Nat} {P : Nat → Option Addr} {l c : Nat → Nat} {f : Nat → Nat → Int} (h : Pcs w A n P l c f) (hB : Below w.heap.size w w') : Pcs w' A n P l c f :=
  ⟨fun hn => by
    obtain ⟨b, off, hA, h⟩ := h.top hn
    exact ⟨b, off, hA, fun i hi => (hB.cell (p := ⟨b, off + i, none⟩) (block_lt_of_cell (h i hi))).trans (h i hi)⟩, fun i hi => (h.each i hi).old hB, h.byte, h.len, h.cap⟩

/-- Few pieces, and not long ones. -/
def fewB (l : Nat → Nat) (n : Nat) : Bool := decide (n ≤ 100) && decide (lsum l n ≤ 20000)

set_option maxHeartbeats 400000 in
theorem great_any (A : Option Addr) (n cap : Nat) (P : Nat → Option Addr) (l c : Nat → Nat) (f : Nat → Nat → Int) (w : World) (hP : Pcs w A n P l c f) :
    Calls Try.prog 11 #[.slice A n cap] w fun e w' => e = .returned (.bool (!fewB l n)) ∧ w = w' := by
  have HP := hide hP
  clear hP
  by_cases hn : (n : Int) > 100
  · have H : Hid ((!fewB l n) = true) := by rw [Hid, fewB, decide_eq_false (by omega)]; rfl
    go_enter Try.func11, Try.ntmps11
    go_wp2_with fail
    go_ret
    exact ⟨by rw [H.out]; rfl, rfl⟩
  have hn' : (n : Int) ≤ 100 := by omega
  clear hn
  go_enter Try.func11, Try.ntmps11
  go_wp2_with fail
  go_loop [3, 4] (fun x i => ∃ k : Nat, k ≤ n ∧ i = .int .i64 k ∧ lsum l k ≤ 20000 ∧ x = .int .i64 (20000 - (lsum l k : Nat) : Int)) (fun _ i => n - (intOf i).toNat)
  case atStart => exact ⟨0, by omega, rfl, by simp [lsum], rfl⟩
  case round =>
    obtain ⟨k, hk, rfl, hl, rfl⟩ := hrel
    by_cases hlt : k < n
    · obtain ⟨b, off, rfl, sA⟩ := HP.out.top (by omega)
      have hc0 := sA k hlt
      have b0 : (0 : Int) ≤ k := by omega
      have b1 : (k : Int) < n := by omega
      have hm := hide (lsum_mono l (show k + 1 ≤ n by omega))
      have hs : Hid (lsum l (k + 1) = lsum l k + l k) := rfl
      have hcp : (l k : Int) ≤ 9223372036854775807 := by have := HP.out.len k hlt; have := HP.out.cap k hlt; omega
      clear sA HP
      generalize P k = Pk at *
      generalize c k = ck at *
      by_cases hg : (l k : Int) > 20000 - (lsum l k : Nat)
      · have H : Hid ((!fewB l n) = true) := by
          have a := hm.out; have b := hs.out
          rw [Hid, fewB, decide_eq_false (p := lsum l n ≤ 20000) (by omega)]; simp
        clear hm hs
        generalize lsum l k = s at *
        generalize l k = y at *
        go_wp2_with fail
        go_ret
        exact ⟨by rw [H.out]; rfl, rfl⟩
      · have hg' : (l k : Int) ≤ 20000 - (lsum l k : Nat) := by omega
        clear hg hm
        generalize lsum l k = s at *
        generalize l k = y at *
        have hs' : lsum l (k + 1) ≤ 20000 := by have := hs.out; omega
        have Hs' := hide hs'
        clear hs'
        go_wp2_with fail
        go_round
        case rel => exact ⟨k + 1, by omega, by go_num, Hs'.out, by rw [hs.out]; congr 1; omega⟩
        case measure => simp [intOf]; omega
    · obtain rfl : k = n := by omega
      have H : Hid ((!fewB l k) = false) := by
        rw [Hid, fewB, decide_eq_true hl, decide_eq_true (by omega)]; rfl
      generalize lsum l k = s at *
      go_wp2_with fail
      go_ret
      exact ⟨by rw [H.out]; rfl, rfl⟩

set_option maxHeartbeats 400000 in
theorem All_any (A : Option Addr) (n cap : Nat) (P : Nat → Option Addr) (l c : Nat → Nat) (f : Nat → Nat → Int) (w : World) (hP : Pcs w A n P l c f) (hn : n ≤ 100) (hl : lsum l n ≤ 20000) :
    Calls Try.prog 14 #[.slice A n cap] w fun e w' => (∃ v, e = .returned v ∧ OwnB w' w.heap.size v (lsum l n) (allF f l n)) ∧ Below w.heap.size w w' := by
  have HP := hide hP
  have Hl := hide hl
  clear hP hl
  go_enter Try.func14, Try.ntmps14
  go_wp2_with fail
  go_loopw [3, 4] (fun v i wr => ∃ k : Nat, k ≤ n ∧ i = .int .i64 k ∧ OwnB wr w.heap.size v (lsum l k) (allF f l k) ∧ Below w.heap.size w wr) (fun _ i _ => n - (intOf i).toNat)
  case atStart => exact ⟨0, by omega, rfl, OwnB.nil _ _ _, Below.refl _ _⟩
  case round =>
    obtain ⟨k, hk, rfl, hown, hB⟩ := hrel
    by_cases hlt : k < n
    · have hPw := HP.out.old hB
      obtain ⟨b, off, rfl, sA⟩ := hPw.top (by omega)
      have hc0 := sA k hlt
      have b0 : (0 : Int) ≤ k := by omega
      have b1 : (k : Int) < n := by omega
      have Hb := hide (hPw.each k hlt)
      have HB := hide hB
      have hsz := hB.size
      have Hown := hide hown
      have hs : Hid (lsum l (k + 1) = lsum l k + l k) := rfl
      have ha : Hid (allF f l (k + 1) = cat (lsum l k) (allF f l k) (f k)) := rfl
      have hm : lsum l k + l k ≤ 20000 := by
        have := lsum_mono l (show k + 1 ≤ n by omega)
        have := hs.out; have := Hl.out; omega
      clear hPw sA hB hown
      generalize lsum l k = s at *
      generalize allF f l k = F at *
      generalize l k = y at *
      generalize P k = Pk at *
      generalize c k = ck at *
      generalize f k = fk at *
      go_wp2_with (at_builtin; refine appB rfl (.tmp 11) (.tmp 15) rfl w.heap.size s y ck _ F fk Pk rfl Hown.out rfl Hb.out (by omega) (by omega) ?_; intro v2 w2 hown2 hbel2; have Hown2 := hide hown2; have H2 := hide (HB.out.trans hbel2); clear hown2 hbel2)
      go_roundw
      case rel => exact ⟨k + 1, by omega, by go_num, by rw [hs.out, ha.out]; exact Hown2.out, H2.out⟩
      case measure => simp [intOf]; omega
    · obtain rfl : k = n := by omega
      have HB := hide hB
      have Hown := hide hown
      clear hB hown
      go_wp2_with fail
      go_ret
      exact ⟨⟨_, rfl, Hown.out⟩, HB.out⟩
end Go.Proofs.Ytlejmoaeijjnbaa
