/- quernref01.Same, by its contract. -/
import Derived.Test.YtlejmoaeijjnbaaMem
import Derived.Test.YtlejmoaeijjnbaaProg
import Derived.Deep.QuietTactic
import Derived.BigQuiet
namespace Go.Proofs.Ytlejmoaeijjnbaa
open Go.RowKit
set_option linter.unusedVariables false

theorem Same_len (A C : Option Addr) (n m cap dap : Nat) (w : World) (hne : n ≠ m) :
    Calls Try.prog 15 #[.slice A n cap, .slice C m dap] w fun e w' => e = .returned (.bool false) ∧ w = w' := by
  have h : ((n : Int) == (m : Int)) = false := by simp; omega
  have h' : ((n : Int) != (m : Int)) = true := by simp; omega
  go_enter Try.func15, Try.ntmps15
  go_wp2
  go_ret
  exact ⟨rfl, rfl⟩
theorem Same_any (A C : Option Addr) (n cap dap : Nat) (f h : Nat → Int) (w : World) (hl : (n : Int) ≤ 9223372036854775807) (hA : Bs w A n f) (hC : Bs w C n h) :
    Calls Try.prog 15 #[.slice A n cap, .slice C n dap] w fun e w' => e = .returned (.bool (sameB f h n)) ∧ Still w w' := by
  have hq : ((n : Int) != (n : Int)) = false := by simp
  have Ha := hide hA
  have Hc := hide hC
  clear hA hC
  go_enter Try.func15, Try.ntmps15
  go_wp2_with fail
  go_loopw [5] (fun i wr => ∃ k : Nat, k ≤ n ∧ i = .int .i64 k ∧ sameB f h k = true ∧ Still w wr) (fun i _ => n - (intOf i).toNat)
  case atStart => exact ⟨0, by omega, rfl, rfl, Still.refl _⟩
  case round =>
    obtain ⟨k, hk, rfl, hsame, hst⟩ := hrel
    have Hst := hide hst
    by_cases hlt : k < n
    · have A' := Ha.out.still hst
      have C' := Hc.out.still hst
      obtain ⟨b, off, rfl, sA⟩ := A'.at_ (by omega)
      obtain ⟨c, o, rfl, sC⟩ := C'.at_ (by omega)
      have hc0 := sA k hlt
      have hc1 := sC k hlt
      have b0 : (0 : Int) ≤ k := by omega
      have b1 : (k : Int) < n := by omega
      have Hn : Hid (sameB f h (k + 1) = (sameB f h k && (f k == h k))) := rfl
      have Hm : Hid (sameB f h (k + 1) = false → sameB f h n = false) := sameB_mono f h (by omega)
      clear A' C' sA sC hst Ha Hc
      cases he : (f k == h k) with
      | true =>
        have Hs : Hid (sameB f h (k + 1) = true) := by rw [Hid, Hn.out, hsame, he]; rfl
        have hne : (f k != h k) = false := by simp [bne, he]
        clear Hn Hm hsame
        generalize f k = x at *
        generalize h k = y at *
        go_wp2_with fail
        go_quiet (fail)
        go_wp2
        go_roundw
        case rel => exact ⟨k + 1, by omega, by go_num, Hs.out, Hst.out.trans (.of _ _)⟩
        case measure => simp [intOf]; omega
      | false =>
        have Hs : Hid (sameB f h n = false) := Hm.out (by rw [Hn.out, he]; simp)
        have hne : (f k != h k) = true := by simp [bne, he]
        clear Hn Hm hsame
        generalize f k = x at *
        generalize h k = y at *
        go_wp2_with fail
        go_quiet (fail)
        go_wp2
        go_ret
        exact ⟨by rw [Hs.out]; rfl, Hst.out.trans (.of _ _)⟩
    · obtain rfl : k = n := by omega
      have Hs := hide hsame
      clear hsame
      go_wp2
      go_ret
      exact ⟨by rw [Hs.out]; rfl, Hst.out⟩
end Go.Proofs.Ytlejmoaeijjnbaa
