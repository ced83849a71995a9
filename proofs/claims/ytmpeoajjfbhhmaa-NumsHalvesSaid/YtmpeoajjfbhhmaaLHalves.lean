/- The walk of the law NumsHalves. -/
import Derived.Test.YtmpeoajjfbhhmaaNum3
import Derived.Test.YtmpeoajjfbhhmaaAwake
namespace Go.Proofs.Ytmpeoajjfbhhmaa
open Go.RowKit
set_option linter.unusedVariables false

theorem halves {f : Nat → Int} {len : Nat} {a : Nat} (h : a + 4 ≤ len) : read 4 f len a = read 2 f len a + 65536 * read 2 f len ((a : Int) + 2) := by
  have e : ((a : Int) + 2) = ((a + 2 : Nat) : Int) := by omega
  rw [e, read_yes h, read_yes (by omega), read_yes (by omega), part_4, part_2, part_2]
  rw [show a + 2 + 1 = a + 3 by omega]; omega

set_option maxHeartbeats 1000000 in
theorem numsHalves_law (A : Option Addr) (len cap : Nat) (f : Nat → Int) (at_ : Int) (w : World) (hlc : len ≤ cap) (hcap : (cap : Int) ≤ 9223372036854775807) (hb : Bs w A len f) (hf : IsByte f)
    (ha0 : -9223372036854775808 ≤ at_) (ha1 : at_ ≤ 9223372036854775807) :
    Calls Try.prog 7 #[.slice A len cap, .int .i64 at_] w fun e w' => e = .returned (.bool true) ∧ Below w.heap.size w w' := by
  have Hb := hide hb
  have Hf := hide hf
  clear hb hf
  by_cases hg : (20000 : Int) < len ∨ at_ < 0 ∨ 20000 < at_
  · rcases hg with hg | hg | hg
    · go_enter Try.func7, Try.ntmps7
      go_wp2_with (go_at_call 23; refine (awake_any _).mono ?_; rintro e w1 ⟨rfl, h1⟩; have H1 := hide h1; clear h1)
      go_ret
      exact ⟨rfl, H1.out⟩
    · by_cases hg2 : (20000 : Int) < len
      all_goals
        go_enter Try.func7, Try.ntmps7
        go_wp2_with (go_at_call 23; refine (awake_any _).mono ?_; rintro e w1 ⟨rfl, h1⟩; have H1 := hide h1; clear h1)
        go_ret
        exact ⟨rfl, H1.out⟩
    · by_cases hg2 : (20000 : Int) < len
      all_goals
        go_enter Try.func7, Try.ntmps7
        go_wp2_with (go_at_call 23; refine (awake_any _).mono ?_; rintro e w1 ⟨rfl, h1⟩; have H1 := hide h1; clear h1)
        go_ret
        exact ⟨rfl, H1.out⟩
  · have g1 : (len : Int) ≤ 20000 := by omega
    have g2 : 0 ≤ at_ := by omega
    have g3 : at_ ≤ 20000 := by omega
    have b0 := (read_bd Hf.out 2 len at_).1
    have b1 : read 2 f len at_ < 65536 := (read_bd Hf.out 2 len at_).2
    have c0 := (read_bd Hf.out 2 len (at_ + 2)).1
    have c1 : read 2 f len (at_ + 2) < 65536 := (read_bd Hf.out 2 len (at_ + 2)).2
    clear hg
    go_enter Try.func7, Try.ntmps7
    go_wp2_with (go_at_call 23; refine (awake_any _).mono ?_; rintro e w1 ⟨rfl, h1⟩; have H1 := hide h1; have Hb1 := hide (Hb.out.old h1); clear h1)
    refine (Get32_any A len cap at_ f w1 (by omega) Hb1.out Hf.out).mono ?_
    rintro e w2 ⟨rfl, rfl⟩
    go_wp2_with fail
    refine (Get16_any A len cap at_ f w1 (by omega) Hb1.out Hf.out).mono ?_
    rintro e w2 ⟨rfl, rfl⟩
    go_wp2_with fail
    refine (Get16_any A len cap (at_ + 2) f w1 (by omega) Hb1.out Hf.out).mono ?_
    rintro e w2 ⟨rfl, rfl⟩
    cases h4 : within 4 len at_ with
    | true =>
      obtain ⟨a, rfl, ha⟩ := within_yes h4
      have i1 := hide (within_mk (many := 2) (len := len) (a := a) (by omega))
      have i2 : Hid (within 2 len ((a : Int) + 2) = true) := by
        have := within_mk (many := 2) (len := len) (a := a + 2) (by omega)
        exact this
      have hv : (read 4 f len a == read 2 f len a + 65536 * read 2 f len ((a : Int) + 2)) = true := by simp [halves ha]
      rw [i1.out, i2.out]
      clear h4
      go_wp2_with fail
      go_ret
      exact ⟨rfl, H1.out⟩
    | false =>
      have hr := read_no (f := f) h4
      rw [hr]
      clear hr
      cases i1 : within 2 len at_ with
      | false =>
        clear h4
        go_wp2_with fail
        go_ret
        exact ⟨rfl, H1.out⟩
      | true =>
        cases i2 : within 2 len (at_ + 2) with
        | false =>
          clear h4
          go_wp2_with fail
          go_ret
          exact ⟨rfl, H1.out⟩
        | true =>
          exfalso
          simp only [within, decide_eq_true_eq, decide_eq_false_iff_not] at h4 i1 i2
          omega
end Go.Proofs.Ytmpeoajjfbhhmaa
