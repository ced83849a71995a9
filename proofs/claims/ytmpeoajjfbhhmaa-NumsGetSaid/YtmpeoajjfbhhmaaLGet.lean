/- The walk of the law NumsGet. -/
import Derived.Test.YtmpeoajjfbhhmaaApp
import Derived.Test.YtmpeoajjfbhhmaaNum3
import Derived.Test.YtmpeoajjfbhhmaaNum4
import Derived.Test.YtmpeoajjfbhhmaaZero
import Derived.Test.YtmpeoajjfbhhmaaRZero
namespace Go.Proofs.Ytmpeoajjfbhhmaa
open Go.RowKit
set_option linter.unusedVariables false

set_option maxHeartbeats 1000000 in
theorem numsGet_law (A : Option Addr) (len cap : Nat) (f : Nat → Int) (at_ : Int) (w : World) (hlc : len ≤ cap) (hcap : (cap : Int) ≤ 9223372036854775807) (hb : Bs w A len f) (hf : IsByte f)
    (ha0 : -9223372036854775808 ≤ at_) (ha1 : at_ ≤ 9223372036854775807) :
    Calls Try.prog 5 #[.slice A len cap, .int .i64 at_] w fun e w' => e = .returned (.bool true) ∧ Below w.heap.size w w' := by
  have Hb := hide hb
  have Hf := hide hf
  clear hb hf
  by_cases hg : (20000 : Int) < len
  · go_enter Try.func5, Try.ntmps5
    go_wp2_with fail
    go_ret
    exact ⟨rfl, Below.refl _ _⟩
  · have Hsame := hide ((sameB_iff f f len).2 fun _ _ => rfl)
    go_enter Try.func5, Try.ntmps5
    go_wp2_with (at_builtin; refine appB rfl (.tmp 17) (.tmp 18) rfl w.heap.size 0 len cap _ zeroF f A rfl (OwnB.nil w _ _) rfl Hb.out (by omega) (Nat.le_refl _) ?_; intro v1 w1 hown1 hbel1; have Hown1 := hide hown1; have Hbel1 := hide hbel1; obtain ⟨A1, c1, rfl, hc1, hm1, hb1, _⟩ := own_copy hown1; have Hb1 := hide hb1; clear hown1 hbel1 hb1)
    refine (Get16_any A1 len c1 at_ f w1 (by omega) Hb1.out Hf.out).mono ?_
    rintro e w2 ⟨rfl, rfl⟩
    go_wp2_with fail
    refine (Get32_any A1 len c1 at_ f w1 (by omega) Hb1.out Hf.out).mono ?_
    rintro e w2 ⟨rfl, rfl⟩
    go_wp2_with fail
    refine (rGet16_any A len cap at_ f w1 (by omega) ha0 ha1 (Hb.out.old Hbel1.out) Hf.out).mono ?_
    rintro e w2 ⟨rfl, h2⟩
    have Hbel2 : Hid (Below w.heap.size w w2) := Hbel1.out.trans (h2.below _)
    have Hb2 := hide (Hb1.out.still h2)
    clear h2
    go_wp2_with fail
    refine (rGet32_any A len cap at_ f w2 (by omega) ha0 ha1 (Hb.out.old Hbel2.out) Hf.out).mono ?_
    rintro e w3 ⟨rfl, h3⟩
    have Hbel3 : Hid (Below w.heap.size w w3) := Hbel2.out.trans (h3.below _)
    have Hb3 := hide (Hb2.out.still h3)
    clear h3
    go_wp2_with fail
    refine (Zero_any A1 len c1 f (by omega) (by omega) (by omega) w3 Hb3.out Hf.out).mono ?_
    rintro e w4 ⟨rfl, h4⟩
    have Hbel4 : Hid (Below w.heap.size w w4) := Hbel3.out.trans (h4.mono Hbel3.out.size)
    have Hb4 := hide (Hb3.out.old h4)
    clear h4
    go_wp2_with fail
    refine (rZero_any A len cap f (by omega) w4 (Hb.out.old Hbel4.out)).mono ?_
    rintro e w5 ⟨rfl, rfl⟩
    go_wp2_with fail
    refine (Same_any A1 A len c1 cap f f w4 (by omega) Hb4.out (Hb.out.old Hbel4.out)).mono ?_
    rintro e w5 ⟨rfl, h5⟩
    have Hbel5 : Hid (Below w.heap.size w w5) := Hbel4.out.trans (h5.below _)
    clear h5
    rw [Hsame.out]
    go_wp2_with fail
    go_ret
    exact ⟨rfl, Hbel5.out⟩
end Go.Proofs.Ytmpeoajjfbhhmaa
