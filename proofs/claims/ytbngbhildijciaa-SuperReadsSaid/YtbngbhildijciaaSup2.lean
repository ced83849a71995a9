/- The walks of the page's methods. -/
import Derived.Test.YtbngbhildijciaaSup1
import Derived.Test.YtbngbhildijciaaInv2
namespace Go.Proofs.Ytbngbhildijciaa
open Go.RowKit
set_option linter.unusedVariables false

theorem Row.bs {w : World} {g n k : Nat} {f : Nat → Int} (h : Row w g n f) (hk : k ≤ n) : Bs w (some ⟨g, 0, none⟩) k f := Bs.take (fun _ => ⟨g, 0, rfl, h.seg0⟩) hk
theorem Row.bsAt {w : World} {g n k p : Nat} {f : Nat → Int} (h : Row w g n f) (hk : p + k ≤ n) : Bs w (some ⟨g, p, none⟩) k (fun i => f (p + i)) := fun _ => ⟨g, p, rfl, h.seg hk⟩
theorem bytes_any (g : Nat) (w : World) : Calls Try.prog 24 #[.pointer (some ⟨g, 0, none⟩)] w fun e w' => e = .returned (.slice (some ⟨g, 0, none⟩) 256 256) ∧ w = w' := by
  go_enter Try.func24, Try.ntmps24
  go_wp2_with fail
  go_ret
  exact ⟨rfl, rfl⟩
theorem pput_any (g p : Nat) (i v : Int) (f : Nat → Int) (w : World) (hi : i = p) (hr : Row w g 256 f) (h0 : 0 ≤ v) (h1 : v ≤ 65535) (hp : p + 2 ≤ 256) :
    Calls Try.prog 25 #[.pointer (some ⟨g, 0, none⟩), .int .i64 i, .int .i64 v] w fun e w' => e = .returned (.tuple #[]) ∧ Row w' g 256 (putB f p v 2) ∧ Only g w w' := by
  have R := hide hr
  have H := hide hi
  have HP := hide hp
  clear hr hi hp
  go_enter Try.func25, Try.ntmps25
  go_wp2_with fail
  refine (bytes_any g _).mono ?_
  rintro e w1 ⟨rfl, rfl⟩
  go_wp2_with fail
  refine (Put16_in g 256 i p f v _ H.out R.out (by omega) h0 h1 HP.out).mono ?_
  rintro e w1 ⟨rfl, hr, ho⟩
  have R1 := hide hr
  have O1 := hide ho
  clear hr ho
  go_wp2_with fail
  refine bodyPost_end (results_none rfl _ _ _) rfl ?_
  exact ⟨rfl, R1.out, O1.out⟩
theorem short_any (g p : Nat) (i : Int) (f : Nat → Int) (w : World) (hi : i = p) (hr : Row w g 256 f) (hf : IsByte f) (hp : p + 2 ≤ 256) :
    Calls Try.prog 35 #[.pointer (some ⟨g, 0, none⟩), .int .i64 i] w fun e w' => e = .returned (.int .i64 (part f p 2)) ∧ w = w' := by
  have R := hide hr
  have H := hide hi
  have HP := hide hp
  have HF := hide hf
  have b0 : 0 ≤ part f p 2 := (part_bd hf p 2).1
  have b1 : part f p 2 ≤ 65535 := by have := (part_bd hf p 2).2; have q : (256 : Int) ^ 2 = 65536 := rfl; omega
  clear hr hi hp hf
  go_enter Try.func35, Try.ntmps35
  go_wp2_with fail
  refine (bytes_any g _).mono ?_
  rintro e w1 ⟨rfl, rfl⟩
  go_wp2_with fail
  refine (Get16_in g 256 i p f _ H.out R.out HF.out (by omega) HP.out).mono ?_
  rintro e w1 ⟨rfl, rfl⟩
  generalize hv : part f p 2 = v at *
  have HV := hide hv
  clear hv
  go_wp2_with fail
  go_ret
  exact ⟨by rw [HV.out]; rfl, rfl⟩
end Go.Proofs.Ytbngbhildijciaa
