/- The law CrcJoins. -/
import Derived.Test.YtlejmoaeijjnbaaLFar
namespace Go.Proofs.Ytlejmoaeijjnbaa
open Go.RowKit
set_option linter.unusedVariables false

theorem joins_eq (x y z n m : Nat) : shN (8 * (n + m)) x ^^^ (shN (8 * m) y ^^^ z) = shN (8 * m) (shN (8 * n) x ^^^ y) ^^^ z := by
  rw [Nat.mul_add, shN_add, shN_xor, Nat.xor_assoc]

set_option maxHeartbeats 2000000 in
theorem crcJoins_law (A : Option Addr) (la ca : Nat) (f : Nat → Int) (B : Option Addr) (lb cb : Nat) (g : Nat → Int) (C : Option Addr) (lc cc : Nat) (h : Nat → Int) (w : World)
    (hla : la ≤ ca) (hca : (ca : Int) ≤ 9223372036854775807) (hA : Bs w A la f) (hf : IsByte f)
    (hlb : lb ≤ cb) (hcb : (cb : Int) ≤ 9223372036854775807) (hB : Bs w B lb g) (hg : IsByte g)
    (hlc : lc ≤ cc) (hcc : (cc : Int) ≤ 9223372036854775807) (hC : Bs w C lc h) (hh : IsByte h)
    (hs : (la : Int) + lb + lc ≤ 9223372036854775807) :
    Calls Try.prog 5 #[.slice A la ca, .slice B lb cb, .slice C lc cc] w fun e w' => e = .returned (.bool true) ∧ Below w.heap.size w w' := by
  have HA := hide hA
  have HB := hide hB
  have HC := hide hC
  have Hf := hide hf
  have Hg := hide hg
  have Hh := hide hh
  clear hA hB hC hf hg hh
  by_cases hgr : (la : Int) + lb + lc > 20000
  · go_enter Try.func5, Try.ntmps5
    go_wp2_with (go_at_call 18; refine (awake02_any _).mono ?_; rintro e w1 ⟨rfl, h1⟩; have H1 : Hid (Below w.heap.size w w1) := h1; clear h1)
    go_ret
    exact ⟨rfl, H1.out⟩
  have hgr' : (la : Int) + lb + lc ≤ 20000 := by omega
  have Hx := hide (sumF_lt Hf.out la)
  have Hy := hide (sumF_lt Hg.out lb)
  have Hz := hide (sumF_lt Hh.out lc)
  have He := hide (joins_eq (sumF f la) (sumF g lb) (sumF h lc) lb lc)
  have Hi : Hid (shN (8 * la) 0 ^^^ sumF f la = sumF f la) := by rw [Hid, shN_zero, Nat.zero_xor]
  have Hl : Hid (shN (8 * lb) (sumF f la) ^^^ sumF g lb < 4294967296) := Nat.xor_lt_two_pow (n := 32) (shN_lt Hx.out _) Hy.out
  have Hr : Hid (shN (8 * lc) (sumF g lb) ^^^ sumF h lc < 4294967296) := Nat.xor_lt_two_pow (n := 32) (shN_lt Hy.out _) Hz.out
  clear hgr hs
  go_enter Try.func5, Try.ntmps5
  go_wp2_with (go_at_call 18; refine (awake02_any _).mono ?_; rintro e w1 ⟨rfl, h1⟩; have H1 : Hid (Below w.heap.size w w1) := h1; clear h1)
  refine (sum1_any _ _ A la ca 1 f _ (heap_alloc_new _ _) ((HA.out.old H1.out).alloc _) Hf.out hla hca).mono ?_
  rintro e w2 ⟨rfl, hw⟩
  have H2 : Hid (Below w.heap.size w w2) := B_then (B_alloc H1.out _) hw
  clear hw H1
  go_wp2_with fail
  refine (sum1_any _ _ B lb cb 1 g _ (heap_alloc_new _ _) ((HB.out.old H2.out).alloc _) Hg.out hlb hcb).mono ?_
  rintro e w3 ⟨rfl, hw⟩
  have H3 : Hid (Below w.heap.size w w3) := B_then (B_alloc H2.out _) hw
  clear hw H2
  go_wp2_with fail
  refine (sum1_any _ _ C lc cc 1 h _ (heap_alloc_new _ _) ((HC.out.old H3.out).alloc _) Hh.out hlc hcc).mono ?_
  rintro e w4 ⟨rfl, hw⟩
  have H4 : Hid (Below w.heap.size w w4) := B_then (B_alloc H3.out _) hw
  clear hw H3
  go_wp2_with fail
  refine (join_any _ _ lb _ Hx.out Hy.out (by omega)).mono ?_
  rintro e w5 ⟨rfl, hw⟩
  have H5 : Hid (Below w.heap.size w w5) := B_then H4.out hw
  clear hw H4
  go_wp2_with fail
  refine (join_any _ _ lc _ Hl.out Hz.out (by omega)).mono ?_
  rintro e w6 ⟨rfl, hw⟩
  have H6 : Hid (Below w.heap.size w w6) := B_then H5.out hw
  clear hw H5
  go_wp2_with fail
  refine (join_any _ _ lc _ Hy.out Hz.out (by omega)).mono ?_
  rintro e w7 ⟨rfl, hw⟩
  have H7 : Hid (Below w.heap.size w w7) := B_then H6.out hw
  clear hw H6
  go_wp2_with fail
  refine (join_int _ _ (lb + lc) _ _ (by omega) Hx.out Hr.out (by omega)).mono ?_
  rintro e w8 ⟨rfl, hw⟩
  have H8 : Hid (Below w.heap.size w w8) := B_then H7.out hw
  clear hw H7
  rw [He.out]
  go_wp2_with fail
  refine (sum3_any _ _ A B C la lb lc ca cb cc 3 f g h _ (heap_alloc_new _ _) ((HA.out.old H8.out).alloc _) Hf.out hla hca ((HB.out.old H8.out).alloc _) Hg.out hlb hcb ((HC.out.old H8.out).alloc _) Hh.out hlc hcc).mono ?_
  rintro e w9 ⟨rfl, hw⟩
  have H9 : Hid (Below w.heap.size w w9) := B_then (B_alloc H8.out _) hw
  clear hw H8
  go_wp2_with fail
  refine (sum0_any _).mono ?_
  rintro e w10 ⟨rfl, hw⟩
  have H10 : Hid (Below w.heap.size w w10) := B_then H9.out hw
  clear hw H9
  go_wp2_with fail
  refine (join_any 0 _ la _ (by omega) Hx.out (by omega)).mono ?_
  rintro e w11 ⟨rfl, hw⟩
  have H11 : Hid (Below w.heap.size w w11) := B_then H10.out hw
  clear hw H10
  rw [Hi.out]
  go_wp2_with fail
  go_ret
  exact ⟨rfl, H11.out⟩
end Go.Proofs.Ytlejmoaeijjnbaa
