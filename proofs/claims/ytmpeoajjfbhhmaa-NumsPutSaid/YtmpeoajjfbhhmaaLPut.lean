/- The walk of the law NumsPut. -/
import Derived.Test.YtmpeoajjfbhhmaaApp
import Derived.Test.YtmpeoajjfbhhmaaNum3
import Derived.Test.YtmpeoajjfbhhmaaNum4
import Derived.Deep.RegionWith
namespace Go.Proofs.Ytmpeoajjfbhhmaa
open Go.RowKit
set_option linter.unusedVariables false

def zeroF : Nat → Int := fun _ => 0
def sevens : Nat → Int := fun _ => 77

/-- A slice of n bytes of the call's own, five sevens behind it. -/
theorem own_five {w : World} {base len : Nat} {v : Value} {f : Nat → Int} (h : OwnB w base v (0 + len + 5) (cat (0 + len) (cat 0 zeroF f) sevens)) :
    ∃ g c, v = .slice (some ⟨g, 0, none⟩) (len + 5) c ∧ base ≤ g ∧ len + 5 ≤ c ∧ (c : Int) ≤ 9223372036854775807 ∧ Row w g (len + 5) (cat len f sevens) := by
  rw [Nat.zero_add] at h
  obtain ⟨g, c, e, hb, hc, hm, hr⟩ := h.out (by omega)
  refine ⟨g, c, e, hb, hc, by unfold maxLen at hm; omega, hr.congr fun i _ => ?_⟩
  unfold cat
  simp
theorem five_byte {f : Nat → Int} (hf : IsByte f) (len : Nat) : IsByte (cat len f sevens) := cat_byte hf fun _ => (by decide : (0 : Int) ≤ 77 ∧ (77 : Int) ≤ 255)

set_option maxHeartbeats 1000000 in
theorem numsPut_law (A : Option Addr) (len cap : Nat) (f : Nat → Int) (at_ v : Int) (w : World) (hlc : len ≤ cap) (hcap : (cap : Int) ≤ 9223372036854775807) (hb : Bs w A len f) (hf : IsByte f)
    (ha0 : -9223372036854775808 ≤ at_) (ha1 : at_ ≤ 9223372036854775807) (hv0 : 0 ≤ v) (hv1 : v ≤ 4294967295) :
    Calls Try.prog 3 #[.slice A len cap, .int .i64 at_, .int .u32 v] w fun e w' => e = .returned (.bool true) ∧ Below w.heap.size w w' := by
  have Hb := hide hb
  have Hf := hide hf
  clear hb hf
  by_cases hg : (20000 : Int) < len
  · go_enter Try.func3, Try.ntmps3
    go_wp2_with fail
    go_ret
    exact ⟨rfl, Below.refl _ _⟩
  · go_enter Try.func3, Try.ntmps3
    go_wp2_with fail
    go_loopw [7] (fun i wr => ∃ k : Nat, k ≤ 2 ∧ i = .int .i64 k ∧ Below w.heap.size w wr) (fun i _ => 2 - (intOf i).toNat)
    case atStart => exact ⟨0, by omega, rfl, Below.refl _ _⟩
    case round =>
      obtain ⟨k, hk, rfl, hB⟩ := hrel
      by_cases h0 : k = 0
      · have hk0 : ((k : Int) == 0) = true := by simp; omega
        have hlt : (k : Int) < 2 := by omega
        have HB := hide hB
        have hBr := hB.size
        have Hbr := hide (Hb.out.old hB)
        clear hB
        go_wp2_with (first
          | (at_builtin; refine appB rfl (.tmp 19) (.tmp 20) rfl wr.heap.size 0 len cap _ zeroF f A rfl (OwnB.lit wr wr.heap.size 0 zeroF #[] (Nat.le_refl _) (by decide) rfl) rfl (Hbr.out.old ((Below.refl _ _).alloc (Nat.le_refl _) _)) (by omega) (by simp) ?_; intro v1 w1 hown1 hbel1; have Hown1 := hide hown1; have hz1 : wr.heap.size + 1 ≤ w1.heap.size := (by simpa using hbel1.size); have Hbel1 : Hid (Below wr.heap.size wr w1) := ((Below.refl _ _).alloc (Nat.le_refl _) _).trans hbel1; clear hown1 hbel1)
          | (at_builtin; refine appB rfl (.tmp 21) (.tmp 22) rfl wr.heap.size (0 + len) 5 5 _ (cat 0 zeroF f) sevens _ rfl (Hown1.out.alloc _) rfl (Bs.lit w1 _ 5 sevens _ rfl) (by omega) (by simp; omega) ?_; intro v2 w2 hown2 hbel2; have Hown2 := hide hown2; have hz2 : w1.heap.size + 1 ≤ w2.heap.size := (by simpa using hbel2.size); have Hbel2 : Hid (Below wr.heap.size wr w2) := (Hbel1.out.alloc (by omega) _).trans hbel2; clear hown2 hbel2)
          | (at_builtin; refine appB rfl (.tmp 24) (.tmp 25) rfl w2.heap.size 0 len cap _ zeroF f A rfl (OwnB.lit w2 w2.heap.size 0 zeroF #[] (Nat.le_refl _) (by decide) rfl) rfl ((Hbr.out.old Hbel2.out).old ((Below.refl _ _).alloc (Nat.le_refl _) _)) (by omega) (by simp) ?_; intro v3 w3 hown3 hbel3; have Hown3 := hide hown3; have hz3 : w2.heap.size + 1 ≤ w3.heap.size := (by simpa using hbel3.size); have Hbel3 : Hid (Below w2.heap.size w2 w3) := ((Below.refl _ _).alloc (Nat.le_refl _) _).trans hbel3; clear hown3 hbel3)
          | (at_builtin; refine appB rfl (.tmp 26) (.tmp 27) rfl w2.heap.size (0 + len) 5 5 _ (cat 0 zeroF f) sevens _ rfl (Hown3.out.alloc _) rfl (Bs.lit w3 _ 5 sevens _ rfl) (by omega) (by simp; omega) ?_; intro v4 w4 hown4 hbel4; have Hown4 := hide hown4; have hz4 : w3.heap.size + 1 ≤ w4.heap.size := (by simpa using hbel4.size); have Hbel4 : Hid (Below w2.heap.size w2 w4) := (Hbel3.out.alloc (by omega) _).trans hbel4; clear hown4 hbel4)
          | fail)
        obtain ⟨g1, c1, rfl, hg1, hn1, hm1, hr1⟩ := own_five Hown2.out
        obtain ⟨g2, c2, rfl, hg2, hn2, hm2, hr2⟩ := own_five Hown4.out
        have hl1 := hr1.lt
        have hne : g1 ≠ g2 := by omega
        have hs1 : len ≤ c1 := by omega
        have hs2 : len ≤ c2 := by omega
        have Hr1 := hide (hr1.below Hbel4.out (by omega))
        have Hr2 := hide hr2
        have Hf5 := hide (five_byte Hf.out len)
        have HB4 : Hid (Below w.heap.size w w4) := (HB.out.trans (Hbel2.out.mono hBr)).trans (Hbel4.out.mono (by omega))
        clear hr1 hr2 Hown1 Hown2 Hown3 Hown4 Hbel1 Hbel3 Hbel4 Hbel2 HB
        go_region_with (first
          | (go_at_call 11; refine (Put16_any g1 (len + 5) 0 len c1 at_ (cat len f sevens) v _ (by omega) Hr1.out.drew (by omega) hv0 hv1).mono ?_; rintro e w5 ⟨rfl, hr5, ho5⟩; have Hr5 := hide hr5; have Ho5 := hide ho5; clear hr5 ho5)
          | (go_at_call 12; refine (rPut16_any g2 (len + 5) 0 len c2 at_ (cat len f sevens) v _ (by omega) ha0 ha1 (Hr2.out.drew.only Ho5.out (by omega)) Hf5.out (by omega) hv0 hv1).mono ?_; rintro e w6 ⟨rfl, hr6, ho6⟩; have Hr6 := hide hr6; have Ho6 := hide ho6; clear hr6 ho6))
        have Hs5 := hide (Hr5.out.only Ho6.out hne)
        have HB6 : Hid (Below w.heap.size w w6) := (HB4.out.drew.trans (Ho5.out.below (by omega) (by have := HB4.out.size; simpa using this))).trans (Ho6.out.below (by omega) (by have := HB4.out.size; have := Ho5.out.size; simp at this; omega))
        have Hsame := hide ((sameB_iff (put16 (cat len f sevens) 0 len at_ v) (put16 (cat len f sevens) 0 len at_ v) (len + 5)).2 fun _ _ => rfl)
        go_wp2_with (go_at_call 15; refine (Same_any _ _ _ _ _ (put16 (cat len f sevens) 0 len at_ v) (put16 (cat len f sevens) 0 len at_ v) _ (by omega) Hs5.out.seg0.bs Hr6.out.seg0.bs).mono ?_; rintro e w7 ⟨rfl, hst⟩; have Hst := hide hst; clear hst; rw [Hsame.out])
        go_roundw
        case rel => exact ⟨1, by omega, rfl, HB6.out.trans (Hst.out.below _)⟩
        case measure => simp [intOf]; omega
      by_cases h1 : k = 1
      · have hk0 : ((k : Int) == 0) = false := by simp; omega
        have hlt : (k : Int) < 2 := by omega
        have HB := hide hB
        have hBr := hB.size
        have Hbr := hide (Hb.out.old hB)
        clear hB
        go_wp2_with (first
          | (at_builtin; refine appB rfl (.tmp 19) (.tmp 20) rfl wr.heap.size 0 len cap _ zeroF f A rfl (OwnB.lit wr wr.heap.size 0 zeroF #[] (Nat.le_refl _) (by decide) rfl) rfl (Hbr.out.old ((Below.refl _ _).alloc (Nat.le_refl _) _)) (by omega) (by simp) ?_; intro v1 w1 hown1 hbel1; have Hown1 := hide hown1; have hz1 : wr.heap.size + 1 ≤ w1.heap.size := (by simpa using hbel1.size); have Hbel1 : Hid (Below wr.heap.size wr w1) := ((Below.refl _ _).alloc (Nat.le_refl _) _).trans hbel1; clear hown1 hbel1)
          | (at_builtin; refine appB rfl (.tmp 21) (.tmp 22) rfl wr.heap.size (0 + len) 5 5 _ (cat 0 zeroF f) sevens _ rfl (Hown1.out.alloc _) rfl (Bs.lit w1 _ 5 sevens _ rfl) (by omega) (by simp; omega) ?_; intro v2 w2 hown2 hbel2; have Hown2 := hide hown2; have hz2 : w1.heap.size + 1 ≤ w2.heap.size := (by simpa using hbel2.size); have Hbel2 : Hid (Below wr.heap.size wr w2) := (Hbel1.out.alloc (by omega) _).trans hbel2; clear hown2 hbel2)
          | (at_builtin; refine appB rfl (.tmp 24) (.tmp 25) rfl w2.heap.size 0 len cap _ zeroF f A rfl (OwnB.lit w2 w2.heap.size 0 zeroF #[] (Nat.le_refl _) (by decide) rfl) rfl ((Hbr.out.old Hbel2.out).old ((Below.refl _ _).alloc (Nat.le_refl _) _)) (by omega) (by simp) ?_; intro v3 w3 hown3 hbel3; have Hown3 := hide hown3; have hz3 : w2.heap.size + 1 ≤ w3.heap.size := (by simpa using hbel3.size); have Hbel3 : Hid (Below w2.heap.size w2 w3) := ((Below.refl _ _).alloc (Nat.le_refl _) _).trans hbel3; clear hown3 hbel3)
          | (at_builtin; refine appB rfl (.tmp 26) (.tmp 27) rfl w2.heap.size (0 + len) 5 5 _ (cat 0 zeroF f) sevens _ rfl (Hown3.out.alloc _) rfl (Bs.lit w3 _ 5 sevens _ rfl) (by omega) (by simp; omega) ?_; intro v4 w4 hown4 hbel4; have Hown4 := hide hown4; have hz4 : w3.heap.size + 1 ≤ w4.heap.size := (by simpa using hbel4.size); have Hbel4 : Hid (Below w2.heap.size w2 w4) := (Hbel3.out.alloc (by omega) _).trans hbel4; clear hown4 hbel4)
          | fail)
        obtain ⟨g1, c1, rfl, hg1, hn1, hm1, hr1⟩ := own_five Hown2.out
        obtain ⟨g2, c2, rfl, hg2, hn2, hm2, hr2⟩ := own_five Hown4.out
        have hl1 := hr1.lt
        have hne : g1 ≠ g2 := by omega
        have hs1 : len ≤ c1 := by omega
        have hs2 : len ≤ c2 := by omega
        have Hr1 := hide (hr1.below Hbel4.out (by omega))
        have Hr2 := hide hr2
        have Hf5 := hide (five_byte Hf.out len)
        have HB4 : Hid (Below w.heap.size w w4) := (HB.out.trans (Hbel2.out.mono hBr)).trans (Hbel4.out.mono (by omega))
        clear hr1 hr2 Hown1 Hown2 Hown3 Hown4 Hbel1 Hbel3 Hbel4 Hbel2 HB
        go_region_with (first
          | (go_at_call 13; refine (Put32_any g1 (len + 5) 0 len c1 at_ (cat len f sevens) v _ (by omega) Hr1.out.drew (by omega) hv0 hv1).mono ?_; rintro e w5 ⟨rfl, hr5, ho5⟩; have Hr5 := hide hr5; have Ho5 := hide ho5; clear hr5 ho5)
          | (go_at_call 14; refine (rPut32_any g2 (len + 5) 0 len c2 at_ (cat len f sevens) v _ (by omega) ha0 ha1 (Hr2.out.drew.only Ho5.out (by omega)) Hf5.out (by omega) hv0 hv1).mono ?_; rintro e w6 ⟨rfl, hr6, ho6⟩; have Hr6 := hide hr6; have Ho6 := hide ho6; clear hr6 ho6))
        have Hs5 := hide (Hr5.out.only Ho6.out hne)
        have HB6 : Hid (Below w.heap.size w w6) := (HB4.out.drew.trans (Ho5.out.below (by omega) (by have := HB4.out.size; simpa using this))).trans (Ho6.out.below (by omega) (by have := HB4.out.size; have := Ho5.out.size; simp at this; omega))
        have Hsame := hide ((sameB_iff (put32 (cat len f sevens) 0 len at_ v) (put32 (cat len f sevens) 0 len at_ v) (len + 5)).2 fun _ _ => rfl)
        go_wp2_with (go_at_call 15; refine (Same_any _ _ _ _ _ (put32 (cat len f sevens) 0 len at_ v) (put32 (cat len f sevens) 0 len at_ v) _ (by omega) Hs5.out.seg0.bs Hr6.out.seg0.bs).mono ?_; rintro e w7 ⟨rfl, hst⟩; have Hst := hide hst; clear hst; rw [Hsame.out])
        go_roundw
        case rel => exact ⟨2, by omega, rfl, HB6.out.trans (Hst.out.below _)⟩
        case measure => simp [intOf]; omega
      · have hge : (2 : Int) ≤ k := by omega
        go_wp2_with fail
        go_ret
        exact ⟨rfl, hB⟩
end Go.Proofs.Ytmpeoajjfbhhmaa
