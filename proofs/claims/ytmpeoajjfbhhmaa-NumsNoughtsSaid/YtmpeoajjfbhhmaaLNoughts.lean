/- The walk of the law NumsNoughts. -/
import Derived.Test.YtmpeoajjfbhhmaaAwake
import Derived.OwnWalk
import Derived.Test.YtmpeoajjfbhhmaaApp
namespace Go.Proofs.Ytmpeoajjfbhhmaa
open Go.RowKit
set_option linter.unusedVariables false

/-- n noughts, made. -/
theorem zeros_bl (n : Nat) : (madeCells (Value.int .u8 0).cells (n * 1)).toList = bl n zeroF := by
  rw [Nat.mul_one]
  show (madeCells #[Value.int .u8 0] n).toList = _
  rw [toList_madeCells_one]
  apply List.ext_getElem?
  intro i
  by_cases hi : i < n
  · rw [bl_get zeroF hi, List.getElem?_replicate, if_pos hi]; rfl
  · rw [List.getElem?_eq_none (by simp; omega), List.getElem?_eq_none (by rw [bl_length]; omega)]

set_option maxHeartbeats 1000000 in
theorem numsNoughts_law (n at_ v : Int) (w : World) (hn0 : -9223372036854775808 ≤ n) (hn1 : n ≤ 9223372036854775807)
    (ha0 : -9223372036854775808 ≤ at_) (ha1 : at_ ≤ 9223372036854775807) (hv0 : 0 ≤ v) (hv1 : v ≤ 255) :
    Calls Try.prog 8 #[.int .i64 n, .int .i64 at_, .int .u8 v] w fun e w' => e = .returned (.bool true) ∧ Below w.heap.size w w' := by
  by_cases hg : n < 0
  · go_enter Try.func8, Try.ntmps8
    go_wp2_with (go_at_call 23; refine (awake_any _).mono ?_; rintro e w1 ⟨rfl, h1⟩; have H1 := hide h1; clear h1)
    go_ret
    exact ⟨rfl, H1.out⟩
  by_cases hg2 : 20000 < n
  · go_enter Try.func8, Try.ntmps8
    go_wp2_with (go_at_call 23; refine (awake_any _).mono ?_; rintro e w1 ⟨rfl, h1⟩; have H1 := hide h1; clear h1)
    go_ret
    exact ⟨rfl, H1.out⟩
  obtain ⟨m, rfl⟩ : ∃ m : Nat, n = m := ⟨n.toNat, by omega⟩
  obtain ⟨i0, hi, hz0, hz1, hz2⟩ := info_parts u8_info
  have Hz := hide ((sameB_iff zeroF zeroF m).2 fun _ _ => rfl)
  have Hzb : Hid (IsByte zeroF) := fun _ => (by decide : (0 : Int) ≤ 0 ∧ (0 : Int) ≤ 255)
  go_enter Try.func8, Try.ntmps8
  go_wp2_with (first
    | (go_at_call 23; refine (awake_any _).mono ?_; rintro e w1 ⟨rfl, h1⟩; have H1 := hide h1; have hs1 := h1.size; clear h1)
    | (at_make; refine wpList_make_full w1 rfl (.tmp 16) (.tmp 16) 22 rfl w1.heap.size 5 i0 _ 1 Try.underlying22 hi hz0 hz1 .i64 .i64 _ _ m rfl rfl rfl rfl (by rw [hz2]; omega) (by unfold maxLen; omega) (Nat.le_refl _) ?_; intro w2 ho2 hg2; rw [zeros_bl] at ho2; have Ho2 := hide ho2; have H2 := hide (H1.out.grown hg2 hs1 (fun k e => by cases e)); clear ho2 hg2))
  have hown : OwnB w2 w1.heap.size (.slice (some ⟨w1.heap.size, 0, none⟩) m m) m zeroF := Ho2.out
  refine (Zero_any _ m m zeroF (by omega) (by omega) (by omega) w2 hown.reads.1 Hzb.out).mono ?_
  rintro e w3 ⟨rfl, h3⟩
  have H3 : Hid (Below w.heap.size w w3) := H2.out.trans (h3.mono H2.out.size)
  have HR : Hid (0 < m → Row w3 w1.heap.size m zeroF) := fun hm => by
    obtain ⟨g, e, _, hr⟩ := hown.reads.2 hm
    cases e
    exact hr.below h3 hr.lt
  clear hown h3
  rw [Hz.out]
  by_cases g1 : at_ < 0
  · go_wp2_with fail
    go_ret
    exact ⟨rfl, H3.out⟩
  by_cases g2 : (m : Int) ≤ at_
  · go_wp2_with fail
    go_ret
    exact ⟨rfl, H3.out⟩
  by_cases g3 : v = 0
  · have hv : (v == 0) = true := by simp [g3]
    clear g3
    go_wp2_with fail
    go_ret
    exact ⟨rfl, H3.out⟩
  have hv : (v == 0) = false := by simp [g3]
  obtain ⟨a, rfl⟩ : ∃ a : Nat, at_ = a := ⟨at_.toNat, by omega⟩
  have hr := HR.out (by omega)
  have hc := hr.cell (i := a) (by omega)
  have hfz := hr.frozen a
  have Hr := hide (hr.set_ a v)
  have Hne : Hid (sameB (upd zeroF a v) zeroF m = false) := by
    cases e : sameB (upd zeroF a v) zeroF m with
    | false => rfl
    | true =>
      have := (sameB_iff _ zeroF m).1 e a (by omega)
      rw [upd_same] at this
      exact absurd this g3
  have Hb4 := hide (Hzb.out.upd a hv0 hv1)
  clear g3 hr
  go_wp2_with fail
  refine (Zero_any _ m m (upd zeroF a v) (by omega) (by omega) (by omega) _ Hr.out.seg0.bs Hb4.out).mono ?_
  rintro e w4 ⟨rfl, h4⟩
  have H4 : Hid (Below w.heap.size w w4) := (H3.out.setCell (p := ⟨w1.heap.size, a, none⟩) hs1 _).trans (h4.mono (by simpa using H3.out.size))
  clear h4
  rw [Hne.out]
  go_wp2_with fail
  go_ret
  exact ⟨rfl, H4.out⟩
end Go.Proofs.Ytmpeoajjfbhhmaa
