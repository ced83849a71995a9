/- The walk of the law NumsOrder. -/
import Derived.Test.YtmpeoajjfbhhmaaApp
import Derived.Test.YtmpeoajjfbhhmaaNumQ
import Derived.Test.YtmpeoajjfbhhmaaAwake
import Derived.Deep.QuietTactic
import Derived.BigQuiet
namespace Go.Proofs.Ytmpeoajjfbhhmaa
open Go.RowKit
set_option linter.unusedVariables false

theorem order_same (f : Nat → Int) (len : Nat) (at_ to u v : Int) (h : at_ + 4 ≤ to) (i : Nat) :
    put32 (put32 f 0 len at_ u) 0 len to v i = put32 (put32 f 0 len to v) 0 len at_ u i := by
  unfold put32
  cases h1 : within 4 len at_ <;> cases h2 : within 4 len to <;> simp
  obtain ⟨a, rfl, ha⟩ := within_yes h1
  obtain ⟨b, rfl, hb⟩ := within_yes h2
  exact putB_comm f u v (by simp; omega) i
theorem order_read (f : Nat → Int) (len : Nat) (at_ to u v : Int) (h : at_ + 4 ≤ to) (h0 : 0 ≤ u) (h1 : u ≤ 4294967295) (hw : within 4 len at_ = true) :
    read 4 (put32 (put32 f 0 len at_ u) 0 len to v) len at_ = u := by
  obtain ⟨a, rfl, ha⟩ := within_yes hw
  rw [read_yes ha]
  have e : part (put32 (put32 f 0 len a u) 0 len to v) a 4 = part (put32 f 0 len a u) a 4 := by
    generalize put32 f 0 len a u = F
    unfold put32
    split
    · exact part_far v (.inl (by omega))
    · rfl
  rw [e]
  simp only [put32, hw, if_true, Int.toNat_natCast, Nat.zero_add]
  exact part_put4 f a h0 h1

set_option maxHeartbeats 1000000 in
theorem numsOrder_law (A : Option Addr) (len cap : Nat) (f : Nat → Int) (at_ to u v : Int) (w : World) (hlc : len ≤ cap) (hcap : (cap : Int) ≤ 9223372036854775807) (hb : Bs w A len f) (hf : IsByte f)
    (ha0 : -9223372036854775808 ≤ at_) (ha1 : at_ ≤ 9223372036854775807) (ht0 : -9223372036854775808 ≤ to) (ht1 : to ≤ 9223372036854775807) (hu0 : 0 ≤ u) (hu1 : u ≤ 4294967295) (hv0 : 0 ≤ v) (hv1 : v ≤ 4294967295) :
    Calls Try.prog 10 #[.slice A len cap, .int .i64 at_, .int .i64 to, .int .u32 u, .int .u32 v] w fun e w' => e = .returned (.bool true) ∧ Below w.heap.size w w' := by
  have Hb := hide hb
  have Hf := hide hf
  clear hb hf
  by_cases g1 : (20000 : Int) < len
  · go_enter Try.func10, Try.ntmps10
    go_wp2_with (go_at_call 23; refine (awake_any _).mono ?_; rintro e w1 ⟨rfl, h1⟩; have H1 := hide h1; clear h1)
    go_ret
    exact ⟨rfl, H1.out⟩
  by_cases g2 : at_ < 0
  · go_enter Try.func10, Try.ntmps10
    go_wp2_with (go_at_call 23; refine (awake_any _).mono ?_; rintro e w1 ⟨rfl, h1⟩; have H1 := hide h1; clear h1)
    go_ret
    exact ⟨rfl, H1.out⟩
  by_cases g3 : 20000 < at_
  · go_enter Try.func10, Try.ntmps10
    go_wp2_with (go_at_call 23; refine (awake_any _).mono ?_; rintro e w1 ⟨rfl, h1⟩; have H1 := hide h1; clear h1)
    go_ret
    exact ⟨rfl, H1.out⟩
  by_cases g4 : to < at_
  · go_enter Try.func10, Try.ntmps10
    go_wp2_with (go_at_call 23; refine (awake_any _).mono ?_; rintro e w1 ⟨rfl, h1⟩; have H1 := hide h1; clear h1)
    go_ret
    exact ⟨rfl, H1.out⟩
  by_cases g5 : 20000 < to
  · go_enter Try.func10, Try.ntmps10
    go_wp2_with (go_at_call 23; refine (awake_any _).mono ?_; rintro e w1 ⟨rfl, h1⟩; have H1 := hide h1; clear h1)
    go_ret
    exact ⟨rfl, H1.out⟩
  by_cases g6 : to - at_ < 4
  · go_enter Try.func10, Try.ntmps10
    go_wp2_with (go_at_call 23; refine (awake_any _).mono ?_; rintro e w1 ⟨rfl, h1⟩; have H1 := hide h1; clear h1)
    go_ret
    exact ⟨rfl, H1.out⟩
  have g7 : at_ + 4 ≤ to := by omega
  go_enter Try.func10, Try.ntmps10
  go_wp2_with (first
    | (go_at_call 23; refine (awake_any _).mono ?_; rintro e w1 ⟨rfl, h1⟩; have H1 := hide h1; have hs1 := h1.size; clear h1)
    | (at_builtin; refine appB rfl (.tmp 48) (.tmp 49) rfl w1.heap.size 0 len cap _ zeroF f A rfl (OwnB.nil w1 _ _) rfl (Hb.out.old H1.out) (by omega) (Nat.le_refl _) ?_; intro v2 w2 hown2 hbel2; have H2 : Hid (Below w.heap.size w w2) := H1.out.trans (hbel2.mono hs1); have hs2 := hbel2.size; obtain ⟨A1, c1, rfl, hc1, hm1, hb1, hr1⟩ := own_copy hown2; have Hb1 := hide hb1; have Hr1 := hide hr1; clear hown2 hbel2 hb1 hr1)
    | (at_builtin; refine appB rfl (.tmp 51) (.tmp 52) rfl w2.heap.size 0 len cap _ zeroF f A rfl (OwnB.nil w2 _ _) rfl (Hb.out.old H2.out) (by omega) (Nat.le_refl _) ?_; intro v3 w3 hown3 hbel3; have H3 : Hid (Below w.heap.size w w3) := H2.out.trans (hbel3.mono (by omega)); have hs3 := hbel3.size; have H23 := hide hbel3; obtain ⟨A2, c2, rfl, hc2, hm2, hb2, hr2⟩ := own_copy hown3; have Hb2 := hide hb2; have Hr2 := hide hr2; clear hown3 hbel3 hb2 hr2))
  by_cases hl : len = 0
  · have i1 : within 4 len at_ = false := within_not (.inr (by omega))
    have i2 : within 4 len to = false := within_not (.inr (by omega))
    have hl0 : (len : Int) ≤ 0 := by omega
    have I1 := hide i1
    have I2 := hide i2
    clear i1 i2 hl
    refine (Put32_no A1 len c1 at_ u w3 (by omega) I1.out).mono ?_
    rintro e w4 ⟨rfl, rfl⟩
    go_wp2_with fail
    refine (Put32_no A1 len c1 to v w3 (by omega) I2.out).mono ?_
    rintro e w4 ⟨rfl, rfl⟩
    go_wp2_with fail
    refine (Put32_no A2 len c2 to v w3 (by omega) I2.out).mono ?_
    rintro e w4 ⟨rfl, rfl⟩
    go_wp2_with fail
    refine (Put32_no A2 len c2 at_ u w3 (by omega) I1.out).mono ?_
    rintro e w4 ⟨rfl, rfl⟩
    go_wp2_with fail
    go_loop [17] (fun i => i = .int .i64 0) (fun _ => 0)
    case atStart => exact rfl
    case round =>
      obtain rfl := hrel
      go_wp2_with fail
      refine (Get32_any A1 len c1 at_ f w3 (by omega) (Hb1.out.below H23.out (fun hn => absurd hn (by omega))) Hf.out).mono ?_
      rintro e w4 ⟨rfl, rfl⟩
      rw [I1.out]
      go_wp2_with fail
      go_ret
      exact ⟨rfl, H3.out⟩
  · have hpos : 0 < len := by omega
    obtain ⟨g, rfl, hg, hr1⟩ := Hr1.out hpos
    obtain ⟨g', rfl, hg', hr2⟩ := Hr2.out hpos
    have hlt := hr1.lt
    have hne : g ≠ g' := by omega
    have hne' : g' ≠ g := by omega
    have R1 := hide (hr1.below H23.out hlt)
    have R2 := hide hr2
    clear hr1 hr2 hl
    refine (Put32_any g len 0 len c1 at_ f u w3 (by omega) R1.out (by omega) hu0 hu1).mono ?_
    rintro e w4 ⟨rfl, hr4, ho4⟩
    have R4 := hide hr4
    have O4 := hide ho4
    clear hr4 ho4
    go_wp2_with fail
    refine (Put32_any g len 0 len c1 to _ v w4 (by omega) R4.out (by omega) hv0 hv1).mono ?_
    rintro e w5 ⟨rfl, hr5, ho5⟩
    have R5 := hide hr5
    have O5 := hide (O4.out.trans ho5)
    clear hr5 ho5
    go_wp2_with fail
    refine (Put32_any g' len 0 len c2 to f v w5 (by omega) (R2.out.only O5.out hne') (by omega) hv0 hv1).mono ?_
    rintro e w6 ⟨rfl, hr6, ho6⟩
    have R6 := hide hr6
    have O6 := hide ho6
    clear hr6 ho6
    go_wp2_with fail
    refine (Put32_any g' len 0 len c2 at_ _ u w6 (by omega) R6.out (by omega) hu0 hu1).mono ?_
    rintro e w7 ⟨rfl, hr7, ho7⟩
    have R7 := hide hr7
    have O7 := hide (O6.out.trans ho7)
    have Hbel : Hid (Below w.heap.size w w7) := (H3.out.trans (O5.out.below (by omega) (by omega))).trans (O7.out.below (by omega) (by have := O5.out.size; omega))
    have R5' := hide (R5.out.only O7.out hne)
    clear hr7 ho7
    have HS := hide (order_same f len at_ to u v g7)
    have HR := hide (order_read f len at_ to u v g7 hu0 hu1)
    have HB := hide (put32_byte (put32_byte Hf.out 0 len at_ u) 0 len to v)
    generalize hX : put32 (put32 f 0 len at_ u) 0 len to v = X at *
    generalize hY : put32 (put32 f 0 len to v) 0 len at_ u = Y at *
    clear hX hY
    go_wp2_with fail
    go_loopw [17] (fun i wr => ∃ k : Nat, k ≤ len ∧ i = .int .i64 k ∧ Still w7 wr) (fun i _ => len - (intOf i).toNat)
    case atStart => exact ⟨0, Nat.zero_le _, rfl, Still.refl _⟩
    case round =>
      obtain ⟨k, hk, rfl, hst⟩ := hrel
      have Hst := hide hst
      by_cases hlt2 : k < len
      · have hc0 := (R5'.out.still hst).cell hlt2
        have hc1' := (R7.out.still hst).cell hlt2
        rw [← HS.out k] at hc1'
        have b0 : (0 : Int) ≤ k := by omega
        have b1 : (k : Int) < len := by omega
        have b2 : (k : Int).toNat = k := by omega
        clear hst
        generalize X k = x at hc0 hc1'
        have hxx : (x != x) = false := by simp
        go_wp2_with fail
        go_quiet (fail)
        go_wp2
        go_roundw
        case rel => exact ⟨k + 1, by omega, by go_num, Hst.out.trans (.of _ _)⟩
        case measure => simp [intOf]; omega
      · have hkl : (len : Int) ≤ k := by omega
        have hb5 := hide (R5'.out.still hst)
        clear hst
        go_wp2_with fail
        refine (Get32_any _ len c1 at_ X wr (by omega) hb5.out.seg0.bs HB.out).mono ?_
        rintro e w8 ⟨rfl, rfl⟩
        cases hp : within 4 len at_ with
        | false =>
          go_wp2_with fail
          go_ret
          exact ⟨rfl, Hbel.out.trans (Hst.out.below _)⟩
        | true =>
          have hv := HR.out hp
          rw [hv]
          have huu : (u == u) = true := by simp
          clear hv
          go_wp2_with fail
          go_ret
          exact ⟨rfl, Hbel.out.trans (Hst.out.below _)⟩
end Go.Proofs.Ytmpeoajjfbhhmaa
