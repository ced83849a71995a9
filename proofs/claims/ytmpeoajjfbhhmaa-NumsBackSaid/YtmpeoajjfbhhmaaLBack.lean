/- The walk of the law NumsBack. -/
import Derived.Test.YtmpeoajjfbhhmaaApp
import Derived.Test.YtmpeoajjfbhhmaaNumQ
import Derived.Test.YtmpeoajjfbhhmaaNum4
import Derived.Test.YtmpeoajjfbhhmaaAwake
import Derived.Deep.RegionWith
import Derived.Deep.QuietTactic
import Derived.BigQuiet
namespace Go.Proofs.Ytmpeoajjfbhhmaa
open Go.RowKit
set_option linter.unusedVariables false

theorem back_halves {f : Nat → Int} {len a : Nat} (h : a + 4 ≤ len) : read 2 f len a + 65536 * read 2 f len ((a : Int) + 2) = part f a 4 := by
  have e : ((a : Int) + 2) = ((a + 2 : Nat) : Int) := by omega
  rw [e, read_yes (by omega), read_yes (by omega), part_4, part_2, part_2]
  rw [show a + 2 + 1 = a + 3 by omega]; omega

set_option maxHeartbeats 1000000 in
theorem numsBack_law (A : Option Addr) (len cap : Nat) (f : Nat → Int) (at_ v : Int) (w : World) (hlc : len ≤ cap) (hcap : (cap : Int) ≤ 9223372036854775807) (hb : Bs w A len f) (hf : IsByte f)
    (ha0 : -9223372036854775808 ≤ at_) (ha1 : at_ ≤ 9223372036854775807) (hv0 : 0 ≤ v) (hv1 : v ≤ 4294967295) :
    Calls Try.prog 9 #[.slice A len cap, .int .i64 at_, .int .u32 v] w fun e w' => e = .returned (.bool true) ∧ Below w.heap.size w w' := by
  have Hb := hide hb
  have Hf := hide hf
  clear hb hf
  by_cases g1 : (20000 : Int) < len
  · go_enter Try.func9, Try.ntmps9
    go_wp2_with (go_at_call 23; refine (awake_any _).mono ?_; rintro e w1 ⟨rfl, h1⟩; have H1 := hide h1; clear h1)
    go_ret
    exact ⟨rfl, H1.out⟩
  go_enter Try.func9, Try.ntmps9
  go_wp2_with (first
    | (go_at_call 23; refine (awake_any _).mono ?_; rintro e w1 ⟨rfl, h1⟩; have H1 := hide h1; have hs1 := h1.size; clear h1)
    | (at_builtin; refine appB rfl (.tmp 21) (.tmp 22) rfl w1.heap.size 0 len cap _ zeroF f A rfl (OwnB.nil w1 _ _) rfl (Hb.out.old H1.out) (by omega) (Nat.le_refl _) ?_; intro v2 w2 hown2 hbel2; have H2 : Hid (Below w.heap.size w w2) := H1.out.trans (hbel2.mono hs1); have hs2 := hbel2.size; obtain ⟨A1, c1, rfl, hc1, hm1, hb1, hr1⟩ := own_copy hown2; have Hb1 := hide hb1; have Hr1 := hide hr1; clear hown2 hbel2 hb1 hr1))
  refine (Get32_any A1 len c1 at_ f w2 (by omega) Hb1.out Hf.out).mono ?_
  rintro e w3 ⟨rfl, rfl⟩
  cases hw : within 4 len at_ with
  | false =>
    have Hs := hide ((sameB_iff f f len).2 fun _ _ => rfl)
    have Hw := hide hw
    clear hw
    go_wp2_with fail
    refine (Put32_no A1 len c1 at_ v w2 (by omega) Hw.out).mono ?_
    rintro e w3 ⟨rfl, rfl⟩
    go_wp2_with fail
    refine (Same_any A1 A len c1 cap f f w2 (by omega) Hb1.out (Hb.out.old H2.out)).mono ?_
    rintro e w3 ⟨rfl, h3⟩
    have H3 := hide h3
    clear h3
    rw [Hs.out]
    go_wp2_with fail
    go_ret
    exact ⟨rfl, H2.out.trans (H3.out.below _)⟩
  | true =>
    obtain ⟨a, rfl, ha⟩ := within_yes hw
    obtain ⟨g, rfl, hg, hr1⟩ := Hr1.out (by omega)
    have R1 := hide hr1
    have Hw := hide hw
    have HR := hide (read_yes (f := f) ha)
    clear hw hr1
    rw [HR.out]
    have bd := part_bd Hf.out a 4
    have p0 := bd.1
    have p1 : part f a 4 < 4294967296 := bd.2
    have Hback := hide (putB_back Hf.out a v)
    generalize hold : part f a 4 = old at *
    clear bd hold
    go_wp2_with fail
    refine (Put32_yes g len 0 len c1 a f v w2 (by omega) R1.out (by omega) hv0 hv1 ha).mono ?_
    rintro e w3 ⟨rfl, hr3, ho3⟩
    rw [Nat.zero_add] at hr3
    have R3 := hide hr3
    have O3 := hide ho3
    have B3 := hide (putB_byte Hf.out a v 4)
    have V4 := hide (part_put4 f a hv0 hv1)
    have S1 := hide ((sameB_iff (putB f a v 4) f a).2 fun i hi => putB_out f a v (.inl hi))
    have S2 := hide ((sameB_iff (fun i => putB f a v 4 (a + 4 + i)) (fun i => f (a + 4 + i)) (len - (a + 4))).2 fun i hi => putB_out f a v (.inr (by omega)))
    have HB3 : Hid (Below w.heap.size w w3) := H2.out.trans (O3.out.below (by omega) H2.out.size)
    clear hr3 ho3
    generalize hX : putB f a v 4 = X at *
    clear hX
    go_wp2_with fail
    refine (Get32_any _ len c1 a X w3 (by omega) R3.out.seg0.bs B3.out).mono ?_
    rintro e w4 ⟨rfl, rfl⟩
    rw [read_yes ha, V4.out]
    go_wp2_with fail
    refine (Get16_any _ len c1 a X w3 (by omega) R3.out.seg0.bs B3.out).mono ?_
    rintro e w4 ⟨rfl, rfl⟩
    go_wp2_with fail
    refine (Get16_any _ len c1 ((a : Int) + 2) X w3 (by omega) R3.out.seg0.bs B3.out).mono ?_
    rintro e w4 ⟨rfl, rfl⟩
    have hh : read 2 X len a + 65536 * read 2 X len ((a : Int) + 2) = v := (back_halves ha).trans V4.out
    have b0 := (read_bd B3.out 2 len a).1
    have b1 : read 2 X len a < 65536 := (read_bd B3.out 2 len a).2
    have c0 := (read_bd B3.out 2 len ((a : Int) + 2)).1
    have c1' : read 2 X len ((a : Int) + 2) < 65536 := (read_bd B3.out 2 len ((a : Int) + 2)).2
    generalize read 2 X len a = lo at *
    generalize read 2 X len ((a : Int) + 2) = hi at *
    have t1 : (v != v) = false := by simp
    have t2 : (lo + 65536 * hi != v) = false := by simp [hh]
    have s1 : a ≤ len := by omega
    have s2 : a ≤ c1 := by omega
    have s3 : a ≤ cap := by omega
    have s4 : a + 4 ≤ len := by omega
    clear hh
    go_wp2_with fail
    have Q1 := hide ((R3.out.cut s1).seg0.bs)
    have Q2 := hide ((Hb.out.old HB3.out).take s1)
    have S1' := S1.out
    have S2' := S2.out
    have P1 : Hid (Bs w3 (if c1 = a + 4 then some ⟨g, 0, none⟩ else some ⟨g, a + 4, none⟩) (len - (a + 4)) (fun i => X (a + 4 + i))) :=
      Bs.ite (fun h => Bs.none_ _ _ _ (by omega)) (fun _ _ => ⟨g, a + 4, rfl, R3.out.seg (by omega)⟩)
    have P2 : Hid (Bs w3 (if cap = a + 4 then A else Option.map (fun x => x.add (a + 4)) A) (len - (a + 4)) (fun i => f (a + 4 + i))) :=
      Bs.ite (fun h => Bs.none_ _ _ _ (by omega)) (fun _ => (Hb.out.old HB3.out).from_ ha)
    have hla : (a : Int) ≤ 9223372036854775807 := by omega
    have hlb : ((len - (a + 4) : Nat) : Int) ≤ 9223372036854775807 := by omega
    have k1 : IntKind.u32.wrap (65536 * hi) = 65536 * hi := IntWalk.u32_in _ (by omega)
    have k2 : IntKind.u32.wrap (lo + 65536 * hi) = lo + 65536 * hi := IntWalk.u32_in _ (by omega)
    have k3 : IntKind.i64.wrap ((a : Int) + 4) = (a : Int) + 4 := IntWalk.i64_in _ (by omega)
    have n1 : (0 : Int) ≤ (a : Int) + 4 := by omega
    have n2 : (a : Int) + 4 ≤ (len : Int) := by omega
    have n3 : ((a : Int) + 4).toNat = a + 4 := by omega
    go_quiet (first
      | (go_at_call_of 15 (Value.slice A a cap); exact Calls.quiet_of (Same_any _ _ a c1 cap X f _ hla (Q1.out.still (Still.of _ _)) (Q2.out.still (Still.of _ _))))
      | (go_at_call 15; exact Calls.quiet_of (Same_any _ _ (len - (a + 4)) (c1 - (a + 4)) (cap - (a + 4)) (fun i => X (a + 4 + i)) (fun i => f (a + 4 + i)) _ hlb (P1.out.still (Still.of _ _)) (P2.out.still (Still.of _ _)))))
    clear k1 k2 k3 n1 n2 n3 t1 t2 P1 P2 Q1 Q2 S1' S2' S1 S2
    generalize (if c1 = a + 4 then some (⟨g, 0, none⟩ : Addr) else some ⟨g, a + 4, none⟩) = z1
    have R4 := hide (R3.out.drewN nq)
    have HB4 : Hid (Below w.heap.size w (w3.drewN nq)) := HB3.out.trans ((Still.of _ _).below _)
    generalize w3.drewN nq = w4 at *
    go_wp2_with fail
    all_goals
      refine (Put16_yes g len 0 len c1 a X (old % 65536) w4 (by omega) R4.out (by omega) (by omega) (by omega) (by omega)).mono ?_
      rintro e w5 ⟨rfl, hr5, ho5⟩
      rw [Nat.zero_add] at hr5
      have R5 := hide hr5
      have HB5 : Hid (Below w.heap.size w w5) := HB4.out.trans (ho5.below (by omega) HB4.out.size)
      clear hr5 ho5
      go_wp2_with fail
      rw [show ((a : Int) + 2) = ((a + 2 : Nat) : Int) by omega]
      refine (Put16_yes g len 0 len c1 (a + 2) _ (old / 65536) w5 (by omega) R5.out (by omega) (by omega) (by omega) (by omega)).mono ?_
      rintro e w6 ⟨rfl, hr6, ho6⟩
      rw [Nat.zero_add] at hr6
      have R6 := hide hr6
      have HB6 : Hid (Below w.heap.size w w6) := HB5.out.trans (ho6.below (by omega) HB5.out.size)
      have S6 := hide ((sameB_iff (putB (putB X a (old % 65536) 2) (a + 2) (old / 65536) 2) f len).2 fun i _ => Hback.out i)
      clear hr6 ho6
      go_wp2_with fail
      refine (Same_any _ A len c1 _ _ f w6 (by omega) R6.out.seg0.bs (Hb.out.old HB6.out)).mono ?_
      rintro e w7 ⟨rfl, h7⟩
      have H7 := hide h7
      clear h7
      rw [S6.out]
      go_wp2_with fail
      go_ret
      exact ⟨rfl, HB6.out.trans (H7.out.below _)⟩
end Go.Proofs.Ytmpeoajjfbhhmaa
