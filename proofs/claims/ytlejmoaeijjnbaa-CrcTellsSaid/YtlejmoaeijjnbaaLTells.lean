/- The law CrcTells. -/
import Derived.Test.YtlejmoaeijjnbaaCrc6
import Derived.Test.YtlejmoaeijjnbaaCrcN
import Derived.Test.YtlejmoaeijjnbaaApp
import Derived.BigRegion
import Derived.IntWalk
namespace Go.Proofs.Ytlejmoaeijjnbaa
open Go.RowKit
set_option linter.unusedVariables false

set_option maxHeartbeats 4000000 in
theorem crcTells_law (A : Option Addr) (la ca : Nat) (f : Nat → Int) (at_ v : Int) (w : World)
    (hla : la ≤ ca) (hca : (ca : Int) ≤ 9223372036854775807) (hA : Bs w A la f) (hf : IsByte f) (hv0 : 0 ≤ v) (hv1 : v ≤ 4294967295) :
    Calls Try.prog 7 #[.slice A la ca, .int .i64 at_, .int .u32 v] w fun e w' => e = .returned (.bool true) ∧ Below w.heap.size w w' := by
  obtain ⟨v, rfl⟩ := Int.eq_ofNat_of_zero_le hv0
  have HA := hide hA
  have Hf := hide hf
  clear hA hf
  by_cases g1 : (la : Int) > 20000
  · go_enter Try.func7, Try.ntmps7
    go_wp2_with (go_at_call 18; refine (awake02_any _).mono ?_; rintro e w1 ⟨rfl, h1⟩; have H1 : Hid (Below w.heap.size w w1) := h1; clear h1)
    go_ret
    exact ⟨rfl, H1.out⟩
  by_cases g2 : at_ < 0
  · go_enter Try.func7, Try.ntmps7
    go_wp2_with (go_at_call 18; refine (awake02_any _).mono ?_; rintro e w1 ⟨rfl, h1⟩; have H1 : Hid (Below w.heap.size w w1) := h1; clear h1)
    go_ret
    exact ⟨rfl, H1.out⟩
  by_cases g3 : at_ > 8 * (la : Int) - 32
  · go_enter Try.func7, Try.ntmps7
    go_wp2_with (go_at_call 18; refine (awake02_any _).mono ?_; rintro e w1 ⟨rfl, h1⟩; have H1 : Hid (Below w.heap.size w w1) := h1; clear h1)
    go_ret
    exact ⟨rfl, H1.out⟩
  obtain ⟨p, rfl⟩ := Int.eq_ofNat_of_zero_le (show 0 ≤ at_ by omega)
  have g1' : (la : Int) ≤ 20000 := by omega
  have g2' : (0 : Int) ≤ (p : Int) := by omega
  have g3' : (p : Int) ≤ 8 * (la : Int) - 32 := by omega
  clear g1 g2 g3
  go_enter Try.func7, Try.ntmps7
  go_wp2_with (first
    | (go_at_call 18; refine (awake02_any _).mono ?_; rintro e w1 ⟨rfl, h1⟩; have H1 : Hid (Below w.heap.size w w1) := h1; have hs1 := h1.size; clear h1)
    | (at_builtin; refine appB rfl (.tmp 26) (.tmp 27) rfl w1.heap.size 0 la ca _ zeroF f A rfl (OwnB.nil w1 _ _) rfl (HA.out.old H1.out) (by omega) (Nat.le_refl _) ?_; intro v2 w2 hown2 hbel2; have H2 : Hid (Below w.heap.size w w2) := B_then H1.out hbel2; have Hown2 := hide hown2; clear hown2 hbel2))
  obtain ⟨A2, c2, rfl, hc2, hm2, hb2, hr2⟩ := own_copy Hown2.out
  obtain ⟨g, rfl, hg, hr⟩ := hr2 (by omega)
  have HR := hide hr
  have hgl := hr.lt
  clear hb2 hr2 hr Hown2
  go_wp2_with fail
  generalize w2 = W at *
  have Hpl : Hid (p + 32 ≤ 8 * la) := (by omega : p + 32 ≤ 8 * la)
  have HRW : Hid (w1.heap.size ≤ g) := hg
  go_loopw [8] (fun i wr => ∃ k : Nat, k ≤ 32 ∧ i = .int .i64 k ∧ (∃ G, IsByte G ∧ Row wr g la G ∧ num G la = num f la ^^^ (v % 2 ^ k) * 2 ^ p) ∧ Only g W wr) (fun i _ => 32 - (intOf i).toNat)
  case atStart => exact ⟨0, by omega, rfl, ⟨f, Hf.out, HR.out, by simp [Nat.mod_one]⟩, Only.refl _ _⟩
  case round =>
    obtain ⟨k, hk, rfl, ⟨G, hG, hr, hn⟩, ho⟩ := hrel
    by_cases hlt : k < 32
    · have HG := hide hG
      have Hr := hide hr
      have Hn := hide hn
      have Ho := hide ho
      clear hG hr hn ho
      have hv2 : v < 4294967296 := by omega
      have hdv : ((v : Int) / 2 ^ k) = ((v / 2 ^ k : Nat) : Int) := by
        rw [Int.natCast_ediv, Int.natCast_pow]; rfl
      by_cases hb : v / 2 ^ k % 2 = 1
      · have hbit : (((v : Int) / 2 ^ k).tmod 2 == 1) = true := by
          rw [hdv]; generalize v / 2 ^ k = x at *; rw [Int.tmod_eq_emod_of_nonneg (Int.natCast_nonneg _)]; simp; omega
        have Hstep : Hid ((num f la ^^^ (v % 2 ^ k) * 2 ^ p) ^^^ 2 ^ (p + k) = num f la ^^^ (v % 2 ^ (k + 1)) * 2 ^ p) := by
          have := over_step (num f la) v p k
          rw [if_pos hb] at this; exact this
        have hq : (p + k) / 8 < la := by omega
        have hc := Hr.out.cell hq
        have hz := Hr.out.frozen ((p + k) / 8)
        obtain ⟨y, hy, hye⟩ : ∃ y : Nat, y < 256 ∧ G ((p + k) / 8) = (y : Int) := ⟨_, (byteNat HG.out _).1, (byteNat HG.out _).2⟩
        rw [hye] at hc
        have q0 : IntKind.i64.wrap ((p : Int) + (k : Int)) = ((p + k : Nat) : Int) := IntWalk.i64_in _ (by omega)
        have q1 : IntKind.i64.wrap (((p + k : Nat) : Int).tdiv 8) = (((p + k) / 8 : Nat) : Int) := by
          rw [Int.tdiv_eq_ediv_of_nonneg (Int.natCast_nonneg _)]; exact IntWalk.i64_in _ (by omega)
        have q2 : (0 : Int) ≤ (((p + k) / 8 : Nat) : Int) := by omega
        have q3 : ((((p + k) / 8 : Nat) : Int)) < la := by omega
        have q4 : ((p + k : Nat) : Int).tmod 8 = (((p + k) % 8 : Nat) : Int) := by
          rw [Int.tmod_eq_emod_of_nonneg (Int.natCast_nonneg _)]; rfl
        have hp8 : 2 ^ ((p + k) % 8) < 256 := Nat.pow_lt_pow_right (n := 8) (by omega) (by omega)
        have hp8' : (2 : Int) ^ ((p + k) % 8) % 256 = ((2 ^ ((p + k) % 8) : Nat) : Int) := by
          rw [show ((2 : Int) ^ ((p + k) % 8)) = ((2 ^ ((p + k) % 8) : Nat) : Int) by simp]
          exact Int.emod_eq_of_lt (Int.natCast_nonneg _) (Int.ofNat_lt.2 hp8)
        have HX : Hid (bits .xor .u8 (y : Int) (2 ^ ((p + k) % 8) % 256) = ((y ^^^ 2 ^ ((p + k) % 8) : Nat) : Int)) := by
          rw [Hid, hp8']; exact u8_xor_nat y _ hy hp8
        have hxb : y ^^^ 2 ^ ((p + k) % 8) < 256 := Nat.xor_lt_two_pow (n := 8) hy hp8
        have HG' := hide (HG.out.upd ((p + k) / 8) (v := ((y ^^^ 2 ^ ((p + k) % 8) : Nat) : Int)) (Int.natCast_nonneg _) (by generalize y ^^^ 2 ^ ((p + k) % 8) = z at *; omega))
        have HN : Hid (num (upd G ((p + k) / 8) ((y ^^^ 2 ^ ((p + k) % 8) : Nat) : Int)) la = num f la ^^^ (v % 2 ^ (k + 1)) * 2 ^ p) := by
          have h := num_bit G (p + k) la hq
          rw [hye, Int.toNat_natCast, Hn.out, Hstep.out] at h
          exact h
        clear hb hdv hp8 hp8' hxb
        go_wp2_with fail
        go_region
        all_goals
          go_wp2
          go_roundw
          case rel => exact ⟨k + 1, by omega, by go_num, ⟨_, HG'.out, by rw [HX.out]; exact ((Hr.out.set_ _ _).drew), HN.out⟩, by rw [HX.out]; exact (Ho.out.setCell _ _).drew⟩
          case measure => simp [intOf]; omega
      · have hbit : (((v : Int) / 2 ^ k).tmod 2 == 1) = false := by
          rw [hdv]; generalize v / 2 ^ k = x at *; rw [Int.tmod_eq_emod_of_nonneg (Int.natCast_nonneg _)]; simp; omega
        have Hstep : Hid (num f la ^^^ (v % 2 ^ k) * 2 ^ p = num f la ^^^ (v % 2 ^ (k + 1)) * 2 ^ p) := by
          have := over_step (num f la) v p k
          rw [if_neg hb, Nat.xor_zero] at this; exact this
        clear hb hdv
        go_wp2_with fail
        go_roundw
        case rel => exact ⟨k + 1, by omega, by go_num, ⟨G, HG.out, Hr.out, Hn.out.trans Hstep.out⟩, Ho.out⟩
        case measure => simp [intOf]; omega
    · obtain rfl : k = 32 := by omega
      have HG := hide hG
      have Hr := hide hr
      have HBr : Hid (Below w.heap.size w wr) := H2.out.trans (ho.below (B := w.heap.size) (Nat.le_trans hs1 HRW.out) H2.out.size)
      have Hb := hide (HA.out.old HBr.out)
      have HT : Hid (((((sumF G la : Nat) : Int) == ((sumF f la : Nat) : Int)) == ((v : Int) == 0)) = true) := by
        have h := tells f G la p v (by omega) Hpl.out hn
        have e : ∀ x y : Nat, ((x : Int) == (y : Int)) = (x == y) := fun x y => by
          rw [Bool.eq_iff_iff]; simp; omega
        rw [Hid, e]
        have e0 := e v 0
        rw [show ((0 : Nat) : Int) = 0 from rfl] at e0
        rw [e0]; exact h
      clear hG hr hn ho
      go_wp2_with fail
      refine (sum1_any _ _ (some ⟨g, 0, none⟩) la c2 1 G _ (heap_alloc_new _ _) (Hr.out.seg0.bs.alloc _) HG.out hc2 hm2).mono ?_
      rintro e w3 ⟨rfl, hw⟩
      have H3 : Hid (Below w.heap.size w w3) := B_then (B_alloc HBr.out _) hw
      clear hw
      go_wp2_with fail
      refine (sum1_any _ _ A la ca 1 f _ (heap_alloc_new _ _) ((HA.out.old H3.out).alloc _) Hf.out hla hca).mono ?_
      rintro e w4 ⟨rfl, hw⟩
      have H4 : Hid (Below w.heap.size w w4) := B_then (B_alloc H3.out _) hw
      clear hw
      go_wp2_with fail
      go_ret
      exact ⟨congrArg (fun b => Ending.returned (.bool b)) HT.out, H4.out⟩
end Go.Proofs.Ytlejmoaeijjnbaa
