/- The law CrcSums. -/
import Derived.Test.YtlejmoaeijjnbaaMine
import Derived.Test.YtlejmoaeijjnbaaSame
import Derived.Deep.QuietTactic
import Derived.BigQuiet
namespace Go.Proofs.Ytlejmoaeijjnbaa
open Go.RowKit
set_option linter.unusedVariables false

theorem sameB_self (f : Nat → Int) (n : Nat) : sameB f f n = true := (sameB_iff f f n).2 fun _ _ => rfl

set_option maxHeartbeats 2000000 in
theorem crcSums_law (A : Option Addr) (n cap : Nat) (P : Nat → Option Addr) (l c : Nat → Nat) (f : Nat → Nat → Int) (w : World) (hP : Pcs w A n P l c f) :
    Calls Try.prog 3 #[.slice A n cap] w fun e w' => e = .returned (.bool true) ∧ Below w.heap.size w w' := by
  have HP := hide hP
  clear hP
  by_cases hfew : fewB l n = true
  · have hn : n ≤ 100 := by unfold fewB at hfew; simp at hfew; omega
    have Hl : Hid (lsum l n ≤ 20000) := by unfold fewB at hfew; simp at hfew; exact hfew.2
    have hn' : (n : Int) ≤ 100 := by omega
    have Hone : Hid (∀ k, k < n → l k ≤ 20000) := fun k hk => by
      have a := lsum_mono l (show k + 1 ≤ n by omega)
      have b := Hl.out
      simp only [lsum] at a; omega
    have Hgr : Hid ((!fewB l n) = false) := by rw [Hid, hfew]; rfl
    clear hfew
    go_enter Try.func3, Try.ntmps3
    go_wp2_with (go_at_call 11; refine (great_any A n cap P l c f _ HP.out).mono ?_; rintro e w1 ⟨rfl, rfl⟩; rw [Hgr.out])
    go_loopw [3, 4] (fun v i wr => ∃ k : Nat, k ≤ n ∧ i = .int .i64 k ∧ Mine wr w.heap.size v k l f ∧ Below w.heap.size w wr) (fun _ i _ => n - (intOf i).toNat)
    case atStart => exact ⟨0, by omega, rfl, Mine.nil _ _ _ _, Below.refl _ _⟩
    case round =>
      obtain ⟨k, hk, rfl, hown, hB⟩ := hrel
      by_cases hlt : k < n
      · have hPw := HP.out.old hB
        obtain ⟨b, off, rfl, sA⟩ := hPw.top (by omega)
        have hc0 := sA k hlt
        have hc1 : ∀ o, (wr.alloc o).cell? ⟨b, off + k, none⟩ = some (.slice (P k) (l k) (c k)) := fun o => (((Below.refl _ wr).alloc (Nat.le_refl _) o).cell (p := ⟨b, off + k, none⟩) (block_lt_of_cell hc0)).trans hc0
        have b0 : (0 : Int) ≤ k := by omega
        have b1 : (k : Int) < n := by omega
        have Hb := hide (hPw.each k hlt)
        have HB := hide hB
        have hsz := hB.size
        have Hown := hide hown
        have hm := Hone.out k hlt
        clear hPw sA hB hown
        go_wp2_with (first
          | (at_builtin; refine appB rfl (.tmp 15) (.tmp 19) rfl wr.heap.size 0 (l k) (c k) _ zeroF (f k) (P k) rfl (OwnB.lit wr wr.heap.size 0 zeroF #[] (Nat.le_refl _) (by decide) rfl) rfl (Hb.out.alloc _) (by omega) (by simp) ?_; intro v2 w2 hown2 hbel2; have Hbel2 := hide (((Below.refl wr.heap.size wr).alloc (Nat.le_refl _) _).trans hbel2); obtain ⟨A2, c2, rfl, hc2, hm2, hb2, hr2⟩ := own_copy hown2; have Hc2 := hide hc2; have Hm2 := hide hm2; have Hb2 := hide hb2; have Hr2 := hide hr2; clear hown2 hbel2 hc2 hm2 hb2 hr2)
          | (at_builtin; refine appMine rfl (.tmp 14) (.tmp 21) rfl w.heap.size k w2.heap.size c2 _ l f A2 _ _ rfl ((Hown.out.below Hbel2.out).below ((Below.refl _ _).alloc (Nat.le_refl _) _)) rfl (heap_alloc_new _ _) (Hb2.out.alloc _) Hc2.out Hm2.out ?hfresh (by omega) ?hbase ?hnext))
        case hfresh =>
          intro h0
          obtain ⟨g2, e, hg2, _⟩ := Hr2.out h0
          exact ⟨g2, e, fun x => by have := Hown.out.lt x; omega⟩
        case hbase => have := Hbel2.out.size; simp; omega
        case hnext =>
          intro v3 w3 hown3 hbel3
          have H3 : Hid (Below w.heap.size w w3) := (B_alloc (B_then HB.out Hbel2.out) _).trans hbel3
          have Hown3 := hide hown3
          clear hown3 hbel3
          go_wp2_with fail
          go_roundw
          case rel => exact ⟨k + 1, by omega, by go_num, Hown3.out, H3.out⟩
          case measure => simp [intOf]; omega
      · obtain rfl : k = n := by omega
        obtain ⟨A4, cap4, P4, c4, rfl, hM⟩ := hown.out HP.out.byte
        have HM := hide hM
        have HB := hide hB
        have Hsum := hide (sumP_all f l k)
        have Hby := hide (allF_byte (f := f) (l := l) HP.out.byte)
        have Hk9 : Hid ((k : Int) ≤ 9223372036854775807) := (by omega : (k : Int) ≤ 9223372036854775807)
        have Hl9 : Hid (((lsum l k : Nat) : Int) ≤ 9223372036854775807) := by have := Hl.out; exact (by omega : ((lsum l k : Nat) : Int) ≤ 9223372036854775807)
        clear hM hB hown
        go_wp2_with fail
        refine (sum_any A4 k cap4 P4 l c4 f _ Hk9.out HM.out).mono ?_
        rintro e w2 ⟨rfl, hw⟩
        have H2 : Hid (Below w.heap.size w w2) := B_then HB.out hw
        have HM2 := hide (HM.out.old hw)
        clear hw HM HB
        rw [Hsum.out]
        go_wp2_with fail
        refine (All_any A k cap P l c f _ (HP.out.old H2.out) hn Hl.out).mono ?_
        rintro e w3 ⟨⟨v3, rfl, hown3⟩, hw⟩
        have H3 : Hid (Below w.heap.size w w3) := B_then H2.out hw
        have HM3 := hide (HM2.out.old hw)
        obtain ⟨A3, c3, rfl, hc3, hb3⟩ := hown3.form
        have Hb3 := hide hb3
        clear hw HM2 H2 hown3 hb3
        go_wp2_with fail
        refine (refSum_any A3 (lsum l k) c3 (allF f l k) _ Hl9.out Hby.out Hb3.out).mono ?_
        rintro e w4 ⟨rfl, rfl⟩
        go_wp2_with fail
        have HPw := hide (HP.out.old H3.out)
        go_loopw [5] (fun i wr => ∃ j : Nat, j ≤ k ∧ i = .int .i64 j ∧ Still w3 wr) (fun i _ => k - (intOf i).toNat)
        case atStart => exact ⟨0, by omega, rfl, Still.refl _⟩
        case round =>
          obtain ⟨j, hj, rfl, hst⟩ := hrel
          have Hst := hide hst
          by_cases hlt2 : j < k
          · have hPj : Pcs wr A k P l c f := by obtain ⟨q, rfl⟩ := hst; exact ⟨HPw.out.top, HPw.out.each, HPw.out.byte, HPw.out.len, HPw.out.cap⟩
            have hMj : Pcs wr A4 k P4 l c4 f := by obtain ⟨q, rfl⟩ := hst; exact ⟨HM3.out.top, HM3.out.each, HM3.out.byte, HM3.out.len, HM3.out.cap⟩
            obtain ⟨b, off, rfl, sA⟩ := hPj.top (by omega)
            obtain ⟨b4, o4, rfl, sM⟩ := hMj.top (by omega)
            have c0 := sA j hlt2
            have c1 := sM j hlt2
            have b0 : (0 : Int) ≤ j := by omega
            have b1 : (j : Int) < k := by omega
            have Q1 := hide (hPj.each j hlt2)
            have Q2 := hide (hMj.each j hlt2)
            have hlj : ((l j : Nat) : Int) ≤ 9223372036854775807 := by have := Hone.out j hlt2; omega
            have Hs := hide (sameB_self (f j) (l j))
            clear sA sM hPj hMj hst HPw HM3 HP
            go_wp2_with fail
            go_quiet (first | (go_at_call 15; exact Calls.quiet_of (Same_any _ _ (l j) (c4 j) (c j) (f j) (f j) _ hlj (Q2.out.still (Still.of _ _)) (Q1.out.still (Still.of _ _)))))
            rw [Hs.out]
            go_wp2
            go_roundw
            case rel => exact ⟨j + 1, by omega, by go_num, Hst.out.trans (.of _ _)⟩
            case measure => simp [intOf]; omega
          · obtain rfl : j = k := by omega
            go_wp2_with fail
            go_ret
            exact ⟨rfl, H3.out.trans (hst.below _)⟩
  · have Hgr : Hid ((!fewB l n) = true) := by rw [Hid]; simpa using hfew
    go_enter Try.func3, Try.ntmps3
    go_wp2_with (go_at_call 11; refine (great_any A n cap P l c f _ HP.out).mono ?_; rintro e w1 ⟨rfl, rfl⟩; rw [Hgr.out])
    go_ret
    exact ⟨rfl, Below.refl _ _⟩
end Go.Proofs.Ytlejmoaeijjnbaa
