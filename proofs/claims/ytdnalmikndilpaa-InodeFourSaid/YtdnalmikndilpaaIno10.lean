/- The walk of quernref07.Put, where all is well. -/
import Derived.Test.YtdnalmikndilpaaIno9
namespace Go.Proofs.Ytdnalmikndilpaa
open Go.RowKit
set_option linter.unusedVariables false

theorem PutSt.congr {w v : World} {x : Ino} {F F' : Nat → Int} (h : PutSt w x F v) (e : ∀ j, F j = F' j) : PutSt w x F' v := ⟨h.row.congr fun j _ => e j, h.ino, h.res, h.old⟩

theorem rHead_byte {f : Nat → Int} (hf : IsByte f) (p : Nat) {x : Ino} (hx : InoOk x) : IsByte (rHead f p x) :=
  putB_byte (putB_byte (putB_byte ((spl_byte hf zeroF_byte p 64).upd p hx.kind.1 hx.kind.2) _ _ _) _ _ _) _ _ _
theorem rPtrs_byte {f : Nat → Int} (hf : IsByte f) (p : Nat) {x : Ino} (hx : InoOk x) : ∀ k, IsByte (rPtrs f p x k)
  | 0 => rHead_byte hf p hx
  | k + 1 => putB_byte (rPtrs_byte hf p hx k) _ _ _

set_option maxRecDepth 100000 in
set_option maxHeartbeats 2000000 in
theorem rput_ok (f : Nat → Int) (hf : IsByte f) (n : Int) (p : Nat) (x : Ino) (w : World) (hn : n = (p : Int)) (h : placeP n) (hx : InoOk x) (hm : mayI x) :
    Calls Try.prog 11 #[blkV f, .int .i64 n, inoV x] w fun e w' => e = .returned (.tuple #[.agg (bytesOf 256 (spl f p 64 (inoF x))), .int .i64 0]) ∧ Below w.heap.size w w' := by
  have H : Hid (placeB n = true) := decide_eq_true h
  have Hm : Hid (mayIB x = true) := decide_eq_true hm
  have HX := hide hx
  have HF := hide hf
  obtain ⟨⟨l0, l1⟩, s0, s1⟩ := hm.bounds
  have hp : p = 0 ∨ p = 64 ∨ p = 128 ∨ p = 192 := by have := placeP_four.1 h; omega
  have hp1 : p ≤ 192 := by omega
  have hp2 : (p : Int) ≤ 192 := by omega
  subst hn
  clear h hm hx hf hp
  unfold inoV blkV
  go_enter Try.func11, Try.ntmps11
  go_wp2_with (refine allocB rfl rfl ?_)
  refine (rPlace_any _ _).mono ?_
  rintro e w1 ⟨rfl, hw⟩
  obtain ⟨h0, h1, h2, hB⟩ := alloc3_of hw
  have S1 : Hid (PutSt w x f w1) := ⟨⟨_, h0⟩, ⟨_, h1⟩, ⟨_, h2⟩, hB⟩
  clear hw h0 h1 h2 hB
  rw [H.out]
  go_wp2_with (refine ldI rfl (.tmp 5) rfl _ _ rfl S1.out.ino ?_)
  refine (rMay_any x _).mono ?_
  rintro e w3 ⟨rfl, hw⟩
  have S3 := hide (S1.out.below hw)
  clear hw S1
  rw [Hm.out]
  go_wp2_with fail
  go_loopw [8] (fun i wr => ∃ k : Nat, k ≤ 64 ∧ i = .int .i64 k ∧ PutSt w x (spl f p k zeroF) wr) (fun i _ => 64 - (intOf i).toNat)
  case atStart => exact ⟨0, by omega, rfl, S3.out.congr fun j => (spl_out (by omega)).symm⟩
  case round =>
    obtain ⟨k, hk, rfl, hs⟩ := hrel
    by_cases hlt : k < 64
    · have hc := hs.row.cell (i := p + k) (by omega)
      have hz := hs.row.frozen (p + k)
      have HS := hide (hs.set_ (p + k) 0 fun j _ => spl_step f p k j)
      have hpk : p + k < 256 := by omega
      clear hs S3
      go_wp2_with fail
      go_roundw
      case rel => exact ⟨k + 1, by omega, by go_num, HS.out⟩
      case measure => simp [intOf]; omega
    · obtain rfl : k = 64 := by omega
      have HS := hide hs
      have hc0 := hs.ino.c0
      have hc1 := hs.row.cell (i := p) (by omega)
      have hz1 := hs.row.frozen p
      have hp3 : p < 256 := by omega
      have HS1 := hide (hs.set_ p x.kind (F' := upd (spl f p 64 zeroF) p x.kind) fun j _ => rfl)
      have F1 : Hid (IsByte (upd (spl f p 64 zeroF) p x.kind)) := (spl_byte HF.out zeroF_byte p 64).upd p HX.out.kind.1 HX.out.kind.2
      clear hs S3
      go_wp2_with fail
      clear hc0 hc1 hz1 HS
      generalize wr.setCell _ _ = wa at *
      have c1 := HS1.out.ino.c1
      go_still_tail 6, (by kernel_rfl)
      go_wp2_with (go_at_call 20; refine (rPut16_in w.heap.size 256 _ (p + 2) _ x.links _ (by go_num) HS1.out.row.drew F1.out (by omega) (by omega) (by omega) (by omega)).mono ?_; rintro e V2 ⟨rfl, hr, ho⟩; have S2 := hide (HS1.out.drew.only ho hr); clear hr ho)
      have c2 := S2.out.ino.c2
      have F2 := hide (putB_byte F1.out (p + 2) x.links 2)
      clear c1 HS1
      go_still_tail 5, (by kernel_rfl)
      go_wp2_with (go_at_call 21; refine (rPut32_in w.heap.size 256 _ (p + 4) _ x.gen _ (by go_num) S2.out.row.drew F2.out (by omega) HX.out.gen.1 HX.out.gen.2 (by omega)).mono ?_; rintro e V3 ⟨rfl, hr, ho⟩; have S3 := hide (S2.out.drew.only ho hr); clear hr ho)
      have c3 := S3.out.ino.c3
      have F3 := hide (putB_byte F2.out (p + 4) x.gen 4)
      clear c2 S2 F1
      go_still_tail 6, (by kernel_rfl)
      go_wp2_with (go_at_call 21; refine (rPut32_in w.heap.size 256 _ (p + 8) _ x.size _ (by go_num) S3.out.row.drew F3.out (by omega) (by omega) (by omega) (by omega)).mono ?_; rintro e V4 ⟨rfl, hr, ho⟩; have S4 : Hid (PutSt w x (rPtrs f p x 0) V4) := S3.out.drew.only ho hr; clear hr ho)
      clear c3 S3 F2 F3
      go_wp2_with fail
      generalize wr = w0 at *
      go_loopw [9] (fun i wr => ∃ k : Nat, k ≤ 11 ∧ i = .int .i64 k ∧ PutSt w x (rPtrs f p x k) wr) (fun i _ => 11 - (intOf i).toNat)
      case atStart => exact ⟨0, by omega, rfl, S4.out⟩
      case round =>
        obtain ⟨k, hk, rfl, hs⟩ := hrel
        by_cases hlt : k < 11
        · have hc := hs.ino.cp hlt
          have HS := hide hs
          have HV := hide (HX.out.ptr k)
          have FB := hide (rPtrs_byte HF.out p HX.out k)
          clear hs S4
          go_wp2_with fail
          go_still_tail 10, (by kernel_rfl)
          go_wp2_with (go_at_call 21; refine (rPut32_in w.heap.size 256 _ (p + 12 + 4 * k) _ (x.ptr k) _ (by go_num) HS.out.row.drew FB.out (by omega) HV.out.1 HV.out.2 (by omega)).mono ?_; rintro e V5 ⟨rfl, hr, ho⟩; have S5 : Hid (PutSt w x (rPtrs f p x (k + 1)) V5) := HS.out.drew.only ho hr; clear hr ho)
          go_roundw
          case rel => exact ⟨k + 1, by omega, by go_num, S5.out⟩
          case measure => simp [intOf]; omega
        · obtain rfl : k = 11 := by omega
          have HS := hide hs
          have hc := hs.ino.cn
          have FB := hide (rPtrs_byte HF.out p HX.out 11)
          clear hs S4
          go_wp2_with fail
          go_still_tail 5, (by kernel_rfl)
          go_wp2_with (first
            | (go_at_call 21; refine (rPut32_in w.heap.size 256 _ (p + 56) _ x.next _ (by go_num) HS.out.row.drew FB.out (by omega) HX.out.next.1 HX.out.next.2 (by omega)).mono ?_; rintro e V6 ⟨rfl, hr, ho⟩; have S6 : Hid (PutSt w x (rAll f p x) V6) := HS.out.drew.only ho hr; clear hr ho hc FB HS)
            | (refine ld256 rfl (.tmp 3) rfl _ _ rfl S6.out.row ?_)
            | (refine st256 rfl (.tmp 6) (.tmp 71) rfl (w.heap.size + 1 + 1) zeroF (rAll f p x) rfl rfl S6.out.res ?_; intro w2 hr2 ho2; have HR2 := hide hr2; have HO2 := hide ho2; clear hr2 ho2))
          have HB : Hid (Below w.heap.size w w2) := S6.out.old.trans ((HO2.out.below (by omega) S6.out.old.size))
          have E := bytesOf_congr (n := 256) fun j _ => rAll_eq f p x j
          exact bodyPost_ret_by (results_blk rfl _ _ _ _ _ rfl rfl HR2.out) rfl ⟨by rw [E]; rfl, HB.out⟩
end Go.Proofs.Ytdnalmikndilpaa
