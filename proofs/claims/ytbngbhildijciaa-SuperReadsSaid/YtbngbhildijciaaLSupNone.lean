/- The law SuperNone. -/
import Derived.Test.YtbngbhildijciaaSup14
import Derived.Test.YtbngbhildijciaaSupG
namespace Go.Proofs.Ytbngbhildijciaa
open Go.RowKit
set_option linter.unusedVariables false

/-- So many bytes of one kind, then noughts. -/
def conF (v : Int) (k j : Nat) : Int := if j < k then v else 0
theorem conF_step (v : Int) (k j : Nat) : upd (conF v k) k v j = conF v (k + 1) j := by
  by_cases e : j = k
  · subst e; rw [upd_same]; unfold conF; rw [if_pos (by omega)]
  · rw [upd_other _ _ e]; unfold conF
    by_cases h : j < k
    · rw [if_pos h, if_pos (by omega)]
    · rw [if_neg h, if_neg (by omega)]
theorem conF_byte {v : Int} (h0 : 0 ≤ v) (h1 : v ≤ 255) (k : Nat) : IsByte (conF v k) := fun j => by
  unfold conF; split
  · exact ⟨h0, h1⟩
  · exact ⟨Int.le_refl 0, (by decide : (0 : Int) ≤ 255)⟩
theorem con_at (v : Int) {j : Nat} (h : j < 256) : conF v 256 j = v := by unfold conF; rw [if_pos h]
theorem con_head {v : Int} (h0 : 0 ≤ v) (h1 : v ≤ 255) : ¬ hdP (conF v 256) := fun h => by
  have e := h.1
  rw [part_4, con_at v (by omega), con_at v (by omega), con_at v (by omega), con_at v (by omega)] at e
  omega
set_option maxRecDepth 100000 in
theorem sum_zero : sumF zeroF 252 = 2791528945 := by kernel_rfl
theorem con_desc {a b c d v : Int} (hm : mayP a b c d) (h0 : 0 ≤ v) (h1 : v ≤ 255) : ¬ okD a b c (conF v 256) := fun h => by
  have hn : a.toNat ≤ 4 := by have := hm.1; omega
  have s := (sameB_iff _ _ _).1 h.2
  have e := s 32 (by omega)
  rw [sealF_lo _ (by omega), desc_hi _ (by omega), con_at v (by omega)] at e
  subst e
  have z : sumF (descF (rdD (conF 0 256)) a.toNat) 252 = sumF zeroF 252 := sumF_congr fun i hi => by
    have q := s i (by omega)
    rw [sealF_lo _ hi, con_at 0 (by omega)] at q
    exact q
  have q := s (252 + 0) (by omega)
  rw [sealF_in _ (by omega), z, sum_zero, con_at 0 (by omega)] at q
  exact absurd q (by decide)
theorem ld_none {a b c d v : Int} (h0 : 0 ≤ v) (h1 : v ≤ 255) : ldC a b c d (conF v 256) = 50 ∨ ldC a b c d (conF v 256) = 60 := by
  unfold ldC
  by_cases m : mayP a b c d
  · rw [if_pos m, if_neg (con_desc m h0 h1)]; exact .inr rfl
  · rw [if_neg m]; exact .inl rfl
/-- The geometry and the block. -/
structure NSt (W : World) (a b c d : Int) (B : Nat) (F : Nat → Int) (v : World) : Prop where
  lo : W.heap.size < B
  geo : GeoAt v W.heap.size a b c d
  blk : Row v B 256 F
  old : Below W.heap.size W v
theorem NSt.below {W v v' : World} {a b c d : Int} {B : Nat} {F : Nat → Int} (h : NSt W a b c d B F v) (k : Below v.heap.size v v') : NSt W a b c d B F v' := ⟨h.lo, h.geo.below k h.geo.lt, h.blk.below k h.blk.lt, h.old.trans (k.mono h.old.size)⟩
theorem NSt.fresh {W v v' : World} {a b c d : Int} {B : Nat} {F : Nat → Int} {o : Obj} (h : NSt W a b c d B F v) (k : Only v.heap.size (v.alloc o) v') : NSt W a b c d B F v' :=
  h.below (((Below.refl _ v).alloc (Nat.le_refl _) o).trans (k.below (Nat.le_refl _) (by simp only [World.size_alloc]; omega)))
set_option maxRecDepth 100000 in
set_option maxHeartbeats 2000000 in
theorem superNone_law (v a b c d : Int) (h0 : 0 ≤ v) (h1 : v ≤ 255) (w : World) :
    Calls Try.prog 8 #[.int .u8 v, geoV a b c d] w fun e w' => e = .returned (.bool true) ∧ Below w.heap.size w w' := by
  have HB : Hid (IsByte (conF v 256)) := conF_byte h0 h1 256
  have HD := hide (con_head h0 h1)
  have HL := ld_none (a := a) (b := b) (c := c) (d := d) h0 h1
  have G0 := hide (GeoAt.new w 23 a b c d)
  have O0 : Hid (Below w.heap.size w (w.alloc (.cells #[.int .i64 a, .int .i64 b, .int .i64 c, .int .i64 d] 23))) := (Below.refl _ w).alloc (Nat.le_refl _) _
  unfold geoV
  go_enter Try.func8, Try.ntmps8
  go_wp2_with fail
  refine (awake_any _).mono ?_
  rintro e w1 ⟨rfl, hw⟩
  have G1 := hide (G0.out.below hw G0.out.lt)
  have O1 := hide (O0.out.trans (hw.mono O0.out.size))
  clear hw G0 O0
  go_wp2_with (refine allocB rfl rfl ?_)
  have S2 : Hid (NSt w a b c d w1.heap.size (conF v 0) (w1.alloc (.cells (bytesOf 256 zeroF) 29))) :=
    ⟨G1.out.lt, G1.out.below ((Below.refl _ w1).alloc (Nat.le_refl _) _) G1.out.lt, (Row.new w1 _ _ _).congr fun i _ => by unfold conF; rw [if_neg (by omega)]; rfl, O1.out.alloc O1.out.size _⟩
  clear G1 O1
  generalize w1.heap.size = B at *
  generalize World.alloc _ _ = w2 at *
  go_loopw [6] (fun i wr => ∃ k : Nat, k ≤ 256 ∧ i = .int .i64 k ∧ NSt w a b c d B (conF v k) wr) (fun i _ => 256 - (intOf i).toNat)
  case atStart => exact ⟨0, by omega, rfl, S2.out⟩
  case round =>
    obtain ⟨k, hk, rfl, hS⟩ := hrel
    clear S2
    have S3 := hide hS
    clear hS
    by_cases hk6 : k = 256
    · subst hk6
      clear hk
      go_wp2_with (refine ld256 rfl (.tmp 5) rfl _ _ rfl S3.out.blk ?_)
      refine (read_any (conF v 256) _ HB.out).mono ?_
      rintro e w4 ⟨rfl, hw⟩
      rw [(rd_head HD.out).1, (rd_head HD.out).2]
      have S4 := hide (S3.out.below hw)
      clear hw S3
      go_wp2_with (first
        | (refine stS rfl (.tmp 7) (.tmp 23) rfl w4.heap.size 0 0 0 0 0 0 0 0 0 0 rfl rfl (SuAt.new w4 _ 0 0 0 0 0) ?_
           intro w5 hr ho
           have S5 := hide (S4.out.fresh ho)
           clear hr ho S4)
        | (refine ldG rfl (.tmp 3) rfl _ _ _ _ _ rfl S5.out.geo ?_)
        | (refine ld256 rfl (.tmp 5) rfl _ _ rfl S5.out.blk ?_))
      refine (rdescs_any a b c d (conF v 256) _ HB.out).mono ?_
      rintro e w6 ⟨⟨x, rfl, hx⟩, hw⟩
      have S6 := hide (S5.out.below hw)
      clear hw S5 hx
      generalize ldC a b c d (conF v 256) = q at *
      obtain rfl | rfl := HL
      all_goals
        go_wp2_with fail
        go_ret
        exact ⟨rfl, S6.out.old⟩
    · have hlt : k < 256 := by omega
      have hlt' : (k : Int) < 256 := by omega
      have hk0 : (0 : Int) ≤ k := by omega
      have hk1 : ((k : Int)).toNat = k := by omega
      have c0 := S3.out.blk.cell hlt
      have z0 := S3.out.blk.frozen k
      have S4 : Hid (NSt w a b c d B (conF v (k + 1)) (wr.setCell ⟨B, k, none⟩ (.int .u8 v))) := by
        have o := (Only.refl B wr).setCell k (.int .u8 v)
        have l := S3.out.lo
        exact ⟨l, S3.out.geo.only o (by omega), (S3.out.blk.set_ k v).congr fun i _ => conF_step v k i, S3.out.old.trans (o.below (by omega) S3.out.old.size)⟩
      clear S3
      go_wp2_with fail
      go_round
      case rel => exact ⟨k + 1, by omega, by go_num, S4.out⟩
      case measure => simp [intOf]; omega
end Go.Proofs.Ytbngbhildijciaa
