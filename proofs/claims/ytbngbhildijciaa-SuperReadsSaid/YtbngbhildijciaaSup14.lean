/- The walk of super.ReadDescs. -/
import Derived.Test.YtbngbhildijciaaSup13
namespace Go.Proofs.Ytbngbhildijciaa
open Go.RowKit
set_option linter.unusedVariables false

/-- Are a block's descriptors right? -/
def okD (a b c : Int) (f : Nat → Int) : Prop := mayDs b c a.toNat (rdD f) ∧ sameB (sealF (descF (rdD f) a.toNat)) f 256 = true
instance (a b c : Int) (f : Nat → Int) : Decidable (okD a b c f) := by unfold okD; infer_instance
/-- What ReadDescs tells. -/
def ldC (a b c d : Int) (f : Nat → Int) : Int := if mayP a b c d then (if okD a b c f then 0 else 60) else 50
theorem wd_same {a b c d : Int} {f : Nat → Int} (h : mayP a b c d) : (decide (wdC a b c d a.toNat (rdD f) = 0) && sameB (wdF a b c d a.toNat (rdD f)) f 256) = decide (okD a b c f) := by
  have hn : ((a.toNat : Nat) : Int) = a := by have := h.1; omega
  by_cases m : mayDs b c a.toNat (rdD f)
  · obtain ⟨h1, h2⟩ := wd_yes h hn m
    rw [h1, h2, show decide ((0 : Int) = 0) = true from rfl, Bool.true_and]
    have q : okD a b c f ↔ sameB (sealF (descF (rdD f) a.toNat)) f 256 = true := ⟨fun q => q.2, fun q => ⟨m, q⟩⟩
    rw [Bool.eq_iff_iff, decide_eq_true_iff]; exact q.symm
  · obtain ⟨h1, h2⟩ := wd_no (n := a.toNat) (D := rdD f) h (fun q => m q.2)
    rw [h1]
    exact (decide_eq_false (p := okD a b c f) (fun q => m q.1)).symm
/-- What comes back from ReadDescs. -/
def LdEnd (w : World) (a b c d : Int) (f : Nat → Int) (e : Ending) (w' : World) : Prop :=
  (∃ v, e = .returned (.tuple #[v, .int .i64 (ldC a b c d f)]) ∧ ((ldC a b c d f = 0 ∧ ∃ L, v = .slice (some ⟨L, 0, none⟩) a.toNat a.toNat ∧ w.heap.size ≤ L ∧ IRow w' L (a.toNat * 3) (dH (rdD f) a.toNat)) ∨ (ldC a b c d f ≠ 0 ∧ v = .slice none 0 0))) ∧ Below w.heap.size w w'
theorem LdEnd.yes {w w' : World} {a b c d : Int} {f : Nat → Int} {n L : Nat} (hn : a.toNat = n) (h : mayP a b c d) (k : okD a b c f) (hL : w.heap.size ≤ L) (I : IRow w' L (n * 3) (dH (rdD f) n)) (B : Below w.heap.size w w') :
    LdEnd w a b c d f (.returned (.tuple #[.slice (some ⟨L, 0, none⟩) n n, .int .i64 0])) w' := by
  subst hn
  have e : ldC a b c d f = 0 := by unfold ldC; rw [if_pos h, if_pos k]
  exact ⟨⟨_, by rw [e], .inl ⟨e, L, rfl, hL, I⟩⟩, B⟩
theorem LdEnd.no {w w' : World} {a b c d : Int} {f : Nat → Int} (h : mayP a b c d) (k : ¬ okD a b c f) (B : Below w.heap.size w w') : LdEnd w a b c d f (.returned (.tuple #[.slice none 0 0, .int .i64 60])) w' := by
  have e : ldC a b c d f = 60 := by unfold ldC; rw [if_pos h, if_neg k]
  exact ⟨⟨_, by rw [e], .inr ⟨by rw [e]; decide, rfl⟩⟩, B⟩
theorem LdEnd.geo {w w' : World} {a b c d : Int} {f : Nat → Int} (h : ¬ mayP a b c d) (B : Below w.heap.size w w') : LdEnd w a b c d f (.returned (.tuple #[.slice none 0 0, .int .i64 50])) w' := by
  have e : ldC a b c d f = 50 := by unfold ldC; rw [if_neg h]
  exact ⟨⟨_, by rw [e], .inr ⟨by rw [e]; decide, rfl⟩⟩, B⟩
/-- The geometry, the block. -/
structure LSt (W : World) (a b c d : Int) (f : Nat → Int) (v : World) : Prop where
  geo : GeoAt v W.heap.size a b c d
  blk : Row v (W.heap.size + 1) 256 f
  old : Below W.heap.size W v
section
variable {W v v' : World} {a b c d : Int} {f : Nat → Int}
theorem LSt.lt (h : LSt W a b c d f v) : W.heap.size + 1 < v.heap.size := h.blk.lt
theorem LSt.upto {B : Nat} (h : LSt W a b c d f v) (k : Below B v v') (hB : W.heap.size + 1 < B) : LSt W a b c d f v' := ⟨h.geo.below k (by omega), h.blk.below k hB, h.old.trans (k.mono (by omega))⟩
end
theorem LSt.start (W : World) (a b c d : Int) (f : Nat → Int) (t s : TypeId) : LSt W a b c d f ((W.alloc (.cells #[.int .i64 a, .int .i64 b, .int .i64 c, .int .i64 d] t)).alloc (.cells (bytesOf 256 f) s)) := by
  have n0 := heap_alloc_new W (.cells #[.int .i64 a, .int .i64 b, .int .i64 c, .int .i64 d] t)
  have n1 := Row.new (W.alloc (.cells #[.int .i64 a, .int .i64 b, .int .i64 c, .int .i64 d] t)) s 256 f
  simp only [World.size_alloc] at n1
  exact ⟨⟨t, (Below.heap_alloc _ _ _ (by simp only [World.size_alloc]; omega)).trans n0⟩, n1, ((Below.refl _ W).alloc (Nat.le_refl _) _).alloc (by simp only [World.size_alloc]; omega) _⟩
set_option maxRecDepth 100000 in
set_option maxHeartbeats 1000000 in
theorem rdescs_geo (a b c d : Int) (f : Nat → Int) (w : World) (h : ¬ mayP a b c d) :
    Calls Try.prog 20 #[geoV a b c d, blkV f] w fun e w' => e = .returned (.tuple #[.slice none 0 0, .int .i64 50]) ∧ Below w.heap.size w w' := by
  have H : Hid (mayB a b c d = false) := decide_eq_false h
  have S0 := hide (LSt.start w a b c d f 23 29)
  clear h
  unfold geoV blkV
  go_enter Try.func20, Try.ntmps20
  go_wp2_with (first | (refine ldG rfl (.tmp 2) rfl _ _ _ _ _ rfl S0.out.geo ?_))
  refine (may_any a b c d _).mono ?_
  rintro e w1 ⟨rfl, hw⟩
  rw [H.out]
  have S1 := hide (S0.out.upto hw S0.out.lt)
  clear hw S0
  go_wp2_with fail
  go_ret2
  exact ⟨rfl, S1.out.old⟩
set_option maxRecDepth 100000 in
set_option maxHeartbeats 4000000 in
theorem rdescs_ok (a b c d : Int) (f : Nat → Int) (w : World) (hf : IsByte f) (h : mayP a b c d) :
    Calls Try.prog 20 #[geoV a b c d, blkV f] w fun e w' => LdEnd w a b c d f e w' := by
  have H : Hid (mayB a b c d = true) := decide_eq_true h
  have HS := hide (wd_same (f := f) h)
  have HF := hide hf
  have Hm := hide h
  have hn4 : a.toNat ≤ 4 := by have := h.1; omega
  have hna : a = ((a.toNat : Nat) : Int) := by have := h.1; omega
  have S0 := hide (LSt.start w a b c d f 23 29)
  clear h hf
  generalize a.toNat = n at *
  subst hna
  unfold geoV blkV
  go_enter Try.func20, Try.ntmps20
  go_wp2_with (first | (refine ldG rfl (.tmp 2) rfl _ _ _ _ _ rfl S0.out.geo ?_))
  refine (may_any (n : Int) b c d _).mono ?_
  rintro e w1 ⟨rfl, hw⟩
  rw [H.out]
  have S1 := hide (S0.out.upto hw S0.out.lt)
  clear hw S0
  obtain ⟨g0, -⟩ := S1.out.geo.cells
  go_wp2_with (first
    | (refine ld256 rfl (.tmp 3) rfl _ _ rfl S1.out.blk ?_)
    | (refine buildP rfl 12 rfl f rfl ?_)
    | (refine allocP rfl rfl ?_)
    | (refine stPg rfl (.tmp 6) (.tmp 13) rfl w1.heap.size zeroF f rfl rfl (Row.new w1 _ _ _) ?_
       intro w2 hr ho
       have hb : Below w1.heap.size w1 w2 := ((Below.refl _ w1).alloc (Nat.le_refl _) (.cells (bytesOf 256 zeroF) 61)).trans (ho.below (Nat.le_refl _) (by simp only [World.size_alloc]; omega))
       have S2 := hide (S1.out.upto hb S1.out.lt)
       have R2 := hide hr
       have hG : w.heap.size + 1 < w1.heap.size := S1.out.lt
       obtain ⟨g0, -⟩ := S2.out.geo.cells
       clear hr ho hb S1)
    | (refine makeD rfl (.tmp 15) rfl n hn4 rfl ?_
       intro ob hi
       have I3 : Hid (IRow (w2.alloc ob) w2.heap.size (n * 3) (dH (rdD f) 0)) := hi.congr fun j _ => by unfold dH; rw [if_neg (by omega)]
       have S3 := hide (S2.out.upto ((Below.refl _ w2).alloc (Nat.le_refl _) ob) S2.out.lt)
       have R3 := hide (R2.out.alloc ob)
       have hL : w1.heap.size < w2.heap.size := R2.out.lt
       clear hi S2 R2 g0))
  generalize w1.heap.size = G at *
  generalize w2.heap.size = L at *
  generalize World.alloc _ _ = w3 at *
  have hL1 : w.heap.size + 1 < L := by omega
  go_loopw [19] (fun i wr => ∃ k : Nat, k ≤ n ∧ i = .int .i64 k ∧ LSt w (n : Int) b c d f wr ∧ Row wr G 256 f ∧ IRow wr L (n * 3) (dH (rdD f) k)) (fun i _ => n - (intOf i).toNat)
  case atStart => exact ⟨0, by omega, rfl, S3.out, R3.out, I3.out⟩
  case round =>
    obtain ⟨k, hk, rfl, hS, hR, hI⟩ := hrel
    clear S3 R3 I3
    have S4 := hide hS
    have R4 := hide hR
    have I4 := hide hI
    clear hS hR hI
    by_cases hkn : k < n
    · have hk0 : (0 : Int) ≤ k := by omega
      have hk1 : (k : Int) < n := by omega
      have hk2 : (k : Int) ≤ 4 := by omega
      have hk3 : ((k : Int)).toNat = k := by omega
      go_wp2_with fail
      refine (short_any G (8 * k) (8 * (k : Int)) f _ (by omega) R4.out HF.out (by omega)).mono ?_
      rintro e w5 ⟨rfl, rfl⟩
      go_wp2_with fail
      refine (short_any G (8 * k + 2) (8 * (k : Int) + 2) f _ (by omega) R4.out HF.out (by omega)).mono ?_
      rintro e w5 ⟨rfl, rfl⟩
      go_wp2_with fail
      refine (short_any G (8 * k + 4) (8 * (k : Int) + 4) f _ (by omega) R4.out HF.out (by omega)).mono ?_
      rintro e w5 ⟨rfl, rfl⟩
      go_wp2_with (first
        | (refine storeD rfl (.tmp 36) (.tmp 35) rfl L k (n * 3) (rdD f k) (dH (rdD f) k) rfl rfl I4.out (by omega) ?_
           intro w5 hi ho
           have hb := ho.below (B := L) (Nat.le_refl _) (Nat.le_of_lt I4.out.lt)
           have I5 := hide (hi.congr fun j _ => dH_step (rdD f) k j)
           have S5 := hide (S4.out.upto hb hL1)
           have R5 := hide (R4.out.below hb hL)
           clear hi ho hb S4 R4 I4))
      go_round
      case rel => exact ⟨k + 1, by omega, by go_num, S5.out, R5.out, I5.out⟩
      case measure => simp [intOf]; omega
    · obtain rfl : k = n := by omega
      go_wp2_with (first | (refine ldG rfl (.tmp 2) rfl _ _ _ _ _ rfl S4.out.geo ?_))
      refine (wdescs_any (k : Int) b c d (some ⟨L, 0, none⟩) k k (rdD f) _ I4.out.ds).mono ?_
      rintro e w5 ⟨rfl, hw⟩
      have hl4 := I4.out.lt
      have S5 := hide (S4.out.upto hw S4.out.lt)
      have R5 := hide (R4.out.below hw R4.out.lt)
      have I5 := hide (I4.out.below hw I4.out.lt)
      clear hw S4 R4 I4
      go_wp2_with fail
      refine (same_any G f (wdF (k : Int) b c d k (rdD f)) (wdC (k : Int) b c d k (rdD f)) _ R5.out).mono ?_
      rintro e w6 ⟨rfl, hw⟩
      rw [HS.out]
      have S6 := hide (S5.out.upto hw S5.out.lt)
      have I6 := hide (I5.out.below hw I5.out.lt)
      clear hw S5 R5 I5
      by_cases ok : okD (k : Int) b c f
      · rw [decide_eq_true ok]
        have OK := hide ok
        clear ok
        go_wp2_with fail
        go_ret2
        exact LdEnd.yes (by omega) Hm.out OK.out (by omega) I6.out S6.out.old
      · rw [decide_eq_false ok]
        have OK := hide ok
        clear ok
        go_wp2_with fail
        go_ret2
        exact LdEnd.no Hm.out OK.out S6.out.old
theorem rdescs_any (a b c d : Int) (f : Nat → Int) (w : World) (hf : IsByte f) :
    Calls Try.prog 20 #[geoV a b c d, blkV f] w fun e w' => LdEnd w a b c d f e w' := by
  by_cases h : mayP a b c d
  · exact rdescs_ok a b c d f w hf h
  · exact (rdescs_geo a b c d f w h).mono fun e w' ⟨he, hb⟩ => he ▸ LdEnd.geo h hb
end Go.Proofs.Ytbngbhildijciaa
