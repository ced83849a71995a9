/- The walk of the law NumsTell. -/
import Derived.Test.YtmpeoajjfbhhmaaTell
import Derived.Test.YtmpeoajjfbhhmaaNum4
namespace Go.Proofs.Ytmpeoajjfbhhmaa
open Go.RowKit Go.Shelf
set_option linter.unusedVariables false
attribute [local go_sem] Oper.semAt_some

theorem keeps_drewN (W : World) (q : Nat) : KeepsOthers W (W.drewN q) := ⟨Nat.le_refl _, fun _ _ h _ => h⟩

set_option maxRecDepth 100000 in
set_option maxHeartbeats 1000000 in
theorem numsTell_law (A : Option Addr) (len cap : Nat) (f : Nat → Int) (stop : Int) (w : World) (hlc : len ≤ cap) (hcap : (cap : Int) ≤ 9223372036854775807) (hb : Bs w A len f) (hf : IsByte f) :
    Calls Try.prog 4 #[.slice A len cap, .int .i64 stop] w fun e W' => e = .returned (.bool true) ∧ Below w.heap.size w W' := by
  have Hb := hide hb
  have Hf := hide hf
  clear hb hf
  refine (callsIn_wide (n := 3)).1 ?_
  refine callsIn_of_wp_marks Try.func4 rfl trivial ?_ rfl
  simp only [Try.ntmps4, List.size_toArray, List.length_cons, List.length_nil, Nat.reduceAdd, Nat.reduceSub, Array.replicate_succ, Array.replicate_zero, List.push_toArray, List.append_toArray, List.nil_append, List.cons_append]
  by_cases hg : (20000 : Int) < len
  · gi_wp2
    refine ⟨.bool true, ?_, rfl, (((Below.refl _ w).alloc (Nat.le_refl _) _).alloc (by simp) _).alloc (by simp; omega) _⟩
    simp [results, Try.f4, go_sem]
  have hnil := run_seq_nil
  gi_wp2_with ((refine ⟨trivial, ?_⟩; gi_at_call 16; refine (Tell_in _ _ _ _ _).mono ?_; rintro e w2 ⟨rfl, rfl⟩))
  have b0 := ((((Boxed.new w 22 (.slice A len cap)).alloc (.cells #[.int .i64 stop] 3)).alloc (.cells #[.bool false] 4)).alloc (.cells #[.slice A len cap] 22)).alloc (.cells #[.int .i64 0] 3)
  have b1 := (((Boxed.new (w.alloc (.cells #[.slice A len cap] 22)) 3 (.int .i64 stop)).alloc (.cells #[.bool false] 4)).alloc (.cells #[.slice A len cap] 22)).alloc (.cells #[.int .i64 0] 3)
  have b2 := ((Boxed.new ((w.alloc (.cells #[.slice A len cap] 22)).alloc (.cells #[.int .i64 stop] 3)) 4 (.bool false)).alloc (.cells #[.slice A len cap] 22)).alloc (.cells #[.int .i64 0] 3)
  have b3 := (Boxed.new (((w.alloc (.cells #[.slice A len cap] 22)).alloc (.cells #[.int .i64 stop] 3)).alloc (.cells #[.bool false] 4)) 22 (.slice A len cap)).alloc (.cells #[.int .i64 0] 3)
  have b4 := Boxed.new ((((w.alloc (.cells #[.slice A len cap] 22)).alloc (.cells #[.int .i64 stop] 3)).alloc (.cells #[.bool false] 4)).alloc (.cells #[.slice A len cap] 22)) 3 (.int .i64 0)
  have hB0 : Below w.heap.size w (((((w.alloc (.cells #[.slice A len cap] 22)).alloc (.cells #[.int .i64 stop] 3)).alloc (.cells #[.bool false] 4)).alloc (.cells #[.slice A len cap] 22)).alloc (.cells #[.int .i64 0] 3)) :=
    (((((Below.refl _ w).alloc (Nat.le_refl _) _).alloc (by simp) _).alloc (by simp; omega) _).alloc (by simp; omega) _).alloc (by simp; omega) _
  have hsz : (((((w.alloc (.cells #[.slice A len cap] 22)).alloc (.cells #[.int .i64 stop] 3)).alloc (.cells #[.bool false] 4)).alloc (.cells #[.slice A len cap] 22)).alloc (.cells #[.int .i64 0] 3)).heap.size = w.heap.size + 1 + 1 + 1 + 1 + 1 := by simp
  simp only [World.size_alloc] at b1 b2 b3 b4
  generalize (((((w.alloc (.cells #[.slice A len cap] 22)).alloc (.cells #[.int .i64 stop] 3)).alloc (.cells #[.bool false] 4)).alloc (.cells #[.slice A len cap] 22)).alloc (.cells #[.int .i64 0] 3)) = WW at *
  have Hsz := hide hsz
  have hle : w.heap.size + 1 + 1 + 1 + 1 + 1 ≤ WW.heap.size := by omega
  clear hsz
  generalize hs : w.heap.size = s at *
  have Hs := hide hs
  clear hs hnil
  refine wpIn_rangeFunc_ownG rfl (by omega) (gf := 26) (lb := #[.pointer (some ⟨s + 1 + 1 + 1, 0, none⟩)]) rfl trivial (enters_of Try.func26 (by kernel_rfl) rfl)
      (Tell_stops 2 (by omega) (s + 1 + 1 + 1) (s + 1 + 1 + 1 + 1) A len cap f (by omega) _ (by omega) (by omega) b3.cell (fun hn b off e => by
        obtain ⟨b', off', e', hsg⟩ := Hb.out.at_ hn
        rw [e] at e'
        cases e'
        have := hsg.lt hn
        have := Hs.out
        omega) (Hb.out.old (by rw [Hs.out]; exact hB0)) Hf.out)
      belowK_t (belowK_b (by omega)) (Below.refl _ _) (fun _ => rfl)
      (fun pre W => (pre = List.range pre.length ∧ W.cell? ⟨s + 1 + 1 + 1 + 1, 0, none⟩ = some (.int .i64 pre.length) ∧ W.frozen? ⟨s + 1 + 1 + 1 + 1, 0, none⟩ = false) ∧ Below (s + 1 + 1 + 1 + 1) WW W)
      (fun c pre W => (c = .ret ∧ pre ≠ List.range pre.length) ∨ ((c = .exit 0 ∧ (pre.length : Int) = stop ∧ W.cell? ⟨s + 1 + 1 + 1 + 1, 0, none⟩ = some (.int .i64 pre.length) ∧ W.frozen? ⟨s + 1 + 1 + 1 + 1, 0, none⟩ = false) ∧ Below (s + 1 + 1 + 1 + 1) WW W))
      (OwnFrom.and (Own.from (fun t A B row hs hg hr => ⟨hs.1, cell_kept hs.2.1 hg hr, (frozen_kept hs.2.1 hg hr).trans hs.2.2⟩) _) (ownFrom_below (by omega) (by omega)))
      (fun c t X Y row hs hg hr => hs.imp id (fun h => (OwnFrom.and (Own.from (I := fun (pre : List Nat) W => c = .exit 0 ∧ (pre.length : Int) = stop ∧ W.cell? ⟨s + 1 + 1 + 1 + 1, 0, none⟩ = some (.int .i64 pre.length) ∧ W.frozen? ⟨s + 1 + 1 + 1 + 1, 0, none⟩ = false) (fun t A B row hs hg hr => ⟨hs.1, hs.2.1, cell_kept hs.2.2.1 hg hr, (frozen_kept hs.2.2.1 hg hr).trans hs.2.2.2⟩) _) (ownFrom_below (n₀ := s + 1 + 1 + 1 + 1) (w₀ := WW) (by omega) (by omega))) t X Y row h hg hr))
      ⟨⟨rfl, b4.cell, b4.frozen⟩, Below.refl _ _⟩
      (fun x => { tmps := #[.slice A len cap, .int .i64 stop, .pointer (some ⟨s, 0, none⟩), .pointer (some ⟨s + 1, 0, none⟩), .pointer (some ⟨s + 1 + 1, 0, none⟩), .func (.func 26) #[] #[.pointer (some ⟨s + 1 + 1 + 1, 0, none⟩)], .pointer (some ⟨s + 1 + 1 + 1 + 1, 0, none⟩), .int .i64 (4 * (x : Int)), .int .u32 (read 4 f len (4 * (x : Int))), undef, undef, .slice A len cap, .int .i64 len, .bool false, .slice A len cap, .func (.func 26) #[] #[.pointer (some ⟨s + 1 + 1 + 1, 0, none⟩)], .func (.func 26) #[] #[.pointer (some ⟨s + 1 + 1 + 1, 0, none⟩)], .bool false, .func (.func 26) #[] #[.pointer (some ⟨s + 1 + 1 + 1, 0, none⟩)], .int .i64 (4 * (x : Int)), .int .u32 (read 4 f len (4 * (x : Int))), undef, undef, undef, undef, undef, undef, undef, undef, undef, undef, undef, undef, undef, undef, undef, undef, undef, undef, undef, undef, undef, undef, undef, undef, undef, undef, undef, undef, undef, undef, undef, undef, undef, undef, undef], defers := [] }) ?assign ?body ?done ?stop
  case assign =>
    intro l x W K hK
    unfold tellEnc
    gi_wp2
    exact hK
  case body =>
    rintro l pre x W ⟨⟨hp, hcn, hfn⟩, hB⟩ hlen
    have c0 : W.cell? ⟨s, 0, none⟩ = some (.slice A len cap) := (hB.cell (p := ⟨s, 0, none⟩) (by simp; omega)).trans b0.cell
    have c1 : W.cell? ⟨s + 1, 0, none⟩ = some (.int .i64 stop) := (hB.cell (p := ⟨s + 1, 0, none⟩) (by simp)).trans b1.cell
    have c2 : W.cell? ⟨s + 1 + 1, 0, none⟩ = some (.bool false) := (hB.cell (p := ⟨s + 1 + 1, 0, none⟩) (by simp)).trans b2.cell
    have f2 : W.frozen? ⟨s + 1 + 1, 0, none⟩ = false := (hB.frozen (p := ⟨s + 1 + 1, 0, none⟩) (by simp)).trans b2.frozen
    have Hbw := hide (Hb.out.old (w' := W) (by rw [Hs.out]; exact hB0.trans (hB.mono (by omega))))
    have hpl : (pre.length : Int) ≤ 5000 := by omega
    by_cases hx : x = pre.length
    · subst hx
      have Hp : Hid (pre ++ [pre.length] = List.range (pre ++ [pre.length]).length) := by
        have e : (pre ++ [pre.length]).length = pre.length + 1 := by simp
        rw [Hid, e, range_snoc, ← hp]
      have HN : Hid ((pre ++ [pre.length]).length = pre.length + 1) := by simp [Hid]
      have Hw : Hid (within 4 len (4 * (pre.length : Int)) = true) := by
        have e : (4 * (pre.length : Int)) = ((4 * pre.length : Nat) : Int) := by omega
        rw [Hid, e]; exact within_mk (by omega)
      have HB := hide hB
      generalize hk : pre.length = k at *
      clear hp hlen hk hB
      by_cases hst : (k : Int) + 1 = stop
      · have hst' : ((k : Int) + 1 == stop) = true := by simp [hst]
        have Hst := hide hst
        clear hst
        gi_wp2_with ((refine ⟨trivial, ?_⟩; gi_at_call 17; refine (callsIn_wide.2 (rGet32_any A len cap _ f _ (by omega) (by omega) (by omega) Hbw.out Hf.out)).mono ?_; rintro e w5 ⟨rfl, h5⟩; rw [Hw.out]; obtain ⟨q, rfl⟩ := h5))
        refine ⟨((keeps_drewN W q).trans (KeepsOthers.setCell (W.drewN q) ⟨s + 1 + 1 + 1 + 1, 0, none⟩ _)).from _, .inr ⟨⟨rfl, ?_, ?_, ?_⟩, ?_⟩⟩
        · rw [HN.out]; exact (by omega : ((k + 1 : Nat) : Int) = (k : Int) + 1).trans Hst.out
        · rw [HN.out]
          refine (World.cell?_setCell_same' _ _ _ ?_).trans ?_
          · show (W.cell? _).isSome = true
            rw [hcn]; rfl
          · go_num
        · rw [World.frozen?_setCell]; exact hfn
        · exact (HB.out.trans ((Still.of W q).below _)).setCell (p := ⟨s + 1 + 1 + 1 + 1, 0, none⟩) (Nat.le_refl _) _
      · have hst' : ((k : Int) + 1 == stop) = false := by simp [hst]
        clear hst
        gi_wp2_with ((refine ⟨trivial, ?_⟩; gi_at_call 17; refine (callsIn_wide.2 (rGet32_any A len cap _ f _ (by omega) (by omega) (by omega) Hbw.out Hf.out)).mono ?_; rintro e w5 ⟨rfl, h5⟩; rw [Hw.out]; obtain ⟨q, rfl⟩ := h5))
        refine ⟨((keeps_drewN W q).trans (KeepsOthers.setCell (W.drewN q) ⟨s + 1 + 1 + 1 + 1, 0, none⟩ _)).from _, ((Still.of W q).below _).setCell (p := ⟨s + 1 + 1 + 1 + 1, 0, none⟩) (Nat.le_refl _) _, ⟨Hp.out, ?_, ?_⟩, ?_⟩
        · rw [HN.out]
          refine (World.cell?_setCell_same' _ _ _ ?_).trans ?_
          · show (W.cell? _).isSome = true
            rw [hcn]; rfl
          · go_num
        · rw [World.frozen?_setCell]; exact hfn
        · exact (HB.out.trans ((Still.of W q).below _)).setCell (p := ⟨s + 1 + 1 + 1 + 1, 0, none⟩) (Nat.le_refl _) _
    · have hne : (4 * (x : Int) != 4 * (pre.length : Int)) = true := by simp; omega
      have hne' : (4 * (x : Int) == 4 * (pre.length : Int)) = false := by simp; omega
      have Hx : Hid (pre ++ [x] ≠ List.range (pre ++ [x]).length) := fun h => by
        have e : (pre ++ [x]).length = pre.length + 1 := by simp
        rw [e, range_snoc, ← hp] at h
        have := List.append_inj' h rfl
        simp at this
        exact hx this
      clear hp hx
      gi_wp2_with ((refine ⟨trivial, ?_⟩; gi_at_call 17; refine (callsIn_wide.2 (rGet32_any A len cap _ f _ (by omega) (by omega) (by omega) Hbw.out Hf.out)).mono ?_; rintro e w5 ⟨rfl, h5⟩; obtain ⟨q, rfl⟩ := h5))
      exact ⟨((keeps_drewN W q).trans (KeepsOthers.setCell (W.drewN q) ⟨s + 1 + 1, 0, none⟩ _)).from _, .inl ⟨rfl, Hx.out⟩⟩
  case stop =>
    rintro D c pre W hD ⟨k, hk, rfl⟩ h hK
    rcases h with ⟨rfl, hne⟩ | ⟨⟨rfl, hst, hcn, hfn⟩, hB⟩
    · simp at hne
    · rw [List.length_range] at hst hcn
      have c0 : W.cell? ⟨s, 0, none⟩ = some (.slice A len cap) := (hB.cell (p := ⟨s, 0, none⟩) (by simp; omega)).trans b0.cell
      have c1 : W.cell? ⟨s + 1, 0, none⟩ = some (.int .i64 stop) := (hB.cell (p := ⟨s + 1, 0, none⟩) (by simp)).trans b1.cell
      have c2 : W.cell? ⟨s + 1 + 1, 0, none⟩ = some (.bool false) := (hB.cell (p := ⟨s + 1 + 1, 0, none⟩) (by simp)).trans b2.cell
      have f2 : W.frozen? ⟨s + 1 + 1, 0, none⟩ = false := (hB.frozen (p := ⟨s + 1 + 1, 0, none⟩) (by simp)).trans b2.frozen
      gi_wp2
      all_goals
        have hK' := (KeepsOthers.setCell W ⟨s + 1 + 1, 0, none⟩ (.bool true)).same D _ hK rfl
        refine ⟨by simp, .inl ⟨_, _, rfl, run_takeDeferred hK', ?_⟩⟩
        have hc5 := cell_kept (World.cell?_setCell_same' W ⟨s + 1 + 1, 0, none⟩ (.bool true) (by rw [c2]; rfl)) (grownBy_putObj' _ D (.deferred none)) (fun r e => by cases e; exact ⟨_, hK', rfl⟩)
        refine ⟨.bool true, ?_, rfl, ?_⟩
        · simp [results, Try.f4, go_sem, hc5]
        · rw [Hs.out]
          exact ((hB0.trans (hB.mono (by omega))).setCell (p := ⟨s + 1 + 1, 0, none⟩) (by simp; omega) _).trans (belowK_b (w := WW) (by omega) _ D _ _ hD hK' rfl rfl)
  case done =>
    rintro D ys W hD rfl ⟨⟨_, hcn, hfn⟩, hB⟩ hK
    rw [List.length_range] at hcn
    have c0 : W.cell? ⟨s, 0, none⟩ = some (.slice A len cap) := (hB.cell (p := ⟨s, 0, none⟩) (by simp; omega)).trans b0.cell
    have c1 : W.cell? ⟨s + 1, 0, none⟩ = some (.int .i64 stop) := (hB.cell (p := ⟨s + 1, 0, none⟩) (by simp)).trans b1.cell
    have c2 : W.cell? ⟨s + 1 + 1, 0, none⟩ = some (.bool false) := (hB.cell (p := ⟨s + 1 + 1, 0, none⟩) (by simp)).trans b2.cell
    have f2 : W.frozen? ⟨s + 1 + 1, 0, none⟩ = false := (hB.frozen (p := ⟨s + 1 + 1, 0, none⟩) (by simp)).trans b2.frozen
    gi_wp2
    all_goals
      have hK' := (KeepsOthers.setCell W ⟨s + 1 + 1, 0, none⟩ (.bool true)).same D _ hK rfl
      refine ⟨by simp, .inl ⟨_, _, rfl, run_takeDeferred hK', ?_⟩⟩
      have hc5 := cell_kept (World.cell?_setCell_same' W ⟨s + 1 + 1, 0, none⟩ (.bool true) (by rw [c2]; rfl)) (grownBy_putObj' _ D (.deferred none)) (fun r e => by cases e; exact ⟨_, hK', rfl⟩)
      refine ⟨.bool true, ?_, rfl, ?_⟩
      · simp [results, Try.f4, go_sem, hc5]
      · rw [Hs.out]
        exact ((hB0.trans (hB.mono (by omega))).setCell (p := ⟨s + 1 + 1, 0, none⟩) (by simp; omega) _).trans (belowK_b (w := WW) (by omega) _ D _ _ hD hK' rfl rfl)
end Go.Proofs.Ytmpeoajjfbhhmaa
