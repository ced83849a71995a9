/- nums.Zero and quernref01.Zero, by their contracts. -/
import Derived.Test.YtbngbhildijciaaTell
import Derived.WalkSpells
namespace Go.Proofs.Ytbngbhildijciaa
open Go.RowKit Go.Shelf
set_option linter.unusedVariables false
attribute [local go_sem] Oper.semAt_some

set_option maxRecDepth 100000 in
set_option maxHeartbeats 2000000 in
theorem Zero_any (A : Option Addr) (len cap : Nat) (f : Nat → Int) (hl : (len : Int) ≤ 1000000000) (hlc : len ≤ cap) (hcap : (cap : Int) ≤ 9223372036854775807) (w : World) (hb : Bs w A len f) (hf : IsByte f) :
    Calls Try.prog 36 #[.slice A len cap] w fun e W' => e = .returned (.bool (sameB f zeroF len)) ∧ Below w.heap.size w W' := by
  have Hb := hide hb
  have Hf := hide hf
  have HA : Hid (0 < len → ∀ b off, A = some ⟨b, off, none⟩ → b < w.heap.size) := fun hn b off e => by
    obtain ⟨b', off', e', hs⟩ := hb.at_ hn
    rw [e] at e'
    cases e'
    exact hs.lt hn
  clear hb hf
  refine (callsIn_wide (n := 3)).1 ?_
  refine callsIn_of_wp_marks Try.func36 rfl trivial ?_ rfl
  simp only [Try.ntmps36, List.size_toArray, List.length_cons, List.length_nil, Nat.reduceAdd, Nat.reduceSub, Array.replicate_succ, Array.replicate_zero, List.push_toArray, List.append_toArray, List.nil_append, List.cons_append]
  gi_wp2_with (refine ⟨trivial, ?_⟩; gi_at_call 53; refine (Tell_in _ _ _ _ _).mono ?_; rintro e w' ⟨rfl, rfl⟩)
  have bR := Boxed.new w 4 (.bool false)
  have bN := Boxed.new (w.alloc (.cells #[.bool false] 4)) 63 (.slice A len cap)
  rw [World.size_alloc] at bN
  have hB0 : Below w.heap.size w ((w.alloc (.cells #[.bool false] 4)).alloc (.cells #[.slice A len cap] 63)) := ((Below.refl _ w).alloc (Nat.le_refl _) _).alloc (by simp) _
  refine wpIn_rangeFunc_ownG rfl (by omega) (gf := 60) (lb := #[.pointer (some ⟨w.heap.size + 1, 0, none⟩)]) rfl trivial (enters_of Try.func60 (by kernel_rfl) rfl)
    (Tell_stops 2 (by omega) (w.heap.size + 1) (w.heap.size + 2) A len cap f hl _ (by omega) (by simp) bN.cell (fun hn b off e => by have := HA.out hn b off e; omega) (Hb.out.old hB0) Hf.out)
    belowK_t (belowK_b (by simp)) (Below.refl _ _) (fun _ => rfl)
    (fun pre W => ((∀ x ∈ pre, read 4 f len (4 * (x : Int)) = 0) ∧ W.cell? ⟨w.heap.size, 0, none⟩ = some (.bool false) ∧ W.frozen? ⟨w.heap.size, 0, none⟩ = false) ∧ Below w.heap.size w W)
    (fun c pre W => (c = .ret ∧ sameB f zeroF len = false ∧ W.cell? ⟨w.heap.size, 0, none⟩ = some (.bool false)) ∧ Below w.heap.size w W)
    (OwnFrom.and (Own.from (fun s A B row hs hg hr => ⟨hs.1, cell_kept hs.2.1 hg hr, (frozen_kept hs.2.1 hg hr).trans hs.2.2⟩) _) (ownFrom_below (Nat.le_refl _) (by simp; omega)))
    (fun c => OwnFrom.and (Own.from (fun s A B row hs hg hr => ⟨hs.1, hs.2.1, cell_kept hs.2.2 hg hr⟩) _) (ownFrom_below (Nat.le_refl _) (by simp; omega)))
    ⟨⟨by simp, (bR.alloc _).cell, (bR.alloc _).frozen⟩, hB0⟩
    (fun x => { tmps := #[.slice A len cap, undef, .pointer (some ⟨w.heap.size, 0, none⟩), undef, .int .u32 (read 4 f len (4 * (x : Int))), undef, undef, .slice A len cap, .func (.func 60) #[] #[.pointer (some ⟨w.heap.size + 1, 0, none⟩)], .int .i64 (4 * (x : Int)), .int .u32 (read 4 f len (4 * (x : Int))), undef, undef, undef, undef, undef, undef, undef, undef, undef, undef, undef, undef, undef, undef, undef, undef, undef, undef], defers := [] }) ?assign ?body ?done ?stop
  case assign =>
    intro l x W K hK
    unfold tellEnc
    gi_wp2
    exact hK
  case body =>
    rintro l pre x W ⟨⟨hp, hcr, hfr⟩, hB⟩ _
    by_cases hx : read 4 f len (4 * (x : Int)) = 0
    · have Hp : Hid (∀ y ∈ pre ++ [x], read 4 f len (4 * (y : Int)) = 0) := fun y hy => (List.mem_append.1 hy).elim (hp y) (fun e => by simp at e; subst e; exact hx)
      have hv : (read 4 f len (4 * (x : Int)) != 0) = false := by simp [hx]
      clear hp hx
      gi_wp2
      exact ⟨KeepsFrom.refl _ _, Below.refl _ _, ⟨Hp.out, hcr, hfr⟩, hB⟩
    · have hv : (read 4 f len (4 * (x : Int)) != 0) = true := by simp [hx]
      have Hs := hide (read_ne hx)
      clear hp hx
      gi_wp2
      exact ⟨(KeepsOthers.setCell _ _ _).from _, ⟨rfl, Hs.out, World.cell?_setCell_same' _ _ _ (by rw [hcr]; rfl)⟩, hB.setCell (p := ⟨w.heap.size, 0, none⟩) (Nat.le_refl _) _⟩
  case done =>
    rintro D ys W hD rfl ⟨⟨hne, hcr, hfr⟩, hB⟩ hK
    have Hz := hide (zero_words Hf.out fun x hx => hne x (List.mem_range.2 hx))
    have Hbw := hide (Hb.out.old hB)
    clear hne
    gi_wp2
    all_goals
      gi_loopw [22] (fun i wr => ∃ k : Nat, k ≤ len % 4 ∧ i = .int .i64 k ∧ (∀ j, j < k → f (len - len % 4 + j) = 0) ∧ wr = W) (fun i _ => len % 4 - (intOf i).toNat)
      case atStart => exact ⟨0, Nat.zero_le _, rfl, fun j hj => absurd hj (by omega), rfl⟩
      case round =>
        obtain ⟨k, hk, rfl, hzk, rfl⟩ := hrel
        by_cases hlt : k < len % 4
        · first
            | (exfalso; omega)
            | (obtain ⟨b, off, rfl, hs⟩ := Hbw.out.at_ (by omega)
               have hc := hs (len - len % 4 + k) (by omega)
               rw [← Nat.add_assoc] at hc
               have hkn : (k : Int) < ((len - (len - len % 4) : Nat) : Int) := by omega
               by_cases hx : f (len - len % 4 + k) = 0
               · have Hzk : Hid (∀ j, j < k + 1 → f (len - len % 4 + j) = 0) := fun j hj => by
                   by_cases e : j = k
                   · subst e; exact hx
                   · exact hzk j (by omega)
                 have hv : (f (len - len % 4 + k) != 0) = false := by simp [hx]
                 clear hx hzk hs
                 gi_wp2
                 go_roundw
                 case rel => exact ⟨k + 1, by omega, by go_num, Hzk.out, by first | rfl | trivial⟩
                 case measure => simp [intOf]; omega
               · have hv : (f (len - len % 4 + k) != 0) = true := by simp [hx]
                 have Hs : Hid (sameB f zeroF len = false) := by
                   cases e : sameB f zeroF len with
                   | false => rfl
                   | true => exact absurd ((sameB_iff f zeroF len).1 e _ (by omega)) hx
                 clear hx hzk hs
                 gi_wp2
                 have hK' := (KeepsOthers.setCell wr ⟨w.heap.size, 0, none⟩ (.bool false)).same D _ hK rfl
                 refine ⟨by simp, .inl ⟨_, _, rfl, run_takeDeferred hK', ?_⟩⟩
                 have hc5 := cell_kept (World.cell?_setCell_same' wr ⟨w.heap.size, 0, none⟩ (.bool false) (by rw [hcr]; rfl)) (grownBy_putObj' _ D (.deferred none)) (fun r e => by cases e; exact ⟨_, hK', rfl⟩)
                 refine ⟨.bool false, ?_, by rw [Hs.out], (hB.setCell (p := ⟨w.heap.size, 0, none⟩) (Nat.le_refl _) _).trans (belowK_b (w := w) (Nat.le_refl _) _ D _ _ (by simp at hD; omega) hK' rfl rfl)⟩
                 simp [results, Try.f36, go_sem, hc5])
        · have Hs : Hid (sameB f zeroF len = true) := (sameB_iff f zeroF len).2 fun i hi => by
            by_cases e : i < 4 * (len / 4)
            · exact Hz.out i e
            · have := hzk (i - (len - len % 4)) (by omega)
              rwa [show len - len % 4 + (i - (len - len % 4)) = i by omega] at this
          have hkn : ((len - (len - len % 4) : Nat) : Int) ≤ (k : Int) := by omega
          clear hzk
          gi_wp2
          have hK' := (KeepsOthers.setCell wr ⟨w.heap.size, 0, none⟩ (.bool true)).same D _ hK rfl
          refine ⟨by simp, .inl ⟨_, _, rfl, run_takeDeferred hK', ?_⟩⟩
          have hc5 := cell_kept (World.cell?_setCell_same' wr ⟨w.heap.size, 0, none⟩ (.bool true) (by rw [hcr]; rfl)) (grownBy_putObj' _ D (.deferred none)) (fun r e => by cases e; exact ⟨_, hK', rfl⟩)
          refine ⟨.bool true, ?_, by rw [Hs.out], (hB.setCell (p := ⟨w.heap.size, 0, none⟩) (Nat.le_refl _) _).trans (belowK_b (w := w) (Nat.le_refl _) _ D _ _ (by simp at hD; omega) hK' rfl rfl)⟩
          simp [results, Try.f36, go_sem, hc5]
  case stop =>
    rintro D c pre W hD ⟨k, hk, rfl⟩ ⟨⟨rfl, hs, hcr⟩, hB⟩ hK
    have Hs := hide hs
    clear hs
    gi_wp2
    refine ⟨by simp, .inl ⟨_, _, rfl, run_takeDeferred hK, ?_⟩⟩
    have hc5 := cell_kept hcr (grownBy_putObj' _ D (.deferred none)) (fun r e => by cases e; exact ⟨_, hK, rfl⟩)
    refine ⟨.bool false, ?_, by rw [Hs.out], hB.trans (belowK_b (w := w) (Nat.le_refl _) _ D _ _ (by simp at hD; omega) hK rfl rfl)⟩
    simp [results, Try.f36, go_sem, hc5]
end Go.Proofs.Ytbngbhildijciaa
