/- The walk of the law NumsZero. -/
import Derived.Test.YtmpeoajjfbhhmaaAwake
import Derived.Deep.RegionWith
namespace Go.Proofs.Ytmpeoajjfbhhmaa
open Go.RowKit Go.Shelf
set_option linter.unusedVariables false
attribute [local go_sem] Oper.semAt_some

set_option maxRecDepth 100000 in
set_option maxHeartbeats 1000000 in
theorem numsZero_law (A : Option Addr) (len cap : Nat) (f : Nat → Int) (w : World) (hlc : len ≤ cap) (hcap : (cap : Int) ≤ 9223372036854775807) (hb : Bs w A len f) (hf : IsByte f) :
    Calls Try.prog 6 #[.slice A len cap] w fun e W' => e = .returned (.bool true) ∧ Below w.heap.size w W' := by
  have Hb := hide hb
  have Hf := hide hf
  clear hb hf
  by_cases hg : (20000 : Int) < len
  · go_enter Try.func6, Try.ntmps6
    go_wp2_with (go_at_call 23; refine (awake_any _).mono ?_; rintro e w1 ⟨rfl, h1⟩; have H1 := hide h1; clear h1)
    go_ret
    exact ⟨rfl, H1.out⟩
  have hnil := run_seq_nil
  have Hg : Hid (IsByte fun i => f (len - len % 4 + i)) := fun i => Hf.out _
  refine (callsIn_wide (n := 3)).1 ?_
  refine callsIn_of_wp_marks Try.func6 rfl trivial ?_ rfl
  simp only [Try.ntmps6, List.size_toArray, List.length_cons, List.length_nil, Nat.reduceAdd, Nat.reduceSub, Array.replicate_succ, Array.replicate_zero, List.push_toArray, List.append_toArray, List.nil_append, List.cons_append]
  by_cases hck : len - len % 4 = cap
  all_goals
    have hck' : ¬ (cap = len - len % 4) ∨ len - len % 4 = cap := by omega
    clear hck'
    gi_wp2_with (first
      | (refine ⟨trivial, ?_⟩; gi_at_call 23; refine (callsIn_wide.2 (awake_any _)).mono ?_; rintro e w1 ⟨rfl, h1⟩; have H1 := hide h1; clear h1)
      | (refine ⟨trivial, ?_⟩; gi_at_call 16; refine (Tell_in _ _ _ _ _).mono ?_; rintro e w2 ⟨rfl, hw2⟩; have H2 := hide hw2; clear hw2))
    first
      | (have tok : len - len % 4 = cap := by assumption
         have e0 : len % 4 = 0 := by omega
         refine ⟨trivial, (callsIn_wide.2 (Zero_any _ _ _ (fun i => f (len - len % 4 + i)) (by omega) (by omega) (by omega) _ (Bs.none_ _ _ _ (by omega)) Hg.out)).mono ?_⟩
         rintro e w3 ⟨rfl, h3⟩
         rw [show sameB (fun i => f (len - len % 4 + i)) zeroF 0 = sameB (fun i => f (len - len % 4 + i)) zeroF (len % 4) by rw [e0]]
         generalize Value.slice A (len - (len - len % 4)) (cap - (len - len % 4)) = sv
         clear tok e0)
      | (have tok : ¬ len - len % 4 = cap := by assumption
         have Hb2 : Hid (Bs w2 A len f) := Hb.out.old (by rw [H2.out]; exact H1.out.alloc H1.out.size _)
         refine ⟨trivial, (callsIn_wide.2 (Zero_any _ _ _ (fun i => f (len - len % 4 + i)) (by omega) (by omega) (by omega) _ (Hb2.out.from_ (by omega)) Hg.out)).mono ?_⟩
         rintro e w3 ⟨rfl, h3⟩
         rw [show sameB (fun i => f (len - len % 4 + i)) zeroF (len - (len - len % 4)) = sameB (fun i => f (len - len % 4 + i)) zeroF (len % 4) by rw [show len - (len - len % 4) = len % 4 by omega]]
         generalize Value.slice (Option.map (fun x => x.add (len - len % 4)) A) (len - (len - len % 4)) (cap - (len - len % 4)) = sv
         clear tok Hb2)
    have H3 := hide h3
    clear h3
    obtain ⟨z, hz⟩ : ∃ z, sameB (fun i => f (len - len % 4 + i)) zeroF (len % 4) = z := ⟨_, rfl⟩
    rw [hz]
    have Hz := hide hz
    have HB2 : Hid (Below w.heap.size w w2) := by rw [Hid, H2.out]; exact H1.out.alloc H1.out.size _
    have HB3 : Hid (Below w.heap.size w w3) := HB2.out.trans (H3.out.mono HB2.out.size)
    have hbx : w3.cell? ⟨w1.heap.size, 0, none⟩ = some (.slice A len cap) := by
      have h := Boxed.new w1 22 (.slice A len cap)
      rw [← H2.out] at h
      exact (H3.out.cell (p := ⟨w1.heap.size, 0, none⟩) h.lt).trans h.cell
    have hlt1 : w1.heap.size < w3.heap.size := block_lt_of_cell hbx
    have HX := hide hbx
    clear hz hck hbx
    gi_wp2
    have bA := Boxed.new w3 4 (.bool z)
    have bN := Boxed.new (w3.alloc (.cells #[.bool z] 4)) 3 (.int .i64 0)
    rw [World.size_alloc] at bN
    have hB0 : Below w3.heap.size w3 ((w3.alloc (.cells #[.bool z] 4)).alloc (.cells #[.int .i64 0] 3)) := ((Below.refl _ w3).alloc (Nat.le_refl _) _).alloc (by simp) _
    refine wpIn_rangeFunc_ownG rfl (by omega) (gf := 26) (lb := #[.pointer (some ⟨w1.heap.size, 0, none⟩)]) rfl trivial (enters_of Try.func26 (by kernel_rfl) rfl)
      (Tell_stops 2 (by omega) w1.heap.size w3.heap.size A len cap f (by omega) _ hlt1 (by simp; omega) ((hB0.cell (p := ⟨w1.heap.size, 0, none⟩) hlt1).trans HX.out) (fun hn b off e => by
        obtain ⟨b', off', e', hs⟩ := (Hb.out.old HB3.out).at_ hn
        rw [e] at e'
        cases e'
        exact hs.lt hn) (Hb.out.old (HB3.out.trans (hB0.mono HB3.out.size))) Hf.out)
      belowK_t (belowK_b (by simp; omega)) (Below.refl _ _) (fun _ => rfl)
      (fun pre W => ((W.cell? ⟨w3.heap.size, 0, none⟩ = some (.bool (z && pre.all fun x => read 4 f len (4 * (x : Int)) == 0)) ∧ W.frozen? ⟨w3.heap.size, 0, none⟩ = false) ∧
        W.cell? ⟨w3.heap.size + 1, 0, none⟩ = some (.int .i64 pre.length) ∧ W.frozen? ⟨w3.heap.size + 1, 0, none⟩ = false) ∧ Below w3.heap.size w3 W)
      (fun _ _ _ => False)
      (OwnFrom.and (Own.from (fun s A B row hs hg hr => ⟨⟨cell_kept hs.1.1 hg hr, (frozen_kept hs.1.1 hg hr).trans hs.1.2⟩, cell_kept hs.2.1 hg hr, (frozen_kept hs.2.1 hg hr).trans hs.2.2⟩) _) (ownFrom_below (Nat.le_refl _) (by simp; omega)))
      (fun _ _ _ _ _ hs _ _ => hs)
      ⟨⟨⟨by rw [(bA.alloc _).cell]; simp, (bA.alloc _).frozen⟩, bN.cell, bN.frozen⟩, hB0⟩
      (fun x => { tmps := #[.slice A len cap, undef, .bool false, .func (.func 26) #[] #[.pointer (some ⟨w1.heap.size, 0, none⟩)], .pointer (some ⟨w3.heap.size, 0, none⟩), .pointer (some ⟨w3.heap.size + 1, 0, none⟩), undef, .int .u32 (read 4 f len (4 * (x : Int))), .bool true, .bool false, .slice A len cap, .int .i64 len, .bool (decide (20000 < (len : Int))), .slice A len cap, .func (.func 26) #[] #[.pointer (some ⟨w1.heap.size, 0, none⟩)], .func (.func 26) #[] #[.pointer (some ⟨w1.heap.size, 0, none⟩)], .bool false, .slice A len cap, .slice A len cap, .int .i64 len, .slice A len cap, .int .i64 len, .int .i64 ((len : Int) % 4), .int .i64 ((len : Int) - (len : Int) % 4), sv, .bool z, .func (.func 26) #[] #[.pointer (some ⟨w1.heap.size, 0, none⟩)], .int .i64 (4 * (x : Int)), .int .u32 (read 4 f len (4 * (x : Int))), undef, undef, undef, undef, undef, undef, undef, undef, undef, undef, undef, undef, undef, undef, undef, undef, undef, undef], defers := [] }) ?assign ?body ?done ?stop
    case assign =>
      intro l x W K hK
      unfold tellEnc
      gi_wp2
      exact hK
    case stop =>
      rintro D c pre W _ _ h _
      exact h.elim
    case body =>
      rintro l pre x W ⟨⟨⟨hca, hfa⟩, hcn, hfn⟩, hB⟩ hlen
      have hpl : (pre.length : Int) ≤ 5000 := by omega
      have HA2 : Hid ((z && (pre ++ [x]).all fun x => read 4 f len (4 * (x : Int)) == 0) = ((z && pre.all fun x => read 4 f len (4 * (x : Int)) == 0) && (read 4 f len (4 * (x : Int)) == 0))) := by
        simp [Hid, List.all_append, Bool.and_assoc]
      have HN2 : Hid ((pre ++ [x]).length = pre.length + 1) := by simp [Hid]
      generalize (z && pre.all fun x => read 4 f len (4 * (x : Int)) == 0) = y at hca HA2
      clear hlen
      have Hc := hide hca
      have Hn := hide hcn
      cases y with
      | true =>
        gi_wp2
        refine ⟨((KeepsOthers.setCell W ⟨w3.heap.size, 0, none⟩ _).trans (KeepsOthers.setCell _ ⟨w3.heap.size + 1, 0, none⟩ _)).from _, ((Below.refl w3.heap.size W).setCell (p := ⟨w3.heap.size, 0, none⟩) (Nat.le_refl _) _).setCell (p := ⟨w3.heap.size + 1, 0, none⟩) (by simp) _, ⟨⟨?_, ?_⟩, ?_, ?_⟩, (hB.setCell (p := ⟨w3.heap.size, 0, none⟩) (Nat.le_refl _) _).setCell (p := ⟨w3.heap.size + 1, 0, none⟩) (by simp) _⟩
        · rw [HA2.out, World.cell?_setCell_other _ _ _ _ (by simp)]
          exact World.cell?_setCell_same' _ _ _ (by rw [Hc.out]; rfl)
        · rw [World.frozen?_setCell, World.frozen?_setCell]; exact hfa
        · rw [HN2.out]
          refine (World.cell?_setCell_same' _ _ _ ?_).trans ?_
          · rw [World.cell?_setCell_other _ _ _ _ (by simp), Hn.out]; rfl
          · go_num
        · rw [World.frozen?_setCell, World.frozen?_setCell]; exact hfn
      | false =>
        gi_wp2
        refine ⟨((KeepsOthers.setCell W ⟨w3.heap.size, 0, none⟩ _).trans (KeepsOthers.setCell _ ⟨w3.heap.size + 1, 0, none⟩ _)).from _, ((Below.refl w3.heap.size W).setCell (p := ⟨w3.heap.size, 0, none⟩) (Nat.le_refl _) _).setCell (p := ⟨w3.heap.size + 1, 0, none⟩) (by simp) _, ⟨⟨?_, ?_⟩, ?_, ?_⟩, (hB.setCell (p := ⟨w3.heap.size, 0, none⟩) (Nat.le_refl _) _).setCell (p := ⟨w3.heap.size + 1, 0, none⟩) (by simp) _⟩
        · rw [HA2.out, World.cell?_setCell_other _ _ _ _ (by simp)]
          exact World.cell?_setCell_same' _ _ _ (by rw [Hc.out]; rfl)
        · rw [World.frozen?_setCell, World.frozen?_setCell]; exact hfa
        · rw [HN2.out]
          refine (World.cell?_setCell_same' _ _ _ ?_).trans ?_
          · rw [World.cell?_setCell_other _ _ _ _ (by simp), Hn.out]; rfl
          · go_num
        · rw [World.frozen?_setCell, World.frozen?_setCell]; exact hfn
    case done =>
      rintro D ys W hD rfl ⟨⟨⟨hca, hfa⟩, hcn, hfn⟩, hB⟩ hK
      have HE : Hid ((z && (List.range (len / 4)).all fun x => read 4 f len (4 * (x : Int)) == 0) = sameB f zeroF len) := by
        rw [Hid, Bool.eq_iff_iff, Bool.and_eq_true, List.all_eq_true, ← Hz.out, sameB_iff, sameB_iff]
        constructor
        · rintro ⟨h1, h2⟩ i hi
          by_cases e : i < 4 * (len / 4)
          · exact zero_words Hf.out (fun x hx => by simpa using h2 x (List.mem_range.2 hx)) i e
          · have := h1 (i - (len - len % 4)) (by omega)
            rwa [show len - len % 4 + (i - (len - len % 4)) = i by omega] at this
        · intro h
          refine ⟨fun i hi => h _ (by omega), fun x hx => ?_⟩
          have hx' := List.mem_range.1 hx
          have e : (4 * (x : Int)) = ((4 * x : Nat) : Int) := by omega
          rw [beq_iff_eq, e, read_yes (by omega)]
          exact part_zero fun i hi => h _ (by omega)
      rw [HE.out] at hca
      rw [List.length_range] at hcn
      have Hbw := hide (Hb.out.old (HB3.out.trans (hB.mono HB3.out.size)))
      clear HE
      have Hc := hide hca
      have Hne : Hid (Below w.heap.size w W) := HB3.out.trans (hB.mono HB3.out.size)
      have HB3s := HB3.out.size
      clear HB2 HB3 H3 H2 H1 HX
      have hgd : (((len / 4 : Nat) : Int) == (len : Int) / 4) = true := by simp
      gi_wp2
      refine wpIn_wide.2 (wp_justNormal ?_)
      have hq : IntKind.i64.wrap ((len : Int) / 4) = (len : Int) / 4 := IntWalk.i64_in _ (by omega)
      go_region_with ((go_at_call 21; refine (Zero_any A len cap f (by omega) hlc hcap _ Hbw.out.drew Hf.out).mono ?_; rintro e w4 ⟨rfl, h4⟩; have H4 := hide h4; have hc4 := (h4.cell (p := ⟨w3.heap.size, 0, none⟩) (block_lt_of_cell (w := W) Hc.out)).trans Hc.out; clear h4))
      all_goals
        simp only [justNormal]
        gi_wp2
        have hK' := (H4.out.block D (Array.getElem?_eq_some_iff.1 hK).1).trans hK
        refine ⟨by simp, .inl ⟨_, _, rfl, run_takeDeferred hK', ?_⟩⟩
        refine ⟨.bool true, (results_tmp rfl _ _ _).trans rfl, rfl, ?_⟩
        exact (Hne.out.drew.trans (H4.out.mono Hne.out.size)).trans (belowK_b (w := w) (Nat.le_refl _) _ D _ _ (by have := HB3s; simp at hD; omega) hK' rfl rfl)
end Go.Proofs.Ytmpeoajjfbhhmaa
