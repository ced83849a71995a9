/- How many blocks of each kind there are; a row of numbers. -/
import Derived.Test.YtcigoodmkfnnfaaLPlaces
namespace Go.Proofs.Ytcigoodmkfnnfaa
open Go.RowKit
set_option linter.unusedVariables false

/-- The first n cells of block g are numbers; none is frozen. -/
def IRow (w : World) (g n : Nat) (f : Nat → Int) : Prop := ∃ cs t, w.heap[g]? = some (.cells cs t (0, 0)) ∧ n ≤ cs.size ∧ ∀ i, i < n → cs[i]? = some (.int .i64 (f i))
section
variable {w w' : World} {g n : Nat} {f : Nat → Int}
theorem IRow.lt (h : IRow w g n f) : g < w.heap.size := by
  obtain ⟨cs, t, h, _⟩ := h
  exact lt_of_block h
theorem IRow.cell (h : IRow w g n f) {i : Nat} (hi : i < n) : w.cell? ⟨g, i, none⟩ = some (.int .i64 (f i)) := by
  obtain ⟨cs, t, h, _, hc⟩ := h
  rw [cell_of_row w g i _ t (0, 0) h]; exact hc i hi
theorem IRow.frozen (h : IRow w g n f) (i : Nat) : w.frozen? ⟨g, i, none⟩ = false := by
  obtain ⟨cs, t, h, _⟩ := h
  simp [World.frozen?, h]
theorem IRow.of_heap (h : IRow w g n f) (e : w'.heap[g]? = w.heap[g]?) : IRow w' g n f := by
  obtain ⟨cs, t, h, r⟩ := h
  exact ⟨cs, t, e.trans h, r⟩
theorem IRow.set_ (h : IRow w g n f) (i : Nat) (v : Int) : IRow (w.setCell ⟨g, i, none⟩ (.int .i64 v)) g n (upd f i v) := by
  obtain ⟨cs, t, h, hn, hc⟩ := h
  refine ⟨cs.setIfInBounds i (.int .i64 v), t, by simp [World.setCell, Array.getElem?_modify, h], by simpa using hn, fun j hj => ?_⟩
  by_cases e : i = j
  · subst e
    rw [upd_same, Array.getElem?_setIfInBounds_self_of_lt (by omega)]
  · rw [Array.getElem?_setIfInBounds_ne e, upd_other f v (fun x => e x.symm)]; exact hc j hj
theorem IRow.below {B : Nat} (h : IRow w g n f) (hb : Below B w w') (hg : g < B) : IRow w' g n f := h.of_heap (hb.block g hg)
theorem IRow.congr {f' : Nat → Int} (h : IRow w g n f) (he : ∀ i, i < n → f i = f' i) : IRow w g n f' := by
  obtain ⟨cs, t, h, hn, hc⟩ := h
  exact ⟨cs, t, h, hn, fun i hi => by rw [← he i hi]; exact hc i hi⟩
end

/-- How many of the first j blocks are of kind k. -/
def cn (a b c d k : Int) : Nat → Int
  | 0 => 0
  | j + 1 => cn a b c d k j + if thingK a b c d j = k then 1 else 0
theorem cn_bd (a b c d k : Int) : ∀ j : Nat, 0 ≤ cn a b c d k j ∧ cn a b c d k j ≤ j
  | 0 => by simp [cn]
  | j + 1 => by
    have := cn_bd a b c d k j
    unfold cn
    split <;> omega
theorem cn_add (a b c d k : Int) (j : Nat) (F : Nat → Int) (h0 : F 0 = 0) : ∀ m : Nat, (∀ r, r < m → F (r + 1) = F r + if thingK a b c d ((j + r : Nat) : Int) = k then 1 else 0) → cn a b c d k (j + m) = cn a b c d k j + F m
  | 0, _ => by rw [h0]; simp
  | m + 1, h => by
    have ih := cn_add a b c d k j F h0 m (fun r hr => h r (by omega))
    rw [← Nat.add_assoc, cn, ih, h m (by omega)]
    omega
/-- How many of the first r blocks of a group are of kind k. -/
def pr (c k r : Int) : Int :=
  if k = 4 then (if r < 1 then 0 else 1) else if k = 5 then (if r < 2 then 0 else 1)
  else if k = 6 then (if r < 2 then 0 else if r < 2 + c / 4 then r - 2 else c / 4) else if k = 7 then (if r < 2 + c / 4 then 0 else r - 2 - c / 4) else 0
theorem pr_step {c k r : Int} (hc : 4 ≤ c) (hr : 0 ≤ r) : pr c k (r + 1) = pr c k r + if thingAt c r = k then 1 else 0 := by
  unfold pr thingAt
  by_cases h4 : k = 4
  · subst h4; simp only [if_true]; repeat' split
    all_goals omega
  by_cases h5 : k = 5
  · subst h5; simp only [if_true]; repeat' split
    all_goals omega
  by_cases h6 : k = 6
  · subst h6; simp only [if_true]; repeat' split
    all_goals omega
  by_cases h7 : k = 7
  · subst h7; simp only [if_true]; repeat' split
    all_goals omega
  rw [if_neg h4, if_neg h5, if_neg h6, if_neg h7, if_neg h4, if_neg h5, if_neg h6, if_neg h7, if_neg]
  · rfl
  · repeat' split
    all_goals omega

theorem cn_head {a b c d : Int} (k : Int) (h : mayP a b c d) : cn a b c d k (2 + d.toNat) = (if k = 1 then 1 else 0) + (if k = 2 then 1 else 0) + (if k = 3 then d else 0) := by
  have hd : 40 ≤ d ∧ d ≤ 256 := h.2.2.2.2.1
  have hp := h.mul
  have e2 : cn a b c d k 2 = (if k = 1 then 1 else 0) + (if k = 2 then 1 else 0) := by
    have t0 : thingK a b c d ((0 : Nat) : Int) = 1 := by unfold thingK; rw [if_neg (by omega), if_pos (by decide)]
    have t1 : thingK a b c d ((1 : Nat) : Int) = 2 := by unfold thingK; rw [if_neg (by omega), if_neg (by decide), if_pos (by decide)]
    simp only [cn, t0, t1]
    repeat' split
    all_goals omega
  rw [cn_add a b c d k 2 (fun r => if k = 3 then (r : Int) else 0) (by split <;> rfl) d.toNat (fun r hr => ?_), e2]
  · congr 1
    split
    · omega
    · rfl
  · have t : thingK a b c d ((2 + r : Nat) : Int) = 3 := by unfold thingK; rw [if_neg (by omega), if_neg (by omega), if_neg (by omega), if_pos (by omega)]
    rw [t]
    repeat' split
    all_goals omega
theorem cn_groups {a b c d : Int} (k : Int) (h : mayP a b c d) : ∀ g : Nat, (g : Int) ≤ a → cn a b c d k (2 + d.toNat + g * b.toNat) = cn a b c d k (2 + d.toNat) + g * pr c k b
  | 0, _ => by simp
  | g + 1, hg => by
    have hd : 40 ≤ d ∧ d ≤ 256 := h.2.2.2.2.1
    have hb : 16 ≤ b ∧ b ≤ 512 := h.2.1
    have hc : 4 ≤ c ∧ c ≤ 64 := h.2.2.1
    have ih := cn_groups k h g (by omega)
    have hgp : groupP a b c d (g : Int) := ⟨h, by omega, by omega⟩
    have e : 2 + d.toNat + (g + 1) * b.toNat = 2 + d.toNat + g * b.toNat + b.toNat := by rw [Nat.add_mul]; omega
    have hbn : ((b.toNat : Nat) : Int) = b := Int.toNat_of_nonneg (by omega)
    have hdn : ((d.toNat : Nat) : Int) = d := Int.toNat_of_nonneg (by omega)
    have h0 : pr c k 0 = 0 := by unfold pr; repeat' split
                                 all_goals omega
    rw [e, cn_add a b c d k _ (fun r => pr c k (r : Int)) h0 b.toNat (fun r hr => ?_), ih, hbn, show ((g + 1 : Nat) : Int) = (g : Int) + 1 by omega, Int.add_mul]
    · omega
    · have t := (thing_in (r := (r : Int)) hgp (by omega) (by omega)).1
      have e2 : ((2 + d.toNat + g * b.toNat + r : Nat) : Int) = 2 + d + (g : Int) * b + (r : Int) := by
        rw [← hdn, ← hbn]; simp
      rw [e2, t]
      exact pr_step (r := (r : Int)) hc.1 (by omega)
theorem cn_total {a b c d : Int} (k : Int) (h : mayP a b c d) : cn a b c d k (2 + d + a * b).toNat = (if k = 1 then 1 else 0) + (if k = 2 then 1 else 0) + (if k = 3 then d else 0) + a * pr c k b := by
  have ha : 1 ≤ a ∧ a ≤ 4 := h.1
  have hb : 16 ≤ b ∧ b ≤ 512 := h.2.1
  have hd : 40 ≤ d ∧ d ≤ 256 := h.2.2.2.2.1
  have hg := cn_groups k h a.toNat (by omega)
  have hbn : ((b.toNat : Nat) : Int) = b := Int.toNat_of_nonneg (by omega)
  have hdn : ((d.toNat : Nat) : Int) = d := Int.toNat_of_nonneg (by omega)
  have han : ((a.toNat : Nat) : Int) = a := Int.toNat_of_nonneg (by omega)
  have e : (2 + d + a * b).toNat = 2 + d.toNat + a.toNat * b.toNat := by
    have : (2 + d + a * b) = ((2 + d.toNat + a.toNat * b.toNat : Nat) : Int) := by rw [← han, ← hbn, ← hdn]; simp
    rw [this]; rfl
  rw [e, hg, cn_head k h, han]
theorem counts {a b c d : Int} (h : mayP a b c d) : cn a b c d 1 (2 + d + a * b).toNat = 1 ∧ cn a b c d 2 (2 + d + a * b).toNat = 1 ∧ cn a b c d 3 (2 + d + a * b).toNat = d ∧ cn a b c d 4 (2 + d + a * b).toNat = a ∧
    cn a b c d 5 (2 + d + a * b).toNat = a ∧ 4 * cn a b c d 6 (2 + d + a * b).toNat = a * c ∧ cn a b c d 7 (2 + d + a * b).toNat = a * (b - 2 - c / 4) := by
  have hb : 16 ≤ b ∧ b ≤ 512 := h.2.1
  have hc : 4 ≤ c ∧ c ≤ 64 := h.2.2.1
  have hcm : c % 4 = 0 := h.2.2.2.1
  have hcb : 3 + c / 4 ≤ b := h.2.2.2.2.2.1
  have hc4 : c = 4 * (c / 4) := by omega
  have p6 : pr c 6 b = c / 4 := by unfold pr; rw [if_neg (by decide), if_neg (by decide), if_pos rfl, if_neg (by omega), if_neg (by omega)]
  have p7 : pr c 7 b = b - 2 - c / 4 := by unfold pr; rw [if_neg (by decide), if_neg (by decide), if_neg (by decide), if_pos rfl, if_neg (by omega)]
  have p4 : pr c 4 b = 1 := by unfold pr; rw [if_pos rfl, if_neg (by omega)]
  have p5 : pr c 5 b = 1 := by unfold pr; rw [if_neg (by decide), if_pos rfl, if_neg (by omega)]
  have p1 : pr c 1 b = 0 := rfl
  have p2 : pr c 2 b = 0 := rfl
  have p3 : pr c 3 b = 0 := rfl
  simp only [cn_total _ h, p1, p2, p3, p4, p5, p6, p7]
  refine ⟨by simp, by simp, by simp, by simp, by simp, ?_, by simp⟩
  simp only [show ¬ ((6 : Int) = 1) by decide, show ¬ ((6 : Int) = 2) by decide, show ¬ ((6 : Int) = 3) by decide, if_false]
  have : a * c = 4 * (a * (c / 4)) := by rw [← Int.mul_assoc, Int.mul_comm 4 a, Int.mul_assoc, ← hc4]
  omega

/-- What any block is. -/
theorem thing_facts {a b c d n : Int} (h : mayP a b c d) (h0 : 0 ≤ n) (h1 : n < 2 + d + a * b) :
    (1 ≤ thingK a b c d n ∧ thingK a b c d n ≤ 7) ∧ groupP a b c d (thingG a b c d n) ∧
    ((4 ≤ thingK a b c d n ∧ 2 + d + thingG a b c d n * b + thingA a b c d n = n) ∨ (thingK a b c d n = 3 ∧ thingA a b c d n + 2 = n) ∨ (thingK a b c d n ≤ 2 ∧ n = thingK a b c d n - 1)) := by
  have ha : 1 ≤ a ∧ a ≤ 4 := h.1
  have hb : 16 ≤ b ∧ b ≤ 512 := h.2.1
  have hd : 40 ≤ d ∧ d ≤ 256 := h.2.2.2.2.1
  have g0 : n < 2 + d → thingG a b c d n = 0 := fun hn => by unfold thingG; rw [if_neg (by omega)]
  have gp : groupP a b c d 0 := ⟨h, by omega, by omega⟩
  by_cases c0 : n = 0
  · subst c0
    have k : thingK a b c d 0 = 1 := by unfold thingK; rw [if_neg (by omega), if_pos rfl]
    rw [g0 (by omega), k]
    exact ⟨by omega, gp, .inr (.inr (by omega))⟩
  by_cases c1 : n = 1
  · subst c1
    have k : thingK a b c d 1 = 2 := by unfold thingK; rw [if_neg (by omega), if_neg (by omega), if_pos rfl]
    rw [g0 (by omega), k]
    exact ⟨by omega, gp, .inr (.inr (by omega))⟩
  by_cases c2 : n < 2 + d
  · have k : thingK a b c d n = 3 := by unfold thingK; rw [if_neg (by omega), if_neg (by omega), if_neg (by omega), if_pos (by omega)]
    have ka : thingA a b c d n = n - 2 := by unfold thingA; rw [if_pos (by omega)]
    rw [g0 (by omega), k, ka]
    exact ⟨by omega, gp, .inr (.inl (by omega))⟩
  · have q0 : 0 ≤ (n - (2 + d)) / b := Int.ediv_nonneg (by omega) (by omega)
    have q1 : (n - (2 + d)) / b < a := Int.ediv_lt_of_lt_mul (by omega) (by omega)
    have r0 := Int.emod_nonneg (n - (2 + d)) (show b ≠ 0 by omega)
    have r1 := Int.emod_lt_of_pos (n - (2 + d)) (show 0 < b by omega)
    have e := Int.mul_ediv_add_emod (n - (2 + d)) b
    rw [Int.mul_comm] at e
    have hg : groupP a b c d ((n - (2 + d)) / b) := ⟨h, q0, by omega⟩
    have t := thing_in hg r0 r1
    have en : 2 + d + (n - (2 + d)) / b * b + (n - (2 + d)) % b = n := by omega
    rw [en] at t
    rw [t.2.1, t.2.2.1, t.1]
    refine ⟨?_, hg, .inl ⟨?_, en⟩⟩
    · unfold thingAt; repeat' split
      all_goals omega
    · unfold thingAt; repeat' split
      all_goals omega
end Go.Proofs.Ytcigoodmkfnnfaa
