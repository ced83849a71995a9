/- Of the geometry: what the document's answer tells. -/
import Derived.Test.YtbngbhildijciaaSupG
import Derived.BigQuiet
import Derived.BigRegion
import Derived.Deep.QuietTactic
import Derived.IntWalk
import Derived.Lib.SmallJoins
import Derived.Maps.AppendAt
import Derived.OwnWalk
namespace Go.Proofs.Ytbngbhildijciaa
open Go.RowKit
set_option linter.unusedVariables false

/-- Is it a group? -/
def groupP (a b c d g : Int) : Prop := mayP a b c d ∧ 0 ≤ g ∧ g ≤ a - 1
theorem groupP.mul {a b c d g : Int} (h : groupP a b c d g) : 0 ≤ g * b ∧ g * b ≤ 2048 := by
  obtain ⟨h, h1, h2⟩ := h
  obtain ⟨q1, q2, q3, q4, q5, q6, q7⟩ := h
  exact ⟨Int.mul_nonneg (by omega) (by omega), Int.le_trans (Int.mul_le_mul (show g ≤ 4 by omega) q2.2 (by omega) (by omega)) (by omega)⟩

/-- Is it an inode's number? -/
def inoP (a b c d n : Int) : Prop := mayP a b c d ∧ 1 ≤ n ∧ n ≤ a * c
theorem inoP.group {a b c d n : Int} (h : inoP a b c d n) : groupP a b c d ((n - 1) / c) := by
  obtain ⟨hm, n1, n2⟩ := h
  have q3 : 4 ≤ c := hm.2.2.1.1
  refine ⟨hm, Int.ediv_nonneg (by omega) (by omega), ?_⟩
  have : (n - 1) / c < a := Int.ediv_lt_of_lt_mul (by omega) (by omega)
  omega
/-- geo.What's own four blocks: the geometry, its three results. -/
structure Lay (w : World) (n : Nat) (a b c d : Int) (k : Int) (x y : Int) : Prop where
  geo : w.heap[n]? = some (.cells #[.int .i64 a, .int .i64 b, .int .i64 c, .int .i64 d] 23 (0, 0))
  kind : w.heap[n + 1]? = some (.cells #[.int .u8 k] 5 (0, 0))
  fst : w.heap[n + 1 + 1]? = some (.cells #[.int .i64 x] 3 (0, 0))
  snd : w.heap[n + 1 + 1 + 1]? = some (.cells #[.int .i64 y] 3 (0, 0))
theorem Lay.cells {w : World} {n : Nat} {a b c d k x y : Int} (h : Lay w n a b c d k x y) :
    (w.cell? ⟨n, 0, none⟩ = some (.int .i64 a) ∧ w.cell? ⟨n, 1, none⟩ = some (.int .i64 b) ∧ w.cell? ⟨n, 2, none⟩ = some (.int .i64 c) ∧ w.cell? ⟨n, 3, none⟩ = some (.int .i64 d)) ∧
    (w.cell? ⟨n + 1, 0, none⟩ = some (.int .u8 k) ∧ w.cell? ⟨n + 1 + 1, 0, none⟩ = some (.int .i64 x) ∧ w.cell? ⟨n + 1 + 1 + 1, 0, none⟩ = some (.int .i64 y)) ∧
    (w.frozen? ⟨n + 1, 0, none⟩ = false ∧ w.frozen? ⟨n + 1 + 1, 0, none⟩ = false ∧ w.frozen? ⟨n + 1 + 1 + 1, 0, none⟩ = false) := by
  refine ⟨⟨?_, ?_, ?_, ?_⟩, ⟨?_, ?_, ?_⟩, ?_, ?_, ?_⟩
  iterate 4 (rw [cell_of_row _ _ _ _ _ _ h.geo]; rfl)
  · rw [cell_of_row _ _ _ _ _ _ h.kind]; rfl
  · rw [cell_of_row _ _ _ _ _ _ h.fst]; rfl
  · rw [cell_of_row _ _ _ _ _ _ h.snd]; rfl
  · simp [World.frozen?, h.kind]
  · simp [World.frozen?, h.fst]
  · simp [World.frozen?, h.snd]

/-- What the block at of a group is. -/
def thingAt (c at_ : Int) : Int := if at_ < 1 then 4 else if at_ < 2 then 5 else if at_ < 2 + c / 4 then 6 else 7

/-- What a block is, of a geometry that may be. -/
def thingK (a b c d n : Int) : Int := if n < 0 ∨ 2 + d + a * b ≤ n then 0 else if n = 0 then 1 else if n = 1 then 2 else if n < 2 + d then 3 else thingAt c ((n - (2 + d)) % b)
def thingG (a b c d n : Int) : Int := if 2 + d ≤ n ∧ n < 2 + d + a * b then (n - (2 + d)) / b else 0
def thingA (a b c d n : Int) : Int := if 2 ≤ n ∧ n < 2 + d then n - 2 else if 2 + d ≤ n ∧ n < 2 + d + a * b then (n - (2 + d)) % b else 0
/-- What lay ahead of W lies as it lay; block n is a geometry. -/
structure GAt (W : World) (n : Nat) (a b c d : Int) (w : World) : Prop where
  old : Below W.heap.size W w
  geo : w.heap[n]? = some (.cells #[.int .i64 a, .int .i64 b, .int .i64 c, .int .i64 d] 23 (0, 0))
theorem GAt.step {W w w' : World} {n : Nat} {a b c d : Int} (h : GAt W n a b c d w) (k : Below w.heap.size w w') : GAt W n a b c d w' :=
  ⟨B_then h.old k, (k.block _ (lt_of_block h.geo)).trans h.geo⟩
theorem GAt.cells {W w : World} {n : Nat} {a b c d : Int} (h : GAt W n a b c d w) :
    w.cell? ⟨n, 0, none⟩ = some (.int .i64 a) ∧ w.cell? ⟨n, 1, none⟩ = some (.int .i64 b) ∧ w.cell? ⟨n, 2, none⟩ = some (.int .i64 c) ∧ w.cell? ⟨n, 3, none⟩ = some (.int .i64 d) := by
  refine ⟨?_, ?_, ?_, ?_⟩ <;> (rw [cell_of_row _ _ _ _ _ _ h.geo]; rfl)
theorem GAt.new (W : World) (a b c d : Int) : GAt W W.heap.size a b c d (W.alloc (.cells #[.int .i64 a, .int .i64 b, .int .i64 c, .int .i64 d] 23)) :=
  ⟨(Below.refl _ W).alloc (Nat.le_refl _) _, heap_alloc_new W _⟩
/-- Block r of group g. -/
theorem thing_in {a b c d g r : Int} (h : groupP a b c d g) (hr0 : 0 ≤ r) (hr : r < b) : thingK a b c d (2 + d + g * b + r) = thingAt c r ∧ thingG a b c d (2 + d + g * b + r) = g ∧ thingA a b c d (2 + d + g * b + r) = r ∧ 0 ≤ 2 + d + g * b + r ∧ 2 + d + g * b + r < 2 + d + a * b := by
  have hb : 16 ≤ b ∧ b ≤ 512 := h.1.2.1
  have hd : 40 ≤ d ∧ d ≤ 256 := h.1.2.2.2.2.1
  have hg := h.mul
  have h1 := h.2.1
  have h2 := h.2.2
  have hlt : g * b + b ≤ a * b := by
    have := Int.mul_le_mul_of_nonneg_right (show g + 1 ≤ a by omega) (show 0 ≤ b by omega)
    rw [Int.add_mul] at this; omega
  have e : 2 + d + g * b + r - (2 + d) = r + b * g := by rw [Int.mul_comm b g]; omega
  have e1 : (r + b * g) % b = r := by rw [Int.add_mul_emod_self_left]; exact Int.emod_eq_of_lt hr0 hr
  have e2 : (r + b * g) / b = g := by rw [Int.add_mul_ediv_left _ _ (by omega), Int.ediv_eq_zero_of_lt hr0 hr]; omega
  refine ⟨?_, ?_, ?_, by omega, by omega⟩
  · unfold thingK; rw [if_neg (by omega), if_neg (by omega), if_neg (by omega), if_neg (by omega), e, e1]
  · unfold thingG; rw [if_pos (by omega), e, e2]
  · unfold thingA; rw [if_neg (by omega), if_pos (by omega), e, e1]
/-- How many of the first r blocks of a group are of kind k. -/
def pr (c k r : Int) : Int :=
  if k = 4 then (if r < 1 then 0 else 1) else if k = 5 then (if r < 2 then 0 else 1)
  else if k = 6 then (if r < 2 then 0 else if r < 2 + c / 4 then r - 2 else c / 4) else if k = 7 then (if r < 2 + c / 4 then 0 else r - 2 - c / 4) else 0
theorem pr_step {c k r : Int} (hc : 4 ≤ c) (hr : 0 ≤ r) : pr c k (r + 1) = pr c k r + if thingAt c r = k then 1 else 0 := by
  unfold pr thingAt
  by_cases h4 : k = 4
  · subst h4; simp only [if_true]; repeat' split
    all_goals omega
  by_cases h5 : k = 5
  · subst h5; simp only [if_true]; repeat' split
    all_goals omega
  by_cases h6 : k = 6
  · subst h6; simp only [if_true]; repeat' split
    all_goals omega
  by_cases h7 : k = 7
  · subst h7; simp only [if_true]; repeat' split
    all_goals omega
  rw [if_neg h4, if_neg h5, if_neg h6, if_neg h7, if_neg h4, if_neg h5, if_neg h6, if_neg h7, if_neg]
  · rfl
  · repeat' split
    all_goals omega

/-- What any block is. -/
theorem thing_facts {a b c d n : Int} (h : mayP a b c d) (h0 : 0 ≤ n) (h1 : n < 2 + d + a * b) :
    (1 ≤ thingK a b c d n ∧ thingK a b c d n ≤ 7) ∧ groupP a b c d (thingG a b c d n) ∧
    ((4 ≤ thingK a b c d n ∧ 2 + d + thingG a b c d n * b + thingA a b c d n = n) ∨ (thingK a b c d n = 3 ∧ thingA a b c d n + 2 = n) ∨ (thingK a b c d n ≤ 2 ∧ n = thingK a b c d n - 1)) := by
  have ha : 1 ≤ a ∧ a ≤ 4 := h.1
  have hb : 16 ≤ b ∧ b ≤ 512 := h.2.1
  have hd : 40 ≤ d ∧ d ≤ 256 := h.2.2.2.2.1
  have g0 : n < 2 + d → thingG a b c d n = 0 := fun hn => by unfold thingG; rw [if_neg (by omega)]
  have gp : groupP a b c d 0 := ⟨h, by omega, by omega⟩
  by_cases c0 : n = 0
  · subst c0
    have k : thingK a b c d 0 = 1 := by unfold thingK; rw [if_neg (by omega), if_pos rfl]
    rw [g0 (by omega), k]
    exact ⟨by omega, gp, .inr (.inr (by omega))⟩
  by_cases c1 : n = 1
  · subst c1
    have k : thingK a b c d 1 = 2 := by unfold thingK; rw [if_neg (by omega), if_neg (by omega), if_pos rfl]
    rw [g0 (by omega), k]
    exact ⟨by omega, gp, .inr (.inr (by omega))⟩
  by_cases c2 : n < 2 + d
  · have k : thingK a b c d n = 3 := by unfold thingK; rw [if_neg (by omega), if_neg (by omega), if_neg (by omega), if_pos (by omega)]
    have ka : thingA a b c d n = n - 2 := by unfold thingA; rw [if_pos (by omega)]
    rw [g0 (by omega), k, ka]
    exact ⟨by omega, gp, .inr (.inl (by omega))⟩
  · have q0 : 0 ≤ (n - (2 + d)) / b := Int.ediv_nonneg (by omega) (by omega)
    have q1 : (n - (2 + d)) / b < a := Int.ediv_lt_of_lt_mul (by omega) (by omega)
    have r0 := Int.emod_nonneg (n - (2 + d)) (show b ≠ 0 by omega)
    have r1 := Int.emod_lt_of_pos (n - (2 + d)) (show 0 < b by omega)
    have e := Int.mul_ediv_add_emod (n - (2 + d)) b
    rw [Int.mul_comm] at e
    have hg : groupP a b c d ((n - (2 + d)) / b) := ⟨h, q0, by omega⟩
    have t := thing_in hg r0 r1
    have en : 2 + d + (n - (2 + d)) / b * b + (n - (2 + d)) % b = n := by omega
    rw [en] at t
    rw [t.2.1, t.2.2.1, t.1]
    refine ⟨?_, hg, .inl ⟨?_, en⟩⟩
    · unfold thingAt; repeat' split
      all_goals omega
    · unfold thingAt; repeat' split
      all_goals omega
/-- Of a table's block: the number of its first inode. -/
def inoAt (c g r : Int) : Int := if 2 ≤ r ∧ r < 2 + c / 4 then 1 + g * c + 4 * (r - 2) else 0
def thingI (a b c d n : Int) : Int := if 2 + d ≤ n ∧ n < 2 + d + a * b then inoAt c ((n - (2 + d)) / b) ((n - (2 + d)) % b) else 0
def th4 (a b c d n : Int) : List Value := [.int .u8 (thingK a b c d n), .int .i64 (thingG a b c d n), .int .i64 (thingA a b c d n), .int .i64 (thingI a b c d n)]
/-- The first n blocks, one by one. -/
def thL (a b c d : Int) : Nat → List Value
  | 0 => []
  | n + 1 => thL a b c d n ++ th4 a b c d n
theorem thL_length (a b c d : Int) : ∀ n, (thL a b c d n).length = n * 4
  | 0 => rfl
  | n + 1 => by simp only [thL, List.length_append, thL_length a b c d n, th4, List.length_cons, List.length_nil]; omega
theorem thL_get (a b c d : Int) (f : Nat) (hf : f < 4) : ∀ n i, i < n → (thL a b c d n)[i * 4 + f]? = (th4 a b c d i)[f]?
  | 0, i, h => absurd h (by omega)
  | n + 1, i, h => by
    simp only [thL]
    by_cases e : i < n
    · rw [List.getElem?_append_left (by rw [thL_length]; omega)]
      exact thL_get a b c d f hf n i e
    · obtain rfl : i = n := by omega
      rw [List.getElem?_append_right (by rw [thL_length]; omega), thL_length, Nat.add_sub_cancel_left]
theorem thing_inI {a b c d g r : Int} (h : groupP a b c d g) (hr0 : 0 ≤ r) (hr : r < b) : thingI a b c d (2 + d + g * b + r) = inoAt c g r := by
  have hb : 16 ≤ b ∧ b ≤ 512 := h.1.2.1
  have t := (thing_in h hr0 hr).2.2.2
  have hg := h.mul
  have e : 2 + d + g * b + r - (2 + d) = r + b * g := by rw [Int.mul_comm b g]; omega
  have e1 : (r + b * g) % b = r := by rw [Int.add_mul_emod_self_left]; exact Int.emod_eq_of_lt hr0 hr
  have e2 : (r + b * g) / b = g := by rw [Int.add_mul_ediv_left _ _ (by omega), Int.ediv_eq_zero_of_lt hr0 hr]; omega
  unfold thingI
  rw [if_pos (by omega), e, e1, e2]
theorem th4_in {a b c d g r n : Int} (h : groupP a b c d g) (hr0 : 0 ≤ r) (hr : r < b) (hn : n = 2 + d + g * b + r) : th4 a b c d n = [.int .u8 (thingAt c r), .int .i64 g, .int .i64 r, .int .i64 (inoAt c g r)] := by
  subst hn
  have t := thing_in h hr0 hr
  unfold th4
  rw [t.1, t.2.1, t.2.2.1, thing_inI h hr0 hr]

/-- append onto a list of things of the call's own. -/
theorem thing_info : (Try.prog.info? 97).map (fun i => (i.zero, i.size, i.bytes)) = some (some (.agg #[.int .u8 0, .int .i64 0, .int .i64 0, .int .i64 0]), 4, 32) := by kernel_rfl
theorem appT {ops : Array Oper} {rest : List Oper} {o : Oper} {a : Act} {w : World} {Q : Exit → Act → World → Prop} (hgd : o.guard = none) (s x : Operand)
    (ho : o.op = .call { callee := .builtin .append, args := #[s, x], argTypes := #[94, 94] })
    (base n m c : Nat) (v : Value) (xs : List Value) (cs : Array Value) (hs : a.eval s = v) (hown : w.ownsRow base 97 4 v n xs) (hx : a.eval x = .slice (some ⟨w.heap.size, 0, none⟩) m c)
    (hcs : cs.size = m * 4) (h1 : ∀ u ∈ cs.toList, u.oneCell' = true) (hlen : n + m ≤ 100000) (hbase : base ≤ w.heap.size)
    (k : ∀ v' w', w'.ownsRow base 97 4 v' (n + m) (xs ++ cs.toList) → Below base w w' → wpList Try.prog ops Q rest (a.put o.dst v') w') : wpList Try.prog ops Q (o :: rest) a (w.alloc (.cells cs 97)) := by
  obtain ⟨i0, hi, hz0, hz1, hz2⟩ := info_parts thing_info
  obtain ⟨v', w', hrun, h2, h3, _, _⟩ := run_append_own_at (P := Try.prog) (w.alloc (.cells cs 97)) base _ o.type _ i0 _ 4 32 Try.underlying94 hi hz0 hz1 hz2 rfl (by omega) v n xs (hown.alloc _) ⟨w.heap.size, 0, none⟩ m c cs.toList (by rw [Array.length_toList, hcs])
    (fun j u hu => by
      have hc : (w.alloc (.cells cs 97)).cell? ⟨w.heap.size, j, none⟩ = some u := by
        rw [cell_of_row _ _ _ cs 97 (0, 0) (heap_alloc_new w _), ← Array.getElem?_toList]; exact hu
      unfold Addr.add
      split
      · rename_i e; subst e; exact hc
      · simpa using hc) h1 (by unfold maxLen; omega) (by omega) (by simp; omega)
  refine wpList_plain hgd fun _ hK => ?_
  unfold Oper.wp execOp
  simp only [ho, resolve, invoke, builtin, Sem.run_bind, Sem.run_pure, Result.andThen_ok, List.map_toArray, List.map_cons, List.map_nil, hs, hx]
  rw [hrun]
  refine hK _ _ (k v' w' h2 ?_)
  exact ((Below.refl base w).alloc hbase _).trans ((Below.refl _ _).grown h3 (by simp; omega) fun k hk => (World.ownsRow.lt hown k hk).1)
theorem GAt.grow {W w w' : World} {n B : Nat} {a b c d : Int} (h : GAt W n a b c d w) (k : Below B w w') (hn : n < B) (hW : W.heap.size ≤ B) : GAt W n a b c d w' :=
  ⟨h.old.trans (k.mono hW), (k.block _ hn).trans h.geo⟩

/-- What the document's list of all is good for. -/
def AllPost (a b c d : Int) (w : World) (e : Ending) (w' : World) : Prop := ∃ v, e = .returned v ∧ w'.ownsRow (w.heap.size + 1) 97 4 v (2 + d + a * b).toNat (thL a b c d (2 + d + a * b).toNat) ∧ Below w.heap.size w w'
set_option maxHeartbeats 2000000 in
theorem refMay_any (a b c d : Int) (w : World) :
    Calls Try.prog 27 #[geoV a b c d] w fun e w' => e = .returned (.bool (mayB a b c d)) ∧ Below w.heap.size w w' := by
  have HB : Hid (∀ o, Below w.heap.size w (w.alloc o)) := fun o => (Below.refl _ _).alloc (Nat.le_refl _) o
  by_cases c0 : 1 ≤ a
  case neg =>
    have H : Hid (mayB a b c d = false) := decide_eq_false fun h => c0 h.1.1
    have n0 : a < 1 := by omega
    unfold geoV
    go_enter Try.func27, Try.ntmps27
    go_wp2
    go_ret
    exact ⟨by rw [H.out]; rfl, HB.out _⟩
  by_cases c1 : a ≤ 4
  case neg =>
    have H : Hid (mayB a b c d = false) := decide_eq_false fun h => c1 h.1.2
    have n1 : 4 < a := by omega
    unfold geoV
    go_enter Try.func27, Try.ntmps27
    go_wp2
    go_ret
    exact ⟨by rw [H.out]; rfl, HB.out _⟩
  by_cases c2 : 16 ≤ b
  case neg =>
    have H : Hid (mayB a b c d = false) := decide_eq_false fun h => c2 h.2.1.1
    have n2 : b < 16 := by omega
    unfold geoV
    go_enter Try.func27, Try.ntmps27
    go_wp2
    go_ret
    exact ⟨by rw [H.out]; rfl, HB.out _⟩
  by_cases c3 : b ≤ 512
  case neg =>
    have H : Hid (mayB a b c d = false) := decide_eq_false fun h => c3 h.2.1.2
    have n3 : 512 < b := by omega
    unfold geoV
    go_enter Try.func27, Try.ntmps27
    go_wp2
    go_ret
    exact ⟨by rw [H.out]; rfl, HB.out _⟩
  by_cases c4 : 4 ≤ c
  case neg =>
    have H : Hid (mayB a b c d = false) := decide_eq_false fun h => c4 h.2.2.1.1
    have n4 : c < 4 := by omega
    unfold geoV
    go_enter Try.func27, Try.ntmps27
    go_wp2
    go_ret
    exact ⟨by rw [H.out]; rfl, HB.out _⟩
  by_cases c5 : c ≤ 64
  case neg =>
    have H : Hid (mayB a b c d = false) := decide_eq_false fun h => c5 h.2.2.1.2
    have n5 : 64 < c := by omega
    unfold geoV
    go_enter Try.func27, Try.ntmps27
    go_wp2
    go_ret
    exact ⟨by rw [H.out]; rfl, HB.out _⟩
  by_cases c6 : c % 4 = 0
  case neg =>
    have H : Hid (mayB a b c d = false) := decide_eq_false fun h => c6 h.2.2.2.1
    have m6 : (c % 4 != 0) = true := by simp; omega
    have c0' : 0 ≤ c := by omega
    unfold geoV
    go_enter Try.func27, Try.ntmps27
    go_wp2
    go_ret
    exact ⟨by rw [H.out]; rfl, HB.out _⟩
  by_cases c7 : 40 ≤ d
  case neg =>
    have H : Hid (mayB a b c d = false) := decide_eq_false fun h => c7 h.2.2.2.2.1.1
    have n7 : d < 40 := by omega
    have m6 : (c % 4 != 0) = false := by simp; omega
    have c0' : 0 ≤ c := by omega
    unfold geoV
    go_enter Try.func27, Try.ntmps27
    go_wp2
    go_ret
    exact ⟨by rw [H.out]; rfl, HB.out _⟩
  by_cases c8 : d ≤ 256
  case neg =>
    have H : Hid (mayB a b c d = false) := decide_eq_false fun h => c8 h.2.2.2.2.1.2
    have n8 : 256 < d := by omega
    have m6 : (c % 4 != 0) = false := by simp; omega
    have c0' : 0 ≤ c := by omega
    unfold geoV
    go_enter Try.func27, Try.ntmps27
    go_wp2
    go_ret
    exact ⟨by rw [H.out]; rfl, HB.out _⟩
  by_cases c9 : 3 + c / 4 ≤ b
  case neg =>
    have H : Hid (mayB a b c d = false) := decide_eq_false fun h => c9 h.2.2.2.2.2.1
    have m6 : (c % 4 != 0) = false := by simp; omega
    have c0' : 0 ≤ c := by omega
    have f5 : decide (3 + c / 4 ≤ b) = false := by simp; omega
    unfold geoV
    go_enter Try.func27, Try.ntmps27
    go_wp2
    go_ret
    exact ⟨by rw [H.out]; rfl, HB.out _⟩
  by_cases c10 : 2 + d + a * b ≤ 2048
  case neg =>
    have H : Hid (mayB a b c d = false) := decide_eq_false fun h => c10 h.2.2.2.2.2.2
    have m6 : (c % 4 != 0) = false := by simp; omega
    have c0' : 0 ≤ c := by omega
    have f5 : decide (3 + c / 4 ≤ b) = true := by simp; omega
    have p0 : 0 ≤ a * b := Int.mul_nonneg (by omega) (by omega)
    have p1 : a * b ≤ 4 * 512 := Int.mul_le_mul (by omega) (by omega) (by omega) (by omega)
    have w0 : wrap64 (a * b) = a * b := IntWalk.wrap64_in _ ⟨by omega, by omega⟩
    have w1 : wrap64 (2 + d + a * b) = 2 + d + a * b := IntWalk.wrap64_in _ ⟨by omega, by omega⟩
    have f6 : decide (2 + d + a * b ≤ 2048) = false := by simp; omega
    unfold geoV
    go_enter Try.func27, Try.ntmps27
    go_wp2
    go_ret
    exact ⟨by rw [H.out]; rfl, HB.out _⟩
  have H : Hid (mayB a b c d = true) := decide_eq_true ⟨⟨c0, c1⟩, ⟨c2, c3⟩, ⟨c4, c5⟩, c6, ⟨c7, c8⟩, c9, c10⟩
  have m6 : (c % 4 != 0) = false := by simp; omega
  have c0' : 0 ≤ c := by omega
  have f5 : decide (3 + c / 4 ≤ b) = true := by simp; omega
  have p0 : 0 ≤ a * b := Int.mul_nonneg (by omega) (by omega)
  have p1 : a * b ≤ 4 * 512 := Int.mul_le_mul (by omega) (by omega) (by omega) (by omega)
  have w0 : wrap64 (a * b) = a * b := IntWalk.wrap64_in _ ⟨by omega, by omega⟩
  have w1 : wrap64 (2 + d + a * b) = 2 + d + a * b := IntWalk.wrap64_in _ ⟨by omega, by omega⟩
  have f6 : decide (2 + d + a * b ≤ 2048) = true := by simp; omega
  unfold geoV
  go_enter Try.func27, Try.ntmps27
  go_wp2
  go_ret
  exact ⟨by rw [H.out]; rfl, HB.out _⟩
theorem refAll_no (a b c d : Int) (w : World) (h : ¬ mayP a b c d) : Calls Try.prog 57 #[geoV a b c d] w fun e w' => e = .returned (.slice none 0 0) ∧ Below w.heap.size w w' := by
  have G0 := hide (GAt.new w a b c d)
  have Hm : Hid (mayB a b c d = false) := decide_eq_false h
  clear h
  unfold geoV
  go_enter Try.func57, Try.ntmps57
  go_wp2_with fail
  refine (refMay_any a b c d _).mono ?_
  rintro e w1 ⟨rfl, hw⟩
  rw [Hm.out]
  have G1 := hide (G0.out.step hw)
  clear hw G0
  go_wp2_with fail
  go_ret
  exact ⟨rfl, G1.out.old⟩

theorem GAt.al {W w : World} {n : Nat} {a b c d : Int} (h : GAt W n a b c d w) (o : Obj) : GAt W n a b c d (w.alloc o) :=
  ⟨h.old.alloc h.old.size o, (Below.heap_alloc w o n (lt_of_block h.geo)).trans h.geo⟩
theorem th4_0 {a b c d : Int} (h : mayP a b c d) : th4 a b c d ((0 : Nat) : Int) = [.int .u8 1, .int .i64 0, .int .i64 0, .int .i64 0] := by
  have hd : 40 ≤ d ∧ d ≤ 256 := h.2.2.2.2.1
  have hp := h.mul
  unfold th4 thingK thingG thingA thingI
  rw [if_neg (by omega), if_pos (by decide), if_neg (by omega), if_neg (by omega), if_neg (by omega), if_neg (by omega)]
theorem th4_1 {a b c d : Int} (h : mayP a b c d) : th4 a b c d ((1 : Nat) : Int) = [.int .u8 2, .int .i64 0, .int .i64 0, .int .i64 0] := by
  have hd : 40 ≤ d ∧ d ≤ 256 := h.2.2.2.2.1
  have hp := h.mul
  unfold th4 thingK thingG thingA thingI
  rw [if_neg (by omega), if_neg (by decide), if_pos (by decide), if_neg (by omega), if_neg (by omega), if_neg (by omega), if_neg (by omega)]
theorem th4_journal {a b c d : Int} (h : mayP a b c d) (j : Nat) (hj : (j : Int) < d) : th4 a b c d ((2 + j : Nat) : Int) = [.int .u8 3, .int .i64 0, .int .i64 j, .int .i64 0] := by
  have hd : 40 ≤ d ∧ d ≤ 256 := h.2.2.2.2.1
  have hp := h.mul
  unfold th4 thingK thingG thingA thingI
  rw [if_neg (by omega), if_neg (by omega), if_neg (by omega), if_pos (by omega), if_neg (by omega), if_pos (by omega), if_neg (by omega), show ((2 + j : Nat) : Int) - 2 = j by omega]

theorem th4_at {a b c d g : Nat} (h : groupP a b c d g) (r : Nat) (hr : r < b) : th4 a b c d ((2 + d + g * b + r : Nat) : Int) = [.int .u8 (thingAt c r), .int .i64 g, .int .i64 r, .int .i64 (inoAt c g r)] :=
  th4_in h (by omega) (by omega) (by simp)
theorem int_eq {k : IntKind} {x y : Int} (h : x = y) : Value.int k x = .int k y := by rw [h]

set_option maxRecDepth 100000 in
set_option maxHeartbeats 4000000 in
theorem refAll_yes (a b c d : Int) (w : World) (h : mayP a b c d) : Calls Try.prog 57 #[geoV a b c d] w (AllPost a b c d w) := by
  obtain ⟨a, rfl⟩ := Int.eq_ofNat_of_zero_le (show 0 ≤ a by have := h.1.1; omega)
  obtain ⟨b, rfl⟩ := Int.eq_ofNat_of_zero_le (show 0 ≤ b by have := h.2.1.1; omega)
  obtain ⟨c, rfl⟩ := Int.eq_ofNat_of_zero_le (show 0 ≤ c by have := h.2.2.1.1; omega)
  obtain ⟨d, rfl⟩ := Int.eq_ofNat_of_zero_le (show 0 ≤ d by have := h.2.2.2.2.1.1; omega)
  have G0 := hide (GAt.new w a b c d)
  have HM := hide h
  have Hm : Hid (mayB a b c d = true) := decide_eq_true h
  have hN : (2 + (d : Int) + a * b).toNat = 2 + d + a * b := by
    have : (2 + (d : Int) + a * b) = ((2 + d + a * b : Nat) : Int) := by simp
    rw [this]; rfl
  have HN := hide hN
  have a0 : 1 ≤ a ∧ a ≤ 4 := by have := h.1; omega
  have b0 : 16 ≤ b ∧ b ≤ 512 := by have := h.2.1; omega
  have c0 : 4 ≤ c ∧ c ≤ 64 := by have := h.2.2.1; omega
  have d0 : 40 ≤ d ∧ d ≤ 256 := by have := h.2.2.2.2.1; omega
  have cm : c % 4 = 0 := by have := h.2.2.2.1; omega
  have cb : 3 + c / 4 ≤ b := by have := h.2.2.2.2.2.1; omega
  obtain ⟨a0, a1⟩ := a0
  obtain ⟨b0, b1⟩ := b0
  obtain ⟨c0, c1⟩ := c0
  obtain ⟨d0, d1⟩ := d0
  have CM := hide cm
  clear h hN cm
  unfold geoV
  go_enter Try.func57, Try.ntmps57
  go_wp2_with fail
  refine (refMay_any a b c d _).mono ?_
  rintro e w1 ⟨rfl, hw⟩
  rw [Hm.out]
  have G1 := hide (G0.out.step hw)
  clear hw G0
  obtain ⟨k0, k1, k2, k3⟩ := G1.out.cells
  have hz : w.heap.size < w1.heap.size := lt_of_block G1.out.geo
  go_wp2_with fail
  have R0 : Hid ((w1.alloc (.cells #[.int .u8 1, .int .i64 0, .int .i64 0, .int .i64 0, .int .u8 2, .int .i64 0, .int .i64 0, .int .i64 0] 97)).ownsRow (w.heap.size + 1) 97 4 (.slice (some ⟨w1.heap.size, 0, none⟩) 2 2) (2 + 0) (thL a b c d (2 + 0))) := by
    have := World.ownsRow_lit (base := w.heap.size + 1) (e := 97) (size := 4) w1 #[.int .u8 1, .int .i64 0, .int .i64 0, .int .i64 0, .int .u8 2, .int .i64 0, .int .i64 0, .int .i64 0] 2 hz (by decide) rfl
    rw [show (thL a b c d (2 + 0)) = [] ++ th4 a b c d ((0 : Nat) : Int) ++ th4 a b c d ((1 : Nat) : Int) from rfl, th4_0 HM.out, th4_1 HM.out]
    exact this
  go_loopw [3, 4] (fun v i wr => ∃ j : Nat, j ≤ d ∧ i = .int .i64 j ∧ wr.ownsRow (w.heap.size + 1) 97 4 v (2 + j) (thL a b c d (2 + j)) ∧ GAt w w.heap.size a b c d wr) (fun _ i _ => d - (intOf i).toNat)
  case atStart => exact ⟨0, Nat.zero_le _, rfl, R0.out, G1.out.al _⟩
  case round =>
    obtain ⟨j, hj, rfl, hown, hG⟩ := hrel
    have G2 := hide hG
    have R2 := hide hown
    clear hG hown R0 G1 k0 k1 k2 k3
    obtain ⟨k0, k1, k2, k3⟩ := G2.out.cells
    have hz2 : w.heap.size < wr.heap.size := lt_of_block G2.out.geo
    by_cases hlt : j < d
    · have hlt' : (j : Int) < d := by omega
      go_wp2_with (at_builtin; refine appT rfl (.tmp 21) (.tmp 24) rfl (w.heap.size + 1) (2 + j) 1 1 _ _ _ rfl R2.out rfl rfl (by simp [Value.oneCell']) (by omega) hz2 ?_; intro v2 w2 hown2 hbel2)
      have R3 : Hid (w2.ownsRow (w.heap.size + 1) 97 4 v2 (2 + (j + 1)) (thL a b c d (2 + (j + 1)))) := by
        rw [show thL a b c d (2 + (j + 1)) = thL a b c d (2 + j) ++ th4 a b c d ((2 + j : Nat) : Int) from rfl, th4_journal HM.out j hlt']
        exact hown2
      have G3 := hide (G2.out.grow hbel2 (Nat.lt_succ_self _) (Nat.le_succ _))
      clear hown2 hbel2 R2 G2
      go_roundw
      case rel => exact ⟨j + 1, by omega, by go_num, R3.out, G3.out⟩
      case measure => simp [intOf]; omega
    · obtain rfl : j = d := by omega
      go_wp2_with fail
      go_loopw [3, 5, 6] (fun v n i wr => ∃ g : Nat, g ≤ a ∧ i = .int .i64 g ∧ n = .int .i64 (1 + (g : Int) * c) ∧ wr.ownsRow (w.heap.size + 1) 97 4 v (2 + j + g * b) (thL a b c j (2 + j + g * b)) ∧ GAt w w.heap.size a b c j wr) (fun _ _ i _ => a - (intOf i).toNat)
      case atStart => exact ⟨0, Nat.zero_le _, rfl, by simp, by simpa using R2.out, G2.out⟩
      case round =>
        obtain ⟨g, hg, rfl, rfl, hown, hG⟩ := hrel
        have G3 := hide hG
        have R3 := hide hown
        clear hG hown R2 G2 k0 k1 k2 k3
        obtain ⟨wg, rfl⟩ : ∃ x : World, x = wr := ⟨_, rfl⟩
        obtain ⟨k0, k1, k2, k3⟩ := G3.out.cells
        have hz3 : w.heap.size < wg.heap.size := lt_of_block G3.out.geo
        by_cases hlg : g < a
        · have hlg' : (g : Int) < a := by omega
          have hgp : groupP a b c j g := ⟨HM.out, by omega, by omega⟩
          have GP := hide hgp
          have m0 : 0 ≤ (g : Int) * c := Int.mul_nonneg (by omega) (by omega)
          have m1 : (g : Int) * c ≤ 256 := Int.le_trans (Int.mul_le_mul_of_nonneg_right (by omega) (by omega)) HM.out.mulc.2
          clear hgp
          go_wp2_with (at_builtin; refine appT rfl (.tmp 32) (.tmp 37) rfl (w.heap.size + 1) (2 + j + g * b) 2 2 _ _ _ rfl R3.out rfl rfl (by simp [Value.oneCell']) (by have := Nat.mul_le_mul (show g ≤ 4 by omega) b1; omega) hz3 ?_; intro v4 w4 hown4 hbel4)
          have R4 : Hid (w4.ownsRow (w.heap.size + 1) 97 4 v4 (2 + j + g * b + (2 + 0)) (thL a b c j (2 + j + g * b + (2 + 0)))) := by
            rw [show thL a b c j (2 + j + g * b + (2 + 0)) = thL a b c j (2 + j + g * b) ++ th4 a b c j ((2 + j + g * b + 0 : Nat) : Int) ++ th4 a b c j ((2 + j + g * b + 1 : Nat) : Int) from rfl, th4_at GP.out 0 (by omega), th4_at GP.out 1 (by omega), List.append_assoc]
            exact hown4
          have G4 := hide (G3.out.grow hbel4 (Nat.lt_succ_self _) (Nat.le_succ _))
          clear hown4 hbel4 R3 G3 k0 k1 k2 k3 hz3
          go_loopw [3, 5, 7] (fun v n i wr => ∃ k : Nat, 4 * k ≤ c ∧ i = .int .i64 (4 * (k : Int)) ∧ n = .int .i64 (1 + (g : Int) * c + 4 * (k : Int)) ∧ wr.ownsRow (w.heap.size + 1) 97 4 v (2 + j + g * b + (2 + k)) (thL a b c j (2 + j + g * b + (2 + k))) ∧ GAt w w.heap.size a b c j wr) (fun _ _ i _ => c - (intOf i).toNat)
          case atStart => exact ⟨0, Nat.zero_le _, by simp, by simp, R4.out, G4.out⟩
          case round =>
            obtain ⟨k, hk, rfl, rfl, hown, hG⟩ := hrel
            have G5 := hide hG
            have R5 := hide hown
            clear hG hown R4 G4
            obtain ⟨wk, rfl⟩ : ∃ x : World, x = wr := ⟨_, rfl⟩
            obtain ⟨k0, k1, k2, k3⟩ := G5.out.cells
            have hz5 : w.heap.size < wk.heap.size := lt_of_block G5.out.geo
            by_cases hlk : 4 * k < c
            · have hlk' : 4 * (k : Int) < c := by omega
              go_wp2_with (at_builtin; refine appT rfl (.tmp 45) (.tmp 52) rfl (w.heap.size + 1) (2 + j + g * b + (2 + k)) 1 1 _ _ _ rfl R5.out rfl rfl (by simp [Value.oneCell']) (by have := Nat.mul_le_mul (show g ≤ 4 by omega) b1; omega) hz5 ?_; intro v6 w6 hown6 hbel6)
              have R6 : Hid (w6.ownsRow (w.heap.size + 1) 97 4 v6 (2 + j + g * b + (2 + (k + 1))) (thL a b c j (2 + j + g * b + (2 + (k + 1))))) := by
                rw [show thL a b c j (2 + j + g * b + (2 + (k + 1))) = thL a b c j (2 + j + g * b + (2 + k)) ++ th4 a b c j ((2 + j + g * b + (2 + k) : Nat) : Int) from rfl, th4_at GP.out (2 + k) (by omega)]
                have e1 : thingAt (c : Int) ((2 + k : Nat) : Int) = 6 := by have cm := CM.out; unfold thingAt; rw [if_neg (by omega), if_neg (by omega), if_pos (by omega)]
                have e2 : inoAt (c : Int) (g : Int) ((2 + k : Nat) : Int) = 1 + (g : Int) * c + 4 * (k : Int) := by have cm := CM.out; unfold inoAt; rw [if_pos (by omega)]; omega
                have e3 : ((2 + k : Nat) : Int) = 2 + (k : Int) := by omega
                rw [e1, e2, e3]
                exact hown6
              have G6 := hide (G5.out.grow hbel6 (Nat.lt_succ_self _) (Nat.le_succ _))
              clear hown6 hbel6 R5 G5
              go_roundw
              case rel => exact ⟨k + 1, by have cm := CM.out; omega, int_eq (by omega), int_eq (by omega), R6.out, G6.out⟩
              case measure => simp [intOf]; omega
            · have CK : Hid (k = c / 4) := by have := CM.out; show k = c / 4; omega
              have ck : 4 * k = c := by have := CM.out; omega
              have CE := hide ck
              clear ck
              have f0 : (c : Int) / 4 ≤ 16 := by omega
              have f1 : 0 ≤ (c : Int) / 4 := by omega
              go_wp2_with fail
              go_loopw [3, 8] (fun v i wr => ∃ r : Nat, 2 + c / 4 ≤ r ∧ r ≤ b ∧ i = .int .i64 r ∧ wr.ownsRow (w.heap.size + 1) 97 4 v (2 + j + g * b + r) (thL a b c j (2 + j + g * b + r)) ∧ GAt w w.heap.size a b c j wr) (fun _ i _ => b - (intOf i).toNat)
              case atStart => exact ⟨2 + k, by have := CK.out; omega, by have := CE.out; omega, int_eq (by have := CK.out; omega), R5.out, G5.out⟩
              case round =>
                obtain ⟨r, hr0, hr1, rfl, hown, hG⟩ := hrel
                have G6 := hide hG
                have R6 := hide hown
                clear hG hown R5 G5 k0 k1 k2 k3
                obtain ⟨wq, rfl⟩ : ∃ x : World, x = wr := ⟨_, rfl⟩
                obtain ⟨k0, k1, k2, k3⟩ := G6.out.cells
                have hz6 : w.heap.size < wq.heap.size := lt_of_block G6.out.geo
                by_cases hlr : r < b
                · have hlr' : (r : Int) < b := by omega
                  go_wp2_with (at_builtin; refine appT rfl (.tmp 66) (.tmp 70) rfl (w.heap.size + 1) (2 + j + g * b + r) 1 1 _ _ _ rfl R6.out rfl rfl (by simp [Value.oneCell']) (by have := Nat.mul_le_mul (show g ≤ 4 by omega) b1; omega) hz6 ?_; intro v7 w7 hown7 hbel7)
                  have R7 : Hid (w7.ownsRow (w.heap.size + 1) 97 4 v7 (2 + j + g * b + (r + 1)) (thL a b c j (2 + j + g * b + (r + 1)))) := by
                    rw [show thL a b c j (2 + j + g * b + (r + 1)) = thL a b c j (2 + j + g * b + r) ++ th4 a b c j ((2 + j + g * b + r : Nat) : Int) from rfl, th4_at GP.out r (by omega)]
                    have e1 : thingAt (c : Int) ((r : Nat) : Int) = 7 := by unfold thingAt; rw [if_neg (by omega), if_neg (by omega), if_neg (by omega)]
                    have e2 : inoAt (c : Int) (g : Int) ((r : Nat) : Int) = 0 := by unfold inoAt; rw [if_neg (by omega)]
                    rw [e1, e2]
                    exact hown7
                  have G7 := hide (G6.out.grow hbel7 (Nat.lt_succ_self _) (Nat.le_succ _))
                  clear hown7 hbel7 R6 G6
                  go_roundw
                  case rel => exact ⟨r + 1, by omega, by omega, by go_num, R7.out, G7.out⟩
                  case measure => simp [intOf]; omega
                · obtain rfl : r = b := by omega
                  have R7 : Hid (wq.ownsRow (w.heap.size + 1) 97 4 u3 (2 + j + (g + 1) * r) (thL a r c j (2 + j + (g + 1) * r))) := by
                    rw [show 2 + j + (g + 1) * r = 2 + j + g * r + r by rw [Nat.add_mul]; omega]; exact R6.out
                  go_wp2_with fail
                  go_roundw
                  case rel => exact ⟨g + 1, by omega, by go_num, int_eq (by have := CE.out; rw [show ((g + 1 : Nat) : Int) = (g : Int) + 1 by omega, Int.add_mul]; omega), R7.out, G6.out⟩
                  case measure => simp [intOf]; omega
        · obtain rfl : g = a := by omega
          go_wp2_with fail
          go_ret
          exact ⟨_, rfl, by rw [HN.out]; exact R3.out, G3.out.old⟩
/-- The list's cells. -/
structure ThRow (w : World) (g N : Nat) (a b c d : Int) : Prop where
  kind : ∀ i, i < N → w.cell? ⟨g, i * 4, none⟩ = some (.int .u8 (thingK a b c d i))
  group : ∀ i, i < N → w.cell? ⟨g, i * 4 + 1, none⟩ = some (.int .i64 (thingG a b c d i))
  at_ : ∀ i, i < N → w.cell? ⟨g, i * 4 + 2, none⟩ = some (.int .i64 (thingA a b c d i))
  ino : ∀ i, i < N → w.cell? ⟨g, i * 4 + 3, none⟩ = some (.int .i64 (thingI a b c d i))
theorem all_out {w : World} {base N : Nat} {v : Value} {a b c d : Int} (h : w.ownsRow base 97 4 v N (thL a b c d N)) (hN : 0 < N) :
    ∃ g cap, v = .slice (some ⟨g, 0, none⟩) N cap ∧ base ≤ g ∧ N ≤ cap ∧ (cap : Int) ≤ 9223372036854775807 ∧ ThRow w g N a b c d := by
  obtain ⟨_, ⟨_, e⟩ | ⟨g, cap, cur, rfl, hg, hh, hc, hm, hs, ht⟩⟩ := h
  · omega
  · have cell : ∀ i f, i < N → f < 4 → w.cell? ⟨g, i * 4 + f, none⟩ = (th4 a b c d i)[f]? := fun i f hi hf => by
      rw [cell_of_row _ _ _ cur 97 (0, 0) hh, ← thL_get a b c d f hf N i hi, ← ht, List.getElem?_take, if_pos (by omega), Array.getElem?_toList]
    refine ⟨g, cap, rfl, hg, hc, by unfold maxLen at hm; omega, fun i hi => (cell i 0 hi (by omega)).trans rfl, fun i hi => (cell i 1 hi (by omega)).trans rfl, fun i hi => (cell i 2 hi (by omega)).trans rfl, fun i hi => (cell i 3 hi (by omega)).trans rfl⟩
theorem total_nat {a b c d : Int} (h : mayP a b c d) : ∃ N : Nat, (2 + d + a * b).toNat = N ∧ (N : Int) = 2 + d + a * b ∧ 42 ≤ N ∧ N ≤ 2048 := by
  have hp := h.mul
  have hd : 40 ≤ d ∧ d ≤ 256 := h.2.2.2.2.1
  have ht : 2 + d + a * b ≤ 2048 := h.2.2.2.2.2.2
  exact ⟨_, rfl, Int.toNat_of_nonneg (by omega), by omega, by omega⟩
theorem refAll_some {a b c d : Int} (N : Nat) (w : World) (h : mayP a b c d) (hN : (2 + d + a * b).toNat = N) (h0 : 0 < N) :
    Calls Try.prog 57 #[geoV a b c d] w fun e w' => ∃ g cap, e = .returned (.slice (some ⟨g, 0, none⟩) N cap) ∧ w.heap.size + 1 ≤ g ∧ N ≤ cap ∧ (cap : Int) ≤ 9223372036854775807 ∧ ThRow w' g N a b c d ∧ Below w.heap.size w w' :=
  (refAll_yes a b c d w h).mono fun e w' ⟨v, he, ho, hb⟩ => by
    rw [hN] at ho
    obtain ⟨g, cap, rfl, h1, h2, h3, h4⟩ := all_out ho h0
    exact ⟨g, cap, he, h1, h2, h3, h4, hb⟩

/-- How many of the first j blocks are data of group 0. -/
def dn (a b c d : Int) : Nat → Int
  | 0 => 0
  | j + 1 => dn a b c d j + if thingK a b c d j = 7 ∧ thingG a b c d j = 0 then 1 else 0
theorem dn_bd (a b c d : Int) : ∀ j : Nat, 0 ≤ dn a b c d j ∧ dn a b c d j ≤ j
  | 0 => by simp [dn]
  | j + 1 => by
    have := dn_bd a b c d j
    unfold dn
    split <;> omega
theorem dn_add (a b c d : Int) (j : Nat) (F : Nat → Int) (h0 : F 0 = 0) : ∀ m : Nat, (∀ r, r < m → F (r + 1) = F r + if thingK a b c d ((j + r : Nat) : Int) = 7 ∧ thingG a b c d ((j + r : Nat) : Int) = 0 then 1 else 0) → dn a b c d (j + m) = dn a b c d j + F m
  | 0, _ => by rw [h0]; simp
  | m + 1, h => by
    have ih := dn_add a b c d j F h0 m (fun r hr => h r (by omega))
    rw [← Nat.add_assoc, dn, ih, h m (by omega)]
    omega
theorem dn_total {a b c d : Int} (h : mayP a b c d) : dn a b c d (2 + d + a * b).toNat = b - 2 - c / 4 := by
  have ha : 1 ≤ a ∧ a ≤ 4 := h.1
  have hb : 16 ≤ b ∧ b ≤ 512 := h.2.1
  have hc : 4 ≤ c ∧ c ≤ 64 := h.2.2.1
  have hcb : 3 + c / 4 ≤ b := h.2.2.2.2.2.1
  have hd : 40 ≤ d ∧ d ≤ 256 := h.2.2.2.2.1
  have hp := h.mul
  have hab : b ≤ a * b := by
    have := Int.mul_le_mul_of_nonneg_right (show 1 ≤ a by omega) (show 0 ≤ b by omega)
    omega
  have e0 : dn a b c d (0 + (2 + d).toNat) = 0 := by
    rw [dn_add a b c d 0 (fun _ => 0) rfl (2 + d).toNat (fun r hr => ?_)]
    · rfl
    · rw [if_neg]
      · rfl
      · rintro ⟨h7, _⟩
        have : thingK a b c d ((0 + r : Nat) : Int) ≤ 3 := by
          unfold thingK
          rw [if_neg (by omega)]
          split
          · decide
          · split
            · decide
            · rw [if_pos (by omega)]; decide
        omega
  rw [Nat.zero_add] at e0
  have gp : groupP a b c d 0 := ⟨h, by omega, by omega⟩
  have e1 : dn a b c d ((2 + d).toNat + b.toNat) = b - 2 - c / 4 := by
    rw [dn_add a b c d (2 + d).toNat (fun r => pr c 7 r) (by unfold pr; rw [if_neg (by decide), if_neg (by decide), if_neg (by decide), if_pos rfl, if_pos (by omega)]) b.toNat (fun r hr => ?_), e0]
    · unfold pr
      rw [if_neg (by decide), if_neg (by decide), if_neg (by decide), if_pos rfl, if_neg (by omega)]
      omega
    · have t := thing_in (r := (r : Int)) gp (by omega) (by omega)
      have e2 : (((2 + d).toNat + r : Nat) : Int) = 2 + d + 0 * b + (r : Int) := by omega
      rw [e2, t.1, t.2.1]
      simp only [and_true]
      exact pr_step (r := (r : Int)) hc.1 (by omega)
  obtain ⟨m, hm⟩ : ∃ m : Nat, (2 + d + a * b).toNat = (2 + d).toNat + b.toNat + m := ⟨(2 + d + a * b).toNat - ((2 + d).toNat + b.toNat), by omega⟩
  rw [hm, dn_add a b c d _ (fun _ => 0) rfl m (fun r hr => ?_), e1]
  · omega
  · rw [if_neg]
    · rfl
    · rintro ⟨_, hg⟩
      obtain ⟨_, _, hf⟩ := thing_facts h (n := (((2 + d).toNat + b.toNat + r : Nat) : Int)) (by omega) (by omega)
      have hga : thingG a b c d (((2 + d).toNat + b.toNat + r : Nat) : Int) = ((((2 + d).toNat + b.toNat + r : Nat) : Int) - (2 + d)) / b := by unfold thingG; rw [if_pos (by omega)]
      rw [hga] at hg
      have := Int.ediv_le_ediv (show 0 < b by omega) (show b ≤ (((2 + d).toNat + b.toNat + r : Nat) : Int) - (2 + d) by omega)
      rw [Int.ediv_self (by omega)] at this
      omega

set_option maxRecDepth 100000 in
set_option maxHeartbeats 1000000 in
theorem refData_any (a b c d : Int) (w : World) : Calls Try.prog 49 #[geoV a b c d] w fun e w' => e = .returned (.int .i64 (ifMay a b c d (b - 2 - c / 4))) ∧ Below w.heap.size w w' := by
  have G0 := hide (GAt.new w a b c d)
  by_cases hm : mayP a b c d
  case neg =>
    have Hm := hide hm
    have HE : Hid (ifMay a b c d (b - 2 - c / 4) = 0) := by unfold ifMay; rw [Hid, if_neg hm]
    clear hm
    rw [HE.out]
    unfold geoV
    go_enter Try.func49, Try.ntmps49
    go_wp2_with fail
    refine (refAll_no a b c d _ Hm.out).mono ?_
    rintro e w1 ⟨rfl, hw⟩
    have G1 := hide (G0.out.step hw)
    clear hw G0
    go_wp2_with fail
    go_loop [4, 5] (fun n i => n = .int .i64 0 ∧ i = .int .i64 0) (fun _ i => 0)
    case atStart => exact ⟨rfl, rfl⟩
    case round =>
      obtain ⟨rfl, rfl⟩ := hrel
      go_wp2_with fail
      go_ret
      exact ⟨rfl, G1.out.old⟩
  case pos =>
    obtain ⟨N, hN, hN1, hN2, hN3⟩ := total_nat hm
    have Hm := hide hm
    have HN := hide hN
    have HE : Hid (ifMay a b c d (b - 2 - c / 4) = dn a b c d N) := by unfold ifMay; rw [Hid, if_pos hm, ← hN, dn_total hm]
    clear hm hN hN1
    rw [HE.out]
    unfold geoV
    go_enter Try.func49, Try.ntmps49
    go_wp2_with fail
    refine (refAll_some N _ Hm.out HN.out (by omega)).mono ?_
    rintro e w1 ⟨G, cap, rfl, hG, hc, hm, hT, hw⟩
    have G1 := hide (G0.out.step hw)
    have HT := hide hT
    clear hw G0 hT
    go_wp2_with fail
    go_loop [4, 5] (fun n i => ∃ k : Nat, k ≤ N ∧ i = .int .i64 k ∧ n = .int .i64 (dn a b c d k)) (fun _ i => N - (intOf i).toNat)
    case atStart => exact ⟨0, Nat.zero_le _, rfl, rfl⟩
    case round =>
      obtain ⟨k, hk, rfl, rfl⟩ := hrel
      by_cases hlt : k < N
      · have hkN' : (k : Int) < N := by omega
        have z1 := HT.out.kind k hlt
        have z2 := HT.out.group k hlt
        have bd := dn_bd a b c d k
        obtain ⟨bd0, bd1⟩ := bd
        have HS : Hid (dn a b c d (k + 1) = dn a b c d k + if thingK a b c d k = 7 ∧ thingG a b c d k = 0 then 1 else 0) := rfl
        by_cases e4 : thingK a b c d k = 7
        · by_cases e5 : thingG a b c d k = 0
          · have HS2 : Hid (dn a b c d (k + 1) = dn a b c d k + 1) := HS.out.trans (by rw [if_pos ⟨e4, e5⟩])
            rw [e4] at z1
            rw [e5] at z2
            clear e4 e5 HS
            generalize dn a b c d k = D at *
            go_wp2_with fail
            go_round
            case rel => exact ⟨k + 1, by omega, by go_num, by rw [HS2.out]⟩
            case measure => simp [intOf]; omega
          · have HS2 : Hid (dn a b c d (k + 1) = dn a b c d k) := HS.out.trans (by rw [if_neg (fun h => e5 h.2), Int.add_zero])
            have f2 : (thingG a b c d k == 0) = false := by simp [e5]
            rw [e4] at z1
            clear e4 e5 HS
            go_wp2_with fail
            go_round
            case rel => exact ⟨k + 1, by omega, by go_num, by rw [HS2.out]⟩
            case measure => simp [intOf]; omega
        · have HS2 : Hid (dn a b c d (k + 1) = dn a b c d k) := HS.out.trans (by rw [if_neg (fun h => e4 h.1), Int.add_zero])
          have f1 : (thingK a b c d k == 7) = false := by simp [e4]
          clear e4 HS
          go_wp2_with fail
          go_round
          case rel => exact ⟨k + 1, by omega, by go_num, by rw [HS2.out]⟩
          case measure => simp [intOf]; omega
      · obtain rfl : k = N := by omega
        go_wp2_with fail
        go_ret
        exact ⟨rfl, G1.out.old⟩
end Go.Proofs.Ytbngbhildijciaa
