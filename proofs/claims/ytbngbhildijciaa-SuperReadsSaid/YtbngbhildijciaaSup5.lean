/- The walk of super.may. -/
import Derived.Test.YtbngbhildijciaaSup4
namespace Go.Proofs.Ytbngbhildijciaa
open Go.RowKit
set_option linter.unusedVariables false

/-- What Write tells, whatever it is. -/
theorem write_any (a b c d o : Int) (w : World) (ho0 : 0 ≤ o) (ho1 : o ≤ 4294967295) :
    Calls Try.prog 11 #[supV a b c d o] w fun e w' => e = .returned (.tuple #[.agg (bytesOf 256 (wrF a b c d o)), .int .i64 (wrC a b c d o)]) ∧ Below w.heap.size w w' := by
  unfold wrF wrC
  by_cases h : mayP a b c d
  · by_cases hle : o ≤ a * c
    · rw [if_pos ⟨h, hle⟩, if_pos h, if_pos hle]; exact write_ok a b c d o w h ho0 ho1 hle
    · rw [if_neg (fun q => hle q.2), if_pos h, if_neg hle]; exact write_arg a b c d o w h ho0 ho1 hle
  · rw [if_neg (fun q => h q.1), if_neg h]; exact write_geo a b c d o w h
def desC (x y z : Int) : Array Value := #[.int .i64 x, .int .i64 y, .int .i64 z]
/-- May a descriptor be, where a group has q data blocks and c inodes? -/
def mayDP (q c x y z : Int) : Prop := 0 ≤ x ∧ x ≤ q ∧ 0 ≤ y ∧ 0 ≤ z ∧ y ≤ c ∧ z ≤ c - y
instance (q c x y z : Int) : Decidable (mayDP q c x y z) := by unfold mayDP; infer_instance
def mayDB (q c x y z : Int) : Bool := decide (mayDP q c x y z)
structure MSt (W : World) (a b c d x y z : Int) (v : World) : Prop where
  geo : ∃ t, v.heap[W.heap.size]? = some (.cells #[.int .i64 a, .int .i64 b, .int .i64 c, .int .i64 d] t (0, 0))
  des : ∃ t, v.heap[W.heap.size + 1]? = some (.cells (desC x y z) t (0, 0))
  old : Below W.heap.size W v
section
variable {W v v' : World} {a b c d x y z : Int}
theorem MSt.below (h : MSt W a b c d x y z v) (k : Below v.heap.size v v') : MSt W a b c d x y z v' :=
  ⟨by obtain ⟨t, e⟩ := h.geo; exact ⟨t, (k.block _ (lt_of_block e)).trans e⟩, by obtain ⟨t, e⟩ := h.des; exact ⟨t, (k.block _ (lt_of_block e)).trans e⟩, h.old.trans (k.mono h.old.size)⟩
theorem MSt.drew (h : MSt W a b c d x y z v) : MSt W a b c d x y z v.drew := ⟨h.geo, h.des, h.old.drew⟩
theorem MSt.cells (h : MSt W a b c d x y z v) : v.cell? ⟨W.heap.size, 0, none⟩ = some (.int .i64 a) ∧ v.cell? ⟨W.heap.size, 1, none⟩ = some (.int .i64 b) ∧ v.cell? ⟨W.heap.size, 2, none⟩ = some (.int .i64 c) ∧ v.cell? ⟨W.heap.size, 3, none⟩ = some (.int .i64 d) ∧
    v.cell? ⟨W.heap.size + 1, 0, none⟩ = some (.int .i64 x) ∧ v.cell? ⟨W.heap.size + 1, 1, none⟩ = some (.int .i64 y) ∧ v.cell? ⟨W.heap.size + 1, 2, none⟩ = some (.int .i64 z) := by
  obtain ⟨t, e⟩ := h.geo
  obtain ⟨s, f⟩ := h.des
  refine ⟨?_, ?_, ?_, ?_, ?_, ?_, ?_⟩
  all_goals first | (rw [cell_of_row _ _ _ _ _ _ e]; rfl) | (rw [cell_of_row _ _ _ _ _ _ f]; rfl)
end
theorem MSt.start (W : World) (a b c d x y z : Int) (t s : TypeId) : MSt W a b c d x y z ((W.alloc (.cells #[.int .i64 a, .int .i64 b, .int .i64 c, .int .i64 d] t)).alloc (.cells (desC x y z) s)) := by
  have n0 := heap_alloc_new W (.cells #[.int .i64 a, .int .i64 b, .int .i64 c, .int .i64 d] t)
  have n1 := heap_alloc_new (W.alloc (.cells #[.int .i64 a, .int .i64 b, .int .i64 c, .int .i64 d] t)) (.cells (desC x y z) s)
  simp only [World.size_alloc] at n1
  exact ⟨⟨t, (Below.heap_alloc _ _ _ (by simp only [World.size_alloc]; omega)).trans n0⟩, ⟨s, n1⟩, ((Below.refl _ W).alloc (Nat.le_refl _) _).alloc (by simp only [World.size_alloc]; omega) _⟩

set_option maxRecDepth 100000 in
set_option maxHeartbeats 4000000 in
theorem dmay_any (a b c d x y z : Int) (w : World) (h : mayP a b c d) :
    Calls Try.prog 31 #[geoV a b c d, .agg (desC x y z)] w fun e w' => e = .returned (.bool (mayDB (b - 2 - c / 4) c x y z)) ∧ Below w.heap.size w w' := by
  have HD : Hid (∀ V, Calls Try.prog 48 #[geoV a b c d] V fun e w' => e = .returned (.int .i64 (b - 2 - c / 4)) ∧ Below V.heap.size V w') := fun V =>
    (data_any a b c d V).mono fun e w' ⟨he, hw⟩ => ⟨by rw [he, ifMay, if_pos h], hw⟩
  have c0 : 4 ≤ c := h.2.2.1.1
  have c1 : c ≤ 64 := h.2.2.1.2
  clear h
  generalize b - 2 - c / 4 = q at *
  have S0 := hide (MSt.start w a b c d x y z 23 50)
  have ne : Nonempty (Of (MSt w a b c d x y z)) := ⟨⟨_, S0.out⟩⟩
  have z0 : ∀ s : Of (MSt w a b c d x y z), s.val.cell? ⟨w.heap.size, 0, none⟩ = some (.int .i64 a) := fun s => s.ok.cells.1
  have z1 : ∀ s : Of (MSt w a b c d x y z), s.val.cell? ⟨w.heap.size, 1, none⟩ = some (.int .i64 b) := fun s => s.ok.cells.2.1
  have z2 : ∀ s : Of (MSt w a b c d x y z), s.val.cell? ⟨w.heap.size, 2, none⟩ = some (.int .i64 c) := fun s => s.ok.cells.2.2.1
  have z3 : ∀ s : Of (MSt w a b c d x y z), s.val.cell? ⟨w.heap.size, 3, none⟩ = some (.int .i64 d) := fun s => s.ok.cells.2.2.2.1
  have z4 : ∀ s : Of (MSt w a b c d x y z), s.val.cell? ⟨w.heap.size + 1, 0, none⟩ = some (.int .i64 x) := fun s => s.ok.cells.2.2.2.2.1
  have z5 : ∀ s : Of (MSt w a b c d x y z), s.val.cell? ⟨w.heap.size + 1, 1, none⟩ = some (.int .i64 y) := fun s => s.ok.cells.2.2.2.2.2.1
  have z6 : ∀ s : Of (MSt w a b c d x y z), s.val.cell? ⟨w.heap.size + 1, 2, none⟩ = some (.int .i64 z) := fun s => s.ok.cells.2.2.2.2.2.2
  unfold geoV
  go_enter Try.func31, Try.ntmps31
  by_cases p0 : 0 ≤ x
  case neg =>
    have HV : Hid (mayDB q c x y z = false) := decide_eq_false fun h => p0 (by obtain ⟨h0, h1, h2, h3, h4, h5⟩ := h; exact h0)
    have r0 : decide (0 ≤ x) = false := decide_eq_false p0
    go_wp2_with fail
    refine wp_region_sub (MSt w a b c d x y z) (by kernel_rfl) (by kernel_rfl) (S0.out.drew) ?_
    repeat (first
      | go_big_quiet_skip
      | (go_big_quiet_want
         go_big_quiet_op
         first
         | go_big_quiet_on
         | go_big_quiet_call (first
           | (go_at_call 48; exact sub_calls (fun _ _ h k => h.below k) (HD.out _)))))
    refine wpQuiet_nil ?_
    rintro w' ⟨s, rfl⟩
    go_wp2_with fail
    go_ret
    exact ⟨by rw [HV.out]; rfl, s.ok.old⟩
  have r0 : decide (0 ≤ x) = true := decide_eq_true p0
  by_cases p1 : x ≤ q
  case neg =>
    have HV : Hid (mayDB q c x y z = false) := decide_eq_false fun h => p1 (by obtain ⟨h0, h1, h2, h3, h4, h5⟩ := h; exact h1)
    have r1 : decide (x ≤ q) = false := decide_eq_false p1
    go_wp2_with fail
    refine wp_region_sub (MSt w a b c d x y z) (by kernel_rfl) (by kernel_rfl) (S0.out.drew) ?_
    repeat (first
      | go_big_quiet_skip
      | (go_big_quiet_want
         go_big_quiet_op
         first
         | go_big_quiet_on
         | go_big_quiet_call (first
           | (go_at_call 48; exact sub_calls (fun _ _ h k => h.below k) (HD.out _)))))
    refine wpQuiet_nil ?_
    rintro w' ⟨s, rfl⟩
    go_wp2_with fail
    go_ret
    exact ⟨by rw [HV.out]; rfl, s.ok.old⟩
  have r1 : decide (x ≤ q) = true := decide_eq_true p1
  by_cases p2 : 0 ≤ y
  case neg =>
    have HV : Hid (mayDB q c x y z = false) := decide_eq_false fun h => p2 (by obtain ⟨h0, h1, h2, h3, h4, h5⟩ := h; exact h2)
    have r2 : decide (0 ≤ y) = false := decide_eq_false p2
    go_wp2_with fail
    refine wp_region_sub (MSt w a b c d x y z) (by kernel_rfl) (by kernel_rfl) (S0.out.drew) ?_
    repeat (first
      | go_big_quiet_skip
      | (go_big_quiet_want
         go_big_quiet_op
         first
         | go_big_quiet_on
         | go_big_quiet_call (first
           | (go_at_call 48; exact sub_calls (fun _ _ h k => h.below k) (HD.out _)))))
    refine wpQuiet_nil ?_
    rintro w' ⟨s, rfl⟩
    go_wp2_with fail
    go_ret
    exact ⟨by rw [HV.out]; rfl, s.ok.old⟩
  have r2 : decide (0 ≤ y) = true := decide_eq_true p2
  by_cases p3 : 0 ≤ z
  case neg =>
    have HV : Hid (mayDB q c x y z = false) := decide_eq_false fun h => p3 (by obtain ⟨h0, h1, h2, h3, h4, h5⟩ := h; exact h3)
    have r3 : decide (0 ≤ z) = false := decide_eq_false p3
    go_wp2_with fail
    refine wp_region_sub (MSt w a b c d x y z) (by kernel_rfl) (by kernel_rfl) (S0.out.drew) ?_
    repeat (first
      | go_big_quiet_skip
      | (go_big_quiet_want
         go_big_quiet_op
         first
         | go_big_quiet_on
         | go_big_quiet_call (first
           | (go_at_call 48; exact sub_calls (fun _ _ h k => h.below k) (HD.out _)))))
    refine wpQuiet_nil ?_
    rintro w' ⟨s, rfl⟩
    go_wp2_with fail
    go_ret
    exact ⟨by rw [HV.out]; rfl, s.ok.old⟩
  have r3 : decide (0 ≤ z) = true := decide_eq_true p3
  by_cases p4 : y ≤ c
  case neg =>
    have HV : Hid (mayDB q c x y z = false) := decide_eq_false fun h => p4 (by obtain ⟨h0, h1, h2, h3, h4, h5⟩ := h; exact h4)
    have r4 : decide (y ≤ c) = false := decide_eq_false p4
    go_wp2_with fail
    refine wp_region_sub (MSt w a b c d x y z) (by kernel_rfl) (by kernel_rfl) (S0.out.drew) ?_
    repeat (first
      | go_big_quiet_skip
      | (go_big_quiet_want
         go_big_quiet_op
         first
         | go_big_quiet_on
         | go_big_quiet_call (first
           | (go_at_call 48; exact sub_calls (fun _ _ h k => h.below k) (HD.out _)))))
    refine wpQuiet_nil ?_
    rintro w' ⟨s, rfl⟩
    go_wp2_with fail
    go_ret
    exact ⟨by rw [HV.out]; rfl, s.ok.old⟩
  have r4 : decide (y ≤ c) = true := decide_eq_true p4
  by_cases p5 : z ≤ c - y
  case neg =>
    have HV : Hid (mayDB q c x y z = false) := decide_eq_false fun h => p5 (by obtain ⟨h0, h1, h2, h3, h4, h5⟩ := h; exact h5)
    have r5 : decide (z ≤ c - y) = false := decide_eq_false p5
    go_wp2_with fail
    refine wp_region_sub (MSt w a b c d x y z) (by kernel_rfl) (by kernel_rfl) (S0.out.drew) ?_
    repeat (first
      | go_big_quiet_skip
      | (go_big_quiet_want
         go_big_quiet_op
         first
         | go_big_quiet_on
         | go_big_quiet_call (first
           | (go_at_call 48; exact sub_calls (fun _ _ h k => h.below k) (HD.out _)))))
    refine wpQuiet_nil ?_
    rintro w' ⟨s, rfl⟩
    go_wp2_with fail
    go_ret
    exact ⟨by rw [HV.out]; rfl, s.ok.old⟩
  have r5 : decide (z ≤ c - y) = true := decide_eq_true p5
  have HV : Hid (mayDB q c x y z = true) := decide_eq_true ⟨p0, p1, p2, p3, p4, p5⟩
  go_wp2_with fail
  refine wp_region_sub (MSt w a b c d x y z) (by kernel_rfl) (by kernel_rfl) (S0.out.drew) ?_
  repeat (first
    | go_big_quiet_skip
    | (go_big_quiet_want
       go_big_quiet_op
       first
       | go_big_quiet_on
       | go_big_quiet_call (first
         | (go_at_call 48; exact sub_calls (fun _ _ h k => h.below k) (HD.out _)))))
  refine wpQuiet_nil ?_
  rintro w' ⟨s, rfl⟩
  go_wp2_with fail
  go_ret
  exact ⟨by rw [HV.out]; rfl, s.ok.old⟩
end Go.Proofs.Ytbngbhildijciaa
