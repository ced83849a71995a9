/- The walk of geo.What. -/
import Derived.Test.YtcigoodmkfnnfaaGeo6
namespace Go.Proofs.Ytcigoodmkfnnfaa
open Go.RowKit
set_option linter.unusedVariables false

/-- Four blocks that were laid one behind the other stay. -/
theorem box4 {w w1 : World} {o0 o1 o2 o3 : Obj} (h : Below ((((w.alloc o0).alloc o1).alloc o2).alloc o3).heap.size ((((w.alloc o0).alloc o1).alloc o2).alloc o3) w1) :
    w1.heap[w.heap.size]? = some o0 ∧ w1.heap[w.heap.size + 1]? = some o1 ∧ w1.heap[w.heap.size + 1 + 1]? = some o2 ∧ w1.heap[w.heap.size + 1 + 1 + 1]? = some o3 ∧ Below w.heap.size w w1 := by
  have n1 := heap_alloc_new (w.alloc o0) o1
  have n2 := heap_alloc_new ((w.alloc o0).alloc o1) o2
  have n3 := heap_alloc_new (((w.alloc o0).alloc o1).alloc o2) o3
  simp only [World.size_alloc] at n1 n2 n3
  have s0 : ((((w.alloc o0).alloc o1).alloc o2).alloc o3).heap.size = w.heap.size + 1 + 1 + 1 + 1 := by simp only [World.size_alloc]
  refine ⟨?_, ?_, ?_, ?_, ?_⟩
  · exact (h.block _ (by omega)).trans ((Below.heap_alloc _ o3 _ (by simp only [World.size_alloc]; omega)).trans ((Below.heap_alloc _ o2 _ (by simp only [World.size_alloc]; omega)).trans ((Below.heap_alloc _ o1 _ (by simp only [World.size_alloc]; omega)).trans (heap_alloc_new w o0))))
  · exact (h.block _ (by omega)).trans ((Below.heap_alloc _ o3 _ (by simp only [World.size_alloc]; omega)).trans ((Below.heap_alloc _ o2 _ (by simp only [World.size_alloc]; omega)).trans n1))
  · exact (h.block _ (by omega)).trans ((Below.heap_alloc _ o3 _ (by simp only [World.size_alloc]; omega)).trans n2)
  · exact (h.block _ (by omega)).trans n3
  · exact (((((Below.refl _ w).alloc (Nat.le_refl _) o0).alloc (by simp only [World.size_alloc]; omega) o1).alloc (by simp only [World.size_alloc]; omega) o2).alloc (by simp only [World.size_alloc]; omega) o3).trans (h.mono (by omega))

/-- geo.What's own four blocks: the geometry, its three results. -/
structure Lay (w : World) (n : Nat) (a b c d : Int) (k : Int) (x y : Int) : Prop where
  geo : w.heap[n]? = some (.cells #[.int .i64 a, .int .i64 b, .int .i64 c, .int .i64 d] 23 (0, 0))
  kind : w.heap[n + 1]? = some (.cells #[.int .u8 k] 5 (0, 0))
  fst : w.heap[n + 1 + 1]? = some (.cells #[.int .i64 x] 3 (0, 0))
  snd : w.heap[n + 1 + 1 + 1]? = some (.cells #[.int .i64 y] 3 (0, 0))
theorem Lay.below {w w' : World} {n : Nat} {a b c d k x y : Int} (h : Lay w n a b c d k x y) (hB : Below w.heap.size w w') : Lay w' n a b c d k x y :=
  ⟨(hB.block _ (lt_of_block h.geo)).trans h.geo, (hB.block _ (lt_of_block h.kind)).trans h.kind, (hB.block _ (lt_of_block h.fst)).trans h.fst, (hB.block _ (lt_of_block h.snd)).trans h.snd⟩
theorem Lay.cells {w : World} {n : Nat} {a b c d k x y : Int} (h : Lay w n a b c d k x y) :
    (w.cell? ⟨n, 0, none⟩ = some (.int .i64 a) ∧ w.cell? ⟨n, 1, none⟩ = some (.int .i64 b) ∧ w.cell? ⟨n, 2, none⟩ = some (.int .i64 c) ∧ w.cell? ⟨n, 3, none⟩ = some (.int .i64 d)) ∧
    (w.cell? ⟨n + 1, 0, none⟩ = some (.int .u8 k) ∧ w.cell? ⟨n + 1 + 1, 0, none⟩ = some (.int .i64 x) ∧ w.cell? ⟨n + 1 + 1 + 1, 0, none⟩ = some (.int .i64 y)) ∧
    (w.frozen? ⟨n + 1, 0, none⟩ = false ∧ w.frozen? ⟨n + 1 + 1, 0, none⟩ = false ∧ w.frozen? ⟨n + 1 + 1 + 1, 0, none⟩ = false) := by
  refine ⟨⟨?_, ?_, ?_, ?_⟩, ⟨?_, ?_, ?_⟩, ?_, ?_, ?_⟩
  iterate 4 (rw [cell_of_row _ _ _ _ _ _ h.geo]; rfl)
  · rw [cell_of_row _ _ _ _ _ _ h.kind]; rfl
  · rw [cell_of_row _ _ _ _ _ _ h.fst]; rfl
  · rw [cell_of_row _ _ _ _ _ _ h.snd]; rfl
  · simp [World.frozen?, h.kind]
  · simp [World.frozen?, h.fst]
  · simp [World.frozen?, h.snd]

set_option maxHeartbeats 1000000 in
theorem what_zero (a b c d : Int) (w : World) (h : mayP a b c d) :
    Calls Try.prog 18 #[geoV a b c d, .int .i64 0] w fun e w' => e = .returned (.tuple #[.int .u8 1, .int .i64 0, .int .i64 0]) ∧ Below w.heap.size w w' := by
  have Hm : Hid (mayB a b c d = true) := decide_eq_true h
  have hp := h.mul
  have hd : 40 ≤ d ∧ d ≤ 256 := h.2.2.2.2.1
  obtain ⟨p0, p1⟩ := hp
  obtain ⟨d0, d1⟩ := hd
  have f1 : within2 0 0 (2 + d + a * b - 1) = true := within2_yes (by omega) (by omega)
  clear h
  unfold geoV
  go_enter Try.func18, Try.ntmps18
  go_wp2_with (first
    | (go_at_call 20; refine (may_any a b c d _).mono ?_; rintro e w1 ⟨rfl, h1⟩; rw [Hm.out]; obtain ⟨g0, g1, g2, g3, hB⟩ := box4 h1; have HL := hide (Lay.mk g0 g1 g2 g3); have H1 := hide hB; obtain ⟨⟨k0, k1, k2, k3⟩, ⟨k4, k5, k6⟩, k7, k8, k9⟩ := HL.out.cells; clear h1 g0 g1 g2 g3 hB)
    | (go_at_call 31; refine (all_any a b c d _ p0 (by omega) (by omega) (by omega)).mono ?_; rintro e w2 ⟨rfl, h2⟩; have H2 : Hid (Below w.heap.size w w2) := B_then H1.out h2; have HL2 := hide (HL.out.below h2); obtain ⟨⟨k0, k1, k2, k3⟩, ⟨k4, k5, k6⟩, k7, k8, k9⟩ := HL2.out.cells; clear h2)
    | (go_at_call 30; refine (among_any _ _ _ _).mono ?_; rintro e w3 ⟨rfl, rfl⟩; rw [f1]))
  have hs := H2.out.size
  refine bodyPost_ret_by (v := .tuple #[.int .u8 1, .int .i64 0, .int .i64 0]) ?_ rfl ⟨rfl, ((H2.out.setCell (Nat.le_succ _) _).setCell (by simp; omega) _).setCell (by simp; omega) _⟩
  simp [results, Try.f18, go_sem, k4, k5, k6]
set_option maxHeartbeats 1000000 in
theorem what_one (a b c d : Int) (w : World) (h : mayP a b c d) :
    Calls Try.prog 18 #[geoV a b c d, .int .i64 1] w fun e w' => e = .returned (.tuple #[.int .u8 2, .int .i64 0, .int .i64 0]) ∧ Below w.heap.size w w' := by
  have Hm : Hid (mayB a b c d = true) := decide_eq_true h
  have hp := h.mul
  have hd : 40 ≤ d ∧ d ≤ 256 := h.2.2.2.2.1
  obtain ⟨p0, p1⟩ := hp
  obtain ⟨d0, d1⟩ := hd
  have f1 : within2 1 0 (2 + d + a * b - 1) = true := within2_yes (by omega) (by omega)
  clear h
  unfold geoV
  go_enter Try.func18, Try.ntmps18
  go_wp2_with (first
    | (go_at_call 20; refine (may_any a b c d _).mono ?_; rintro e w1 ⟨rfl, h1⟩; rw [Hm.out]; obtain ⟨g0, g1, g2, g3, hB⟩ := box4 h1; have HL := hide (Lay.mk g0 g1 g2 g3); have H1 := hide hB; obtain ⟨⟨k0, k1, k2, k3⟩, ⟨k4, k5, k6⟩, k7, k8, k9⟩ := HL.out.cells; clear h1 g0 g1 g2 g3 hB)
    | (go_at_call 31; refine (all_any a b c d _ p0 (by omega) (by omega) (by omega)).mono ?_; rintro e w2 ⟨rfl, h2⟩; have H2 : Hid (Below w.heap.size w w2) := B_then H1.out h2; have HL2 := hide (HL.out.below h2); obtain ⟨⟨k0, k1, k2, k3⟩, ⟨k4, k5, k6⟩, k7, k8, k9⟩ := HL2.out.cells; clear h2)
    | (go_at_call 30; refine (among_any _ _ _ _).mono ?_; rintro e w3 ⟨rfl, rfl⟩; rw [f1]))
  have hs := H2.out.size
  refine bodyPost_ret_by (v := .tuple #[.int .u8 2, .int .i64 0, .int .i64 0]) ?_ rfl ⟨rfl, ((H2.out.setCell (Nat.le_succ _) _).setCell (by simp; omega) _).setCell (by simp; omega) _⟩
  simp [results, Try.f18, go_sem, k4, k5, k6]

set_option maxHeartbeats 1000000 in
theorem what_journal (a b c d n : Int) (w : World) (h : mayP a b c d) (hn0 : 2 ≤ n) (hn1 : n < 2 + d) :
    Calls Try.prog 18 #[geoV a b c d, .int .i64 n] w fun e w' => e = .returned (.tuple #[.int .u8 3, .int .i64 0, .int .i64 (n - 2)]) ∧ Below w.heap.size w w' := by
  have Hm : Hid (mayB a b c d = true) := decide_eq_true h
  have hp := h.mul
  have hd : 40 ≤ d ∧ d ≤ 256 := h.2.2.2.2.1
  obtain ⟨p0, p1⟩ := hp
  obtain ⟨d0, d1⟩ := hd
  have f1 : within2 n 0 (2 + d + a * b - 1) = true := within2_yes (by omega) (by omega)
  have z0 : (n == 0) = false := by simp; omega
  have z1 : (n == 1) = false := by simp; omega
  clear h
  unfold geoV
  go_enter Try.func18, Try.ntmps18
  go_wp2_with (first
    | (go_at_call 20; refine (may_any a b c d _).mono ?_; rintro e w1 ⟨rfl, h1⟩; rw [Hm.out]; obtain ⟨g0, g1, g2, g3, hB⟩ := box4 h1; have HL := hide (Lay.mk g0 g1 g2 g3); have H1 := hide hB; obtain ⟨⟨k0, k1, k2, k3⟩, ⟨k4, k5, k6⟩, k7, k8, k9⟩ := HL.out.cells; clear h1 g0 g1 g2 g3 hB)
    | (go_at_call 31; refine (all_any a b c d _ p0 (by omega) (by omega) (by omega)).mono ?_; rintro e w2 ⟨rfl, h2⟩; have H2 : Hid (Below w.heap.size w w2) := B_then H1.out h2; have HL2 := hide (HL.out.below h2); obtain ⟨⟨k0, k1, k2, k3⟩, ⟨k4, k5, k6⟩, k7, k8, k9⟩ := HL2.out.cells; clear h2)
    | (go_at_call 30; refine (among_any _ _ _ _).mono ?_; rintro e w3 ⟨rfl, rfl⟩; rw [f1]))
  have hs := H2.out.size
  refine bodyPost_ret_by (v := .tuple #[.int .u8 3, .int .i64 0, .int .i64 (n - 2)]) ?_ rfl ⟨rfl, ((H2.out.setCell (Nat.le_succ _) _).setCell (by simp; omega) _).setCell (by simp; omega) _⟩
  simp [results, Try.f18, go_sem, k4, k5, k6]

set_option maxHeartbeats 1000000 in
theorem what_out (a b c d n : Int) (w : World) (h : mayP a b c d) (hn : n < 0 ∨ 2 + d + a * b ≤ n) :
    Calls Try.prog 18 #[geoV a b c d, .int .i64 n] w fun e w' => e = .returned (.tuple #[.int .u8 0, .int .i64 0, .int .i64 0]) ∧ Below w.heap.size w w' := by
  have Hm : Hid (mayB a b c d = true) := decide_eq_true h
  have hp := h.mul
  have hd : 40 ≤ d ∧ d ≤ 256 := h.2.2.2.2.1
  obtain ⟨p0, p1⟩ := hp
  obtain ⟨d0, d1⟩ := hd
  have f1 : within2 n 0 (2 + d + a * b - 1) = false := within2_no (by omega)
  clear h hn
  unfold geoV
  go_enter Try.func18, Try.ntmps18
  go_wp2_with (first
    | (go_at_call 20; refine (may_any a b c d _).mono ?_; rintro e w1 ⟨rfl, h1⟩; rw [Hm.out]; obtain ⟨g0, g1, g2, g3, hB⟩ := box4 h1; have HL := hide (Lay.mk g0 g1 g2 g3); have H1 := hide hB; obtain ⟨⟨k0, k1, k2, k3⟩, ⟨k4, k5, k6⟩, k7, k8, k9⟩ := HL.out.cells; clear h1 g0 g1 g2 g3 hB)
    | (go_at_call 31; refine (all_any a b c d _ p0 (by omega) (by omega) (by omega)).mono ?_; rintro e w2 ⟨rfl, h2⟩; have H2 : Hid (Below w.heap.size w w2) := B_then H1.out h2; have HL2 := hide (HL.out.below h2); obtain ⟨⟨k0, k1, k2, k3⟩, ⟨k4, k5, k6⟩, k7, k8, k9⟩ := HL2.out.cells; clear h2)
    | (go_at_call 30; refine (among_any _ _ _ _).mono ?_; rintro e w3 ⟨rfl, rfl⟩; rw [f1]))
  have hs := H2.out.size
  refine bodyPost_ret_by (v := .tuple #[.int .u8 0, .int .i64 0, .int .i64 0]) ?_ rfl ⟨rfl, ((H2.out.setCell (Nat.le_succ _) _).setCell (by simp; omega) _).setCell (by simp; omega) _⟩
  simp [results, Try.f18, go_sem, k4, k5, k6]

set_option maxHeartbeats 1000000 in
theorem what_not (a b c d n : Int) (w : World) (h : ¬ mayP a b c d) :
    Calls Try.prog 18 #[geoV a b c d, .int .i64 n] w fun e w' => e = .returned (.tuple #[.int .u8 0, .int .i64 0, .int .i64 0]) ∧ Below w.heap.size w w' := by
  have Hm : Hid (mayB a b c d = false) := decide_eq_false h
  clear h
  unfold geoV
  go_enter Try.func18, Try.ntmps18
  go_wp2_with (first
    | (go_at_call 20; refine (may_any a b c d _).mono ?_; rintro e w1 ⟨rfl, h1⟩; rw [Hm.out]; obtain ⟨g0, g1, g2, g3, hB⟩ := box4 h1; have HL := hide (Lay.mk g0 g1 g2 g3); have H1 := hide hB; obtain ⟨⟨k0, k1, k2, k3⟩, ⟨k4, k5, k6⟩, k7, k8, k9⟩ := HL.out.cells; clear h1 g0 g1 g2 g3 hB))
  have hs := H1.out.size
  refine bodyPost_ret_by (v := .tuple #[.int .u8 0, .int .i64 0, .int .i64 0]) ?_ rfl ⟨rfl, ((H1.out.setCell (Nat.le_succ _) _).setCell (by simp; omega) _).setCell (by simp; omega) _⟩
  simp [results, Try.f18, go_sem, k4, k5, k6]

end Go.Proofs.Ytcigoodmkfnnfaa
