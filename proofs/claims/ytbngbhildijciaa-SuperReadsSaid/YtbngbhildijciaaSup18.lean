/- The walk of quernref06.may. -/
import Derived.Test.YtbngbhildijciaaSup17
namespace Go.Proofs.Ytbngbhildijciaa
open Go.RowKit
set_option linter.unusedVariables false

structure RM (W : World) (a b c d : Int) (A : Option Addr) (n : Nat) (D : Nat → De) (v : World) : Prop where
  geo : GeoAt v W.heap.size a b c d
  des : Ds v A n D
  old : Below W.heap.size W v
section
variable {W v v' : World} {a b c d : Int} {A : Option Addr} {n : Nat} {D : Nat → De}
theorem RM.below (h : RM W a b c d A n D v) (k : Below v.heap.size v v') : RM W a b c d A n D v' := ⟨h.geo.below k h.geo.lt, h.des.old k, h.old.trans (k.mono h.old.size)⟩
theorem RM.drew (h : RM W a b c d A n D v) : RM W a b c d A n D v.drew := ⟨h.geo, h.des, h.old.drew⟩
theorem RM.fresh {o : Obj} (h : RM W a b c d A n D v) (k : Only v.heap.size (v.alloc o) v') : RM W a b c d A n D v' :=
  h.below (((Below.refl _ v).alloc (Nat.le_refl _) o).trans (k.below (Nat.le_refl _) (by simp only [World.size_alloc]; omega)))
end
theorem RM.start (W : World) (a b c d : Int) (A : Option Addr) (n : Nat) (D : Nat → De) (t : TypeId) (h : Ds W A n D) : RM W a b c d A n D (W.alloc (.cells #[.int .i64 a, .int .i64 b, .int .i64 c, .int .i64 d] t)) :=
  ⟨GeoAt.new W t _ _ _ _, h.old ((Below.refl _ W).alloc (Nat.le_refl _) _), (Below.refl _ W).alloc (Nat.le_refl _) _⟩
structure RMd (W : World) (a b c d : Int) (A : Option Addr) (n : Nat) (D : Nat → De) (B : Nat) (x : De) (v : World) : Prop where
  st : RM W a b c d A n D v
  dat : DAt v B x
section
variable {W v v' : World} {a b c d : Int} {A : Option Addr} {n : Nat} {D : Nat → De} {B : Nat} {x : De}
theorem RMd.steps : ∀ v v', RMd W a b c d A n D B x v → Below v.heap.size v v' → RMd W a b c d A n D B x v' := fun v v' h k => ⟨h.st.below k, h.dat.below k h.dat.lt⟩
theorem RMd.drew (h : RMd W a b c d A n D B x v) : RMd W a b c d A n D B x v.drew := ⟨h.st.drew, h.dat⟩
end
theorem mayDP_iff {q c x y z : Int} : mayDP q c x y z ↔ 0 ≤ x ∧ x ≤ q ∧ 0 ≤ y ∧ 0 ≤ z ∧ y ≤ c ∧ z ≤ c ∧ y + z ≤ c := by unfold mayDP; omega
set_option maxRecDepth 100000 in
set_option maxHeartbeats 4000000 in
theorem rmay_any (a b c d : Int) (A : Option Addr) (n cap : Nat) (D : Nat → De) (w : World) (h : mayP a b c d) (hD : Ds w A n D) :
    Calls Try.prog 32 #[geoV a b c d, .slice A n cap] w fun e w' => e = .returned (.bool (decide ((n : Int) = a ∧ mayDs b c n D))) ∧ Below w.heap.size w w' := by
  have HDt : Hid (∀ V, Calls Try.prog 49 #[geoV a b c d] V fun e w' => e = .returned (.int .i64 (b - 2 - c / 4)) ∧ Below V.heap.size V w') := fun V =>
    (refData_any a b c d V).mono fun e w' ⟨he, hw⟩ => ⟨by rw [he, ifMay, if_pos h], hw⟩
  have ce0 : 4 ≤ c := h.2.2.1.1
  have ce1 : c ≤ 64 := h.2.2.1.2
  have S0 := hide (RM.start w a b c d A n D 23 hD)
  by_cases hn : (n : Int) = a
  case neg =>
    have HV : Hid (decide ((n : Int) = a ∧ mayDs b c n D) = false) := decide_eq_false fun q => hn q.1
    have g0 := S0.out.geo.cells.1
    clear h hD
    unfold geoV
    go_enter Try.func32, Try.ntmps32
    go_wp2_with fail
    go_ret
    exact ⟨by rw [HV.out]; rfl, S0.out.old⟩
  subst hn
  have hn4 : n ≤ 4 := by have := h.1; omega
  have HN : Hid ((∃ k, k < n ∧ ¬ mayDP (b - 2 - c / 4) c (D k).bl (D k).ino (D k).dir) → decide ((n : Int) = (n : Int) ∧ mayDs b c n D) = false) := fun ⟨k, hk, hm⟩ => decide_eq_false fun q => hm (q.2 k hk)
  have HY : Hid (mayDs b c n D → decide ((n : Int) = (n : Int) ∧ mayDs b c n D) = true) := fun hm => decide_eq_true ⟨rfl, hm⟩
  generalize decide ((n : Int) = (n : Int) ∧ mayDs b c n D) = rb at *
  have g0 := S0.out.geo.cells.1
  clear h hD
  unfold geoV
  go_enter Try.func32, Try.ntmps32
  go_wp2_with fail
  generalize World.alloc _ _ = w2 at *
  go_loopw [5] (fun i wr => ∃ k : Nat, k ≤ n ∧ i = .int .i64 k ∧ RM w (n : Int) b c d A n D wr ∧ ∀ j, j < k → mayDP (b - 2 - c / 4) c (D j).bl (D j).ino (D j).dir) (fun i _ => n - (intOf i).toNat)
  case atStart => exact ⟨0, by omega, rfl, S0.out, fun j hj => absurd hj (by omega)⟩
  case round =>
    obtain ⟨k, hk, rfl, hS, hM⟩ := hrel
    clear S0 g0
    have S3 := hide hS
    have M3 := hide hM
    clear hS hM
    by_cases hkn : k < n
    · obtain ⟨p, off, rfl, hc⟩ := S3.out.des (by omega)
      obtain ⟨c0, c1, c2⟩ := hc k hkn
      clear hc
      have hk0 : (0 : Int) ≤ k := by omega
      have hk1 : (k : Int) < n := by omega
      have hk3 : ((k : Int)).toNat = k := by omega
      have HNk : Hid (¬ mayDP (b - 2 - c / 4) c (D k).bl (D k).ino (D k).dir → rb = false) := fun hm => HN.out ⟨k, hkn, hm⟩
      have HMk : Hid (mayDP (b - 2 - c / 4) c (D k).bl (D k).ino (D k).dir → ∀ j, j < k + 1 → mayDP (b - 2 - c / 4) c (D j).bl (D j).ino (D j).dir) := fun m j hj => by
        by_cases e : j = k
        · subst e; exact m
        · exact M3.out j (by omega)
      obtain ⟨x, hx⟩ : ∃ x, (D k).bl = x := ⟨_, rfl⟩
      obtain ⟨y, hy⟩ : ∃ y, (D k).ino = y := ⟨_, rfl⟩
      obtain ⟨z, hz⟩ : ∃ z, (D k).dir = z := ⟨_, rfl⟩
      rw [hx] at c0
      rw [hy] at c1
      rw [hz] at c2
      rw [hx, hy, hz] at HNk HMk
      clear hx hy hz M3
      go_wp2_with (first
        | (refine stD rfl (.tmp 6) (.tmp 21) rfl wr.heap.size ⟨0, 0, 0⟩ ⟨x, y, z⟩ rfl rfl (DAt.new wr _ ⟨0, 0, 0⟩) ?_
           intro w4 hd ho
           have T4 : Hid (RMd w (n : Int) b c d (some ⟨p, off, none⟩) n D wr.heap.size ⟨x, y, z⟩ w4) := ⟨S3.out.fresh ho, hd⟩
           clear hd ho c0 c1 c2 S3))
      simp only [Act.put]
      generalize wr.heap.size = B at *
      generalize hq : b - 2 - c / 4 = q at *
      have Hq := hide hq
      clear hq
      have ne : Nonempty (Of (RMd w (n : Int) b c d (some ⟨p, off, none⟩) n D B ⟨x, y, z⟩)) := ⟨⟨_, T4.out⟩⟩
      have z0 : ∀ s : Of (RMd w (n : Int) b c d (some ⟨p, off, none⟩) n D B ⟨x, y, z⟩), s.val.cell? ⟨w.heap.size, 0, none⟩ = some (.int .i64 n) := fun s => s.ok.st.geo.cells.1
      have z1 : ∀ s : Of (RMd w (n : Int) b c d (some ⟨p, off, none⟩) n D B ⟨x, y, z⟩), s.val.cell? ⟨w.heap.size, 1, none⟩ = some (.int .i64 b) := fun s => s.ok.st.geo.cells.2.1
      have z2 : ∀ s : Of (RMd w (n : Int) b c d (some ⟨p, off, none⟩) n D B ⟨x, y, z⟩), s.val.cell? ⟨w.heap.size, 2, none⟩ = some (.int .i64 c) := fun s => s.ok.st.geo.cells.2.2.1
      have z3 : ∀ s : Of (RMd w (n : Int) b c d (some ⟨p, off, none⟩) n D B ⟨x, y, z⟩), s.val.cell? ⟨w.heap.size, 3, none⟩ = some (.int .i64 d) := fun s => s.ok.st.geo.cells.2.2.2
      have z4 : ∀ s : Of (RMd w (n : Int) b c d (some ⟨p, off, none⟩) n D B ⟨x, y, z⟩), s.val.cell? ⟨B, 0, none⟩ = some (.int .i64 x) := fun s => s.ok.dat.cells.1
      have z5 : ∀ s : Of (RMd w (n : Int) b c d (some ⟨p, off, none⟩) n D B ⟨x, y, z⟩), s.val.cell? ⟨B, 1, none⟩ = some (.int .i64 y) := fun s => s.ok.dat.cells.2.1
      have z6 : ∀ s : Of (RMd w (n : Int) b c d (some ⟨p, off, none⟩) n D B ⟨x, y, z⟩), s.val.cell? ⟨B, 2, none⟩ = some (.int .i64 z) := fun s => s.ok.dat.cells.2.2
      by_cases p0 : 0 ≤ x
      case neg =>
        have HV : Hid (rb = false) := HNk.out fun m => p0 (by have := mayDP_iff.1 m; omega)
        have r0 : decide (x < 0) = true := decide_eq_true (by omega)
        clear HNk HMk p0
        refine wp_region_sub (RMd w (n : Int) b c d (some ⟨p, off, none⟩) n D B ⟨x, y, z⟩) (by kernel_rfl) (by kernel_rfl) (T4.out.drew) ?_
        repeat (first
          | go_big_quiet_skip
          | (go_big_quiet_want
             go_big_quiet_op
             first
             | go_big_quiet_on
             | go_big_quiet_call (first
               | (go_at_call 49; exact sub_calls RMd.steps (HDt.out _)))))
        refine wpQuiet_nil ?_
        rintro w' ⟨s, rfl⟩
        clear z0 z1 z2 z3 z4 z5 z6
        go_wp2_with fail
        go_ret
        exact ⟨by rw [HV.out]; rfl, s.ok.st.old⟩
      have r0 : decide (x < 0) = false := decide_eq_false (by omega)
      by_cases p1 : x ≤ q
      case neg =>
        have HV : Hid (rb = false) := HNk.out fun m => p1 (by have := mayDP_iff.1 m; omega)
        have r1 : decide (q < x) = true := decide_eq_true (by omega)
        clear HNk HMk p1
        refine wp_region_sub (RMd w (n : Int) b c d (some ⟨p, off, none⟩) n D B ⟨x, y, z⟩) (by kernel_rfl) (by kernel_rfl) (T4.out.drew) ?_
        repeat (first
          | go_big_quiet_skip
          | (go_big_quiet_want
             go_big_quiet_op
             first
             | go_big_quiet_on
             | go_big_quiet_call (first
               | (go_at_call 49; exact sub_calls RMd.steps (HDt.out _)))))
        refine wpQuiet_nil ?_
        rintro w' ⟨s, rfl⟩
        clear z0 z1 z2 z3 z4 z5 z6
        go_wp2_with fail
        go_ret
        exact ⟨by rw [HV.out]; rfl, s.ok.st.old⟩
      have r1 : decide (q < x) = false := decide_eq_false (by omega)
      by_cases p2 : 0 ≤ y
      case neg =>
        have HV : Hid (rb = false) := HNk.out fun m => p2 (by have := mayDP_iff.1 m; omega)
        have r2 : decide (y < 0) = true := decide_eq_true (by omega)
        clear HNk HMk p2
        refine wp_region_sub (RMd w (n : Int) b c d (some ⟨p, off, none⟩) n D B ⟨x, y, z⟩) (by kernel_rfl) (by kernel_rfl) (T4.out.drew) ?_
        repeat (first
          | go_big_quiet_skip
          | (go_big_quiet_want
             go_big_quiet_op
             first
             | go_big_quiet_on
             | go_big_quiet_call (first
               | (go_at_call 49; exact sub_calls RMd.steps (HDt.out _)))))
        refine wpQuiet_nil ?_
        rintro w' ⟨s, rfl⟩
        clear z0 z1 z2 z3 z4 z5 z6
        go_wp2_with fail
        go_ret
        exact ⟨by rw [HV.out]; rfl, s.ok.st.old⟩
      have r2 : decide (y < 0) = false := decide_eq_false (by omega)
      by_cases p3 : 0 ≤ z
      case neg =>
        have HV : Hid (rb = false) := HNk.out fun m => p3 (by have := mayDP_iff.1 m; omega)
        have r3 : decide (z < 0) = true := decide_eq_true (by omega)
        clear HNk HMk p3
        refine wp_region_sub (RMd w (n : Int) b c d (some ⟨p, off, none⟩) n D B ⟨x, y, z⟩) (by kernel_rfl) (by kernel_rfl) (T4.out.drew) ?_
        repeat (first
          | go_big_quiet_skip
          | (go_big_quiet_want
             go_big_quiet_op
             first
             | go_big_quiet_on
             | go_big_quiet_call (first
               | (go_at_call 49; exact sub_calls RMd.steps (HDt.out _)))))
        refine wpQuiet_nil ?_
        rintro w' ⟨s, rfl⟩
        clear z0 z1 z2 z3 z4 z5 z6
        go_wp2_with fail
        go_ret
        exact ⟨by rw [HV.out]; rfl, s.ok.st.old⟩
      have r3 : decide (z < 0) = false := decide_eq_false (by omega)
      by_cases p4 : y ≤ c
      case neg =>
        have HV : Hid (rb = false) := HNk.out fun m => p4 (by have := mayDP_iff.1 m; omega)
        have r4 : decide (c < y) = true := decide_eq_true (by omega)
        clear HNk HMk p4
        refine wp_region_sub (RMd w (n : Int) b c d (some ⟨p, off, none⟩) n D B ⟨x, y, z⟩) (by kernel_rfl) (by kernel_rfl) (T4.out.drew) ?_
        repeat (first
          | go_big_quiet_skip
          | (go_big_quiet_want
             go_big_quiet_op
             first
             | go_big_quiet_on
             | go_big_quiet_call (first
               | (go_at_call 49; exact sub_calls RMd.steps (HDt.out _)))))
        refine wpQuiet_nil ?_
        rintro w' ⟨s, rfl⟩
        clear z0 z1 z2 z3 z4 z5 z6
        go_wp2_with fail
        go_ret
        exact ⟨by rw [HV.out]; rfl, s.ok.st.old⟩
      have r4 : decide (c < y) = false := decide_eq_false (by omega)
      by_cases p5 : z ≤ c
      case neg =>
        have HV : Hid (rb = false) := HNk.out fun m => p5 (by have := mayDP_iff.1 m; omega)
        have r5 : decide (c < z) = true := decide_eq_true (by omega)
        clear HNk HMk p5
        refine wp_region_sub (RMd w (n : Int) b c d (some ⟨p, off, none⟩) n D B ⟨x, y, z⟩) (by kernel_rfl) (by kernel_rfl) (T4.out.drew) ?_
        repeat (first
          | go_big_quiet_skip
          | (go_big_quiet_want
             go_big_quiet_op
             first
             | go_big_quiet_on
             | go_big_quiet_call (first
               | (go_at_call 49; exact sub_calls RMd.steps (HDt.out _)))))
        refine wpQuiet_nil ?_
        rintro w' ⟨s, rfl⟩
        clear z0 z1 z2 z3 z4 z5 z6
        go_wp2_with fail
        go_ret
        exact ⟨by rw [HV.out]; rfl, s.ok.st.old⟩
      have r5 : decide (c < z) = false := decide_eq_false (by omega)
      have hyz : IntKind.i64.wrap (y + z) = y + z := IntWalk.i64_in _ ⟨by omega, by omega⟩
      by_cases p6 : y + z ≤ c
      case neg =>
        have HV : Hid (rb = false) := HNk.out fun m => p6 (mayDP_iff.1 m).2.2.2.2.2.2
        have r6 : decide (c < y + z) = true := decide_eq_true (Int.not_le.1 p6)
        clear HNk HMk p6
        refine wp_region_sub (RMd w (n : Int) b c d (some ⟨p, off, none⟩) n D B ⟨x, y, z⟩) (by kernel_rfl) (by kernel_rfl) (T4.out.drew) ?_
        repeat (first
          | go_big_quiet_skip
          | (go_big_quiet_want
             go_big_quiet_op
             first
             | go_big_quiet_on
             | go_big_quiet_call (first
               | (go_at_call 49; exact sub_calls RMd.steps (HDt.out _)))))
        refine wpQuiet_nil ?_
        rintro w' ⟨s, rfl⟩
        clear z0 z1 z2 z3 z4 z5 z6
        go_wp2_with fail
        go_ret
        exact ⟨by rw [HV.out]; rfl, s.ok.st.old⟩
      have r6 : decide (c < y + z) = false := decide_eq_false (Int.not_lt.2 p6)
      have HM := hide (HMk.out (mayDP_iff.2 ⟨p0, p1, p2, p3, p4, p5, p6⟩))
      clear HNk HMk
      refine wp_region_sub (RMd w (n : Int) b c d (some ⟨p, off, none⟩) n D B ⟨x, y, z⟩) (by kernel_rfl) (by kernel_rfl) (T4.out.drew) ?_
      repeat (first
        | go_big_quiet_skip
        | (go_big_quiet_want
           go_big_quiet_op
           first
           | go_big_quiet_on
           | go_big_quiet_call (first
             | (go_at_call 49; exact sub_calls RMd.steps (HDt.out _)))))
      refine wpQuiet_nil ?_
      rintro w' ⟨s, rfl⟩
      clear z0 z1 z2 z3 z4 z5 z6
      go_wp2_with fail
      clear hyz
      go_roundw
      case rel => exact ⟨k + 1, by omega, by go_num, s.ok.st, by rw [Hq.out]; exact HM.out⟩
      case measure => simp [intOf]; omega
    · obtain rfl : k = n := by omega
      go_wp2_with fail
      go_ret
      exact ⟨by rw [HY.out M3.out]; rfl, S3.out.old⟩
end Go.Proofs.Ytbngbhildijciaa
