/- The walk of quernref06.Same. -/
import Derived.Test.YtbngbhildijciaaSupQ
namespace Go.Proofs.Ytbngbhildijciaa
open Go.RowKit Go.BigFrame
set_option linter.unusedVariables false

def deE (x y : De) : Bool := x.bl == y.bl && (x.ino == y.ino && x.dir == y.dir)
theorem deE_iff (x y : De) : deE x y = true ↔ x = y := by
  constructor
  · intro h
    simp [deE] at h
    cases x; cases y; simp_all
  · rintro rfl; simp [deE]
theorem equal_de (x y : De) (w : World) : (Op.equalIn 10000 50 (.agg (deC x)) (.agg (deC y))).run Try.prog w = .ok (deE x y) w := by
  rw [run_equalIn_agg w 9999 50 _ _ (by kernel_rfl) (by kernel_rfl)]
  simp only [Program.fieldsOf, Try.underlying50, Op.eqFields, Sem.run_bind, Sem.run_ite, Result.andThen_ok,
    part_int Try.underlying3 (deC x) 0 (.int .i64 x.bl) rfl, part_int Try.underlying3 (deC y) 0 (.int .i64 y.bl) rfl,
    part_int Try.underlying3 (deC x) 1 (.int .i64 x.ino) rfl, part_int Try.underlying3 (deC y) 1 (.int .i64 y.ino) rfl,
    part_int Try.underlying3 (deC x) 2 (.int .i64 x.dir) rfl, part_int Try.underlying3 (deC y) 2 (.int .i64 y.dir) rfl,
    run_equalIn_int w 9998 3 .i64 .i64 _ _ Try.underlying3]
  unfold deE
  cases x.bl == y.bl
  · simp
  cases x.ino == y.ino
  · simp
  cases x.dir == y.dir <;> simp
theorem neq_de (x y : De) (w : World) : (binOp .neq 50 (.agg (deC x)) (.agg (deC y))).run Try.prog w = .ok (.bool (!deE x y)) w := by
  rw [run_neq_struct, equal_de]; rfl
theorem eql_de (x y : De) (w : World) : (binOp .eql 50 (.agg (deC x)) (.agg (deC y))).run Try.prog w = .ok (.bool (deE x y)) w := by
  rw [run_eql_struct, equal_de]; rfl
section
variable {R : World → Prop} {o : Oper} {a : Act} {K : Act → Prop}
theorem qneqD (x y : Operand) (ho : o.op = .binOp .neq 50 x y 50) (i j : De) (hx : a.eval x = .agg (deC i)) (hy : a.eval y = .agg (deC j)) {b : Bool} (hb : (!deE i j) = b)
    (k : K (a.put o.dst (.bool b))) : o.quiet Try.prog a (fun w' => ∃ s : Of R, w' = s.val) K := by
  subst hb
  refine ⟨_, ?_, k⟩
  rintro _ ⟨s, rfl⟩
  unfold Oper.quietAt execOp
  simp only [ho, hx, hy, Sem.run_bind, run_eqGuard_agg s.val .neq 50 x y _ _ (by kernel_rfl : Try.prog.eqGuardType Try.prog.depth 50 = false), Result.andThen_ok, neq_de, Sem.run_pure]
  exact ⟨rfl, rfl⟩
end
/-- Are the first so many descriptors the same? -/
def sameD (D E : Nat → De) : Nat → Bool
  | 0 => true
  | n + 1 => sameD D E n && deE (D n) (E n)
theorem sameD_iff (D E : Nat → De) : ∀ n, sameD D E n = true ↔ ∀ i, i < n → D i = E i
  | 0 => by simp [sameD]
  | n + 1 => by
    simp only [sameD, Bool.and_eq_true, sameD_iff D E n, deE_iff]
    constructor
    · rintro ⟨h1, h2⟩ i hi
      by_cases e : i = n
      · subst e; exact h2
      · exact h1 i (by omega)
    · exact fun h => ⟨fun i hi => h i (by omega), h n (by omega)⟩
def sameDs (D E : Nat → De) (n m : Nat) : Bool := decide (n = m) && sameD D E n
structure SmSt (W : World) (A : Option Addr) (n : Nat) (D : Nat → De) (A' : Option Addr) (m : Nat) (E : Nat → De) (v : World) : Prop where
  one : Ds v A n D
  two : Ds v A' m E
  still : Below W.heap.size W v
theorem SmSt.drew {W v : World} {A A' : Option Addr} {n m : Nat} {D E : Nat → De} (h : SmSt W A n D A' m E v) : SmSt W A n D A' m E v.drew := ⟨h.one, h.two, h.still.drew⟩
set_option maxRecDepth 100000 in
set_option maxHeartbeats 2000000 in
theorem same_descs (A : Option Addr) (n cap : Nat) (D : Nat → De) (A' : Option Addr) (m cap' : Nat) (E : Nat → De) (w : World) (h1 : Ds w A n D) (h2 : Ds w A' m E) (hn : (n : Int) ≤ 9223372036854775806) :
    Calls Try.prog 15 #[.slice A n cap, .slice A' m cap'] w fun e w' => e = .returned (.bool (sameDs D E n m)) ∧ Below w.heap.size w w' := by
  have S0 : Hid (SmSt w A n D A' m E w) := ⟨h1, h2, Below.refl _ _⟩
  clear h1 h2
  by_cases hnm : n = m
  case neg =>
    have HV : Hid (sameDs D E n m = false) := by unfold Hid sameDs; rw [decide_eq_false hnm]; rfl
    have hne : ¬ (n : Int) = (m : Int) := by omega
    clear hnm
    go_enter Try.func15, Try.ntmps15
    go_wp2_with fail
    go_ret
    exact ⟨by rw [HV.out]; rfl, S0.out.still⟩
  subst hnm
  have HV : Hid (sameDs D E n n = sameD D E n) := by unfold Hid sameDs; rw [decide_eq_true rfl]; rfl
  go_enter Try.func15, Try.ntmps15
  go_wp2_with fail
  go_loopw [5] (fun i wr => ∃ k : Nat, k ≤ n ∧ i = .int .i64 k ∧ SmSt w A n D A' n E wr ∧ sameD D E k = true) (fun i _ => n - (intOf i).toNat)
  case atStart => exact ⟨0, by omega, rfl, S0.out, rfl⟩
  case round =>
    obtain ⟨k, hk, rfl, hS, hK⟩ := hrel
    clear S0
    have S1 := hide hS
    have K1 := hide hK
    clear hS hK
    by_cases hkn : k < n
    · obtain ⟨p, off, rfl, hc⟩ := S1.out.one (by omega)
      obtain ⟨p', off', rfl, hc'⟩ := S1.out.two (by omega)
      have g1 : ∀ s : Of (SmSt w (some ⟨p, off, none⟩) n D (some ⟨p', off', none⟩) n E), s.val.cell? ⟨p, off + k * 3, none⟩ = some (.int .i64 (D k).bl) ∧ s.val.cell? ⟨p, off + k * 3 + 1, none⟩ = some (.int .i64 (D k).ino) ∧ s.val.cell? ⟨p, off + k * 3 + 2, none⟩ = some (.int .i64 (D k).dir) := fun s => by
        obtain ⟨q, o, e, hq⟩ := s.ok.one (by omega)
        cases e; exact hq k hkn
      have g2 : ∀ s : Of (SmSt w (some ⟨p, off, none⟩) n D (some ⟨p', off', none⟩) n E), s.val.cell? ⟨p', off' + k * 3, none⟩ = some (.int .i64 (E k).bl) ∧ s.val.cell? ⟨p', off' + k * 3 + 1, none⟩ = some (.int .i64 (E k).ino) ∧ s.val.cell? ⟨p', off' + k * 3 + 2, none⟩ = some (.int .i64 (E k).dir) := fun s => by
        obtain ⟨q, o, e, hq⟩ := s.ok.two (by omega)
        cases e; exact hq k hkn
      have z0 := fun s => (g1 s).1
      have z1 := fun s => (g1 s).2.1
      have z2 := fun s => (g1 s).2.2
      have y0 := fun s => (g2 s).1
      have y1 := fun s => (g2 s).2.1
      have y2 := fun s => (g2 s).2.2
      have hk0 : (0 : Int) ≤ k := by omega
      have hk1 : (k : Int) < n := by omega
      have hk2 : ((k : Int)).toNat = k := by omega
      clear g1 g2 hc hc'
      have ne : Nonempty (Of (SmSt w (some ⟨p, off, none⟩) n D (some ⟨p', off', none⟩) n E)) := ⟨⟨_, S1.out⟩⟩
      cases hb : deE (D k) (E k)
      all_goals
        have hb' := congrArg Bool.not hb
        have HK : Hid (sameD D E (k + 1) = (sameD D E k && deE (D k) (E k))) := rfl
        have HB := hide hb
        clear hb
        go_wp2_with fail
        refine wp_region_sub (SmSt w (some ⟨p, off, none⟩) n D (some ⟨p', off', none⟩) n E) (by kernel_rfl) (by kernel_rfl) (S1.out.drew) ?_
        repeat (first
          | go_big_quiet_skip
          | (go_big_quiet_want
             first
             | (refine qneqD (.tmp 20) (.tmp 24) rfl (D k) (E k) rfl rfl hb' ?_)
             simp only [Act.put, List.setIfInBounds_toArray, List.set_cons_succ, List.set_cons_zero]
             go_big_quiet_on)
          | (go_big_quiet_want
             go_big_quiet_op
             go_big_quiet_on))
        refine wpQuiet_nil ?_
        rintro w' ⟨s, rfl⟩
        clear z0 z1 z2 y0 y1 y2
        go_wp2_with fail
      · go_ret
        have e : sameD D E n = false := by
          cases q : sameD D E n with
          | false => rfl
          | true =>
            have := (sameD_iff D E n).1 q k hkn
            rw [(deE_iff _ _).2 this] at HB
            cases HB.out
        exact ⟨by rw [HV.out, e]; rfl, s.ok.still⟩
      · go_round
        case rel => exact ⟨k + 1, by omega, by go_num, s.ok, by rw [HK.out, K1.out, HB.out]; rfl⟩
        case measure => simp [intOf]; omega
    · obtain rfl : k = n := by omega
      go_wp2_with fail
      go_ret
      exact ⟨by rw [HV.out, K1.out]; rfl, S1.out.still⟩
end Go.Proofs.Ytbngbhildijciaa
