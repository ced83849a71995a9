/- Superblocks compared; they are unlike just if their blocks are. -/
import Derived.Test.YtbngbhildijciaaSup10
namespace Go.Proofs.Ytbngbhildijciaa
open Go.RowKit Go.BigFrame
set_option linter.unusedVariables false

/-- A superblock in five numbers. -/
structure Su where
  a : Int
  b : Int
  c : Int
  d : Int
  o : Int
def suC (x : Su) : Array Value := supC x.a x.b x.c x.d x.o
def suV (x : Su) : Value := supV x.a x.b x.c x.d x.o
def geE (x y : Su) : Bool := x.a == y.a && (x.b == y.b && (x.c == y.c && x.d == y.d))
def suE (x y : Su) : Bool := geE x y && x.o == y.o
def gC (x : Su) : Array Value := #[.int .i64 x.a, .int .i64 x.b, .int .i64 x.c, .int .i64 x.d]
theorem suE_iff (x y : Su) : suE x y = true ↔ x = y := by
  constructor
  · intro h
    simp [suE, geE] at h
    obtain ⟨⟨h1, h2, h3, h4⟩, h5⟩ := h
    cases x; cases y; simp_all
  · rintro rfl; simp [suE, geE]
theorem geo_part (x : Su) (w : World) : (Go.part 23 (suC x) 0).run Try.prog w = .ok (.agg (gC x)) w := by
  have h := infoG
  cases hj : Try.prog.info? 23 with
  | none => rw [hj] at h; cases h
  | some j =>
    have hs : j.size = 4 := by rw [hj] at h; simpa using h
    simp [Go.part, isAgg, run_underlying Try.underlying23, sizeOf, typeInfo, suC, supC, gC, hj, hs]
theorem equal_geo (x y : Su) (w : World) : (Op.equalIn 9999 23 (.agg (gC x)) (.agg (gC y))).run Try.prog w = .ok (geE x y) w := by
  rw [run_equalIn_agg w 9998 23 _ _ (by kernel_rfl) (by kernel_rfl)]
  simp only [Program.fieldsOf, Try.underlying23, Op.eqFields, Sem.run_bind, Sem.run_ite, Result.andThen_ok,
    part_int Try.underlying3 (gC x) 0 (.int .i64 x.a) rfl, part_int Try.underlying3 (gC y) 0 (.int .i64 y.a) rfl,
    part_int Try.underlying3 (gC x) 1 (.int .i64 x.b) rfl, part_int Try.underlying3 (gC y) 1 (.int .i64 y.b) rfl,
    part_int Try.underlying3 (gC x) 2 (.int .i64 x.c) rfl, part_int Try.underlying3 (gC y) 2 (.int .i64 y.c) rfl,
    part_int Try.underlying3 (gC x) 3 (.int .i64 x.d) rfl, part_int Try.underlying3 (gC y) 3 (.int .i64 y.d) rfl,
    run_equalIn_int w 9997 3 .i64 .i64 _ _ Try.underlying3]
  unfold geE
  cases x.a == y.a
  · simp
  cases x.b == y.b
  · simp
  cases x.c == y.c
  · simp
  cases x.d == y.d <;> simp
theorem equal_sup (x y : Su) (w : World) : (Op.equalIn 10000 26 (.agg (suC x)) (.agg (suC y))).run Try.prog w = .ok (suE x y) w := by
  rw [run_equalIn_agg w 9999 26 _ _ (by kernel_rfl) (by kernel_rfl)]
  simp only [Program.fieldsOf, Try.underlying26, Op.eqFields, Sem.run_bind, Sem.run_ite, Result.andThen_ok, geo_part, equal_geo,
    part_int Try.underlying24 (suC x) 4 (.int .u32 x.o) rfl, part_int Try.underlying24 (suC y) 4 (.int .u32 y.o) rfl,
    run_equalIn_int w 9998 24 .u32 .u32 _ _ Try.underlying24]
  unfold suE
  cases geE x y
  · simp
  cases x.o == y.o <;> simp
theorem eql_sup (x y : Su) (w : World) : (binOp .eql 26 (.agg (suC x)) (.agg (suC y))).run Try.prog w = .ok (.bool (suE x y)) w := by
  rw [run_eql_struct, equal_sup]; rfl
theorem neq_sup (x y : Su) (w : World) : (binOp .neq 26 (.agg (suC x)) (.agg (suC y))).run Try.prog w = .ok (.bool (!suE x y)) w := by
  rw [run_neq_struct, equal_sup]; rfl
section
variable {R : World → Prop} {o : Oper} {a : Act} {K : Act → Prop}
theorem qldS (x : Operand) (ho : o.op = .load 26 x) (B : Nat) (s : Su) (hx : a.eval x = .pointer (some ⟨B, 0, none⟩)) (h : ∀ w, R w → SuAt w B s.a s.b s.c s.d s.o)
    (k : K (a.put o.dst (.agg (suC s)))) : o.quiet Try.prog a (fun w' => ∃ s : Of R, w' = s.val) K := by
  refine ⟨_, ?_, k⟩
  rintro _ ⟨v, rfl⟩
  obtain ⟨t, hr⟩ := h _ v.ok
  unfold Oper.quietAt execOp
  simp only [ho, hx, Instr.loadAt, Instr.sureAddr, Sem.run_bind, Sem.run_pure, Result.andThen_ok, run_loadVar_row v.val B t 26 (supC s.a s.b s.c s.d s.o) (0, 0) _ hr Try.underlying26 rfl infoS]
  exact ⟨rfl, rfl⟩
theorem qeqlS (x y : Operand) (ho : o.op = .binOp .eql 26 x y 26) (i j : Su) (hx : a.eval x = .agg (suC i)) (hy : a.eval y = .agg (suC j)) {b : Bool} (hb : suE i j = b)
    (k : K (a.put o.dst (.bool b))) : o.quiet Try.prog a (fun w' => ∃ s : Of R, w' = s.val) K := by
  subst hb
  refine ⟨_, ?_, k⟩
  rintro _ ⟨s, rfl⟩
  unfold Oper.quietAt execOp
  simp only [ho, hx, hy, Sem.run_bind, run_eqGuard_agg s.val .eql 26 x y _ _ (by kernel_rfl : Try.prog.eqGuardType Try.prog.depth 26 = false), Result.andThen_ok, eql_sup, Sem.run_pure]
  exact ⟨rfl, rfl⟩
end
/-- Two superblocks that may be have one block just if they are the same. -/
theorem sup_unlike {x y : Su} (hx : mayP x.a x.b x.c x.d) (hy : mayP y.a y.b y.c y.d) (x0 : 0 ≤ x.o) (x1 : x.o ≤ 4294967295) (y0 : 0 ≤ y.o) (y1 : y.o ≤ 4294967295) :
    sameB (sealF (pageF x.a x.b x.c x.d x.o)) (sealF (pageF y.a y.b y.c y.d y.o)) 256 = suE x y := by
  rw [Bool.eq_iff_iff, sameB_iff, suE_iff]
  constructor
  · intro h
    obtain ⟨-, p1, p2, p3, p4, p5⟩ := read_write hx x0 x1
    obtain ⟨-, q1, q2, q3, q4, q5⟩ := read_write hy y0 y1
    have e : ∀ p k, p + k ≤ 256 → part (sealF (pageF x.a x.b x.c x.d x.o)) p k = part (sealF (pageF y.a y.b y.c y.d y.o)) p k := fun p k hk => part_congr fun i hi => h _ (by omega)
    have e1 := (p1.symm.trans (e 8 2 (by omega))).trans q1
    have e2 := (p2.symm.trans (e 10 2 (by omega))).trans q2
    have e3 := (p3.symm.trans (e 12 2 (by omega))).trans q3
    have e4 := (p4.symm.trans (e 14 2 (by omega))).trans q4
    have e5 := (p5.symm.trans (e 16 4 (by omega))).trans q5
    cases x; cases y; simp_all
  · rintro rfl i _; rfl
theorem wr_zero {x : Su} (h : wrC x.a x.b x.c x.d x.o = 0) : mayP x.a x.b x.c x.d ∧ wrF x.a x.b x.c x.d x.o = sealF (pageF x.a x.b x.c x.d x.o) := by
  unfold wrC at h
  by_cases m : mayP x.a x.b x.c x.d
  · rw [if_pos m] at h
    by_cases q : x.o ≤ x.a * x.c
    · exact ⟨m, by unfold wrF; rw [if_pos ⟨m, q⟩]⟩
    · rw [if_neg q] at h; omega
  · rw [if_neg m] at h; omega
theorem wr_codes (x : Su) : wrC x.a x.b x.c x.d x.o = 0 ∨ wrC x.a x.b x.c x.d x.o = 2 ∨ wrC x.a x.b x.c x.d x.o = 50 := by
  unfold wrC; split
  · split <;> simp
  · simp
/-- The law's two superblocks. -/
structure VSt (w : World) (x y : Su) (v : World) : Prop where
  one : SuAt v w.heap.size x.a x.b x.c x.d x.o
  two : SuAt v (w.heap.size + 1) y.a y.b y.c y.d y.o
  old : Below w.heap.size w v
section
variable {w v v' : World} {x y : Su}
theorem VSt.lt (h : VSt w x y v) : w.heap.size + 1 < v.heap.size := h.two.lt
theorem VSt.below (h : VSt w x y v) (k : Below v.heap.size v v') : VSt w x y v' := ⟨h.one.below k h.one.lt, h.two.below k h.two.lt, h.old.trans (k.mono h.old.size)⟩
theorem VSt.drew (h : VSt w x y v) : VSt w x y v.drew := ⟨h.one, h.two, h.old.drew⟩
theorem VSt.fresh {o : Obj} (h : VSt w x y v) (k : Only v.heap.size (v.alloc o) v') : VSt w x y v' :=
  h.below (((Below.refl _ v).alloc (Nat.le_refl _) o).trans (k.below (Nat.le_refl _) (by simp only [World.size_alloc]; omega)))
end
theorem VSt.start (w : World) (x y : Su) (t s : TypeId) : VSt w x y ((w.alloc (.cells (suC x) t)).alloc (.cells (suC y) s)) := by
  have n0 : SuAt (w.alloc (.cells (suC x) t)) w.heap.size x.a x.b x.c x.d x.o := SuAt.new w t _ _ _ _ _
  have n1 := SuAt.new (w.alloc (.cells (suC x) t)) s y.a y.b y.c y.d y.o
  simp only [World.size_alloc] at n1
  exact ⟨n0.alloc _, n1, ((Below.refl _ w).alloc (Nat.le_refl _) _).alloc (by simp only [World.size_alloc]; omega) _⟩
structure V2 (w : World) (x y : Su) (A B : Nat) (F G : Nat → Int) (v : World) : Prop where
  st : VSt w x y v
  one : Row v A 256 F
  two : Row v B 256 G
theorem V2.drew {w : World} {x y : Su} {A B : Nat} {F G : Nat → Int} {v : World} (h : V2 w x y A B F G v) : V2 w x y A B F G v.drew := ⟨h.st.drew, h.one, h.two⟩
set_option maxRecDepth 100000 in
set_option maxHeartbeats 2000000 in
theorem superUnlike_law (x y : Su) (x0 : 0 ≤ x.o) (x1 : x.o ≤ 4294967295) (y0 : 0 ≤ y.o) (y1 : y.o ≤ 4294967295) (w : World) :
    Calls Try.prog 4 #[suV x, suV y] w fun e w' => e = .returned (.bool true) ∧ Below w.heap.size w w' := by
  have S0 := hide (VSt.start w x y 26 26)
  have HW1 : Hid (∀ V, Calls Try.prog 11 #[.agg (suC x)] V fun e w' => e = .returned (.tuple #[.agg (bytesOf 256 (wrF x.a x.b x.c x.d x.o)), .int .i64 (wrC x.a x.b x.c x.d x.o)]) ∧ Below V.heap.size V w') := fun V => write_any _ _ _ _ _ V x0 x1
  have HW2 : Hid (∀ V, Calls Try.prog 11 #[.agg (suC y)] V fun e w' => e = .returned (.tuple #[.agg (bytesOf 256 (wrF y.a y.b y.c y.d y.o)), .int .i64 (wrC y.a y.b y.c y.d y.o)]) ∧ Below V.heap.size V w') := fun V => write_any _ _ _ _ _ V y0 y1
  have hc : wrC x.a x.b x.c x.d x.o = 0 → wrC y.a y.b y.c y.d y.o = 0 → sameB (wrF x.a x.b x.c x.d x.o) (wrF y.a y.b y.c y.d y.o) 256 = suE x y := fun h k => by
    obtain ⟨m, e⟩ := wr_zero h
    obtain ⟨n, f⟩ := wr_zero k
    rw [e, f]; exact sup_unlike m n x0 x1 y0 y1
  have c1 := wr_codes x
  have c2 := wr_codes y
  generalize wrF x.a x.b x.c x.d x.o = F at *
  generalize wrF y.a y.b y.c y.d y.o = G at *
  generalize wrC x.a x.b x.c x.d x.o = c at *
  generalize wrC y.a y.b y.c y.d y.o = e' at *
  obtain ⟨b, hb⟩ : ∃ b, suE x y = b := ⟨_, rfl⟩
  rw [hb] at hc
  have HC := hide hc
  have HB := hide hb
  clear hc hb x0 x1 y0 y1
  unfold suV supV
  change Calls Try.prog _ #[.agg (suC x), .agg (suC y)] w _
  have hcs : (c = 0 ∧ e' = 0) ∨ (c = 2 ∨ c = 50) ∨ (c = 0 ∧ (e' = 2 ∨ e' = 50)) := by omega
  clear c1 c2
  go_enter Try.func4, Try.ntmps4
  go_wp2_with fail
  refine (awake_any _).mono ?_
  rintro e w1 ⟨rfl, hw⟩
  have S1 := hide (S0.out.below hw)
  clear hw S0
  go_wp2_with (refine ldS rfl (.tmp 2) rfl _ _ _ _ _ _ rfl S1.out.one ?_)
  refine (HW1.out _).mono ?_
  rintro e w2 ⟨rfl, hw⟩
  have S2 := hide (S1.out.below hw)
  clear hw S1
  go_wp2_with (first
    | (refine allocB rfl rfl ?_)
    | (refine st256 rfl (.tmp 5) (.tmp 14) rfl w2.heap.size zeroF F rfl rfl (Row.new w2 _ _ _) ?_
       intro w3 hr ho
       have S3 := hide (S2.out.fresh ho)
       have R3 := hide hr
       clear hr ho S2)
    | (refine ldS rfl (.tmp 3) rfl _ _ _ _ _ _ rfl S3.out.two ?_))
  generalize w2.heap.size = A at *
  refine (HW2.out _).mono ?_
  rintro e w4 ⟨rfl, hw⟩
  have S4 := hide (S3.out.below hw)
  have R4 := hide (R3.out.below hw R3.out.lt)
  have hA : A < w4.heap.size := R4.out.lt
  clear hw S3 R3
  go_wp2_with (first
    | (refine allocB rfl rfl ?_)
    | (refine st256 rfl (.tmp 7) (.tmp 19) rfl w4.heap.size zeroF G rfl rfl (Row.new w4 _ _ _) ?_
       intro w5 hr ho
       have P5 : Hid (V2 w x y A w4.heap.size F G w5) := ⟨S4.out.fresh ho, (R4.out.alloc _).only ho (Nat.ne_of_lt hA), hr⟩
       clear hr ho S4 R4))
  generalize w4.heap.size = B at *
  have ne : Nonempty (Of (V2 w x y A B F G)) := ⟨⟨_, P5.out⟩⟩
  cases b
  all_goals
    obtain ⟨rfl, rfl⟩ | (rfl | rfl) | ⟨rfl, rfl | rfl⟩ := hcs
  all_goals
    try have k := HC.out rfl rfl
    have hb := HB.out
    clear HC
    refine wp_region_sub (V2 w x y A B F G) (by kernel_rfl) (by kernel_rfl) (P5.out.drew) ?_
    repeat (first
      | go_big_quiet_skip
      | (go_big_quiet_want
         first
         | (refine qldB (.tmp 5) rfl _ _ rfl (fun v h => h.one) ?_)
         | (refine qldB (.tmp 7) rfl _ _ rfl (fun v h => h.two) ?_)
         | (refine qldS (.tmp 2) rfl _ x rfl (fun v h => h.st.one) ?_)
         | (refine qldS (.tmp 3) rfl _ y rfl (fun v h => h.st.two) ?_)
         | (refine qeqlB (.tmp 28) (.tmp 29) rfl _ _ rfl rfl k ?_)
         | (refine qeqlS (.tmp 31) (.tmp 32) rfl x y rfl rfl hb ?_)
         simp only [Act.put, List.setIfInBounds_toArray, List.set_cons_succ, List.set_cons_zero]
         go_big_quiet_on)
      | (go_big_quiet_want
         go_big_quiet_op
         go_big_quiet_on))
    refine wpQuiet_nil ?_
    rintro w' ⟨s, rfl⟩
    go_wp2_with fail
    go_ret
    exact ⟨rfl, s.ok.st.old⟩
end Go.Proofs.Ytbngbhildijciaa
