/- The walk of super.Write. -/
import Derived.Test.YtbngbhildijciaaSup3
namespace Go.Proofs.Ytbngbhildijciaa
open Go.RowKit
set_option linter.unusedVariables false

section
variable {ops : Array Oper} {rest : List Oper} {o : Oper} {a : Act} {w : World} {Q : Exit → Act → World → Prop}
theorem zero_page : ∃ i, Try.prog.info? 61 = some i ∧ i.zero = some (.agg (bytesOf 256 zeroF)) := by
  have h : (Try.prog.info? 61).map (·.zero) = some (some (.agg (bytesOf 256 zeroF))) := by kernel_rfl
  cases hi : Try.prog.info? 61 with
  | none => rw [hi] at h; cases h
  | some i => rw [hi] at h; exact ⟨i, rfl, by simpa using h⟩
theorem allocP (hgd : o.guard = none) (ho : o.op = .alloc 61)
    (k : wpList Try.prog ops Q rest (a.put o.dst (.pointer (some ⟨w.heap.size, 0, none⟩))) (w.alloc (.cells (bytesOf 256 zeroF) 61))) : wpList Try.prog ops Q (o :: rest) a w := by
  obtain ⟨i, hi, hz⟩ := zero_page
  refine wpList_plain hgd fun _ hK => ?_
  unfold Oper.wp execOp
  simp [ho, Instr.alloc, zeroValue, typeInfo, hi, hz, newVar, newRow, Value.cells]
  exact hK _ _ k
theorem buildB (hgd : o.guard = none) (ho : o.op = .build 29 #[])
    (k : wpList Try.prog ops Q rest (a.put o.dst (.agg (bytesOf 256 zeroF))) w) : wpList Try.prog ops Q (o :: rest) a w := by
  obtain ⟨i, hi, hz⟩ := zero_blk
  obtain ⟨j, hj⟩ := some_info
  refine wpList_plain hgd fun _ hK => ?_
  unfold Oper.wp execOp
  simp [ho, Instr.build, Instr.fill, zeroValue, typeInfo, hi, hz, Value.cells, Try.underlying29, underlying, sizeOf, hj]
  exact hK _ _ k
theorem part_int {P : Program} {t : TypeId} {k : IntKind} (h : P.underlying t = some (.int k)) (xs : Array Value) (o : Nat) (v : Value) (hx : xs[o]? = some v) (w : World) : (Go.part t xs o).run P w = .ok v w := by
  simp [Go.part, isAgg, run_underlying h, hx]
theorem int_info : ∃ i, Try.prog.info? 3 = some i ∧ i.size = 1 := by
  have h : (Try.prog.info? 3).map (·.size) = some 1 := by kernel_rfl
  cases hi : Try.prog.info? 3 with
  | none => rw [hi] at h; cases h
  | some i => rw [hi] at h; exact ⟨i, rfl, by simpa using h⟩
theorem run_index6 (xs : Array Value) (i : Int) (k : Nat) (v : Value) (hi : i = k) (hk : k < 6) (hx : xs[k]? = some v) (w : World) : (Instr.index 66 (.agg xs) (.int .i64 i)).run Try.prog w = .ok v w := by
  subst hi
  obtain ⟨j, hj, hs⟩ := int_info
  have h1 : (0 : Int) ≤ k := by omega
  simp [Instr.index, asIntOf, run_underlying Try.underlying66, h1, sizeOf, typeInfo, hj, hs, part_int Try.underlying3 xs k v hx]
  exact fun h => absurd hk (by omega)
theorem idx6 (hgd : o.guard = none) (x y : Operand) (ho : o.op = .index 66 x y) (xs : Array Value) (i : Int) (k : Nat) (v : Value) (hx : a.eval x = .agg xs) (hy : a.eval y = .int .i64 i) (hi : i = k) (hk : k < 6) (hv : xs[k]? = some v)
    (K : wpList Try.prog ops Q rest (a.put o.dst v) w) : wpList Try.prog ops Q (o :: rest) a w := by
  refine wpList_plain hgd fun _ hK => ?_
  unfold Oper.wp execOp
  simp only [ho, hx, hy, Sem.run_bind, run_index6 xs i k v hi hk hv, Result.andThen_ok, Sem.run_pure]
  exact hK _ _ K
end
def supC (a b c d o : Int) : Array Value := #[.int .i64 a, .int .i64 b, .int .i64 c, .int .i64 d, .int .u32 o]
def supV (a b c d o : Int) : Value := .agg (supC a b c d o)
/-- The superblock's bytes, but for the sum. -/
def pageF (a b c d o : Int) : Nat → Int := putB (putB (putB (putB (putB (putB (putB (putB zeroF 0 827216465 4) 4 1 2) 6 256 2) 8 a 2) 10 b 2) 12 c 2) 14 d 2) 16 o 4
theorem pageF_byte (a b c d o : Int) : IsByte (pageF a b c d o) :=
  putB_byte (putB_byte (putB_byte (putB_byte (putB_byte (putB_byte (putB_byte (putB_byte zeroF_isByte _ _ _) _ _ _) _ _ _) _ _ _) _ _ _) _ _ _) _ _ _) _ _ _
/-- What Write tells. -/
def wrC (a b c d o : Int) : Int := if mayP a b c d then (if o ≤ a * c then 0 else 2) else 50
def wrF (a b c d o : Int) : Nat → Int := if mayP a b c d ∧ o ≤ a * c then sealF (pageF a b c d o) else zeroF
/-- The superblock and the result's place. -/
structure WSt (W : World) (a b c d o : Int) (v : World) : Prop where
  sup : ∃ t, v.heap[W.heap.size]? = some (.cells (supC a b c d o) t (0, 0))
  res : Row v (W.heap.size + 1) 256 zeroF
  old : Below W.heap.size W v
section
variable {W v v' : World} {a b c d o : Int}
theorem WSt.lt (h : WSt W a b c d o v) : W.heap.size + 1 < v.heap.size := h.res.lt
theorem WSt.below (h : WSt W a b c d o v) (k : Below v.heap.size v v') : WSt W a b c d o v' :=
  ⟨by obtain ⟨t, e⟩ := h.sup; exact ⟨t, (k.block _ (lt_of_block e)).trans e⟩, h.res.below k h.res.lt, h.old.trans (k.mono h.old.size)⟩
theorem WSt.upto {B : Nat} (h : WSt W a b c d o v) (k : Below B v v') (hB : W.heap.size + 1 < B) (hB2 : B ≤ v.heap.size) : WSt W a b c d o v' :=
  ⟨by obtain ⟨t, e⟩ := h.sup; exact ⟨t, (k.block _ (by omega)).trans e⟩, h.res.below k hB, h.old.trans (k.mono (by omega))⟩
theorem WSt.drew (h : WSt W a b c d o v) : WSt W a b c d o v.drew := ⟨h.sup, h.res, h.old.drew⟩
theorem WSt.alloc (h : WSt W a b c d o v) (x : Obj) : WSt W a b c d o (v.alloc x) := h.below ((Below.refl _ v).alloc (Nat.le_refl _) x)
theorem WSt.only {g : Nat} (h : WSt W a b c d o v) (k : Only g v v') (hg : W.heap.size + 1 < g) (hl : g < v.heap.size) : WSt W a b c d o v' := h.upto (k.below (B := g) (Nat.le_refl _) (by omega)) hg (by omega)
theorem WSt.cells (h : WSt W a b c d o v) : v.cell? ⟨W.heap.size, 0, none⟩ = some (.int .i64 a) ∧ v.cell? ⟨W.heap.size, 1, none⟩ = some (.int .i64 b) ∧ v.cell? ⟨W.heap.size, 2, none⟩ = some (.int .i64 c) ∧ v.cell? ⟨W.heap.size, 3, none⟩ = some (.int .i64 d) ∧ v.cell? ⟨W.heap.size, 4, none⟩ = some (.int .u32 o) := by
  obtain ⟨t, e⟩ := h.sup
  refine ⟨?_, ?_, ?_, ?_, ?_⟩ <;> (rw [cell_of_row _ _ _ _ _ _ e]; rfl)
end
theorem WSt.start (W : World) (a b c d o : Int) (t s : TypeId) : WSt W a b c d o ((W.alloc (.cells (supC a b c d o) t)).alloc (.cells (bytesOf 256 zeroF) s)) := by
  have n0 := heap_alloc_new W (.cells (supC a b c d o) t)
  have n1 := Row.new (W.alloc (.cells (supC a b c d o) t)) s 256 zeroF
  simp only [World.size_alloc] at n1
  exact ⟨⟨t, (Below.heap_alloc _ _ _ (by simp only [World.size_alloc]; omega)).trans n0⟩, n1, ((Below.refl _ W).alloc (Nat.le_refl _) _).alloc (by simp only [World.size_alloc]; omega) _⟩

/-- The first numbers, one by one. -/
def wrV (a b c d : Int) : Nat → Int
  | 0 => 1
  | 1 => 256
  | 2 => a
  | 3 => b
  | 4 => c
  | _ => d
def wrK (a b c d : Int) : Nat → Nat → Int
  | 0 => putB zeroF 0 827216465 4
  | k + 1 => putB (wrK a b c d k) (4 + 2 * k) (wrV a b c d k) 2
theorem wrK_byte (a b c d : Int) : ∀ k, IsByte (wrK a b c d k)
  | 0 => putB_byte zeroF_isByte _ _ _
  | k + 1 => putB_byte (wrK_byte a b c d k) _ _ _
def Wr13 (w : World) (a b c d_ o : Int) (G : Nat) (F : Nat → Int) (p0 p3 p5 p6 p7 p8 p9 p10 p11 p12 p13 p14 p15 p16 p17 p18 p19 p20 p21 p22 p23 p24 p25 p26 p27 p28 p29 p30 p31 p32 p33 p34 p35 p36 p37 p38 p39 p40 p41 p42 p43 p44 p45 p46 p47 p48 : Value) (d : Nat → Bool) (A : Act) (v : World) : Prop := ∃ s49 s50 s51 s52, A = { tmps := (p0 :: Value.pointer (some ⟨w.heap.size, 0, none⟩) :: Value.pointer (some ⟨w.heap.size + 1, 0, none⟩) :: p3 :: Value.pointer (some ⟨G, 0, none⟩) :: p5 :: p6 :: p7 :: p8 :: p9 :: p10 :: p11 :: p12 :: p13 :: p14 :: p15 :: p16 :: p17 :: p18 :: p19 :: p20 :: p21 :: p22 :: p23 :: p24 :: p25 :: p26 :: p27 :: p28 :: p29 :: p30 :: p31 :: p32 :: p33 :: p34 :: p35 :: p36 :: p37 :: p38 :: p39 :: p40 :: p41 :: p42 :: p43 :: p44 :: p45 :: p46 :: p47 :: p48 :: s49 :: s50 :: s51 :: s52 :: undef :: []).toArray, defers := [] } ∧ (WSt w a b c d_ o v ∧ Row v G 256 (bif d 3 then putB F 16 o 4 else F)) ∧ (d 0 = true → s49 = Value.slice (some ⟨G, 0, none⟩) 256 256) ∧ (d 1 = true → s50 = Value.pointer (some ⟨w.heap.size, 4, none⟩)) ∧ (d 2 = true → s51 = Value.int .u32 o) ∧ (d 3 = true → s52 = Value.bool true)
theorem Wr13.elim {w : World} {a b c d_ o : Int} {G : Nat} {F : Nat → Int} {p0 p3 p5 p6 p7 p8 p9 p10 p11 p12 p13 p14 p15 p16 p17 p18 p19 p20 p21 p22 p23 p24 p25 p26 p27 p28 p29 p30 p31 p32 p33 p34 p35 p36 p37 p38 p39 p40 p41 p42 p43 p44 p45 p46 p47 p48 : Value} {d : Nat → Bool} {A : Act} {v : World} (H : Wr13 w a b c d_ o G F p0 p3 p5 p6 p7 p8 p9 p10 p11 p12 p13 p14 p15 p16 p17 p18 p19 p20 p21 p22 p23 p24 p25 p26 p27 p28 p29 p30 p31 p32 p33 p34 p35 p36 p37 p38 p39 p40 p41 p42 p43 p44 p45 p46 p47 p48 d A v) {GG : Prop} (k : ∀ s49 s50 s51 s52, A = { tmps := (p0 :: Value.pointer (some ⟨w.heap.size, 0, none⟩) :: Value.pointer (some ⟨w.heap.size + 1, 0, none⟩) :: p3 :: Value.pointer (some ⟨G, 0, none⟩) :: p5 :: p6 :: p7 :: p8 :: p9 :: p10 :: p11 :: p12 :: p13 :: p14 :: p15 :: p16 :: p17 :: p18 :: p19 :: p20 :: p21 :: p22 :: p23 :: p24 :: p25 :: p26 :: p27 :: p28 :: p29 :: p30 :: p31 :: p32 :: p33 :: p34 :: p35 :: p36 :: p37 :: p38 :: p39 :: p40 :: p41 :: p42 :: p43 :: p44 :: p45 :: p46 :: p47 :: p48 :: s49 :: s50 :: s51 :: s52 :: undef :: []).toArray, defers := [] } → (WSt w a b c d_ o v ∧ Row v G 256 (bif d 3 then putB F 16 o 4 else F)) → (d 0 = true → s49 = Value.slice (some ⟨G, 0, none⟩) 256 256) → (d 1 = true → s50 = Value.pointer (some ⟨w.heap.size, 4, none⟩)) → (d 2 = true → s51 = Value.int .u32 o) → (d 3 = true → s52 = Value.bool true) → GG) : GG := by
  obtain ⟨s49, s50, s51, s52, e, HS, h0, h1, h2, h3⟩ := H
  exact k s49 s50 s51 s52 e HS h0 h1 h2 h3
set_option maxRecDepth 100000 in
set_option maxHeartbeats 1000000 in
theorem write_geo (a b c d o : Int) (w : World) (h : ¬ mayP a b c d) :
    Calls Try.prog 11 #[supV a b c d o] w fun e w' => e = .returned (.tuple #[.agg (bytesOf 256 zeroF), .int .i64 50]) ∧ Below w.heap.size w w' := by
  have H : Hid (mayB a b c d = false) := decide_eq_false h
  have S0 := hide (WSt.start w a b c d o 26 29)
  obtain ⟨k0, k1, k2, k3, k4⟩ := S0.out.cells
  clear h
  unfold supV
  go_enter Try.func11, Try.ntmps11
  go_wp2_with (refine allocB rfl rfl ?_)
  refine (may_any a b c d _).mono ?_
  rintro e w1 ⟨rfl, hw⟩
  rw [H.out]
  have S1 := hide (S0.out.below hw)
  clear hw S0 k0 k1 k2 k3 k4
  go_wp2_with (first
    | (refine buildB rfl rfl ?_)
    | (refine st256 rfl (.tmp 2) (.tmp 12) rfl (w.heap.size + 1) zeroF zeroF rfl rfl S1.out.res ?_; intro w2 hr2 ho2; have HR2 := hide hr2; have HO2 := hide ho2; clear hr2 ho2))
  exact bodyPost_ret_by (results_blk rfl _ _ _ _ _ rfl rfl HR2.out) rfl ⟨rfl, S1.out.old.trans (HO2.out.below (by omega) S1.out.old.size)⟩

set_option maxRecDepth 100000 in
set_option maxHeartbeats 1000000 in
theorem write_arg (a b c d o : Int) (w : World) (h : mayP a b c d) (ho0 : 0 ≤ o) (ho1 : o ≤ 4294967295) (hle : ¬ o ≤ a * c) :
    Calls Try.prog 11 #[supV a b c d o] w fun e w' => e = .returned (.tuple #[.agg (bytesOf 256 zeroF), .int .i64 2]) ∧ Below w.heap.size w w' := by
  have H : Hid (mayB a b c d = true) := decide_eq_true h
  have hm := h.mulc
  have HI : Hid (∀ V, Calls Try.prog 22 #[geoV a b c d] V fun e w' => e = .returned (.int .i64 (a * c)) ∧ Below V.heap.size V w') := fun V =>
    (inodes_any a b c d V).mono fun e w' ⟨he, hw⟩ => ⟨by rw [he, ifMay, if_pos h], hw⟩
  obtain ⟨m, hM⟩ : ∃ m, m = a * c := ⟨_, rfl⟩
  rw [← hM] at hm HI hle
  obtain ⟨hm0, hm1⟩ := hm
  have BA : Hid (0 ≤ a ∧ a ≤ 65535) := (by have := h.1; omega : 0 ≤ a ∧ a ≤ 65535)
  have BB : Hid (0 ≤ b ∧ b ≤ 65535) := (by have := h.2.1; omega : 0 ≤ b ∧ b ≤ 65535)
  have BC : Hid (0 ≤ c ∧ c ≤ 65535) := (by have := h.2.2.1; omega : 0 ≤ c ∧ c ≤ 65535)
  have BD : Hid (0 ≤ d ∧ d ≤ 65535) := (by have := h.2.2.2.2.1; omega : 0 ≤ d ∧ d ≤ 65535)
  have S0 := hide (WSt.start w a b c d o 26 29)
  obtain ⟨k0, k1, k2, k3, k4⟩ := S0.out.cells
  clear h hM
  unfold supV
  go_enter Try.func11, Try.ntmps11
  go_wp2_with (refine allocB rfl rfl ?_)
  refine (may_any a b c d _).mono ?_
  rintro e w1 ⟨rfl, hw⟩
  rw [H.out]
  have S1 := hide (S0.out.below hw)
  clear hw S0 k0 k1 k2 k3 k4 H
  have ne : Nonempty (Of (WSt w a b c d o)) := ⟨⟨_, S1.out⟩⟩
  have z0 : ∀ s : Of (WSt w a b c d o), s.val.cell? ⟨w.heap.size, 0, none⟩ = some (.int .i64 a) := fun s => s.ok.cells.1
  have z1 : ∀ s : Of (WSt w a b c d o), s.val.cell? ⟨w.heap.size, 1, none⟩ = some (.int .i64 b) := fun s => s.ok.cells.2.1
  have z2 : ∀ s : Of (WSt w a b c d o), s.val.cell? ⟨w.heap.size, 2, none⟩ = some (.int .i64 c) := fun s => s.ok.cells.2.2.1
  have z3 : ∀ s : Of (WSt w a b c d o), s.val.cell? ⟨w.heap.size, 3, none⟩ = some (.int .i64 d) := fun s => s.ok.cells.2.2.2.1
  have z4 : ∀ s : Of (WSt w a b c d o), s.val.cell? ⟨w.heap.size, 4, none⟩ = some (.int .u32 o) := fun s => s.ok.cells.2.2.2.2
  go_wp2_with fail
  refine wp_region_sub (WSt w a b c d o) (by kernel_rfl) (by kernel_rfl) (S1.out.drew) ?_
  repeat (first
    | go_big_quiet_skip
    | (go_big_quiet_want
       go_big_quiet_op
       first
       | go_big_quiet_on
       | go_big_quiet_call (first
         | (go_at_call 22; exact sub_calls (fun _ _ h k => h.below k) (HI.out _)))))
  refine wpQuiet_nil ?_
  rintro w' ⟨s, rfl⟩
  have S2 := hide s.ok
  clear z0 z1 z2 z3 z4 ne S1 HI
  have hlt : m < o := by omega
  clear hle
  go_wp2_with (first
    | (refine buildB rfl rfl ?_)
    | (refine st256 rfl (.tmp 2) (.tmp 21) rfl (w.heap.size + 1) zeroF zeroF rfl rfl S2.out.res ?_; intro w2 hr2 ho2; have HR2 := hide hr2; have HO2 := hide ho2; clear hr2 ho2))
  exact bodyPost_ret_by (results_blk rfl _ _ _ _ _ rfl rfl HR2.out) rfl ⟨rfl, S2.out.old.trans (HO2.out.below (by omega) S2.out.old.size)⟩
set_option maxRecDepth 100000 in
set_option maxHeartbeats 2000000 in
theorem write_ok (a b c d o : Int) (w : World) (h : mayP a b c d) (ho0 : 0 ≤ o) (ho1 : o ≤ 4294967295) (hle : o ≤ a * c) :
    Calls Try.prog 11 #[supV a b c d o] w fun e w' => e = .returned (.tuple #[.agg (bytesOf 256 (sealF (pageF a b c d o))), .int .i64 0]) ∧ Below w.heap.size w w' := by
  have H : Hid (mayB a b c d = true) := decide_eq_true h
  have hm := h.mulc
  have HI : Hid (∀ V, Calls Try.prog 22 #[geoV a b c d] V fun e w' => e = .returned (.int .i64 (a * c)) ∧ Below V.heap.size V w') := fun V =>
    (inodes_any a b c d V).mono fun e w' ⟨he, hw⟩ => ⟨by rw [he, ifMay, if_pos h], hw⟩
  obtain ⟨m, hM⟩ : ∃ m, m = a * c := ⟨_, rfl⟩
  rw [← hM] at hm HI hle
  obtain ⟨hm0, hm1⟩ := hm
  have BA : Hid (0 ≤ a ∧ a ≤ 65535) := (by have := h.1; omega : 0 ≤ a ∧ a ≤ 65535)
  have BB : Hid (0 ≤ b ∧ b ≤ 65535) := (by have := h.2.1; omega : 0 ≤ b ∧ b ≤ 65535)
  have BC : Hid (0 ≤ c ∧ c ≤ 65535) := (by have := h.2.2.1; omega : 0 ≤ c ∧ c ≤ 65535)
  have BD : Hid (0 ≤ d ∧ d ≤ 65535) := (by have := h.2.2.2.2.1; omega : 0 ≤ d ∧ d ≤ 65535)
  have S0 := hide (WSt.start w a b c d o 26 29)
  obtain ⟨k0, k1, k2, k3, k4⟩ := S0.out.cells
  clear h hM
  unfold supV
  go_enter Try.func11, Try.ntmps11
  go_wp2_with (refine allocB rfl rfl ?_)
  refine (may_any a b c d _).mono ?_
  rintro e w1 ⟨rfl, hw⟩
  rw [H.out]
  have S1 := hide (S0.out.below hw)
  clear hw S0 k0 k1 k2 k3 k4 H
  have ne : Nonempty (Of (WSt w a b c d o)) := ⟨⟨_, S1.out⟩⟩
  have z0 : ∀ s : Of (WSt w a b c d o), s.val.cell? ⟨w.heap.size, 0, none⟩ = some (.int .i64 a) := fun s => s.ok.cells.1
  have z1 : ∀ s : Of (WSt w a b c d o), s.val.cell? ⟨w.heap.size, 1, none⟩ = some (.int .i64 b) := fun s => s.ok.cells.2.1
  have z2 : ∀ s : Of (WSt w a b c d o), s.val.cell? ⟨w.heap.size, 2, none⟩ = some (.int .i64 c) := fun s => s.ok.cells.2.2.1
  have z3 : ∀ s : Of (WSt w a b c d o), s.val.cell? ⟨w.heap.size, 3, none⟩ = some (.int .i64 d) := fun s => s.ok.cells.2.2.2.1
  have z4 : ∀ s : Of (WSt w a b c d o), s.val.cell? ⟨w.heap.size, 4, none⟩ = some (.int .u32 o) := fun s => s.ok.cells.2.2.2.2
  go_wp2_with fail
  refine wp_region_sub (WSt w a b c d o) (by kernel_rfl) (by kernel_rfl) (S1.out.drew) ?_
  repeat (first
    | go_big_quiet_skip
    | (go_big_quiet_want
       go_big_quiet_op
       first
       | go_big_quiet_on
       | go_big_quiet_call (first
         | (go_at_call 22; exact sub_calls (fun _ _ h k => h.below k) (HI.out _)))))
  refine wpQuiet_nil ?_
  rintro w' ⟨s, rfl⟩
  have S2 := hide s.ok
  clear z0 z1 z2 z3 z4 ne S1 HI
  have hnl : ¬ m < o := by omega
  clear hle
  have S3 := hide (S2.out.alloc (.cells (bytesOf 256 zeroF) 61))
  have R3 := hide (Row.new s.val 61 256 zeroF)
  have hG : w.heap.size + 1 < s.val.heap.size := S2.out.lt
  go_wp2_with (first | (refine allocP rfl rfl ?_))
  clear S2
  generalize s.val.heap.size = G at *
  generalize s.val.alloc _ = w3 at *
  clear s
  refine (bytes_any G _).mono ?_
  rintro e w4 ⟨rfl, rfl⟩
  go_wp2_with fail
  refine (Put32_in G 256 0 0 zeroF 827216465 _ rfl R3.out (by omega) (by omega) (by omega) (by omega)).mono ?_
  rintro e w4 ⟨rfl, hr, hk⟩
  have S4 := hide (S3.out.only hk hG R3.out.lt)
  have R4 := hide hr
  obtain ⟨k0, k1, k2, k3, k4⟩ := S4.out.cells
  clear hr hk S3 R3
  go_wp2_with fail
  go_loopw [38] (fun i wr => ∃ k : Nat, k ≤ 6 ∧ i = .int .i64 k ∧ WSt w a b c d o wr ∧ Row wr G 256 (wrK a b c d k)) (fun i _ => 6 - (intOf i).toNat)
  case atStart => exact ⟨0, by omega, rfl, S4.out, R4.out⟩
  case round =>
    obtain ⟨k, hk, rfl, hS, hR⟩ := hrel
    clear k0 k1 k2 k3 k4 S4 R4
    have HS := hide hS
    have HR := hide hR
    clear hS hR
    by_cases hk6 : k = 6
    · subst hk6
      clear hk
      go_wp2_with fail
      have hP : pageF a b c d o = putB (wrK a b c d 6) 16 o 4 := rfl
      generalize wrK a b c d 6 = F at *
      have HP := hide hP
      clear hP
      refine wp_region_steps (by kernel_rfl) (by kernel_rfl) (Wr13 w a b c d o G F _ _ _ _ _ _ _ _ _ _ _ _ _ _ _ _ _ _ _ _ _ _ _ _ _ _ _ _ _ _ _ _ _ _ _ _ _ _ _ _ _ _ _ _ _ _) ⟨_, _, _, _, rfl, ⟨HS.out.drew, HR.out.drew⟩, (fun e => Bool.noConfusion e), (fun e => Bool.noConfusion e), (fun e => Bool.noConfusion e), (fun e => Bool.noConfusion e)⟩ ?hs ?he
      case hs =>
        go_tidy
        refine ⟨?o0, ?o1, ?o2, ?o3, trivial⟩
        case o0 =>
          intro d a v hd hr hJ; refine Wr13.elim hJ ?_; intro s49 s50 s51 s52 e HS h0 h1 h2 h3; subst e
          go_wp2_with fail
          refine (bytes_any G _).mono ?_
          rintro e v' ⟨rfl, rfl⟩
          go_wp2_with fail
          exact ⟨_, s50, s51, s52, rfl, HS, fun _ => rfl, h1, h2, h3⟩
        case o1 =>
          intro d a v hd hr hJ; refine Wr13.elim hJ ?_; intro s49 s50 s51 s52 e HS h0 h1 h2 h3; subst e
          go_wp2_with fail
          exact ⟨s49, _, s51, s52, rfl, HS, h0, fun _ => rfl, h2, h3⟩
        case o2 =>
          intro d a v hd hr hJ; refine Wr13.elim hJ ?_; intro s49 s50 s51 s52 e HS h0 h1 h2 h3; subst e
          have e1 : d 1 = true := by first | exact hr.1 rfl | exact hr.2.1 rfl | exact hr.2.2.1 rfl | exact hr.2.2.2.1 rfl | exact hr.2.2.2.2.1 rfl
          obtain rfl := h1 e1
          have k4 := HS.1.cells.2.2.2.2
          go_wp2_with fail
          exact ⟨s49, _, _, s52, rfl, HS, h0, fun _ => rfl, fun _ => rfl, h3⟩
        case o3 =>
          intro d a v hd hr hJ; refine Wr13.elim hJ ?_; intro s49 s50 s51 s52 e HS h0 h1 h2 h3; subst e
          have e0 : d 0 = true := by first | exact hr.1 rfl | exact hr.2.1 rfl | exact hr.2.2.1 rfl | exact hr.2.2.2.1 rfl | exact hr.2.2.2.2.1 rfl
          obtain rfl := h0 e0
          have e2 : d 2 = true := by first | exact hr.1 rfl | exact hr.2.1 rfl | exact hr.2.2.1 rfl | exact hr.2.2.2.1 rfl | exact hr.2.2.2.2.1 rfl
          obtain rfl := h2 e2
          go_wp2_with fail
          have hp : Row v G 256 F := by have h := HS.2; rw [hd] at h; exact h
          refine (Put32_in G 256 16 16 F o _ rfl hp (by omega) ho0 ho1 (by omega)).mono ?_
          rintro e v' ⟨rfl, hr', ho'⟩
          go_wp2_with fail
          exact ⟨_, s50, _, _, rfl, ⟨HS.1.only ho' hG HS.2.lt, by rw [setB_same]; exact hr'⟩, fun _ => rfl, h1, fun _ => rfl, fun _ => rfl⟩
      case he =>
        intro q A v hd hJ; refine Wr13.elim hJ ?_; intro s49 s50 s51 s52 e HS _ _ _ _; subst e
        rw [hd 3 (by decide)] at HS
        have hB : IsByte (pageF a b c d o) := pageF_byte a b c d o
        have S5 := hide HS.1
        have R5 : Hid (Row v G 256 (pageF a b c d o)) := by rw [HP.out]; exact HS.2
        clear HS
        go_wp2_with fail
        refine (seal_any G _ v hB R5.out).mono ?_
        rintro e v2 ⟨rfl, hr, hw⟩
        have S6 := hide (S5.out.upto hw hG (Nat.le_of_lt R5.out.lt))
        clear hr hw S5 R5 hB HP
        go_wp2_with (first
          | (refine st256 rfl (.tmp 2) (.tmp 53) rfl (w.heap.size + 1) zeroF (sealF (pageF a b c d o)) rfl rfl S6.out.res ?_; intro w2 hr2 ho2; have HR2 := hide hr2; have HO2 := hide ho2; clear hr2 ho2))
        exact bodyPost_ret_by (results_blk rfl _ _ _ _ _ rfl rfl HR2.out) rfl ⟨rfl, S6.out.old.trans (HO2.out.below (by omega) S6.out.old.size)⟩
    · have BA1 := BA.out.1
      have BA2 := BA.out.2
      have BB1 := BB.out.1
      have BB2 := BB.out.2
      have BC1 := BC.out.1
      have BC2 := BC.out.2
      have BD1 := BD.out.1
      have BD2 := BD.out.2
      obtain rfl | rfl | rfl | rfl | rfl | rfl : k = 0 ∨ k = 1 ∨ k = 2 ∨ k = 3 ∨ k = 4 ∨ k = 5 := by omega
      · go_wp2_with (refine idx6 rfl (.tmp 37) (.tmp 38) rfl _ _ 0 (.int .i64 1) rfl rfl rfl (by omega) rfl ?_)
        refine (pput_any G 4 4 1 (wrK a b c d 0) _ rfl HR.out (by omega) (by omega) (by omega)).mono ?_
        rintro e v2 ⟨rfl, hr, ho⟩
        have S5 := hide (HS.out.only ho hG HR.out.lt)
        have R5 := hide hr
        clear hr ho HS HR
        go_wp2_with fail
        go_round
        case rel => exact ⟨1, by omega, rfl, S5.out, R5.out⟩
        case measure => simp [intOf]
      · go_wp2_with (refine idx6 rfl (.tmp 37) (.tmp 38) rfl _ _ 1 (.int .i64 256) rfl rfl rfl (by omega) rfl ?_)
        refine (pput_any G 6 6 256 (wrK a b c d 1) _ rfl HR.out (by omega) (by omega) (by omega)).mono ?_
        rintro e v2 ⟨rfl, hr, ho⟩
        have S5 := hide (HS.out.only ho hG HR.out.lt)
        have R5 := hide hr
        clear hr ho HS HR
        go_wp2_with fail
        go_round
        case rel => exact ⟨2, by omega, rfl, S5.out, R5.out⟩
        case measure => simp [intOf]
      · go_wp2_with (refine idx6 rfl (.tmp 37) (.tmp 38) rfl _ _ 2 (.int .i64 a) rfl rfl rfl (by omega) rfl ?_)
        refine (pput_any G 8 8 a (wrK a b c d 2) _ rfl HR.out (by omega) (by omega) (by omega)).mono ?_
        rintro e v2 ⟨rfl, hr, ho⟩
        have S5 := hide (HS.out.only ho hG HR.out.lt)
        have R5 := hide hr
        clear hr ho HS HR
        go_wp2_with fail
        go_round
        case rel => exact ⟨3, by omega, rfl, S5.out, R5.out⟩
        case measure => simp [intOf]
      · go_wp2_with (refine idx6 rfl (.tmp 37) (.tmp 38) rfl _ _ 3 (.int .i64 b) rfl rfl rfl (by omega) rfl ?_)
        refine (pput_any G 10 10 b (wrK a b c d 3) _ rfl HR.out (by omega) (by omega) (by omega)).mono ?_
        rintro e v2 ⟨rfl, hr, ho⟩
        have S5 := hide (HS.out.only ho hG HR.out.lt)
        have R5 := hide hr
        clear hr ho HS HR
        go_wp2_with fail
        go_round
        case rel => exact ⟨4, by omega, rfl, S5.out, R5.out⟩
        case measure => simp [intOf]
      · go_wp2_with (refine idx6 rfl (.tmp 37) (.tmp 38) rfl _ _ 4 (.int .i64 c) rfl rfl rfl (by omega) rfl ?_)
        refine (pput_any G 12 12 c (wrK a b c d 4) _ rfl HR.out (by omega) (by omega) (by omega)).mono ?_
        rintro e v2 ⟨rfl, hr, ho⟩
        have S5 := hide (HS.out.only ho hG HR.out.lt)
        have R5 := hide hr
        clear hr ho HS HR
        go_wp2_with fail
        go_round
        case rel => exact ⟨5, by omega, rfl, S5.out, R5.out⟩
        case measure => simp [intOf]
      · go_wp2_with (refine idx6 rfl (.tmp 37) (.tmp 38) rfl _ _ 5 (.int .i64 d) rfl rfl rfl (by omega) rfl ?_)
        refine (pput_any G 14 14 d (wrK a b c d 5) _ rfl HR.out (by omega) (by omega) (by omega)).mono ?_
        rintro e v2 ⟨rfl, hr, ho⟩
        have S5 := hide (HS.out.only ho hG HR.out.lt)
        have R5 := hide hr
        clear hr ho HS HR
        go_wp2_with fail
        go_round
        case rel => exact ⟨6, by omega, rfl, S5.out, R5.out⟩
        case measure => simp [intOf]
end Go.Proofs.Ytbngbhildijciaa
