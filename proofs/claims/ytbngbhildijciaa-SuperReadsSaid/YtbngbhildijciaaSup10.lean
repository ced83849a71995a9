/- Plain laws of descriptors' bytes; quernlaw06.awake is true. -/
import Derived.Test.YtbngbhildijciaaSup9
import Derived.Great.CaseRows
namespace Go.Proofs.Ytbngbhildijciaa
open Go.RowKit
set_option linter.unusedVariables false

theorem desc_hi (D : Nat → De) : ∀ {n j : Nat}, 8 * n ≤ j → descF D n j = 0
  | 0, _, _ => rfl
  | n + 1, j, h => by
    unfold descF
    rw [putB_out _ (8 * n + 4) _ (.inr (by omega)), putB_out _ (8 * n + 2) _ (.inr (by omega)), putB_out _ (8 * n) _ (.inr (by omega))]
    exact desc_hi D (by omega)
theorem desc_lo (D : Nat → De) {n j : Nat} (h : j < 8 * n) : descF D (n + 1) j = descF D n j := by
  conv => lhs; unfold descF
  rw [putB_out _ (8 * n + 4) _ (.inl (by omega)), putB_out _ (8 * n + 2) _ (.inl (by omega)), putB_out _ (8 * n) _ (.inl (by omega))]
theorem desc_bl (D : Nat → De) : ∀ {n i r : Nat}, i < n → r < 2 → descF D n (8 * i + r) = (D i).bl / 256 ^ r % 256
  | 0, _, _, h, _ => absurd h (by omega)
  | n + 1, i, r, h, hr => by
    by_cases e : i = n
    · subst e
      conv => lhs; unfold descF
      rw [putB_out _ (8 * i + 4) _ (.inl (by omega)), putB_out _ (8 * i + 2) _ (.inl (by omega)), putB_in _ _ _ hr]
    · rw [desc_lo D (by omega)]; exact desc_bl D (by omega) hr
theorem desc_ino (D : Nat → De) : ∀ {n i r : Nat}, i < n → r < 2 → descF D n (8 * i + 2 + r) = (D i).ino / 256 ^ r % 256
  | 0, _, _, h, _ => absurd h (by omega)
  | n + 1, i, r, h, hr => by
    by_cases e : i = n
    · subst e
      conv => lhs; unfold descF
      rw [putB_out _ (8 * i + 4) _ (.inl (by omega)), putB_in _ _ _ hr]
    · rw [desc_lo D (by omega)]; exact desc_ino D (by omega) hr
theorem desc_dir (D : Nat → De) : ∀ {n i r : Nat}, i < n → r < 2 → descF D n (8 * i + 4 + r) = (D i).dir / 256 ^ r % 256
  | 0, _, _, h, _ => absurd h (by omega)
  | n + 1, i, r, h, hr => by
    by_cases e : i = n
    · subst e
      conv => lhs; unfold descF
      rw [putB_in _ _ _ hr]
    · rw [desc_lo D (by omega)]; exact desc_dir D (by omega) hr
theorem desc_void (D : Nat → De) : ∀ {n i r : Nat}, i < n → r < 2 → descF D n (8 * i + 6 + r) = 0
  | 0, _, _, h, _ => absurd h (by omega)
  | n + 1, i, r, h, hr => by
    by_cases e : i = n
    · subst e
      conv => lhs; unfold descF
      rw [putB_out _ (8 * i + 4) _ (.inr (by omega)), putB_out _ (8 * i + 2) _ (.inr (by omega)), putB_out _ (8 * i) _ (.inr (by omega))]
      exact desc_hi D (by omega)
    · rw [desc_lo D (by omega)]; exact desc_void D (by omega) hr
def akD : Nat → De := fun i => if i = 0 then ⟨12, 7, 1⟩ else ⟨12, 8, 0⟩
theorem Ds.lit2 (w : World) (t : TypeId) : Ds (w.alloc (.cells #[.int .i64 12, .int .i64 7, .int .i64 1, .int .i64 12, .int .i64 8, .int .i64 0] t)) (some ⟨w.heap.size, 0, none⟩) 2 akD := fun _ => ⟨_, _, rfl, fun i hi => by
  have e := heap_alloc_new w (.cells #[.int .i64 12, .int .i64 7, .int .i64 1, .int .i64 12, .int .i64 8, .int .i64 0] t)
  obtain rfl | rfl : i = 0 ∨ i = 1 := by omega
  all_goals (refine ⟨?_, ?_, ?_⟩ <;> (rw [cell_of_row _ _ _ _ _ _ e]; rfl))⟩
theorem ak_may : mayP 2 16 8 40 := by decide
theorem ak_one : wrC 2 16 8 40 7 = 0 ∧ wrF 2 16 8 40 7 = sealF (pageF 2 16 8 40 7) := ⟨by decide, by unfold wrF; rw [if_pos (by decide)]⟩
theorem ak_two : wrC 2 16 8 40 17 = 2 := by decide
theorem ak_three : wdC 2 16 8 40 2 akD = 0 ∧ wdF 2 16 8 40 2 akD = sealF (descF akD 2) := wd_yes ak_may rfl fun i hi => by
  obtain rfl | rfl : i = 0 ∨ i = 1 := by omega
  all_goals decide
theorem ak_zero : ¬ hdP zeroF := fun h => by
  have e : part zeroF 0 4 = 0 := part_zero fun i _ => rfl
  have := h.1
  rw [e] at this; omega
theorem ak_b : sealF (pageF 2 16 8 40 7) 0 = 81 ∧ sealF (pageF 2 16 8 40 7) 3 = 49 ∧ sealF (pageF 2 16 8 40 7) 7 = 1 ∧ sealF (pageF 2 16 8 40 7) 10 = 16 ∧ sealF (pageF 2 16 8 40 7) 16 = 7 := by
  refine ⟨?_, ?_, ?_, ?_, ?_⟩
  all_goals rw [sealF_lo _ (by omega)]
  · exact page_0 2 16 8 40 7 (r := 0) (by omega)
  · exact page_0 2 16 8 40 7 (r := 3) (by omega)
  · exact page_6 2 16 8 40 7 (r := 1) (by omega)
  · exact page_10 2 16 8 40 7 (r := 0) (by omega)
  · exact page_16 2 16 8 40 7 (r := 0) (by omega)
theorem ak_c : sealF (descF akD 2) 2 = 7 ∧ sealF (descF akD 2) 8 = 12 := by
  refine ⟨?_, ?_⟩
  all_goals rw [sealF_lo _ (by omega)]
  · exact desc_ino akD (n := 2) (i := 0) (r := 0) (by omega) (by omega)
  · exact desc_bl akD (n := 2) (i := 1) (r := 0) (by omega) (by omega)
section
variable {ops : Array Oper} {rest : List Oper} {o : Oper} {a : Act} {w : World} {Q : Exit → Act → World → Prop}
theorem GeoAt.new (w : World) (t : TypeId) (a b c d : Int) : GeoAt (w.alloc (.cells #[.int .i64 a, .int .i64 b, .int .i64 c, .int .i64 d] t)) w.heap.size a b c d := ⟨t, heap_alloc_new w _⟩
theorem GeoAt.only {w' : World} {B g : Nat} {a b c d : Int} (h : GeoAt w B a b c d) (k : Only g w w') (hne : B ≠ g) : GeoAt w' B a b c d := by obtain ⟨t, e⟩ := h; exact ⟨t, (k.block B (lt_of_block e) (fun q => hne (by injection q))).trans e⟩
theorem ldG2 (hgd : o.guard = none) (x : Operand) (ho : o.op = .load 23 x) (B : Nat) (p q r s : Int) (hx : a.eval x = .pointer (some ⟨B, 0, none⟩)) (h : GeoAt w B p q r s)
    (k : wpList Try.prog ops Q rest (a.put o.dst (.agg #[.int .i64 p, .int .i64 q, .int .i64 r, .int .i64 s])) w) : wpList Try.prog ops Q (o :: rest) a w := ldG hgd x ho B p q r s hx h k
theorem stG (hgd : o.guard = none) (x y : Operand) (ho : o.op = .store 23 x y) (B : Nat) (p q r s p' q' r' s' : Int) (hx : a.eval x = .pointer (some ⟨B, 0, none⟩)) (hy : a.eval y = geoV p' q' r' s') (hr : GeoAt w B p q r s)
    (k : ∀ w', GeoAt w' B p' q' r' s' → Only B w w' → wpList Try.prog ops Q rest (a.put o.dst undef) w') : wpList Try.prog ops Q (o :: rest) a w := by
  obtain ⟨ty, hr⟩ := hr
  refine wpList_store_row hgd _ x y ho B _ hx hy ty _ hr infoG rfl (by simp [Value.oneCell']) (k _ ⟨ty, setRow_heap w B _ _ ty _ hr⟩ (only_setRow _ _ _))
end
theorem two_ev {a : Act} {A B : Value} (h0 : a.eval (.tmp 27) = A) (h1 : a.eval (.tmp 28) = B) : ∀ i (h : i < [A, B].length), a.eval (.tmp (27 + i)) = [A, B][i] := fun i h => by
  have h' : i < 2 := h
  obtain rfl | rfl : i = 0 ∨ i = 1 := by omega
  · exact h0
  · exact h1
theorem buildD2 {ops : Array Oper} {rest : List Oper} {o : Oper} {a : Act} {w : World} {Q : Exit → Act → World → Prop} (hg : o.guard = none) (ho : o.op = .buildSlice 27 2 #[(0, .tmp 27), (1, .tmp 28)])
    (h0 : a.eval (.tmp 27) = .agg #[.int .i64 12, .int .i64 7, .int .i64 1]) (h1 : a.eval (.tmp 28) = .agg #[.int .i64 12, .int .i64 8, .int .i64 0])
    (k : wpList Try.prog ops Q rest (a.put o.dst (.slice (some ⟨w.heap.size, 0, none⟩) 2 2)) (w.alloc (.cells #[.int .i64 12, .int .i64 7, .int .i64 1, .int .i64 12, .int .i64 8, .int .i64 0] 50))) : wpList Try.prog ops Q (o :: rest) a w := by
  refine Go.Great.wpList_buildRows hg 27 50 _ 3 [Value.agg #[.int .i64 12, .int .i64 7, .int .i64 1], Value.agg #[.int .i64 12, .int .i64 8, .int .i64 0]] ho (fun i => 27 + i) w.heap.size rfl _ rfl Try.underlying27 infoD (by kernel_rfl) (by decide) (by show 0 < 2; omega) (by show 2 * 3 ≤ 2 ^ 24; decide) rfl ?_ (two_ev h0 h1) ?_
  · intro v hv
    simp only [List.mem_cons, List.not_mem_nil, or_false] at hv
    rcases hv with rfl | rfl <;> rfl
  · exact k
theorem ak_F : ∃ F, (wrC 2 16 8 40 7 = 0 ∧ wrF 2 16 8 40 7 = F) ∧ IsByte F ∧ (F 0 = 81 ∧ F 3 = 49 ∧ F 7 = 1 ∧ F 10 = 16 ∧ F 16 = 7) ∧ part F 252 4 = ((sumF F 252 : Nat) : Int) :=
  ⟨_, ak_one, sealF_byte (pageF_byte _ _ _ _ _), ak_b, sealF_part (pageF_byte _ _ _ _ _)⟩
theorem ak_H : ∃ H, (wdC 2 16 8 40 2 akD = 0 ∧ wdF 2 16 8 40 2 akD = H) ∧ H 2 = 7 ∧ H 8 = 12 := ⟨_, ak_three, ak_c⟩
/-- The geometry and two blocks that stay. -/
structure AkSt (W : World) (B C : Nat) (F H : Nat → Int) (v : World) : Prop where
  old : Below W.heap.size W v
  geo : GeoAt v W.heap.size 2 16 8 40
  one : W.heap.size < B → Row v B 256 F
  two : W.heap.size < C → Row v C 256 H
theorem AkSt.below {W v v' : World} {B C : Nat} {F H : Nat → Int} (h : AkSt W B C F H v) (k : Below v.heap.size v v') : AkSt W B C F H v' :=
  ⟨h.old.trans (k.mono h.old.size), h.geo.below k h.geo.lt, fun q => (h.one q).below k (h.one q).lt, fun q => (h.two q).below k (h.two q).lt⟩
theorem AkSt.fresh {W v v' : World} {B C : Nat} {F H : Nat → Int} {o : Obj} (h : AkSt W B C F H v) (k : Only v.heap.size (v.alloc o) v') : AkSt W B C F H v' :=
  h.below (((Below.refl _ v).alloc (Nat.le_refl _) o).trans (k.below (Nat.le_refl _) (by simp only [World.size_alloc]; omega)))
set_option maxRecDepth 100000 in
set_option maxHeartbeats 1000000 in
theorem awake_any (w : World) : Calls Try.prog 16 #[] w fun e w' => e = .returned (.bool true) ∧ Below w.heap.size w w' := by
  obtain ⟨F, hF, hFb, hF5, hFs⟩ := ak_F
  obtain ⟨H, hH, hH2⟩ := ak_H
  have WF := hide hF
  have WH := hide hH
  have FB := hide hFb
  have F5 := hide hF5
  have FS := hide hFs
  have H2 := hide hH2
  clear hF hH hFb hF5 hFs hH2
  go_enter Try.func16, Try.ntmps16
  go_wp2_with (first
    | (refine stG rfl (.tmp 1) (.tmp 12) rfl w.heap.size 0 0 0 0 2 16 8 40 rfl rfl (GeoAt.new w _ 0 0 0 0) ?_
       intro w1 hr ho
       have S1 : Hid (AkSt w 0 0 zeroF zeroF w1) := ⟨((Below.refl _ w).alloc (Nat.le_refl _) _).trans (ho.below (Nat.le_refl _) (by simp only [World.size_alloc]; omega)), hr, fun q => absurd q (by omega), fun q => absurd q (by omega)⟩
       clear hr ho)
    | (refine ldG2 rfl (.tmp 1) rfl _ _ _ _ _ rfl S1.out.geo ?_))
  refine (write_any 2 16 8 40 7 _ (by omega) (by omega)).mono ?_
  rintro e w2 ⟨rfl, hw⟩
  rw [WF.out.1, WF.out.2]
  have S2 := hide (S1.out.below hw)
  clear hw S1
  go_wp2_with (first
    | (refine allocB rfl rfl ?_)
    | (refine st256 rfl (.tmp 2) (.tmp 17) rfl w2.heap.size zeroF F rfl rfl (Row.new w2 _ _ _) ?_
       intro w3 hr ho
       have q := S2.out.fresh ho
       have S3 : Hid (AkSt w w2.heap.size 0 F zeroF w3) := ⟨q.old, q.geo, fun _ => hr, fun q => absurd q (by omega)⟩
       have hB : w.heap.size < w2.heap.size := S2.out.geo.lt
       clear hr ho q S2)
    | (refine ldG2 rfl (.tmp 1) rfl _ _ _ _ _ rfl S3.out.geo ?_))
  generalize w2.heap.size = B at *
  refine (write_any 2 16 8 40 17 _ (by omega) (by omega)).mono ?_
  rintro e w4 ⟨rfl, hw⟩
  rw [ak_two]
  have S4 := hide (S3.out.below hw)
  clear hw S3
  generalize wrF 2 16 8 40 17 = F2 at *
  go_wp2_with (first
    | (refine allocB rfl rfl ?_)
    | (refine st256 rfl (.tmp 4) (.tmp 23) rfl w4.heap.size zeroF F2 rfl rfl (Row.new w4 _ _ _) ?_
       intro w5 hr ho
       have S5 := hide (S4.out.fresh ho)
       clear hr ho S4)
    | (refine ldG2 rfl (.tmp 1) rfl _ _ _ _ _ rfl S5.out.geo ?_)
    | (refine buildD2 rfl rfl rfl rfl ?_))
  refine (wdescs_any 2 16 8 40 (some ⟨w5.heap.size, 0, none⟩) 2 2 akD _ (Ds.lit2 _ _)).mono ?_
  rintro e w6 ⟨rfl, hw⟩
  rw [WH.out.1, WH.out.2]
  have S6 := hide ((S5.out.below ((Below.refl _ w5).alloc (Nat.le_refl _) _)).below hw)
  clear hw S5
  go_wp2_with (first
    | (refine allocB rfl rfl ?_)
    | (refine st256 rfl (.tmp 6) (.tmp 31) rfl w6.heap.size zeroF H rfl rfl (Row.new w6 _ _ _) ?_
       intro w7 hr ho
       have q := S6.out.fresh ho
       have S7 : Hid (AkSt w B w6.heap.size F H w7) := ⟨q.old, q.geo, q.one, fun _ => hr⟩
       have hC : w.heap.size < w6.heap.size := S6.out.geo.lt
       clear hr ho q S6)
    | (refine buildB rfl rfl ?_))
  generalize w6.heap.size = C at *
  refine (read_any zeroF _ zeroF_isByte).mono ?_
  rintro e w8 ⟨rfl, hw⟩
  rw [(rd_head ak_zero).1, (rd_head ak_zero).2]
  have S8 := hide (S7.out.below hw)
  clear hw S7
  go_wp2_with (first
    | (refine stS rfl (.tmp 8) (.tmp 36) rfl w8.heap.size 0 0 0 0 0 0 0 0 0 0 rfl rfl (SuAt.new w8 _ 0 0 0 0 0) ?_
       intro w9 hr ho
       have S9 := hide (S8.out.fresh ho)
       clear hr ho S8))
  refine (Get32_in B 256 252 252 F _ rfl (S9.out.one hB) FB.out (by omega) (by omega)).mono ?_
  rintro e w10 ⟨rfl, rfl⟩
  rw [FS.out]
  have R1 := S9.out.one hB
  have b0 := (R1.cell (i := 0) (by omega)).trans (by rw [F5.out.1])
  have b3 := (R1.cell (i := 3) (by omega)).trans (by rw [F5.out.2.1])
  have b7 := (R1.cell (i := 7) (by omega)).trans (by rw [F5.out.2.2.1])
  have b10 := (R1.cell (i := 10) (by omega)).trans (by rw [F5.out.2.2.2.1])
  have b16 := (R1.cell (i := 16) (by omega)).trans (by rw [F5.out.2.2.2.2])
  clear R1
  go_wp2_with fail
  refine (sum1_any _ _ (some ⟨B, 0, none⟩) 252 256 1 F _ (heap_alloc_new _ _) (((S9.out.one hB).alloc _).bs (by omega)) FB.out (by omega) (by omega)).mono ?_
  rintro e w11 ⟨rfl, hw⟩
  have S11 := hide ((S9.out.below ((Below.refl _ _).alloc (Nat.le_refl _) _)).below hw)
  clear hw S9 b0 b3 b7 b10 b16
  have R2 := S11.out.two hC
  have c2 := (R2.cell (i := 2) (by omega)).trans (by rw [H2.out.1])
  have c8 := (R2.cell (i := 8) (by omega)).trans (by rw [H2.out.2])
  clear R2
  go_wp2_with fail
  go_ret
  exact ⟨rfl, S11.out.old⟩
end Go.Proofs.Ytbngbhildijciaa
