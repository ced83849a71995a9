/- The law SuperWrites. -/
import Derived.Test.YtbngbhildijciaaSup19
import Derived.Maps.AppendAt
import Derived.OwnWalk
import Derived.Laws.OwnMore
namespace Go.Proofs.Ytbngbhildijciaa
open Go.RowKit Go.BigFrame
set_option linter.unusedVariables false

/-- The cells of the first n descriptors. -/
def deL (D : Nat → De) (n : Nat) : List Value := (List.range (n * 3)).map fun j => .int .i64 (fld (D (j / 3)) (j % 3))
theorem deL_length (D : Nat → De) (n : Nat) : (deL D n).length = n * 3 := by simp [deL]
theorem deL_get (D : Nat → De) {n i r : Nat} (hi : i < n) (hr : r < 3) : (deL D n)[i * 3 + r]? = some (.int .i64 (fld (D i) r)) := by
  have e1 : (i * 3 + r) / 3 = i := by omega
  have e2 : (i * 3 + r) % 3 = r := by omega
  unfold deL
  rw [List.getElem?_map, List.getElem?_range (by omega), Option.map_some, e1, e2]
theorem Ds.get {w : World} {b off n : Nat} {D : Nat → De} (h : Ds w (some ⟨b, off, none⟩) n D) {j : Nat} {u : Value} (hu : (deL D n)[j]? = some u) : w.cell? ⟨b, off + j, none⟩ = some u := by
  have hj : j < n * 3 := by
    refine Nat.lt_of_not_le fun q => ?_
    rw [List.getElem?_eq_none (by rw [deL_length]; exact q)] at hu
    cases hu
  obtain ⟨c0, c1, c2⟩ := h.at_ (k := j / 3) (by omega)
  have g := deL_get D (n := n) (i := j / 3) (r := j % 3) (by omega) (by omega)
  rw [show j / 3 * 3 + j % 3 = j by omega, hu] at g
  injection g with g
  subst g
  have hr : j % 3 = 0 ∨ j % 3 = 1 ∨ j % 3 = 2 := by omega
  rcases hr with hr | hr | hr
  · rw [show off + j = off + j / 3 * 3 by omega, hr]; exact c0
  · rw [show off + j = off + j / 3 * 3 + 1 by omega, hr]; exact c1
  · rw [show off + j = off + j / 3 * 3 + 2 by omega, hr]; exact c2
theorem ds_of_owns {w : World} {base n : Nat} {v : Value} {D : Nat → De} (h : w.ownsRow base 50 3 v n (deL D n)) : ∃ A c, v = .slice A n c ∧ Ds w A n D ∧ n ≤ c := by
  obtain ⟨_, ⟨rfl, rfl⟩ | ⟨g, cap, cur, rfl, hg, hh, hc, hm, hs, ht⟩⟩ := h
  · exact ⟨none, 0, rfl, fun q => absurd q (by omega), Nat.le_refl _⟩
  · refine ⟨_, cap, rfl, fun _ => ⟨g, 0, rfl, fun i hi => ?_⟩, hc⟩
    have cell : ∀ r, r < 3 → w.cell? ⟨g, i * 3 + r, none⟩ = some (.int .i64 (fld (D i) r)) := fun r hr => by
      rw [cell_of_row _ _ _ cur 50 (0, 0) hh, ← deL_get D hi hr, ← ht, List.getElem?_take, if_pos (by omega), Array.getElem?_toList]
    rw [Nat.zero_add]
    exact ⟨cell 0 (by omega), cell 1 (by omega), cell 2 (by omega)⟩
theorem desc_info : (Try.prog.info? 50).map (fun i => (i.zero, i.size, i.bytes)) = some (some (.agg #[.int .i64 0, .int .i64 0, .int .i64 0]), 3, 24) := by kernel_rfl
/-- append onto a list of the call's own that holds nothing. -/
theorem appD {ops : Array Oper} {rest : List Oper} {o : Oper} {a : Act} {w : World} {Q : Exit → Act → World → Prop} (hgd : o.guard = none) (s x : Operand)
    (ho : o.op = .call { callee := .builtin .append, args := #[s, x], argTypes := #[27, 27] })
    (B : Nat) (hB : B = w.heap.size) (A : Option Addr) (n c : Nat) (D : Nat → De) (hs : a.eval s = .slice (some ⟨B, 0, none⟩) 0 0) (hx : a.eval x = .slice A n c) (hD : Ds w A n D) (hn : n ≤ 1000)
    (k : ∀ A2 c2 w', Ds w' A2 n D → n ≤ c2 → Below w.heap.size w w' → wpList Try.prog ops Q rest (a.put o.dst (.slice A2 n c2)) w') : wpList Try.prog ops Q (o :: rest) a (w.alloc (.cells #[] 50)) := by
  subst hB
  obtain ⟨i0, hi, hz0, hz1, hz2⟩ := info_parts desc_info
  have hown := World.ownsRow_lit (base := w.heap.size) (e := 50) (size := 3) w #[] 0 (Nat.le_refl _) (by decide) rfl
  have key : ∃ v' w', (Builtin.append_ #[27, 27] o.type #[.slice (some ⟨w.heap.size, 0, none⟩) 0 0, .slice A n c]).run Try.prog (w.alloc (.cells #[] 50)) = .ok v' w' ∧ (∃ A2 c2, v' = .slice A2 n c2 ∧ Ds w' A2 n D ∧ n ≤ c2) ∧ Below w.heap.size w w' := by
    cases A with
    | none =>
      obtain rfl : n = 0 := by
        refine Nat.eq_zero_of_not_pos fun q => ?_
        obtain ⟨b, off, e, _⟩ := hD q
        cases e
      refine ⟨.slice (some ⟨w.heap.size, 0, none⟩) 0 0, w.alloc (.cells #[] 50), ?_, ⟨_, _, rfl, fun q => absurd q (by omega), Nat.le_refl _⟩, (Below.refl _ w).alloc (Nat.le_refl _) _⟩
      simp [Builtin.append_, run_underlying Try.underlying27, sizeOf, typeInfo, hi, Builtin.lenOf, Builtin.firstCells, storeCells]
    | some ad =>
      have hcell : ∀ j u, (deL D n)[j]? = some u → (w.alloc (.cells #[] 50)).cell? (ad.add j) = some u := fun j u hu => by
        have hj : j < n * 3 := by
          refine Nat.lt_of_not_le fun q => ?_
          rw [List.getElem?_eq_none (by rw [deL_length]; exact q)] at hu
          cases hu
        obtain ⟨b, off, e, _⟩ := hD (by omega)
        cases e
        have hD2 := hD.old ((Below.refl _ w).alloc (Nat.le_refl _) (.cells #[] 50))
        have q := hD2.get hu
        unfold Addr.add
        split
        · rename_i e; subst e; simpa using q
        · exact q
      obtain ⟨v', w', hrun, h2, h3, _, _⟩ := run_append_own_at (P := Try.prog) (w.alloc (.cells #[] 50)) w.heap.size _ o.type _ i0 _ 3 24 Try.underlying27 hi hz0 hz1 hz2 rfl (by omega) _ 0 _ hown ad n c (deL D n) (deL_length D n) hcell
        (fun u hu => by
          obtain ⟨j, _, rfl⟩ := List.mem_map.1 hu
          rfl) (by unfold maxLen; omega) (by omega) (by simp)
      rw [Nat.zero_add] at h2
      refine ⟨v', w', hrun, ds_of_owns (by simpa using h2), ?_⟩
      exact ((Below.refl w.heap.size w).alloc (Nat.le_refl _) _).trans ((Below.refl _ _).grown h3 (by simp) fun k hk => (World.ownsRow.lt hown k hk).1)
  obtain ⟨v', w', hrun, ⟨A2, c2, rfl, hd, hc⟩, hb⟩ := key
  refine wpList_plain hgd fun _ hK => ?_
  unfold Oper.wp execOp
  simp only [ho, resolve, invoke, builtin, Sem.run_bind, Sem.run_pure, Result.andThen_ok, List.map_toArray, List.map_cons, List.map_nil, hs, hx]
  rw [hrun]
  exact hK _ _ (k A2 c2 w' hd hc hb)
structure SwSt (w : World) (x : Su) (a b c d : Int) (A : Option Addr) (n : Nat) (D : Nat → De) (A2 : Option Addr) (v : World) : Prop where
  sup : SuAt v w.heap.size x.a x.b x.c x.d x.o
  geo : GeoAt v (w.heap.size + 1) a b c d
  des : Ds v A n D
  two : Ds v A2 n D
  old : Below w.heap.size w v
section
variable {w v v' : World} {x : Su} {a b c d : Int} {A A2 : Option Addr} {n : Nat} {D : Nat → De}
theorem SwSt.below (h : SwSt w x a b c d A n D A2 v) (k : Below v.heap.size v v') : SwSt w x a b c d A n D A2 v' := ⟨h.sup.below k h.sup.lt, h.geo.below k h.geo.lt, h.des.old k, h.two.old k, h.old.trans (k.mono h.old.size)⟩
theorem SwSt.fresh {o : Obj} (h : SwSt w x a b c d A n D A2 v) (k : Only v.heap.size (v.alloc o) v') : SwSt w x a b c d A n D A2 v' :=
  h.below (((Below.refl _ v).alloc (Nat.le_refl _) o).trans (k.below (Nat.le_refl _) (by simp only [World.size_alloc]; omega)))
end
set_option maxRecDepth 100000 in
set_option maxHeartbeats 4000000 in
theorem superWrites_law (x : Su) (a b c d : Int) (A : Option Addr) (n cap : Nat) (D : Nat → De) (x0 : 0 ≤ x.o) (x1 : x.o ≤ 4294967295) (w : World) (hD : Ds w A n D) :
    Calls Try.prog 3 #[suV x, geoV a b c d, .slice A n cap] w fun e w' => e = .returned (.bool true) ∧ Below w.heap.size w w' := by
  have K0 := hide (KSt.start w x a b c d A n D 26 23 hD)
  have HW : Hid (∀ V, Calls Try.prog 11 #[.agg (suC x)] V fun e w' => e = .returned (.tuple #[.agg (bytesOf 256 (wrF x.a x.b x.c x.d x.o)), .int .i64 (wrC x.a x.b x.c x.d x.o)]) ∧ Below V.heap.size V w') := fun V => write_any _ _ _ _ _ V x0 x1
  have HR : Hid (∀ V, Calls Try.prog 12 #[.agg (suC x)] V fun e w' => e = .returned (.tuple #[.agg (bytesOf 256 (wrF x.a x.b x.c x.d x.o)), .int .i64 (wrC x.a x.b x.c x.d x.o)]) ∧ Below V.heap.size V w') := fun V => rwrite_any _ _ _ _ _ V x0 x1
  have HD1 : Hid (∀ A2 c2 V, Ds V A2 n D → Calls Try.prog 13 #[geoV a b c d, .slice A2 n c2] V fun e w' => e = .returned (.tuple #[.agg (bytesOf 256 (wdF a b c d n D)), .int .i64 (wdC a b c d n D)]) ∧ Below V.heap.size V w') := fun A2 c2 V h => wdescs_any _ _ _ _ A2 n c2 D V h
  have HD2 : Hid (∀ V, Ds V A n D → Calls Try.prog 14 #[geoV a b c d, .slice A n cap] V fun e w' => e = .returned (.tuple #[.agg (bytesOf 256 (wdF a b c d n D)), .int .i64 (wdC a b c d n D)]) ∧ Below V.heap.size V w') := fun V h => rwdescs_any _ _ _ _ A n cap D V h
  have hs1 : sameB (wrF x.a x.b x.c x.d x.o) (wrF x.a x.b x.c x.d x.o) 256 = true := sameB_self _ _
  have hs2 : sameB (wdF a b c d n D) (wdF a b c d n D) 256 = true := sameB_self _ _
  generalize wrC x.a x.b x.c x.d x.o = e1 at *
  generalize wdC a b c d n D = h1 at *
  generalize wrF x.a x.b x.c x.d x.o = F1 at *
  generalize wdF a b c d n D = F2 at *
  have HS1 := hide hs1
  have HS2 := hide hs2
  clear hD x0 x1 hs1 hs2
  by_cases hn : n ≤ 1000
  case neg =>
    have hn' : (1000 : Int) < n := by omega
    unfold suV supV geoV
    change Calls Try.prog _ #[.agg (suC x), _, _] w _
    go_enter Try.func3, Try.ntmps3
    go_wp2_with fail
    go_ret
    exact ⟨rfl, K0.out.old⟩
  have HSm : Hid (∀ A2 c2 V, Ds V A n D → Ds V A2 n D → Calls Try.prog 15 #[.slice A2 n c2, .slice A n cap] V fun e w' => e = .returned (.bool true) ∧ Below V.heap.size V w') := fun A2 c2 V h1 h2 => by
    have := same_descs A2 n c2 D A n cap D V h2 h1 (by omega)
    rw [sameDs_of rfl fun _ _ => rfl] at this; exact this
  have hn' : (n : Int) ≤ 1000 := by omega
  unfold suV supV geoV
  change Calls Try.prog _ #[.agg (suC x), _, _] w _
  go_enter Try.func3, Try.ntmps3
  go_wp2_with (first
    | (at_builtin
       refine appD rfl (.tmp 19) (.tmp 20) rfl (w.heap.size + 1 + 1) (by simp only [World.size_alloc]) A n cap D rfl rfl K0.out.des hn ?_
       intro A2 c2 w2 hd hc hb
       have S2 : Hid (SwSt w x a b c d A n D A2 w2) := ⟨K0.out.sup.below hb K0.out.sup.lt, K0.out.geo.below hb K0.out.geo.lt, K0.out.des.old hb, hd, K0.out.old.trans (hb.mono K0.out.old.size)⟩
       clear hd hc hb K0)
    | (refine ldS rfl (.tmp 3) rfl _ _ _ _ _ _ rfl S2.out.sup ?_))
  refine (HW.out _).mono ?_
  rintro e w3 ⟨rfl, hw⟩
  have S3 := hide (S2.out.below hw)
  clear hw S2
  go_wp2_with (first
    | (refine allocB rfl rfl ?_)
    | (refine st256 rfl (.tmp 8) (.tmp 25) rfl w3.heap.size zeroF F1 rfl rfl (Row.new w3 _ _ _) ?_
       intro w4 hr ho
       have S4 := hide (S3.out.fresh ho)
       have P4 := hide hr
       clear hr ho S3)
    | (refine ldS rfl (.tmp 3) rfl _ _ _ _ _ _ rfl S4.out.sup ?_))
  generalize w3.heap.size = P at *
  refine (HR.out _).mono ?_
  rintro e w5 ⟨rfl, hw⟩
  have S5 := hide (S4.out.below hw)
  have P5 := hide (P4.out.below hw P4.out.lt)
  clear hw S4 P4
  go_wp2_with (first
    | (refine allocB rfl rfl ?_)
    | (refine st256 rfl (.tmp 10) (.tmp 30) rfl w5.heap.size zeroF F1 rfl rfl (Row.new w5 _ _ _) ?_
       intro w6 hr ho
       have S6 := hide (S5.out.fresh ho)
       have P6 := hide (P5.out.fresh2 ho)
       have Q6 := hide hr
       clear hr ho S5 P5)
    | (refine ldG rfl (.tmp 4) rfl _ _ _ _ _ rfl S6.out.geo ?_))
  generalize w5.heap.size = Q at *
  refine (HD1.out A2 c2 _ S6.out.two).mono ?_
  rintro e w7 ⟨rfl, hw⟩
  have S7 := hide (S6.out.below hw)
  have P7 := hide (P6.out.below hw P6.out.lt)
  have Q7 := hide (Q6.out.below hw Q6.out.lt)
  clear hw S6 P6 Q6
  go_wp2_with (first
    | (refine allocB rfl rfl ?_)
    | (refine st256 rfl (.tmp 12) (.tmp 36) rfl w7.heap.size zeroF F2 rfl rfl (Row.new w7 _ _ _) ?_
       intro w8 hr ho
       have S8 := hide (S7.out.fresh ho)
       have P8 := hide (P7.out.fresh2 ho)
       have Q8 := hide (Q7.out.fresh2 ho)
       have R8 := hide hr
       clear hr ho S7 P7 Q7)
    | (refine ldG rfl (.tmp 4) rfl _ _ _ _ _ rfl S8.out.geo ?_))
  generalize w7.heap.size = R at *
  refine (HD2.out _ S8.out.des).mono ?_
  rintro e w9 ⟨rfl, hw⟩
  have S9 := hide (S8.out.below hw)
  have P9 := hide (P8.out.below hw P8.out.lt)
  have Q9 := hide (Q8.out.below hw Q8.out.lt)
  have R9 := hide (R8.out.below hw R8.out.lt)
  clear hw S8 P8 Q8 R8
  have hs1 := HS1.out
  have hs2 := HS2.out
  clear HS1 HS2
  go_wp2_with (first
    | (refine allocB rfl rfl ?_)
    | (refine st256 rfl (.tmp 14) (.tmp 42) rfl w9.heap.size zeroF F2 rfl rfl (Row.new w9 _ _ _) ?_
       intro w10 hr ho
       have S10 := hide (S9.out.fresh ho)
       have P10 := hide (P9.out.fresh2 ho)
       have Q10 := hide (Q9.out.fresh2 ho)
       have R10 := hide (R9.out.fresh2 ho)
       have T10 := hide hr
       clear hr ho S9 P9 Q9 R9)
    | (refine ldBg rfl (.tmp 8) rfl _ _ rfl P10.out ?_)
    | (refine ldBg rfl (.tmp 10) rfl _ _ rfl Q10.out ?_)
    | (refine eqlBg rfl (.tmp 44) (.tmp 45) rfl _ _ rfl rfl hs1 ?_)
    | (refine ldBg rfl (.tmp 12) rfl _ _ rfl R10.out ?_)
    | (refine ldBg rfl (.tmp 14) rfl _ _ rfl T10.out ?_)
    | (refine eqlBg rfl (.tmp 53) (.tmp 54) rfl _ _ rfl rfl hs2 ?_))
  refine (HSm.out A2 c2 _ S10.out.des S10.out.two).mono ?_
  rintro e w11 ⟨rfl, hw⟩
  have S11 := hide (S10.out.below hw)
  clear hw S10
  go_wp2_with fail
  go_ret
  exact ⟨rfl, S11.out.old⟩
end Go.Proofs.Ytbngbhildijciaa
