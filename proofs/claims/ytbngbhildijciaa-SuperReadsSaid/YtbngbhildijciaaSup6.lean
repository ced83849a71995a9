/- The walk of super.WriteDescs. -/
import Derived.Test.YtbngbhildijciaaSup5
namespace Go.Proofs.Ytbngbhildijciaa
open Go.RowKit
set_option linter.unusedVariables false

/-- A descriptor. -/
structure De where
  bl : Int
  ino : Int
  dir : Int
def deC (x : De) : Array Value := desC x.bl x.ino x.dir
/-- A slice of descriptors. -/
def Ds (w : World) (A : Option Addr) (n : Nat) (D : Nat → De) : Prop := 0 < n → ∃ b off, A = some ⟨b, off, none⟩ ∧ ∀ i, i < n →
  w.cell? ⟨b, off + i * 3, none⟩ = some (.int .i64 (D i).bl) ∧ w.cell? ⟨b, off + i * 3 + 1, none⟩ = some (.int .i64 (D i).ino) ∧ w.cell? ⟨b, off + i * 3 + 2, none⟩ = some (.int .i64 (D i).dir)
theorem lt_of_cell {w : World} {b o : Nat} {v : Value} (h : w.cell? ⟨b, o, none⟩ = some v) : b < w.heap.size := by
  refine Nat.lt_of_not_le fun q => ?_
  simp [World.cell?, Array.getElem?_eq_none q] at h
theorem cell_below {B : Nat} {w w' : World} {b o : Nat} {v : Value} (h : w.cell? ⟨b, o, none⟩ = some v) (k : Below B w w') (hb : b < B) : w'.cell? ⟨b, o, none⟩ = some v := by
  have e := k.block b hb
  simp only [World.cell?] at h ⊢
  rw [e]; exact h
theorem Ds.old {W w' : World} {A : Option Addr} {n : Nat} {D : Nat → De} (h : Ds W A n D) (hb : Below W.heap.size W w') : Ds w' A n D := fun hn => by
  obtain ⟨b, off, e, hc⟩ := h hn
  exact ⟨b, off, e, fun i hi => ⟨cell_below (hc i hi).1 hb (lt_of_cell (hc i hi).1), cell_below (hc i hi).2.1 hb (lt_of_cell (hc i hi).1), cell_below (hc i hi).2.2 hb (lt_of_cell (hc i hi).1)⟩⟩
def DAt (w : World) (B : Nat) (x : De) : Prop := ∃ t, w.heap[B]? = some (.cells (deC x) t (0, 0))
def GeoAt (w : World) (B : Nat) (a b c d : Int) : Prop := ∃ t, w.heap[B]? = some (.cells #[.int .i64 a, .int .i64 b, .int .i64 c, .int .i64 d] t (0, 0))
section
variable {w w' : World} {B : Nat} {x : De} {a b c d : Int}
theorem DAt.lt (h : DAt w B x) : B < w.heap.size := by obtain ⟨t, e⟩ := h; exact lt_of_block e
theorem DAt.below {n : Nat} (h : DAt w B x) (k : Below n w w') (hb : B < n) : DAt w' B x := by obtain ⟨t, e⟩ := h; exact ⟨t, (k.block B hb).trans e⟩
theorem DAt.only {g : Nat} (h : DAt w B x) (k : Only g w w') (hne : B ≠ g) : DAt w' B x := by obtain ⟨t, e⟩ := h; exact ⟨t, (k.block B (lt_of_block e) (fun q => hne (by injection q))).trans e⟩
theorem DAt.new (w : World) (t : TypeId) (x : De) : DAt (w.alloc (.cells (deC x) t)) w.heap.size x := ⟨t, heap_alloc_new w _⟩
theorem DAt.cells (h : DAt w B x) : w.cell? ⟨B, 0, none⟩ = some (.int .i64 x.bl) ∧ w.cell? ⟨B, 1, none⟩ = some (.int .i64 x.ino) ∧ w.cell? ⟨B, 2, none⟩ = some (.int .i64 x.dir) := by
  obtain ⟨t, e⟩ := h
  refine ⟨?_, ?_, ?_⟩ <;> (rw [cell_of_row _ _ _ _ _ _ e]; rfl)
theorem GeoAt.lt (h : GeoAt w B a b c d) : B < w.heap.size := by obtain ⟨t, e⟩ := h; exact lt_of_block e
theorem GeoAt.below {n : Nat} (h : GeoAt w B a b c d) (k : Below n w w') (hb : B < n) : GeoAt w' B a b c d := by obtain ⟨t, e⟩ := h; exact ⟨t, (k.block B hb).trans e⟩
theorem GeoAt.cells (h : GeoAt w B a b c d) : w.cell? ⟨B, 0, none⟩ = some (.int .i64 a) ∧ w.cell? ⟨B, 1, none⟩ = some (.int .i64 b) ∧ w.cell? ⟨B, 2, none⟩ = some (.int .i64 c) ∧ w.cell? ⟨B, 3, none⟩ = some (.int .i64 d) := by
  obtain ⟨t, e⟩ := h
  refine ⟨?_, ?_, ?_, ?_⟩ <;> (rw [cell_of_row _ _ _ _ _ _ e]; rfl)
end
section
variable {ops : Array Oper} {rest : List Oper} {o : Oper} {a : Act} {w : World} {Q : Exit → Act → World → Prop}
theorem infoD : (Try.prog.info? 50).map (·.size) = some 3 := by kernel_rfl
theorem infoG : (Try.prog.info? 23).map (·.size) = some 4 := by kernel_rfl
theorem ldD (hgd : o.guard = none) (x : Operand) (ho : o.op = .load 50 x) (B : Nat) (i : De) (hx : a.eval x = .pointer (some ⟨B, 0, none⟩)) (h : DAt w B i)
    (k : wpList Try.prog ops Q rest (a.put o.dst (.agg (deC i))) w) : wpList Try.prog ops Q (o :: rest) a w := by
  obtain ⟨t, h⟩ := h
  exact wpList_load_row hgd _ x ho B hx t (deC i) (0, 0) _ h Try.underlying50 rfl infoD k
theorem stD (hgd : o.guard = none) (x y : Operand) (ho : o.op = .store 50 x y) (B : Nat) (i j : De) (hx : a.eval x = .pointer (some ⟨B, 0, none⟩)) (hy : a.eval y = .agg (deC j)) (hr : DAt w B i)
    (k : ∀ w', DAt w' B j → Only B w w' → wpList Try.prog ops Q rest (a.put o.dst undef) w') : wpList Try.prog ops Q (o :: rest) a w := by
  obtain ⟨t, hr⟩ := hr
  refine wpList_store_row hgd _ x y ho B _ hx hy t _ hr infoD rfl (by simp [deC, desC, Value.oneCell']) (k _ ⟨t, setRow_heap w B _ _ t _ hr⟩ (only_setRow _ _ _))
theorem ldG (hgd : o.guard = none) (x : Operand) (ho : o.op = .load 23 x) (B : Nat) (p q r s : Int) (hx : a.eval x = .pointer (some ⟨B, 0, none⟩)) (h : GeoAt w B p q r s)
    (k : wpList Try.prog ops Q rest (a.put o.dst (geoV p q r s)) w) : wpList Try.prog ops Q (o :: rest) a w := by
  obtain ⟨t, h⟩ := h
  exact wpList_load_row hgd _ x ho B hx t _ (0, 0) _ h Try.underlying23 rfl infoG k
end
/-- The descriptors' bytes, one by one. -/
def descF (D : Nat → De) : Nat → Nat → Int
  | 0 => zeroF
  | k + 1 => putB (putB (putB (descF D k) (8 * k) (D k).bl 2) (8 * k + 2) (D k).ino 2) (8 * k + 4) (D k).dir 2
theorem descF_byte (D : Nat → De) : ∀ k, IsByte (descF D k)
  | 0 => zeroF_isByte
  | k + 1 => putB_byte (putB_byte (putB_byte (descF_byte D k) _ _ _) _ _ _) _ _ _
def mayDs (b c : Int) (n : Nat) (D : Nat → De) : Prop := ∀ i, i < n → mayDP (b - 2 - c / 4) c (D i).bl (D i).ino (D i).dir
theorem decAll {p : Nat → Prop} (h : ∀ i, p i ∨ ¬ p i) : ∀ n, (∀ i, i < n → p i) ∨ ¬ ∀ i, i < n → p i := fun n => Classical.em _
instance mayDs_dec (b c : Int) (n : Nat) (D : Nat → De) : Decidable (mayDs b c n D) := by unfold mayDs; infer_instance
/-- What WriteDescs tells. -/
def wdC (a b c d : Int) (n : Nat) (D : Nat → De) : Int := if mayP a b c d then (if (n : Int) = a ∧ mayDs b c n D then 0 else 2) else 50
def wdF (a b c d : Int) (n : Nat) (D : Nat → De) : Nat → Int := if mayP a b c d ∧ (n : Int) = a ∧ mayDs b c n D then sealF (descF D n) else zeroF
/-- The geometry, the descriptors, the result's place. -/
structure DSt (W : World) (a b c d : Int) (A : Option Addr) (n : Nat) (D : Nat → De) (v : World) : Prop where
  geo : GeoAt v W.heap.size a b c d
  res : Row v (W.heap.size + 1) 256 zeroF
  des : Ds v A n D
  old : Below W.heap.size W v
section
variable {W v v' : World} {a b c d : Int} {A : Option Addr} {n : Nat} {D : Nat → De}
theorem DSt.lt (h : DSt W a b c d A n D v) : W.heap.size + 1 < v.heap.size := h.res.lt
theorem DSt.upto {B : Nat} (hD : Ds W A n D) (h : DSt W a b c d A n D v) (k : Below B v v') (hB : W.heap.size + 1 < B) : DSt W a b c d A n D v' := by
  have q := h.old.trans (k.mono (by omega))
  exact ⟨h.geo.below k (by omega), h.res.below k hB, hD.old q, q⟩
end
theorem DSt.start (W : World) (a b c d : Int) (A : Option Addr) (n : Nat) (D : Nat → De) (t s : TypeId) (h : Ds W A n D) : DSt W a b c d A n D ((W.alloc (.cells #[.int .i64 a, .int .i64 b, .int .i64 c, .int .i64 d] t)).alloc (.cells (bytesOf 256 zeroF) s)) := by
  have n0 := heap_alloc_new W (.cells #[.int .i64 a, .int .i64 b, .int .i64 c, .int .i64 d] t)
  have n1 := Row.new (W.alloc (.cells #[.int .i64 a, .int .i64 b, .int .i64 c, .int .i64 d] t)) s 256 zeroF
  simp only [World.size_alloc] at n1
  have q : Below W.heap.size W ((W.alloc (.cells #[.int .i64 a, .int .i64 b, .int .i64 c, .int .i64 d] t)).alloc (.cells (bytesOf 256 zeroF) s)) := ((Below.refl _ W).alloc (Nat.le_refl _) _).alloc (by simp only [World.size_alloc]; omega) _
  exact ⟨⟨t, (Below.heap_alloc _ _ _ (by simp only [World.size_alloc]; omega)).trans n0⟩, n1, h.old q, q⟩

set_option maxRecDepth 100000 in
set_option maxHeartbeats 1000000 in
theorem wdescs_geo (a b c d : Int) (A : Option Addr) (n cap : Nat) (D : Nat → De) (w : World) (h : ¬ mayP a b c d) (hD : Ds w A n D) :
    Calls Try.prog 13 #[geoV a b c d, .slice A n cap] w fun e w' => e = .returned (.tuple #[.agg (bytesOf 256 zeroF), .int .i64 50]) ∧ Below w.heap.size w w' := by
  have H : Hid (mayB a b c d = false) := decide_eq_false h
  have HD := hide hD
  have S0 := hide (DSt.start w a b c d A n D 23 29 hD)
  clear h hD
  unfold geoV
  go_enter Try.func13, Try.ntmps13
  go_wp2_with (first | (refine allocB rfl rfl ?_) | (refine ldG rfl (.tmp 2) rfl _ _ _ _ _ rfl S0.out.geo ?_))
  refine (may_any a b c d _).mono ?_
  rintro e w1 ⟨rfl, hw⟩
  rw [H.out]
  have S1 := hide (S0.out.upto HD.out hw S0.out.lt)
  clear hw S0
  go_wp2_with (first
    | (refine buildB rfl rfl ?_)
    | (refine st256 rfl (.tmp 4) (.tmp 12) rfl (w.heap.size + 1) zeroF zeroF rfl rfl S1.out.res ?_; intro w2 hr2 ho2; have HR2 := hide hr2; have HO2 := hide ho2; clear hr2 ho2))
  exact bodyPost_ret_by (results_blk rfl _ _ _ _ _ rfl rfl HR2.out) rfl ⟨rfl, S1.out.old.trans (HO2.out.below (by omega) S1.out.old.size)⟩
set_option maxRecDepth 100000 in
set_option maxHeartbeats 1000000 in
theorem wdescs_len (a b c d : Int) (A : Option Addr) (n cap : Nat) (D : Nat → De) (w : World) (h : mayP a b c d) (hn : ¬ (n : Int) = a) (hD : Ds w A n D) :
    Calls Try.prog 13 #[geoV a b c d, .slice A n cap] w fun e w' => e = .returned (.tuple #[.agg (bytesOf 256 zeroF), .int .i64 2]) ∧ Below w.heap.size w w' := by
  have H : Hid (mayB a b c d = true) := decide_eq_true h
  have HD := hide hD
  have S0 := hide (DSt.start w a b c d A n D 23 29 hD)
  clear h hD
  unfold geoV
  go_enter Try.func13, Try.ntmps13
  go_wp2_with (first | (refine allocB rfl rfl ?_) | (refine ldG rfl (.tmp 2) rfl _ _ _ _ _ rfl S0.out.geo ?_))
  refine (may_any a b c d _).mono ?_
  rintro e w1 ⟨rfl, hw⟩
  rw [H.out]
  have S1 := hide (S0.out.upto HD.out hw S0.out.lt)
  clear hw S0
  obtain ⟨k0, k1, k2, k3⟩ := S1.out.geo.cells
  go_wp2_with (first
    | (refine buildB rfl rfl ?_)
    | (refine st256 rfl (.tmp 4) (.tmp 18) rfl (w.heap.size + 1) zeroF zeroF rfl rfl S1.out.res ?_; intro w2 hr2 ho2; have HR2 := hide hr2; have HO2 := hide ho2; clear hr2 ho2))
  exact bodyPost_ret_by (results_blk rfl _ _ _ _ _ rfl rfl HR2.out) rfl ⟨rfl, S1.out.old.trans (HO2.out.below (by omega) S1.out.old.size)⟩
end Go.Proofs.Ytbngbhildijciaa
