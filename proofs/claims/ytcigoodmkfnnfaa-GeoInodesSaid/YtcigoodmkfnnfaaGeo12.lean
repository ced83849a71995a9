/- Contracts of the geometry by cases; a region that draws its order, among calls that keep a geometry. -/
import Derived.Test.YtcigoodmkfnnfaaGeo11
import Derived.BigQuiet
import Derived.Lib.SmallJoins
namespace Go.Proofs.Ytcigoodmkfnnfaa
open Go.RowKit
set_option linter.unusedVariables false

theorem may_yes {a b c d : Int} (w : World) (h : mayP a b c d) : Calls Try.prog 20 #[geoV a b c d] w fun e w' => e = .returned (.bool true) ∧ Below w.heap.size w w' :=
  (may_any a b c d w).mono fun e w' ⟨he, hw⟩ => ⟨by rw [he, show mayB a b c d = true from decide_eq_true h], hw⟩
theorem may_no {a b c d : Int} (w : World) (h : ¬ mayP a b c d) : Calls Try.prog 20 #[geoV a b c d] w fun e w' => e = .returned (.bool false) ∧ Below w.heap.size w w' :=
  (may_any a b c d w).mono fun e w' ⟨he, hw⟩ => ⟨by rw [he, show mayB a b c d = false from decide_eq_false h], hw⟩
theorem blocks_yes {a b c d : Int} (w : World) (h : mayP a b c d) : Calls Try.prog 22 #[geoV a b c d] w fun e w' => e = .returned (.int .i64 (2 + d + a * b)) ∧ Below w.heap.size w w' :=
  (blocks_any a b c d w).mono fun e w' ⟨he, hw⟩ => ⟨by rw [he, ifMay, if_pos h], hw⟩
theorem blocks_no {a b c d : Int} (w : World) (h : ¬ mayP a b c d) : Calls Try.prog 22 #[geoV a b c d] w fun e w' => e = .returned (.int .i64 0) ∧ Below w.heap.size w w' :=
  (blocks_any a b c d w).mono fun e w' ⟨he, hw⟩ => ⟨by rw [he, ifMay, if_neg h], hw⟩
theorem inodes_yes {a b c d : Int} (w : World) (h : mayP a b c d) : Calls Try.prog 24 #[geoV a b c d] w fun e w' => e = .returned (.int .i64 (a * c)) ∧ Below w.heap.size w w' :=
  (inodes_any a b c d w).mono fun e w' ⟨he, hw⟩ => ⟨by rw [he, ifMay, if_pos h], hw⟩
theorem inodes_no {a b c d : Int} (w : World) (h : ¬ mayP a b c d) : Calls Try.prog 24 #[geoV a b c d] w fun e w' => e = .returned (.int .i64 0) ∧ Below w.heap.size w w' :=
  (inodes_any a b c d w).mono fun e w' ⟨he, hw⟩ => ⟨by rw [he, ifMay, if_neg h], hw⟩
theorem data_yes {a b c d : Int} (w : World) (h : mayP a b c d) : Calls Try.prog 26 #[geoV a b c d] w fun e w' => e = .returned (.int .i64 (b - 2 - c / 4)) ∧ Below w.heap.size w w' :=
  (data_any a b c d w).mono fun e w' ⟨he, hw⟩ => ⟨by rw [he, ifMay, if_pos h], hw⟩
theorem data_no {a b c d : Int} (w : World) (h : ¬ mayP a b c d) : Calls Try.prog 26 #[geoV a b c d] w fun e w' => e = .returned (.int .i64 0) ∧ Below w.heap.size w w' :=
  (data_any a b c d w).mono fun e w' ⟨he, hw⟩ => ⟨by rw [he, ifMay, if_neg h], hw⟩

/-- The worlds of a class. -/
structure Of (R : World → Prop) where
  val : World
  ok : R val
/-- A region that draws its order, whose operations only read what every world of a class holds, and whose calls stay in the class. -/
theorem wp_region_sub {P : Program} (R : World → Prop) {id : Nat} {Q : Exit → Act → World → Prop} {a : Act} {w : World} {l : List Oper} (hm : P.follows .mixedOrders = true) (hB : Region.lexB .any l.toArray = true) (h0 : R w.drew)
    (h : wpQuiet P l.toArray (fun w' => ∃ s : Of R, w' = s.val) (fun a' => ∀ w', (∃ s : Of R, w' = s.val) → Q .normal a' w') l a) : (Code.region id l.toArray true).wp P Q a w :=
  wp_region_quiet (C := fun w' => ∃ s : Of R, w' = s.val) hm hB ⟨⟨_, h0⟩, rfl⟩ (by simpa using h)
theorem sub_calls {P : Program} {R : World → Prop} {f : FuncId} {args : Array Value} {v : Value} {s : Of R} (hR : ∀ w w', R w → Below w.heap.size w w' → R w')
    (h : Calls P f args s.val fun e w' => e = .returned v ∧ Below s.val.heap.size s.val w') : Calls P f args s.val fun e w' => e = .returned v ∧ ∃ s' : Of R, w' = s'.val :=
  h.mono fun e w' ⟨he, hw⟩ => ⟨he, ⟨w', hR _ _ s.ok hw⟩, rfl⟩
theorem GAt.steps {W : World} {n : Nat} {a b c d : Int} : ∀ w w', GAt W n a b c d w → Below w.heap.size w w' → GAt W n a b c d w' := fun w w' h k => h.step k
theorem GAt.drew {W w : World} {n : Nat} {a b c d : Int} (h : GAt W n a b c d w) : GAt W n a b c d w.drew := ⟨h.old.drew, h.geo⟩
theorem GAt.all {W : World} {n : Nat} {a b c d : Int} :
    (∀ s : Of (GAt W n a b c d), s.val.cell? ⟨n, 0, none⟩ = some (.int .i64 a)) ∧ (∀ s : Of (GAt W n a b c d), s.val.cell? ⟨n, 1, none⟩ = some (.int .i64 b)) ∧
    (∀ s : Of (GAt W n a b c d), s.val.cell? ⟨n, 2, none⟩ = some (.int .i64 c)) ∧ (∀ s : Of (GAt W n a b c d), s.val.cell? ⟨n, 3, none⟩ = some (.int .i64 d)) :=
  ⟨fun s => s.ok.cells.1, fun s => s.ok.cells.2.1, fun s => s.ok.cells.2.2.1, fun s => s.ok.cells.2.2.2⟩

/-- A geometry that came in. -/
theorem geo_form {H : Type} {enc : TypeId × Value → H} {W : World} {base : Nat} {v : Value} {d : DataW H} {p : List MemPlace} (hv : Value.okWide Try.prog W .any base 23 v) (h : DataW.Trod enc Try.prog W 0 (fun _ => true) true 23 v d p) :
    ∃ a b c e : Int, v = geoV a b c e ∧ (Lit.int .i64 a).wf = true ∧ (Lit.int .i64 b).wf = true ∧ (Lit.int .i64 c).wf = true ∧ (Lit.int .i64 e).wf = true := by
  obtain ⟨v0, v1, v2, v3, y0, y1, y2, y3, n, rfl, _, _, h0, h1, h2, h3⟩ := Joins.open_agg4 Try.underlying23 (by kernel_rfl) (by kernel_rfl) hv h
  obtain ⟨a, e0, _, wa⟩ := DataW.trod_int Try.underlying3 h0
  obtain ⟨b, e1, _, wb⟩ := DataW.trod_int Try.underlying3 h1
  obtain ⟨c, e2, _, wc⟩ := DataW.trod_int Try.underlying3 h2
  obtain ⟨e, e3, _, we⟩ := DataW.trod_int Try.underlying3 h3
  simp only [List.cons.injEq, and_true] at e0 e1 e2 e3
  subst e0 e1 e2 e3
  exact ⟨a, b, c, e, rfl, wa, wb, wc, we⟩
end Go.Proofs.Ytcigoodmkfnnfaa
