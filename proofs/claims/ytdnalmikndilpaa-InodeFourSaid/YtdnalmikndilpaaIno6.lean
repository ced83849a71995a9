/- The walk of inode.bytes. -/
import Derived.Test.YtdnalmikndilpaaIno5
import Derived.BigRegion
import Derived.RegionIn
import Derived.Stop.RegionWithIn
namespace Go.Proofs.Ytdnalmikndilpaa
open Go.RowKit Go.Shelf
set_option linter.unusedVariables false
attribute [local go_sem] Oper.semAt_some

structure InoOk (x : Ino) : Prop where
  kind : 0 ≤ x.kind ∧ x.kind ≤ 255
  links : -9223372036854775808 ≤ x.links ∧ x.links ≤ 9223372036854775807
  gen : 0 ≤ x.gen ∧ x.gen ≤ 4294967295
  size : -9223372036854775808 ≤ x.size ∧ x.size ≤ 9223372036854775807
  ptr : ∀ i, 0 ≤ x.ptr i ∧ x.ptr i ≤ 4294967295
  next : 0 ≤ x.next ∧ x.next ≤ 4294967295
theorem mayI.bounds {x : Ino} (h : mayI x) : (0 ≤ x.links ∧ x.links ≤ 1000) ∧ 0 ≤ x.size ∧ x.size ≤ 16777216 := by
  unfold mayI at h; omega

/-- Number k of an inode; where it stands. -/
def lvAt (x : Ino) : Nat → Int
  | 0 => x.gen
  | k + 1 => if k = 11 then x.next else x.ptr k
def plN : Nat → Nat
  | 0 => 4
  | k + 1 => 12 + 4 * k
theorem plN_plAt (k : Nat) : ((plN k : Nat) : Int) = plAt k := by cases k <;> simp [plN, plAt]
theorem plN_lt {k : Nat} (h : k < 13) : plN k + 4 ≤ 64 := by cases k <;> simp [plN]; omega
/-- Numbers put, one behind the other. -/
def foN (f : Nat → Int) (x : Ino) (l : List Nat) : Nat → Int := l.foldl (fun f k => putB f (plN k) (lvAt x k) 4) f
theorem foN_snoc (f : Nat → Int) (x : Ino) (l : List Nat) (k : Nat) : foN f x (l ++ [k]) = putB (foN f x l) (plN k) (lvAt x k) 4 := by simp [foN, List.foldl_append]
def headF (x : Ino) : Nat → Int := putB (putB (upd zeroF 0 x.kind) 2 x.links 2) 8 x.size 4
def inoF (x : Ino) : Nat → Int := foN (headF x) x (List.range 13)
theorem IAt.cl {w : World} {B : Nat} {x : Ino} (h : IAt w B x) (k : Fin 13) : w.cell? ⟨B, ofAt k.val, none⟩ = some (.int .u32 (lvAt x k.val)) := by
  obtain ⟨k, hk⟩ := k
  cases k with
  | zero => exact h.c2
  | succ k =>
    show w.cell? ⟨B, 4 + k, none⟩ = some (.int .u32 (if k = 11 then x.next else x.ptr k))
    by_cases e : k = 11
    · subst e; rw [if_pos rfl]; exact h.cn
    · rw [if_neg e]; exact h.cp (by omega)
theorem InoOk.lv {x : Ino} (h : InoOk x) (k : Nat) : 0 ≤ lvAt x k ∧ lvAt x k ≤ 4294967295 := by
  cases k with
  | zero => exact h.gen
  | succ k =>
    show 0 ≤ (if k = 11 then x.next else x.ptr k) ∧ (if k = 11 then x.next else x.ptr k) ≤ 4294967295
    split
    · exact h.next
    · exact h.ptr k
theorem own_row {β : Type} (B b n : Nat) (f : β → Nat → Int) : OwnFrom B (fun s W => Row W b n (f s)) := fun s W W' row hs hg hr => hs.grown hg (fun e => by
  obtain ⟨_, o, ho, hc⟩ := hr b e.symm
  obtain ⟨t, hs⟩ := hs
  rw [hs] at ho; cases ho; cases hc)
theorem own_only {β : Type} {B b : Nat} {V : World} (hB : V.heap.size ≤ B) : OwnFrom B (fun (_ : β) W => Only b V W) := fun s W W' row hs hg hr =>
  ⟨hg.os.trans hs.os, hg.tape.trans hs.tape, hg.output.trans hs.output, Nat.le_trans hs.size hg.size, fun i hi hne =>
    (hg.block i (Nat.lt_of_lt_of_le hi hs.size) (fun e => by have := (hr i e.symm).1; omega)).trans (hs.block i hi hne)⟩

theorem wpIn_cutI {F : Fence} {n : Nat} {P : Program} {c : Code} {Q : Exit → Act → World → Prop} {a : Act} {w : World} (R : Act → World → Prop) (h : c.wpIn F n P (justNormal fun _ a w => R a w) a w) (k : ∀ a' w', R a' w' → Q .normal a' w') : c.wpIn F n P Q a w :=
  wpIn_mono h (fun e a' w' q => by cases e <;> first | exact k _ _ q | exact q.elim)
theorem wpIn_cutw {n : Nat} {P : Program} {c : Code} {Q : Exit → Act → World → Prop} {a : Act} {w : World} (R : Act → World → Prop) (h : c.wp P (justNormal fun _ a w => R a w) a w) (k : ∀ a' w', R a' w' → Q .normal a' w') : c.wpIn Fence.wide n P Q a w :=
  wpIn_wide.2 (Code.wp_mono (fun e a' w' q => by cases e <;> first | exact k _ _ q | exact q.elim) h)

theorem Put16_in (g n : Nat) (i : Int) (p : Nat) (f : Nat → Int) (v : Int) (w : World) (hi : i = p) (hs : Row w g n f) (hn : (n : Int) ≤ 9223372036854775807) (hv0 : 0 ≤ v) (hv1 : v ≤ 65535) (h1 : p + 2 ≤ n) :
    Calls Try.prog 28 #[.slice (some ⟨g, 0, none⟩) n n, .int .i64 i, .int .u32 v] w fun e w' => e = .returned (.bool true) ∧ Row w' g n (putB f p v 2) ∧ Only g w w' := by
  subst hi
  have := Put16_yes g n 0 n n p f v w hn hs (by omega) hv0 hv1 h1
  rwa [Nat.zero_add] at this
theorem Put32_in (g n : Nat) (i : Int) (p : Nat) (f : Nat → Int) (v : Int) (w : World) (hi : i = p) (hs : Row w g n f) (hn : (n : Int) ≤ 9223372036854775807) (hv0 : 0 ≤ v) (hv1 : v ≤ 4294967295) (h1 : p + 4 ≤ n) :
    Calls Try.prog 29 #[.slice (some ⟨g, 0, none⟩) n n, .int .i64 i, .int .u32 v] w fun e w' => e = .returned (.bool true) ∧ Row w' g n (putB f p v 4) ∧ Only g w w' := by
  subst hi
  have := Put32_yes g n 0 n n p f v w hn hs (by omega) hv0 hv1 h1
  rwa [Nat.zero_add] at this
theorem lt_of_some {w : World} {D : Nat} {o : Obj} (h : w.heap[D]? = some o) : D < w.heap.size := (Array.getElem?_eq_some_iff.1 h).1
theorem alloc3 (w : World) (A B C : Obj) : (((w.alloc A).alloc B).alloc C).heap[w.heap.size]? = some A ∧ (((w.alloc A).alloc B).alloc C).heap[w.heap.size + 1]? = some B ∧ (((w.alloc A).alloc B).alloc C).heap[w.heap.size + 1 + 1]? = some C ∧
    Below w.heap.size w (((w.alloc A).alloc B).alloc C) := by
  have n1 := heap_alloc_new (w.alloc A) B
  have n2 := heap_alloc_new ((w.alloc A).alloc B) C
  simp only [World.size_alloc] at n1 n2
  refine ⟨?_, ?_, n2, ?_⟩
  · exact (Below.heap_alloc _ C _ (by simp only [World.size_alloc]; omega)).trans ((Below.heap_alloc _ B _ (by simp only [World.size_alloc]; omega)).trans (heap_alloc_new w A))
  · exact (Below.heap_alloc _ C _ (by simp only [World.size_alloc]; omega)).trans n1
  · exact (((Below.refl _ w).alloc (Nat.le_refl _) A).alloc (by simp only [World.size_alloc]; omega) B).alloc (by simp only [World.size_alloc]; omega) C

theorem alloc3_of {w W0 : World} {A B C : Obj} (h : ((w.alloc A).alloc B).alloc C = W0) : W0.heap[w.heap.size]? = some A ∧ W0.heap[w.heap.size + 1]? = some B ∧ W0.heap[w.heap.size + 1 + 1]? = some C ∧ Below w.heap.size w W0 := h ▸ alloc3 w A B C
theorem row_of_lit {W : World} {b n : Nat} {f : Nat → Int} {cs : Array Value} {t : TypeId} (h : W.heap[b]? = some (.cells cs t (0, 0))) (hs : cs.toList = bl n f) : Row W b n f := ⟨t, by rw [bytes_lit hs] at h; exact h⟩

set_option maxRecDepth 100000 in
set_option maxHeartbeats 4000000 in
theorem bytes_any (x : Ino) (w : World) (hx : InoOk x) (hm : mayI x) :
    Calls Try.prog 18 #[inoV x] w fun e w' => e = .returned (.agg (bytesOf 64 (inoF x))) ∧ Below w.heap.size w w' := by
  have Hx := hide hx
  obtain ⟨⟨l0, l1⟩, s0, s1⟩ := hm.bounds
  clear hx hm
  unfold inoV
  refine (callsIn_wide (n := 3)).1 ?_
  refine callsIn_of_wp_marks Try.func18 rfl trivial ?_ rfl
  simp only [Try.ntmps18, List.size_toArray, List.length_cons, List.length_nil, Nat.reduceAdd, Nat.reduceSub, Array.replicate_succ, Array.replicate_zero, List.push_toArray, List.append_toArray, List.nil_append, List.cons_append]
  have e0 : (inoC x)[0]? = some (.int .u8 x.kind) := rfl
  gi_wp2_with fail
  clear e0
  generalize hW : World.alloc _ _ = W0
  obtain ⟨h0, h1, h2, hB⟩ := alloc3_of hW
  have I0 : Hid (IAt W0 w.heap.size x) := ⟨_, h0⟩
  have Z0 := hide (row_of_lit (n := 64) (f := zeroF) h1 (by rfl))
  have R0 := hide (row_of_lit (n := 64) (f := upd zeroF 0 x.kind) h2 (by rfl))
  have B0 := hide hB
  clear hW h0 h1 h2 hB
  have c1 := I0.out.c1
  refine wpIn_cutw (fun a' V => (∃ u9 u10 u11 u12 u13, a' = { tmps := #[Value.agg (inoC x), .pointer (some ⟨w.heap.size, 0, none⟩), .pointer (some ⟨w.heap.size + 1, 0, none⟩), .pointer (some ⟨w.heap.size + 1 + 1, 0, none⟩), undef, undef, .pointer (some ⟨w.heap.size, 0, none⟩), .int .u8 x.kind, .pointer (some ⟨w.heap.size + 1 + 1, 0, none⟩), u9, u10, u11, u12, u13, undef, undef, undef, undef, undef, undef, undef, undef, undef, undef, undef, undef, undef, undef, undef], defers := [] }) ∧ Row V (w.heap.size + 1 + 1) 64 (putB (upd zeroF 0 x.kind) 2 x.links 2) ∧ Only (w.heap.size + 1 + 1) W0 V) ?reg ?rest
  case reg =>
    go_still_tail 4, (by kernel_rfl)
    go_wp2_with (go_at_call 28; refine (Put16_in (w.heap.size + 1 + 1) 64 2 2 (upd zeroF 0 x.kind) x.links _ rfl R0.out.drew (by omega) (by omega) (by omega) (by omega)).mono ?_; rintro e V ⟨rfl, hr, ho⟩; have HR := hide hr; have HO := hide ho; clear hr ho)
    exact ⟨⟨_, _, _, _, _, rfl⟩, HR.out, (Only.refl _ W0).drew.trans HO.out⟩
  case rest =>
    rintro _ V1 ⟨⟨u9, u10, u11, u12, u13, rfl⟩, hr, ho⟩
    have R1 := hide hr
    have I1 := hide (I0.out.only ho (by omega))
    have Z1 := hide (Z0.out.only ho (by omega))
    have B1 := hide (B0.out.trans (ho.below (show w.heap.size ≤ w.heap.size + 1 + 1 by omega) B0.out.size))
    clear hr ho R0 I0 Z0 B0 c1
    have c3 := I1.out.c3
    gi_wp2_with fail
    refine wpIn_cutw (fun a' V => (∃ u14 u15 u16 u17 u18, a' = { tmps := #[Value.agg (inoC x), .pointer (some ⟨w.heap.size, 0, none⟩), .pointer (some ⟨w.heap.size + 1, 0, none⟩), .pointer (some ⟨w.heap.size + 1 + 1, 0, none⟩), undef, undef, .pointer (some ⟨w.heap.size, 0, none⟩), .int .u8 x.kind, .pointer (some ⟨w.heap.size + 1 + 1, 0, none⟩), u9, u10, u11, u12, u13, u14, u15, u16, u17, u18, undef, undef, undef, undef, undef, undef, undef, undef, undef, undef], defers := [] }) ∧ Row V (w.heap.size + 1 + 1) 64 (headF x) ∧ Only (w.heap.size + 1 + 1) V1 V) ?reg ?rest
    case reg =>
      go_still_tail 4, (by kernel_rfl)
      go_wp2_with (go_at_call 29; refine (Put32_in (w.heap.size + 1 + 1) 64 8 8 (putB (upd zeroF 0 x.kind) 2 x.links 2) x.size _ rfl R1.out.drew (by omega) (by omega) (by omega) (by omega)).mono ?_; rintro e V ⟨rfl, hr, ho⟩; have HR := hide hr; have HO := hide ho; clear hr ho)
      exact ⟨⟨_, _, _, _, _, rfl⟩, HR.out, (Only.refl _ V1).drew.trans HO.out⟩
    case rest =>
      rintro _ V2 ⟨⟨u14, u15, u16, u17, u18, rfl⟩, hr, ho⟩
      have R2 := hide hr
      have I2 := hide (I1.out.only ho (by omega))
      have Z2 := hide (Z1.out.only ho (by omega))
      have B2 := hide (B1.out.trans (ho.below (show w.heap.size ≤ w.heap.size + 1 + 1 by omega) B1.out.size))
      clear hr ho R1 I1 Z1 B1 c3
      gi_wp2_with (refine ⟨trivial, ?_⟩; gi_at_call 24; refine (longs_in _ _ _).mono ?_; rintro e w' ⟨rfl, rfl⟩)
      obtain ⟨V3, hV3⟩ : ∃ V3, V2.alloc (.cells #[.pointer (some ⟨w.heap.size, 0, none⟩)] 56) = V3 := ⟨_, rfl⟩
      rw [hV3]
      have hs := R2.out.lt
      have hbx : V3.heap[V2.heap.size]? = some (.cells #[.pointer (some ⟨w.heap.size, 0, none⟩)] 56 (0, 0)) := by rw [← hV3]; exact heap_alloc_new V2 _
      have HBx := hide hbx
      have hB3 : Hid (Below V2.heap.size V2 V3) := by rw [← hV3]; exact (Below.refl _ V2).alloc (Nat.le_refl _) _
      have hsz : V2.heap.size < V3.heap.size := lt_of_block hbx
      have R3 := hide (R2.out.below hB3.out R2.out.lt)
      have I3 := hide (I2.out.below hB3.out I2.out.lt)
      have Z3 := hide (Z2.out.below hB3.out Z2.out.lt)
      have B3 := hide (B2.out.trans (hB3.out.mono B2.out.size))
      clear hV3 hbx R2 I2 Z2 B2
      refine wpIn_rangeFunc_ownG rfl (by omega) (gf := 32) (lb := #[.pointer (some ⟨V2.heap.size, 0, none⟩)]) rfl trivial (enters_of Try.func32 (by kernel_rfl) rfl)
        (longs_stops 2 (by omega) V2.heap.size w.heap.size V3 HBx.out)
        (fun h k => h.trans k) (fun W l o o' hl ho hc _ => ⟨by simp, ?kb⟩) (Below.refl _ _) (fun _ => rfl)
        (fun pre W => Row W (w.heap.size + 1 + 1) 64 (foN (headF x) x (pre.map Fin.val)) ∧ Only (w.heap.size + 1 + 1) V3 W)
        (fun c pre W => False)
        (OwnFrom.and (own_row _ _ _ _) (own_only (Nat.le_refl _))) (fun c => ownFrom_pure _ (fun _ => False))
        ⟨R3.out, Only.refl _ _⟩
        (fun k => { tmps := #[Value.agg (inoC x), .pointer (some ⟨w.heap.size, 0, none⟩), .pointer (some ⟨w.heap.size + 1, 0, none⟩), .pointer (some ⟨w.heap.size + 1 + 1, 0, none⟩), .int .i64 (plAt k.val), .pointer (some ⟨w.heap.size, ofAt k.val, none⟩), .pointer (some ⟨w.heap.size, 0, none⟩), .int .u8 x.kind, .pointer (some ⟨w.heap.size + 1 + 1, 0, none⟩), u9, u10, u11, u12, u13, u14, u15, u16, u17, u18, .func (.func 32) #[] #[.pointer (some ⟨V2.heap.size, 0, none⟩)], .int .i64 (plAt k.val), .pointer (some ⟨w.heap.size, ofAt k.val, none⟩), undef, undef, undef, undef, undef, undef, undef], defers := [] }) ?assign ?body ?done ?stop
      case kb => exact World.putObj_heap_other (by omega)
      case assign =>
        intro l k W K hK
        unfold longEnc
        gi_wp2
        exact hK
      case body =>
        rintro l pre k W ⟨hr, ho⟩ _
        have HR := hide hr
        have HO := hide ho
        have I4 := hide (I3.out.only ho (by omega))
        have cl := I4.out.cl k
        have hv := Hx.out.lv k.val
        obtain ⟨v0, v1⟩ := hv
        have HP := hide (plN_plAt k.val)
        have HL := hide (plN_lt k.isLt)
        clear hr ho
        generalize plAt k.val = pl at *
        generalize hlv : lvAt x k.val = lv at *
        have HLV := hide hlv
        clear hlv
        generalize ofAt k.val = off at *
        gi_wp2_with fail
        refine wpIn_cutI (fun a' V => Row V (w.heap.size + 1 + 1) 64 (putB (foN (headF x) x (pre.map Fin.val)) (plN k.val) lv 4) ∧ Only (w.heap.size + 1 + 1) W V) ?reg ?rest
        case reg =>
          gi_region_with (refine ⟨trivial, ?_⟩; gi_at_call 29; refine (callsIn_wide.2 (Put32_in (w.heap.size + 1 + 1) 64 pl (plN k.val) (foN (headF x) x (pre.map Fin.val)) lv _ HP.out.symm HR.out.drew (by omega) v0 v1 HL.out)).mono ?_; rintro e V ⟨rfl, hr, ho⟩; have HR2 := hide hr; have HO2 := hide ho; clear hr ho)
          all_goals exact ⟨HR2.out, (Only.refl _ W).drew.trans HO2.out⟩
        case rest =>
          rintro a' V ⟨hr, ho⟩
          have hwz := HO.out.size
          exact ⟨KeepsFrom.of_grownBy ho (fun j e => by cases e; omega), ⟨ho.size, ho.block _ (by omega) (fun e => by injection e; omega)⟩, by rw [List.map_append, List.map_cons, List.map_nil, foN_snoc, HLV.out]; exact hr, HO.out.trans ho⟩
      case done =>
        rintro D ys W hD hys ⟨hr, ho⟩ hK
        have HR : Hid (Row W (w.heap.size + 1 + 1) 64 (inoF x)) := by unfold inoF; rw [← hys]; exact hr
        have HZ := hide (Z3.out.only ho (by omega))
        have HB := hide (B3.out.trans (ho.below (show w.heap.size ≤ w.heap.size + 1 + 1 by omega) B3.out.size))
        have hsW := ho.size
        clear hr ho hys
        have hK' := hide hK
        clear hK
        gi_step
        gi_step
        refine wpIn_wide.2 ?_
        go_wp2_with (first
          | (refine ld64 rfl (.tmp 3) rfl _ _ rfl HR.out ?_)
          | (refine st64 rfl (.tmp 2) (.tmp 28) rfl (w.heap.size + 1) zeroF (inoF x) rfl rfl HZ.out ?_; intro V4 hr4 ho4; have HR4 := hide hr4; have HO4 := hide ho4; clear hr4 ho4))
        have hz4 := HO4.out.size
        have hK4 : V4.heap[D]? = some (.deferred (some [])) := (HO4.out.block D (lt_of_some hK'.out) (fun e => by injection e; omega)).trans hK'.out
        have hR5 : Row (V4.putObj D (.deferred none)) (w.heap.size + 1) 64 (inoF x) := HR4.out.of_heap (World.putObj_heap_other (by omega))
        obtain ⟨t5, hR5⟩ := hR5
        refine ⟨by simp, .inl ⟨_, _, rfl, run_takeDeferred hK4, ?_⟩⟩
        refine ⟨.agg (bytesOf 64 (inoF x)), ?_, rfl, ?_⟩
        · exact results_cell_row rfl _ _ (w.heap.size + 1) t5 _ (0, 0) _ rfl hR5 Try.underlying47 rfl (by rw [bytesOf_size]; exact info64)
        · exact (HB.out.trans (HO4.out.below (show w.heap.size ≤ w.heap.size + 1 by omega) HB.out.size)).trans (belowK_b (w := w) (Nat.le_refl _) _ D _ _ (by omega) hK4 rfl rfl)
      case stop =>
        rintro D c pre W hD hSp hF
        exact hF.elim
end Go.Proofs.Ytdnalmikndilpaa
