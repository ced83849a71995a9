/-
  No cell of these rows narrows 'for every input' (looked for: loops, veiled, ifaces, maps, wideKeys, modest, calm, conditions, laid).
  DERIVED. THE GIVEN ROWS OF THIS SEAT. 8 by the template 'for every input the law returns true; each argument reads behind the call as it read before'; 0 by the template 'total and deterministic' (their statements: YtbngbhildijciaaTotals.lean).
  GIVEN WITH THE SEED: the statements are not yours to turn. If you find one false, say at which input.
  Laid BY PROGRAM, IN A SANDBOX (cutbox-rows.mjs): the forced cells as the released guide's own fill.sh prints them over the translation 995483b8133ab420… (all of the seat's roots in one cut). By AI agents, Wed Nov 11 2026. No macro, syntax, notation, axiom, sorry.
-/
import Derived.Test.YtbngbhildijciaaChecked
import GoSem.Claim
import GoSem.ClaimJoined
import GoSem.ClaimMapViews
import Derived.JoinedTies
import Derived.KernelRfl
namespace Go.Proofs.Ytbngbhildijciaa
/- THE CELL 'sum', in the pinned program and in every row, IS THE sha256 OF THE DUMP (.gsa) THAT YtbngbhildijciaaProg.lean LOADS. Nothing in Lean hashes anything: it is a label: what it is worth is what the hold of that sum in a sandbox is worth. -/
noncomputable def Try.pinned : Pinned := { name := "ytbngbhildijciaa", sum := "995483b8133ab42091e4741ebff19069b37b618c343363d1f9ba29635cacf957", checked := Try.checked }
namespace Rows
def none {H : Type} : Left H := { results := [], args := [] }

/-- 'quernlaw06.SuperWrites': WHATEVER THE INPUT: true; the input reads as it did. -/
def superWritesSpec : ChangeSpec := { name := "superWrites", fn := fun _ => fun
  | [d1, d2, d3] => { results := [.lit (.bool true)], args := [d1, d2, d3] }
  | _ => none }
def superWritesRow : OpenClaim := { program := "ytbngbhildijciaa", sum := "995483b8133ab42091e4741ebff19069b37b618c343363d1f9ba29635cacf957", func := "quern/quernlaw06.SuperWrites", spec := "superWrites", unfollowed := true, recurses := true, apart := false }
def SuperWritesSaid : Prop := superWritesRow.holds Try.pinned (OpenSpec.ofChange superWritesSpec)

/-- ITS FALSE NEIGHBOUR: 'it returns false'. Refute it at one input. -/
def superWritesWrong : ChangeSpec := { name := "superWrites", fn := fun _ => fun
  | [d1, d2, d3] => { results := [.lit (.bool false)], args := [d1, d2, d3] }
  | _ => none }
def SuperWritesWrongFalsely : Prop := superWritesRow.holds Try.pinned (OpenSpec.ofChange superWritesWrong)

/-- 'quernlaw06.SuperUnlike': WHATEVER THE INPUT: true; the input reads as it did. -/
def superUnlikeSpec : ChangeSpec := { name := "superUnlike", fn := fun _ => fun
  | [d1, d2] => { results := [.lit (.bool true)], args := [d1, d2] }
  | _ => none }
def superUnlikeRow : OpenClaim := { program := "ytbngbhildijciaa", sum := "995483b8133ab42091e4741ebff19069b37b618c343363d1f9ba29635cacf957", func := "quern/quernlaw06.SuperUnlike", spec := "superUnlike", unfollowed := true, recurses := true, apart := false }
def SuperUnlikeSaid : Prop := superUnlikeRow.holds Try.pinned (OpenSpec.ofChange superUnlikeSpec)

/-- ITS FALSE NEIGHBOUR: 'it returns false'. Refute it at one input. -/
def superUnlikeWrong : ChangeSpec := { name := "superUnlike", fn := fun _ => fun
  | [d1, d2] => { results := [.lit (.bool false)], args := [d1, d2] }
  | _ => none }
def SuperUnlikeWrongFalsely : Prop := superUnlikeRow.holds Try.pinned (OpenSpec.ofChange superUnlikeWrong)

/-- 'quernlaw06.SuperReads': WHATEVER THE INPUT: true; the input reads as it did. -/
def superReadsSpec : ChangeSpec := { name := "superReads", fn := fun _ => fun
  | [d1, d2] => { results := [.lit (.bool true)], args := [d1, d2] }
  | _ => none }
def superReadsRow : OpenClaim := { program := "ytbngbhildijciaa", sum := "995483b8133ab42091e4741ebff19069b37b618c343363d1f9ba29635cacf957", func := "quern/quernlaw06.SuperReads", spec := "superReads", unfollowed := true, recurses := true, apart := false }
def SuperReadsSaid : Prop := superReadsRow.holds Try.pinned (OpenSpec.ofChange superReadsSpec)

/-- ITS FALSE NEIGHBOUR: 'it returns false'. Refute it at one input. -/
def superReadsWrong : ChangeSpec := { name := "superReads", fn := fun _ => fun
  | [d1, d2] => { results := [.lit (.bool false)], args := [d1, d2] }
  | _ => none }
def SuperReadsWrongFalsely : Prop := superReadsRow.holds Try.pinned (OpenSpec.ofChange superReadsWrong)

/-- 'quernlaw06.SuperBack': WHATEVER THE INPUT: true; the input reads as it did. -/
def superBackSpec : ChangeSpec := { name := "superBack", fn := fun _ => fun
  | [d1, d2, d3, d4] => { results := [.lit (.bool true)], args := [d1, d2, d3, d4] }
  | _ => none }
def superBackRow : OpenClaim := { program := "ytbngbhildijciaa", sum := "995483b8133ab42091e4741ebff19069b37b618c343363d1f9ba29635cacf957", func := "quern/quernlaw06.SuperBack", spec := "superBack", unfollowed := true, recurses := true, apart := false }
def SuperBackSaid : Prop := superBackRow.holds Try.pinned (OpenSpec.ofChange superBackSpec)

/-- ITS FALSE NEIGHBOUR: 'it returns false'. Refute it at one input. -/
def superBackWrong : ChangeSpec := { name := "superBack", fn := fun _ => fun
  | [d1, d2, d3, d4] => { results := [.lit (.bool false)], args := [d1, d2, d3, d4] }
  | _ => none }
def SuperBackWrongFalsely : Prop := superBackRow.holds Try.pinned (OpenSpec.ofChange superBackWrong)

/-- 'quernlaw06.SuperByte': WHATEVER THE INPUT: true; the input reads as it did. -/
def superByteSpec : ChangeSpec := { name := "superByte", fn := fun _ => fun
  | [d1, d2, d3, d4] => { results := [.lit (.bool true)], args := [d1, d2, d3, d4] }
  | _ => none }
def superByteRow : OpenClaim := { program := "ytbngbhildijciaa", sum := "995483b8133ab42091e4741ebff19069b37b618c343363d1f9ba29635cacf957", func := "quern/quernlaw06.SuperByte", spec := "superByte", unfollowed := true, recurses := true, apart := false }
def SuperByteSaid : Prop := superByteRow.holds Try.pinned (OpenSpec.ofChange superByteSpec)

/-- ITS FALSE NEIGHBOUR: 'it returns false'. Refute it at one input. -/
def superByteWrong : ChangeSpec := { name := "superByte", fn := fun _ => fun
  | [d1, d2, d3, d4] => { results := [.lit (.bool false)], args := [d1, d2, d3, d4] }
  | _ => none }
def SuperByteWrongFalsely : Prop := superByteRow.holds Try.pinned (OpenSpec.ofChange superByteWrong)

/-- 'quernlaw06.SuperNone': WHATEVER THE INPUT: true; the input reads as it did. -/
def superNoneSpec : ChangeSpec := { name := "superNone", fn := fun _ => fun
  | [d1, d2] => { results := [.lit (.bool true)], args := [d1, d2] }
  | _ => none }
def superNoneRow : OpenClaim := { program := "ytbngbhildijciaa", sum := "995483b8133ab42091e4741ebff19069b37b618c343363d1f9ba29635cacf957", func := "quern/quernlaw06.SuperNone", spec := "superNone", unfollowed := true, recurses := true, apart := false }
def SuperNoneSaid : Prop := superNoneRow.holds Try.pinned (OpenSpec.ofChange superNoneSpec)

/-- ITS FALSE NEIGHBOUR: 'it returns false'. Refute it at one input. -/
def superNoneWrong : ChangeSpec := { name := "superNone", fn := fun _ => fun
  | [d1, d2] => { results := [.lit (.bool false)], args := [d1, d2] }
  | _ => none }
def SuperNoneWrongFalsely : Prop := superNoneRow.holds Try.pinned (OpenSpec.ofChange superNoneWrong)

/-- 'quernlaw06.SuperKinds': WHATEVER THE INPUT: true; the input reads as it did. -/
def superKindsSpec : ChangeSpec := { name := "superKinds", fn := fun _ => fun
  | [d1, d2, d3] => { results := [.lit (.bool true)], args := [d1, d2, d3] }
  | _ => none }
def superKindsRow : OpenClaim := { program := "ytbngbhildijciaa", sum := "995483b8133ab42091e4741ebff19069b37b618c343363d1f9ba29635cacf957", func := "quern/quernlaw06.SuperKinds", spec := "superKinds", unfollowed := true, recurses := true, apart := false }
def SuperKindsSaid : Prop := superKindsRow.holds Try.pinned (OpenSpec.ofChange superKindsSpec)

/-- ITS FALSE NEIGHBOUR: 'it returns false'. Refute it at one input. -/
def superKindsWrong : ChangeSpec := { name := "superKinds", fn := fun _ => fun
  | [d1, d2, d3] => { results := [.lit (.bool false)], args := [d1, d2, d3] }
  | _ => none }
def SuperKindsWrongFalsely : Prop := superKindsRow.holds Try.pinned (OpenSpec.ofChange superKindsWrong)

/-- 'quernlaw06.SuperRow': WHATEVER THE INPUT: true; the input reads as it did. -/
def superRowSpec : ChangeSpec := { name := "superRow", fn := fun _ => fun
  | [d1, d2] => { results := [.lit (.bool true)], args := [d1, d2] }
  | _ => none }
def superRowRow : OpenClaim := { program := "ytbngbhildijciaa", sum := "995483b8133ab42091e4741ebff19069b37b618c343363d1f9ba29635cacf957", func := "quern/quernlaw06.SuperRow", spec := "superRow", unfollowed := true, recurses := true, apart := false }
def SuperRowSaid : Prop := superRowRow.holds Try.pinned (OpenSpec.ofChange superRowSpec)

/-- ITS FALSE NEIGHBOUR: 'it returns false'. Refute it at one input. -/
def superRowWrong : ChangeSpec := { name := "superRow", fn := fun _ => fun
  | [d1, d2] => { results := [.lit (.bool false)], args := [d1, d2] }
  | _ => none }
def SuperRowWrongFalsely : Prop := superRowRow.holds Try.pinned (OpenSpec.ofChange superRowWrong)

/- THE SECOND FORM. 'bulk': how many values and letters a reading holds, each counted each time it is reached (what is shared counts as often as it is met; a slice's spare places count too). A statement '..UptoSaid' is the law's where the arguments, and the package variables that the reading takes, are together of bulk at most 1048576: NARROWER than '..Said'. Prove '..Said' where nothing that the law and all that it calls make is longer than what came in: it says more and counts as full. Else prove '..UptoSaid'. A law counts once. -/
mutual
def uptoBulk {H : Type} : DataW H → Nat
  | .lit (.string bytes) => bytes.length + 1
  | .lit _ => 1
  | .nil => 1
  | .ptr d => uptoBulk d + 1
  | .slice elems spare => uptoBulkAll elems + uptoBulkAll spare + 1
  | .agg parts => uptoBulkAll parts + 1
  | .iface _ d => uptoBulk d + 1
  | .map entries => uptoBulkEntries entries + 1
  | .held _ => 1
def uptoBulkAll {H : Type} : List (DataW H) → Nat
  | [] => 0
  | d :: r => uptoBulk d + uptoBulkAll r
def uptoBulkEntries {H : Type} : List (Lit × DataW H) → Nat
  | [] => 0
  | x :: r => uptoBulkEntry x + uptoBulkEntries r
def uptoBulkEntry {H : Type} : Lit × DataW H → Nat
  | (.string bytes, d) => bytes.length + uptoBulk d + 1
  | (_, d) => uptoBulk d + 1
 end
def uptoSmall : (H : Type) → List (DataW H) → Bool := fun _ ds => decide (uptoBulkAll ds ≤ 1048576)
def OpenSpec.upto (s : _root_.Go.ChangeSpec) : _root_.Go.OpenSpec := { _root_.Go.OpenSpec.ofChange s with cond := some uptoSmall }

/-- 'quernlaw06.SuperWrites', WHERE WHAT IT READS IS OF BULK AT MOST 1048576: true; the input reads as it did. -/
def superWritesUptoRow : OpenClaim := { program := "ytbngbhildijciaa", sum := "995483b8133ab42091e4741ebff19069b37b618c343363d1f9ba29635cacf957", func := "quern/quernlaw06.SuperWrites", spec := "superWrites", unfollowed := true, recurses := true, apart := false, narrowed := true }
def SuperWritesUptoSaid : Prop := superWritesUptoRow.holds Try.pinned (OpenSpec.upto superWritesSpec)

/-- 'quernlaw06.SuperUnlike', WHERE WHAT IT READS IS OF BULK AT MOST 1048576: true; the input reads as it did. -/
def superUnlikeUptoRow : OpenClaim := { program := "ytbngbhildijciaa", sum := "995483b8133ab42091e4741ebff19069b37b618c343363d1f9ba29635cacf957", func := "quern/quernlaw06.SuperUnlike", spec := "superUnlike", unfollowed := true, recurses := true, apart := false, narrowed := true }
def SuperUnlikeUptoSaid : Prop := superUnlikeUptoRow.holds Try.pinned (OpenSpec.upto superUnlikeSpec)

/-- 'quernlaw06.SuperReads', WHERE WHAT IT READS IS OF BULK AT MOST 1048576: true; the input reads as it did. -/
def superReadsUptoRow : OpenClaim := { program := "ytbngbhildijciaa", sum := "995483b8133ab42091e4741ebff19069b37b618c343363d1f9ba29635cacf957", func := "quern/quernlaw06.SuperReads", spec := "superReads", unfollowed := true, recurses := true, apart := false, narrowed := true }
def SuperReadsUptoSaid : Prop := superReadsUptoRow.holds Try.pinned (OpenSpec.upto superReadsSpec)

/-- 'quernlaw06.SuperBack', WHERE WHAT IT READS IS OF BULK AT MOST 1048576: true; the input reads as it did. -/
def superBackUptoRow : OpenClaim := { program := "ytbngbhildijciaa", sum := "995483b8133ab42091e4741ebff19069b37b618c343363d1f9ba29635cacf957", func := "quern/quernlaw06.SuperBack", spec := "superBack", unfollowed := true, recurses := true, apart := false, narrowed := true }
def SuperBackUptoSaid : Prop := superBackUptoRow.holds Try.pinned (OpenSpec.upto superBackSpec)

/-- 'quernlaw06.SuperByte', WHERE WHAT IT READS IS OF BULK AT MOST 1048576: true; the input reads as it did. -/
def superByteUptoRow : OpenClaim := { program := "ytbngbhildijciaa", sum := "995483b8133ab42091e4741ebff19069b37b618c343363d1f9ba29635cacf957", func := "quern/quernlaw06.SuperByte", spec := "superByte", unfollowed := true, recurses := true, apart := false, narrowed := true }
def SuperByteUptoSaid : Prop := superByteUptoRow.holds Try.pinned (OpenSpec.upto superByteSpec)

/-- 'quernlaw06.SuperNone', WHERE WHAT IT READS IS OF BULK AT MOST 1048576: true; the input reads as it did. -/
def superNoneUptoRow : OpenClaim := { program := "ytbngbhildijciaa", sum := "995483b8133ab42091e4741ebff19069b37b618c343363d1f9ba29635cacf957", func := "quern/quernlaw06.SuperNone", spec := "superNone", unfollowed := true, recurses := true, apart := false, narrowed := true }
def SuperNoneUptoSaid : Prop := superNoneUptoRow.holds Try.pinned (OpenSpec.upto superNoneSpec)

/-- 'quernlaw06.SuperKinds', WHERE WHAT IT READS IS OF BULK AT MOST 1048576: true; the input reads as it did. -/
def superKindsUptoRow : OpenClaim := { program := "ytbngbhildijciaa", sum := "995483b8133ab42091e4741ebff19069b37b618c343363d1f9ba29635cacf957", func := "quern/quernlaw06.SuperKinds", spec := "superKinds", unfollowed := true, recurses := true, apart := false, narrowed := true }
def SuperKindsUptoSaid : Prop := superKindsUptoRow.holds Try.pinned (OpenSpec.upto superKindsSpec)

/-- 'quernlaw06.SuperRow', WHERE WHAT IT READS IS OF BULK AT MOST 1048576: true; the input reads as it did. -/
def superRowUptoRow : OpenClaim := { program := "ytbngbhildijciaa", sum := "995483b8133ab42091e4741ebff19069b37b618c343363d1f9ba29635cacf957", func := "quern/quernlaw06.SuperRow", spec := "superRow", unfollowed := true, recurses := true, apart := false, narrowed := true }
def SuperRowUptoSaid : Prop := superRowUptoRow.holds Try.pinned (OpenSpec.upto superRowSpec)

end Rows
end Go.Proofs.Ytbngbhildijciaa
