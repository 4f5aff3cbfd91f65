/-
  No cell of these rows narrows 'for every input' (looked for: loops, veiled, ifaces, maps, wideKeys, modest, calm, conditions, laid).
  DERIVED. THE GIVEN ROWS OF THIS SEAT. 3 by the template 'for every input the law returns true; each argument reads behind the call as it read before'; 0 by the template 'total and deterministic' (their statements: YtkppdmlellmepaaTotals.lean).
  GIVEN WITH THE SEED: the statements are not yours to turn. If you find one false, say at which input.
  Laid BY PROGRAM, IN A SANDBOX (cutbox-rows.mjs): the forced cells as the released guide's own fill.sh prints them over the translation dde3347fb9b71843… (all of the seat's roots in one cut). By AI agents, Wed Nov 11 2026. No macro, syntax, notation, axiom, sorry.
-/
import Derived.Test.YtkppdmlellmepaaChecked
import GoSem.Claim
import GoSem.ClaimJoined
import GoSem.ClaimMapViews
import Derived.JoinedTies
import Derived.KernelRfl
namespace Go.Proofs.Ytkppdmlellmepaa
/- THE CELL 'sum', in the pinned program and in every row, IS THE sha256 OF THE DUMP (.gsa) THAT YtkppdmlellmepaaProg.lean LOADS. Nothing in Lean hashes anything: it is a label: what it is worth is what the hold of that sum in a sandbox is worth. -/
noncomputable def Try.pinned : Pinned := { name := "ytkppdmlellmepaa", sum := "dde3347fb9b718435c624d8a5b30060e16df5d4ade8a1d81acd6e3c3aeda6aa5", checked := Try.checked }
namespace Rows
def none {H : Type} : Left H := { results := [], args := [] }

/-- 'rotakeep.ReprGraphs': WHATEVER THE INPUT: true; the input reads as it did. -/
def reprGraphsSpec : ChangeSpec := { name := "reprGraphs", fn := fun _ => fun
  | [d] => { results := [.lit (.bool true)], args := [d] }
  | _ => none }
def reprGraphsRow : OpenClaim := { program := "ytkppdmlellmepaa", sum := "dde3347fb9b718435c624d8a5b30060e16df5d4ade8a1d81acd6e3c3aeda6aa5", func := "rota/rotakeep.ReprGraphs", spec := "reprGraphs", unfollowed := true, recurses := true, apart := false }
def ReprGraphsSaid : Prop := reprGraphsRow.holds Try.pinned (OpenSpec.ofChange reprGraphsSpec)

/-- ITS FALSE NEIGHBOUR: 'it returns false'. Refute it at one input. -/
def reprGraphsWrong : ChangeSpec := { name := "reprGraphs", fn := fun _ => fun
  | [d] => { results := [.lit (.bool false)], args := [d] }
  | _ => none }
def ReprGraphsWrongFalsely : Prop := reprGraphsRow.holds Try.pinned (OpenSpec.ofChange reprGraphsWrong)

/-- 'rotakeep.ComplexBjoerner': WHATEVER THE INPUT: true; the input reads as it did. -/
def complexBjoernerSpec : ChangeSpec := { name := "complexBjoerner", fn := fun _ => fun
  | [d] => { results := [.lit (.bool true)], args := [d] }
  | _ => none }
def complexBjoernerRow : OpenClaim := { program := "ytkppdmlellmepaa", sum := "dde3347fb9b718435c624d8a5b30060e16df5d4ade8a1d81acd6e3c3aeda6aa5", func := "rota/rotakeep.ComplexBjoerner", spec := "complexBjoerner", unfollowed := true, recurses := true, apart := false }
def ComplexBjoernerSaid : Prop := complexBjoernerRow.holds Try.pinned (OpenSpec.ofChange complexBjoernerSpec)

/-- ITS FALSE NEIGHBOUR: 'it returns false'. Refute it at one input. -/
def complexBjoernerWrong : ChangeSpec := { name := "complexBjoerner", fn := fun _ => fun
  | [d] => { results := [.lit (.bool false)], args := [d] }
  | _ => none }
def ComplexBjoernerWrongFalsely : Prop := complexBjoernerRow.holds Try.pinned (OpenSpec.ofChange complexBjoernerWrong)

/-- 'rotakeep.ReprMinors': WHATEVER THE INPUT: true; the input reads as it did. -/
def reprMinorsSpec : ChangeSpec := { name := "reprMinors", fn := fun _ => fun
  | [d1, d2] => { results := [.lit (.bool true)], args := [d1, d2] }
  | _ => none }
def reprMinorsRow : OpenClaim := { program := "ytkppdmlellmepaa", sum := "dde3347fb9b718435c624d8a5b30060e16df5d4ade8a1d81acd6e3c3aeda6aa5", func := "rota/rotakeep.ReprMinors", spec := "reprMinors", unfollowed := true, recurses := true, apart := false }
def ReprMinorsSaid : Prop := reprMinorsRow.holds Try.pinned (OpenSpec.ofChange reprMinorsSpec)

/-- ITS FALSE NEIGHBOUR: 'it returns false'. Refute it at one input. -/
def reprMinorsWrong : ChangeSpec := { name := "reprMinors", fn := fun _ => fun
  | [d1, d2] => { results := [.lit (.bool false)], args := [d1, d2] }
  | _ => none }
def ReprMinorsWrongFalsely : Prop := reprMinorsRow.holds Try.pinned (OpenSpec.ofChange reprMinorsWrong)

/- THE SECOND FORM. 'bulk': how many values and letters a reading holds, each counted each time it is reached (what is shared counts as often as it is met; a slice's spare places count too). A statement '..UptoSaid' is the law's where the arguments, and the package variables that the reading takes, are together of bulk at most 1048576: NARROWER than '..Said'. Prove '..Said' where nothing that the law and all that it calls make is longer than what came in: it says more and counts as full. Else prove '..UptoSaid'. A law counts once. -/
mutual
def uptoBulk {H : Type} : DataW H → Nat
  | .lit (.string bytes) => bytes.length + 1
  | .lit _ => 1
  | .nil => 1
  | .ptr d => uptoBulk d + 1
  | .slice elems spare => uptoBulkAll elems + uptoBulkAll spare + 1
  | .agg parts => uptoBulkAll parts + 1
  | .iface _ d => uptoBulk d + 1
  | .map entries => uptoBulkEntries entries + 1
  | .held _ => 1
def uptoBulkAll {H : Type} : List (DataW H) → Nat
  | [] => 0
  | d :: r => uptoBulk d + uptoBulkAll r
def uptoBulkEntries {H : Type} : List (Lit × DataW H) → Nat
  | [] => 0
  | x :: r => uptoBulkEntry x + uptoBulkEntries r
def uptoBulkEntry {H : Type} : Lit × DataW H → Nat
  | (.string bytes, d) => bytes.length + uptoBulk d + 1
  | (_, d) => uptoBulk d + 1
 end
def uptoSmall : (H : Type) → List (DataW H) → Bool := fun _ ds => decide (uptoBulkAll ds ≤ 1048576)
def OpenSpec.upto (s : _root_.Go.ChangeSpec) : _root_.Go.OpenSpec := { _root_.Go.OpenSpec.ofChange s with cond := some uptoSmall }

/-- 'rotakeep.ReprGraphs', WHERE WHAT IT READS IS OF BULK AT MOST 1048576: true; the input reads as it did. -/
def reprGraphsUptoRow : OpenClaim := { program := "ytkppdmlellmepaa", sum := "dde3347fb9b718435c624d8a5b30060e16df5d4ade8a1d81acd6e3c3aeda6aa5", func := "rota/rotakeep.ReprGraphs", spec := "reprGraphs", unfollowed := true, recurses := true, apart := false, narrowed := true }
def ReprGraphsUptoSaid : Prop := reprGraphsUptoRow.holds Try.pinned (OpenSpec.upto reprGraphsSpec)

/-- 'rotakeep.ComplexBjoerner', WHERE WHAT IT READS IS OF BULK AT MOST 1048576: true; the input reads as it did. -/
def complexBjoernerUptoRow : OpenClaim := { program := "ytkppdmlellmepaa", sum := "dde3347fb9b718435c624d8a5b30060e16df5d4ade8a1d81acd6e3c3aeda6aa5", func := "rota/rotakeep.ComplexBjoerner", spec := "complexBjoerner", unfollowed := true, recurses := true, apart := false, narrowed := true }
def ComplexBjoernerUptoSaid : Prop := complexBjoernerUptoRow.holds Try.pinned (OpenSpec.upto complexBjoernerSpec)

/-- 'rotakeep.ReprMinors', WHERE WHAT IT READS IS OF BULK AT MOST 1048576: true; the input reads as it did. -/
def reprMinorsUptoRow : OpenClaim := { program := "ytkppdmlellmepaa", sum := "dde3347fb9b718435c624d8a5b30060e16df5d4ade8a1d81acd6e3c3aeda6aa5", func := "rota/rotakeep.ReprMinors", spec := "reprMinors", unfollowed := true, recurses := true, apart := false, narrowed := true }
def ReprMinorsUptoSaid : Prop := reprMinorsUptoRow.holds Try.pinned (OpenSpec.upto reprMinorsSpec)

end Rows
end Go.Proofs.Ytkppdmlellmepaa
