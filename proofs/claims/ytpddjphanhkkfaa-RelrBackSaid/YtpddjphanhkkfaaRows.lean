/-
  No cell of these rows narrows 'for every input' (looked for: loops, veiled, ifaces, maps, wideKeys, modest, calm, conditions, laid).
  DERIVED. THE GIVEN ROWS OF THIS SEAT. 10 by the template 'for every input the law returns true; each argument reads behind the call as it read before'; 0 by the template 'total and deterministic' (their statements: YtpddjphanhkkfaaTotals.lean).
  GIVEN WITH THE SEED: the statements are not yours to turn. If you find one false, say at which input.
  Laid BY PROGRAM, IN A SANDBOX (cutbox-rows.mjs): the forced cells as the released guide's own fill.sh prints them over the translation 1d70358c11ce13bf… (all of the seat's roots in one cut). By AI agents, Wed Nov 11 2026. No macro, syntax, notation, axiom, sorry.
-/
import Derived.Test.YtpddjphanhkkfaaChecked
import GoSem.Claim
import GoSem.ClaimJoined
import GoSem.ClaimMapViews
import Derived.JoinedTies
import Derived.KernelRfl
namespace Go.Proofs.Ytpddjphanhkkfaa
/- THE CELL 'sum', in the pinned program and in every row, IS THE sha256 OF THE DUMP (.gsa) THAT YtpddjphanhkkfaaProg.lean LOADS. Nothing in Lean hashes anything: it is a label: what it is worth is what the hold of that sum in a sandbox is worth. -/
noncomputable def Try.pinned : Pinned := { name := "ytpddjphanhkkfaa", sum := "1d70358c11ce13bfc08a3ca7ef4f613922c2628f9ea802995c27b30f82627280", checked := Try.checked }
namespace Rows
def none {H : Type} : Left H := { results := [], args := [] }

/-- 'messuagelaw15.ApplyValues': WHATEVER THE INPUT: true; the input reads as it did. -/
def applyValuesSpec : ChangeSpec := { name := "applyValues", fn := fun _ => fun
  | [d] => { results := [.lit (.bool true)], args := [d] }
  | _ => none }
def applyValuesRow : OpenClaim := { program := "ytpddjphanhkkfaa", sum := "1d70358c11ce13bfc08a3ca7ef4f613922c2628f9ea802995c27b30f82627280", func := "messuage/messuagelaw15.ApplyValues", spec := "applyValues", apart := false }
def ApplyValuesSaid : Prop := applyValuesRow.holds Try.pinned (OpenSpec.ofChange applyValuesSpec)

/-- ITS FALSE NEIGHBOUR: 'it returns false'. Refute it at one input. -/
def applyValuesWrong : ChangeSpec := { name := "applyValues", fn := fun _ => fun
  | [d] => { results := [.lit (.bool false)], args := [d] }
  | _ => none }
def ApplyValuesWrongFalsely : Prop := applyValuesRow.holds Try.pinned (OpenSpec.ofChange applyValuesWrong)

/-- 'messuagelaw15.ApplyMoves': WHATEVER THE INPUT: true; the input reads as it did. -/
def applyMovesSpec : ChangeSpec := { name := "applyMoves", fn := fun _ => fun
  | [d1, d2] => { results := [.lit (.bool true)], args := [d1, d2] }
  | _ => none }
def applyMovesRow : OpenClaim := { program := "ytpddjphanhkkfaa", sum := "1d70358c11ce13bfc08a3ca7ef4f613922c2628f9ea802995c27b30f82627280", func := "messuage/messuagelaw15.ApplyMoves", spec := "applyMoves", apart := false }
def ApplyMovesSaid : Prop := applyMovesRow.holds Try.pinned (OpenSpec.ofChange applyMovesSpec)

/-- ITS FALSE NEIGHBOUR: 'it returns false'. Refute it at one input. -/
def applyMovesWrong : ChangeSpec := { name := "applyMoves", fn := fun _ => fun
  | [d1, d2] => { results := [.lit (.bool false)], args := [d1, d2] }
  | _ => none }
def ApplyMovesWrongFalsely : Prop := applyMovesRow.holds Try.pinned (OpenSpec.ofChange applyMovesWrong)

/-- 'messuagelaw15.ApplyAdds': WHATEVER THE INPUT: true; the input reads as it did. -/
def applyAddsSpec : ChangeSpec := { name := "applyAdds", fn := fun _ => fun
  | [d1, d2] => { results := [.lit (.bool true)], args := [d1, d2] }
  | _ => none }
def applyAddsRow : OpenClaim := { program := "ytpddjphanhkkfaa", sum := "1d70358c11ce13bfc08a3ca7ef4f613922c2628f9ea802995c27b30f82627280", func := "messuage/messuagelaw15.ApplyAdds", spec := "applyAdds", apart := false }
def ApplyAddsSaid : Prop := applyAddsRow.holds Try.pinned (OpenSpec.ofChange applyAddsSpec)

/-- ITS FALSE NEIGHBOUR: 'it returns false'. Refute it at one input. -/
def applyAddsWrong : ChangeSpec := { name := "applyAdds", fn := fun _ => fun
  | [d1, d2] => { results := [.lit (.bool false)], args := [d1, d2] }
  | _ => none }
def ApplyAddsWrongFalsely : Prop := applyAddsRow.holds Try.pinned (OpenSpec.ofChange applyAddsWrong)

/-- 'messuagelaw15.ApplyKinds': WHATEVER THE INPUT: true; the input reads as it did. -/
def applyKindsSpec : ChangeSpec := { name := "applyKinds", fn := fun _ => fun
  | [d1, d2] => { results := [.lit (.bool true)], args := [d1, d2] }
  | _ => none }
def applyKindsRow : OpenClaim := { program := "ytpddjphanhkkfaa", sum := "1d70358c11ce13bfc08a3ca7ef4f613922c2628f9ea802995c27b30f82627280", func := "messuage/messuagelaw15.ApplyKinds", spec := "applyKinds", apart := false }
def ApplyKindsSaid : Prop := applyKindsRow.holds Try.pinned (OpenSpec.ofChange applyKindsSpec)

/-- ITS FALSE NEIGHBOUR: 'it returns false'. Refute it at one input. -/
def applyKindsWrong : ChangeSpec := { name := "applyKinds", fn := fun _ => fun
  | [d1, d2] => { results := [.lit (.bool false)], args := [d1, d2] }
  | _ => none }
def ApplyKindsWrongFalsely : Prop := applyKindsRow.holds Try.pinned (OpenSpec.ofChange applyKindsWrong)

/-- 'messuagelaw13.RelrReads': WHATEVER THE INPUT: true; the input reads as it did. -/
def relrReadsSpec : ChangeSpec := { name := "relrReads", fn := fun _ => fun
  | [d] => { results := [.lit (.bool true)], args := [d] }
  | _ => none }
def relrReadsRow : OpenClaim := { program := "ytpddjphanhkkfaa", sum := "1d70358c11ce13bfc08a3ca7ef4f613922c2628f9ea802995c27b30f82627280", func := "messuage/messuagelaw13.RelrReads", spec := "relrReads", unfollowed := true, recurses := true, apart := false }
def RelrReadsSaid : Prop := relrReadsRow.holds Try.pinned (OpenSpec.ofChange relrReadsSpec)

/-- ITS FALSE NEIGHBOUR: 'it returns false'. Refute it at one input. -/
def relrReadsWrong : ChangeSpec := { name := "relrReads", fn := fun _ => fun
  | [d] => { results := [.lit (.bool false)], args := [d] }
  | _ => none }
def RelrReadsWrongFalsely : Prop := relrReadsRow.holds Try.pinned (OpenSpec.ofChange relrReadsWrong)

/-- 'messuagelaw13.RelrWrites': WHATEVER THE INPUT: true; the input reads as it did. -/
def relrWritesSpec : ChangeSpec := { name := "relrWrites", fn := fun _ => fun
  | [d] => { results := [.lit (.bool true)], args := [d] }
  | _ => none }
def relrWritesRow : OpenClaim := { program := "ytpddjphanhkkfaa", sum := "1d70358c11ce13bfc08a3ca7ef4f613922c2628f9ea802995c27b30f82627280", func := "messuage/messuagelaw13.RelrWrites", spec := "relrWrites", unfollowed := true, recurses := true, apart := false }
def RelrWritesSaid : Prop := relrWritesRow.holds Try.pinned (OpenSpec.ofChange relrWritesSpec)

/-- ITS FALSE NEIGHBOUR: 'it returns false'. Refute it at one input. -/
def relrWritesWrong : ChangeSpec := { name := "relrWrites", fn := fun _ => fun
  | [d] => { results := [.lit (.bool false)], args := [d] }
  | _ => none }
def RelrWritesWrongFalsely : Prop := relrWritesRow.holds Try.pinned (OpenSpec.ofChange relrWritesWrong)

/-- 'messuagelaw13.RelrBack': WHATEVER THE INPUT: true; the input reads as it did. -/
def relrBackSpec : ChangeSpec := { name := "relrBack", fn := fun _ => fun
  | [d] => { results := [.lit (.bool true)], args := [d] }
  | _ => none }
def relrBackRow : OpenClaim := { program := "ytpddjphanhkkfaa", sum := "1d70358c11ce13bfc08a3ca7ef4f613922c2628f9ea802995c27b30f82627280", func := "messuage/messuagelaw13.RelrBack", spec := "relrBack", unfollowed := true, recurses := true, apart := false }
def RelrBackSaid : Prop := relrBackRow.holds Try.pinned (OpenSpec.ofChange relrBackSpec)

/-- ITS FALSE NEIGHBOUR: 'it returns false'. Refute it at one input. -/
def relrBackWrong : ChangeSpec := { name := "relrBack", fn := fun _ => fun
  | [d] => { results := [.lit (.bool false)], args := [d] }
  | _ => none }
def RelrBackWrongFalsely : Prop := relrBackRow.holds Try.pinned (OpenSpec.ofChange relrBackWrong)

/-- 'messuagelaw13.RelrRises': WHATEVER THE INPUT: true; the input reads as it did. -/
def relrRisesSpec : ChangeSpec := { name := "relrRises", fn := fun _ => fun
  | [d] => { results := [.lit (.bool true)], args := [d] }
  | _ => none }
def relrRisesRow : OpenClaim := { program := "ytpddjphanhkkfaa", sum := "1d70358c11ce13bfc08a3ca7ef4f613922c2628f9ea802995c27b30f82627280", func := "messuage/messuagelaw13.RelrRises", spec := "relrRises", unfollowed := true, recurses := true, apart := false }
def RelrRisesSaid : Prop := relrRisesRow.holds Try.pinned (OpenSpec.ofChange relrRisesSpec)

/-- ITS FALSE NEIGHBOUR: 'it returns false'. Refute it at one input. -/
def relrRisesWrong : ChangeSpec := { name := "relrRises", fn := fun _ => fun
  | [d] => { results := [.lit (.bool false)], args := [d] }
  | _ => none }
def RelrRisesWrongFalsely : Prop := relrRisesRow.holds Try.pinned (OpenSpec.ofChange relrRisesWrong)

/-- 'messuagelaw13.RelrJoin': WHATEVER THE INPUT: true; the input reads as it did. -/
def relrJoinSpec : ChangeSpec := { name := "relrJoin", fn := fun _ => fun
  | [d1, d2] => { results := [.lit (.bool true)], args := [d1, d2] }
  | _ => none }
def relrJoinRow : OpenClaim := { program := "ytpddjphanhkkfaa", sum := "1d70358c11ce13bfc08a3ca7ef4f613922c2628f9ea802995c27b30f82627280", func := "messuage/messuagelaw13.RelrJoin", spec := "relrJoin", unfollowed := true, recurses := true, apart := false }
def RelrJoinSaid : Prop := relrJoinRow.holds Try.pinned (OpenSpec.ofChange relrJoinSpec)

/-- ITS FALSE NEIGHBOUR: 'it returns false'. Refute it at one input. -/
def relrJoinWrong : ChangeSpec := { name := "relrJoin", fn := fun _ => fun
  | [d1, d2] => { results := [.lit (.bool false)], args := [d1, d2] }
  | _ => none }
def RelrJoinWrongFalsely : Prop := relrJoinRow.holds Try.pinned (OpenSpec.ofChange relrJoinWrong)

/-- 'messuagelaw13.RelrMoves': WHATEVER THE INPUT: true; the input reads as it did. -/
def relrMovesSpec : ChangeSpec := { name := "relrMoves", fn := fun _ => fun
  | [d1, d2] => { results := [.lit (.bool true)], args := [d1, d2] }
  | _ => none }
def relrMovesRow : OpenClaim := { program := "ytpddjphanhkkfaa", sum := "1d70358c11ce13bfc08a3ca7ef4f613922c2628f9ea802995c27b30f82627280", func := "messuage/messuagelaw13.RelrMoves", spec := "relrMoves", unfollowed := true, recurses := true, apart := false }
def RelrMovesSaid : Prop := relrMovesRow.holds Try.pinned (OpenSpec.ofChange relrMovesSpec)

/-- ITS FALSE NEIGHBOUR: 'it returns false'. Refute it at one input. -/
def relrMovesWrong : ChangeSpec := { name := "relrMoves", fn := fun _ => fun
  | [d1, d2] => { results := [.lit (.bool false)], args := [d1, d2] }
  | _ => none }
def RelrMovesWrongFalsely : Prop := relrMovesRow.holds Try.pinned (OpenSpec.ofChange relrMovesWrong)

/- THE SECOND FORM. 'bulk': how many values and letters a reading holds, each counted each time it is reached (what is shared counts as often as it is met; a slice's spare places count too). A statement '..UptoSaid' is the law's where the arguments, and the package variables that the reading takes, are together of bulk at most 1048576: NARROWER than '..Said'. Prove '..Said' where nothing that the law and all that it calls make is longer than what came in: it says more and counts as full. Else prove '..UptoSaid'. A law counts once. -/
mutual
def uptoBulk {H : Type} : DataW H → Nat
  | .lit (.string bytes) => bytes.length + 1
  | .lit _ => 1
  | .nil => 1
  | .ptr d => uptoBulk d + 1
  | .slice elems spare => uptoBulkAll elems + uptoBulkAll spare + 1
  | .agg parts => uptoBulkAll parts + 1
  | .iface _ d => uptoBulk d + 1
  | .map entries => uptoBulkEntries entries + 1
  | .held _ => 1
def uptoBulkAll {H : Type} : List (DataW H) → Nat
  | [] => 0
  | d :: r => uptoBulk d + uptoBulkAll r
def uptoBulkEntries {H : Type} : List (Lit × DataW H) → Nat
  | [] => 0
  | x :: r => uptoBulkEntry x + uptoBulkEntries r
def uptoBulkEntry {H : Type} : Lit × DataW H → Nat
  | (.string bytes, d) => bytes.length + uptoBulk d + 1
  | (_, d) => uptoBulk d + 1
 end
def uptoSmall : (H : Type) → List (DataW H) → Bool := fun _ ds => decide (uptoBulkAll ds ≤ 1048576)
def OpenSpec.upto (s : _root_.Go.ChangeSpec) : _root_.Go.OpenSpec := { _root_.Go.OpenSpec.ofChange s with cond := some uptoSmall }

/-- 'messuagelaw15.ApplyValues', WHERE WHAT IT READS IS OF BULK AT MOST 1048576: true; the input reads as it did. -/
def applyValuesUptoRow : OpenClaim := { program := "ytpddjphanhkkfaa", sum := "1d70358c11ce13bfc08a3ca7ef4f613922c2628f9ea802995c27b30f82627280", func := "messuage/messuagelaw15.ApplyValues", spec := "applyValues", apart := false, narrowed := true }
def ApplyValuesUptoSaid : Prop := applyValuesUptoRow.holds Try.pinned (OpenSpec.upto applyValuesSpec)

/-- 'messuagelaw15.ApplyMoves', WHERE WHAT IT READS IS OF BULK AT MOST 1048576: true; the input reads as it did. -/
def applyMovesUptoRow : OpenClaim := { program := "ytpddjphanhkkfaa", sum := "1d70358c11ce13bfc08a3ca7ef4f613922c2628f9ea802995c27b30f82627280", func := "messuage/messuagelaw15.ApplyMoves", spec := "applyMoves", apart := false, narrowed := true }
def ApplyMovesUptoSaid : Prop := applyMovesUptoRow.holds Try.pinned (OpenSpec.upto applyMovesSpec)

/-- 'messuagelaw15.ApplyAdds', WHERE WHAT IT READS IS OF BULK AT MOST 1048576: true; the input reads as it did. -/
def applyAddsUptoRow : OpenClaim := { program := "ytpddjphanhkkfaa", sum := "1d70358c11ce13bfc08a3ca7ef4f613922c2628f9ea802995c27b30f82627280", func := "messuage/messuagelaw15.ApplyAdds", spec := "applyAdds", apart := false, narrowed := true }
def ApplyAddsUptoSaid : Prop := applyAddsUptoRow.holds Try.pinned (OpenSpec.upto applyAddsSpec)

/-- 'messuagelaw15.ApplyKinds', WHERE WHAT IT READS IS OF BULK AT MOST 1048576: true; the input reads as it did. -/
def applyKindsUptoRow : OpenClaim := { program := "ytpddjphanhkkfaa", sum := "1d70358c11ce13bfc08a3ca7ef4f613922c2628f9ea802995c27b30f82627280", func := "messuage/messuagelaw15.ApplyKinds", spec := "applyKinds", apart := false, narrowed := true }
def ApplyKindsUptoSaid : Prop := applyKindsUptoRow.holds Try.pinned (OpenSpec.upto applyKindsSpec)

/-- 'messuagelaw13.RelrReads', WHERE WHAT IT READS IS OF BULK AT MOST 1048576: true; the input reads as it did. -/
def relrReadsUptoRow : OpenClaim := { program := "ytpddjphanhkkfaa", sum := "1d70358c11ce13bfc08a3ca7ef4f613922c2628f9ea802995c27b30f82627280", func := "messuage/messuagelaw13.RelrReads", spec := "relrReads", unfollowed := true, recurses := true, apart := false, narrowed := true }
def RelrReadsUptoSaid : Prop := relrReadsUptoRow.holds Try.pinned (OpenSpec.upto relrReadsSpec)

/-- 'messuagelaw13.RelrWrites', WHERE WHAT IT READS IS OF BULK AT MOST 1048576: true; the input reads as it did. -/
def relrWritesUptoRow : OpenClaim := { program := "ytpddjphanhkkfaa", sum := "1d70358c11ce13bfc08a3ca7ef4f613922c2628f9ea802995c27b30f82627280", func := "messuage/messuagelaw13.RelrWrites", spec := "relrWrites", unfollowed := true, recurses := true, apart := false, narrowed := true }
def RelrWritesUptoSaid : Prop := relrWritesUptoRow.holds Try.pinned (OpenSpec.upto relrWritesSpec)

/-- 'messuagelaw13.RelrBack', WHERE WHAT IT READS IS OF BULK AT MOST 1048576: true; the input reads as it did. -/
def relrBackUptoRow : OpenClaim := { program := "ytpddjphanhkkfaa", sum := "1d70358c11ce13bfc08a3ca7ef4f613922c2628f9ea802995c27b30f82627280", func := "messuage/messuagelaw13.RelrBack", spec := "relrBack", unfollowed := true, recurses := true, apart := false, narrowed := true }
def RelrBackUptoSaid : Prop := relrBackUptoRow.holds Try.pinned (OpenSpec.upto relrBackSpec)

/-- 'messuagelaw13.RelrRises', WHERE WHAT IT READS IS OF BULK AT MOST 1048576: true; the input reads as it did. -/
def relrRisesUptoRow : OpenClaim := { program := "ytpddjphanhkkfaa", sum := "1d70358c11ce13bfc08a3ca7ef4f613922c2628f9ea802995c27b30f82627280", func := "messuage/messuagelaw13.RelrRises", spec := "relrRises", unfollowed := true, recurses := true, apart := false, narrowed := true }
def RelrRisesUptoSaid : Prop := relrRisesUptoRow.holds Try.pinned (OpenSpec.upto relrRisesSpec)

/-- 'messuagelaw13.RelrJoin', WHERE WHAT IT READS IS OF BULK AT MOST 1048576: true; the input reads as it did. -/
def relrJoinUptoRow : OpenClaim := { program := "ytpddjphanhkkfaa", sum := "1d70358c11ce13bfc08a3ca7ef4f613922c2628f9ea802995c27b30f82627280", func := "messuage/messuagelaw13.RelrJoin", spec := "relrJoin", unfollowed := true, recurses := true, apart := false, narrowed := true }
def RelrJoinUptoSaid : Prop := relrJoinUptoRow.holds Try.pinned (OpenSpec.upto relrJoinSpec)

/-- 'messuagelaw13.RelrMoves', WHERE WHAT IT READS IS OF BULK AT MOST 1048576: true; the input reads as it did. -/
def relrMovesUptoRow : OpenClaim := { program := "ytpddjphanhkkfaa", sum := "1d70358c11ce13bfc08a3ca7ef4f613922c2628f9ea802995c27b30f82627280", func := "messuage/messuagelaw13.RelrMoves", spec := "relrMoves", unfollowed := true, recurses := true, apart := false, narrowed := true }
def RelrMovesUptoSaid : Prop := relrMovesUptoRow.holds Try.pinned (OpenSpec.upto relrMovesSpec)

end Rows
end Go.Proofs.Ytpddjphanhkkfaa
