/-
  No cell of these rows narrows 'for every input' (looked for: loops, veiled, ifaces, maps, wideKeys, modest, calm, conditions, laid).
  DERIVED. THE GIVEN ROWS OF THIS SEAT. 11 by the template 'for every input the law returns true; each argument reads behind the call as it read before'; 0 by the template 'total and deterministic' (their statements: YtmpahimeljbliaaTotals.lean).
  GIVEN WITH THE SEED: the statements are not yours to turn. If you find one false, say at which input.
  Laid BY PROGRAM, IN A SANDBOX (cutbox-rows.mjs): the forced cells as the released guide's own fill.sh prints them over the translation 828c20d0ba0089f7… (all of the seat's roots in one cut). By AI agents, Wed Nov 11 2026. No macro, syntax, notation, axiom, sorry.
-/
import Derived.Test.YtmpahimeljbliaaChecked
import GoSem.Claim
import GoSem.ClaimJoined
import GoSem.ClaimMapViews
import Derived.JoinedTies
import Derived.KernelRfl
namespace Go.Proofs.Ytmpahimeljbliaa
/- THE CELL 'sum', in the pinned program and in every row, IS THE sha256 OF THE DUMP (.gsa) THAT YtmpahimeljbliaaProg.lean LOADS. Nothing in Lean hashes anything: it is a label: what it is worth is what the hold of that sum in a sandbox is worth. -/
noncomputable def Try.pinned : Pinned := { name := "ytmpahimeljbliaa", sum := "828c20d0ba0089f79ff74c6c5e3a383db6ca33cf692825e668c6ebfc88e9bf2e", checked := Try.checked }
namespace Rows
def none {H : Type} : Left H := { results := [], args := [] }

/-- 'messuagelaw07.ZipLists': WHATEVER THE INPUT: true; the input reads as it did. -/
def zipListsSpec : ChangeSpec := { name := "zipLists", fn := fun _ => fun
  | [d] => { results := [.lit (.bool true)], args := [d] }
  | _ => none }
def zipListsRow : OpenClaim := { program := "ytmpahimeljbliaa", sum := "828c20d0ba0089f79ff74c6c5e3a383db6ca33cf692825e668c6ebfc88e9bf2e", func := "messuage/messuagelaw07.ZipLists", spec := "zipLists", apart := false }
def ZipListsSaid : Prop := zipListsRow.holds Try.pinned (OpenSpec.ofChange zipListsSpec)

/-- ITS FALSE NEIGHBOUR: 'it returns false'. Refute it at one input. -/
def zipListsWrong : ChangeSpec := { name := "zipLists", fn := fun _ => fun
  | [d] => { results := [.lit (.bool false)], args := [d] }
  | _ => none }
def ZipListsWrongFalsely : Prop := zipListsRow.holds Try.pinned (OpenSpec.ofChange zipListsWrong)

/-- 'messuagelaw07.ZipFinds': WHATEVER THE INPUT: true; the input reads as it did. -/
def zipFindsSpec : ChangeSpec := { name := "zipFinds", fn := fun _ => fun
  | [d1, d2] => { results := [.lit (.bool true)], args := [d1, d2] }
  | _ => none }
def zipFindsRow : OpenClaim := { program := "ytmpahimeljbliaa", sum := "828c20d0ba0089f79ff74c6c5e3a383db6ca33cf692825e668c6ebfc88e9bf2e", func := "messuage/messuagelaw07.ZipFinds", spec := "zipFinds", apart := false }
def ZipFindsSaid : Prop := zipFindsRow.holds Try.pinned (OpenSpec.ofChange zipFindsSpec)

/-- ITS FALSE NEIGHBOUR: 'it returns false'. Refute it at one input. -/
def zipFindsWrong : ChangeSpec := { name := "zipFinds", fn := fun _ => fun
  | [d1, d2] => { results := [.lit (.bool false)], args := [d1, d2] }
  | _ => none }
def ZipFindsWrongFalsely : Prop := zipFindsRow.holds Try.pinned (OpenSpec.ofChange zipFindsWrong)

/-- 'messuagelaw07.ZipMakes': WHATEVER THE INPUT: true; the input reads as it did. -/
def zipMakesSpec : ChangeSpec := { name := "zipMakes", fn := fun _ => fun
  | [d] => { results := [.lit (.bool true)], args := [d] }
  | _ => none }
def zipMakesRow : OpenClaim := { program := "ytmpahimeljbliaa", sum := "828c20d0ba0089f79ff74c6c5e3a383db6ca33cf692825e668c6ebfc88e9bf2e", func := "messuage/messuagelaw07.ZipMakes", spec := "zipMakes", apart := false }
def ZipMakesSaid : Prop := zipMakesRow.holds Try.pinned (OpenSpec.ofChange zipMakesSpec)

/-- ITS FALSE NEIGHBOUR: 'it returns false'. Refute it at one input. -/
def zipMakesWrong : ChangeSpec := { name := "zipMakes", fn := fun _ => fun
  | [d] => { results := [.lit (.bool false)], args := [d] }
  | _ => none }
def ZipMakesWrongFalsely : Prop := zipMakesRow.holds Try.pinned (OpenSpec.ofChange zipMakesWrong)

/-- 'messuagelaw07.ZipBack': WHATEVER THE INPUT: true; the input reads as it did. -/
def zipBackSpec : ChangeSpec := { name := "zipBack", fn := fun _ => fun
  | [d] => { results := [.lit (.bool true)], args := [d] }
  | _ => none }
def zipBackRow : OpenClaim := { program := "ytmpahimeljbliaa", sum := "828c20d0ba0089f79ff74c6c5e3a383db6ca33cf692825e668c6ebfc88e9bf2e", func := "messuage/messuagelaw07.ZipBack", spec := "zipBack", apart := false }
def ZipBackSaid : Prop := zipBackRow.holds Try.pinned (OpenSpec.ofChange zipBackSpec)

/-- ITS FALSE NEIGHBOUR: 'it returns false'. Refute it at one input. -/
def zipBackWrong : ChangeSpec := { name := "zipBack", fn := fun _ => fun
  | [d] => { results := [.lit (.bool false)], args := [d] }
  | _ => none }
def ZipBackWrongFalsely : Prop := zipBackRow.holds Try.pinned (OpenSpec.ofChange zipBackWrong)

/-- 'messuagelaw07.ZipWithin': WHATEVER THE INPUT: true; the input reads as it did. -/
def zipWithinSpec : ChangeSpec := { name := "zipWithin", fn := fun _ => fun
  | [d1, d2] => { results := [.lit (.bool true)], args := [d1, d2] }
  | _ => none }
def zipWithinRow : OpenClaim := { program := "ytmpahimeljbliaa", sum := "828c20d0ba0089f79ff74c6c5e3a383db6ca33cf692825e668c6ebfc88e9bf2e", func := "messuage/messuagelaw07.ZipWithin", spec := "zipWithin", apart := false }
def ZipWithinSaid : Prop := zipWithinRow.holds Try.pinned (OpenSpec.ofChange zipWithinSpec)

/-- ITS FALSE NEIGHBOUR: 'it returns false'. Refute it at one input. -/
def zipWithinWrong : ChangeSpec := { name := "zipWithin", fn := fun _ => fun
  | [d1, d2] => { results := [.lit (.bool false)], args := [d1, d2] }
  | _ => none }
def ZipWithinWrongFalsely : Prop := zipWithinRow.holds Try.pinned (OpenSpec.ofChange zipWithinWrong)

/-- 'messuagelaw07.ZipMore': WHATEVER THE INPUT: true; the input reads as it did. -/
def zipMoreSpec : ChangeSpec := { name := "zipMore", fn := fun _ => fun
  | [d1, d2, d3] => { results := [.lit (.bool true)], args := [d1, d2, d3] }
  | _ => none }
def zipMoreRow : OpenClaim := { program := "ytmpahimeljbliaa", sum := "828c20d0ba0089f79ff74c6c5e3a383db6ca33cf692825e668c6ebfc88e9bf2e", func := "messuage/messuagelaw07.ZipMore", spec := "zipMore", apart := false }
def ZipMoreSaid : Prop := zipMoreRow.holds Try.pinned (OpenSpec.ofChange zipMoreSpec)

/-- ITS FALSE NEIGHBOUR: 'it returns false'. Refute it at one input. -/
def zipMoreWrong : ChangeSpec := { name := "zipMore", fn := fun _ => fun
  | [d1, d2, d3] => { results := [.lit (.bool false)], args := [d1, d2, d3] }
  | _ => none }
def ZipMoreWrongFalsely : Prop := zipMoreRow.holds Try.pinned (OpenSpec.ofChange zipMoreWrong)

/-- 'messuagelaw05.VmemHints': WHATEVER THE INPUT: true; the input reads as it did. -/
def vmemHintsSpec : ChangeSpec := { name := "vmemHints", fn := fun _ => fun
  | [d1, d2, d3] => { results := [.lit (.bool true)], args := [d1, d2, d3] }
  | _ => none }
def vmemHintsRow : OpenClaim := { program := "ytmpahimeljbliaa", sum := "828c20d0ba0089f79ff74c6c5e3a383db6ca33cf692825e668c6ebfc88e9bf2e", func := "messuage/messuagelaw05.VmemHints", spec := "vmemHints", unfollowed := true, recurses := true, apart := false }
def VmemHintsSaid : Prop := vmemHintsRow.holds Try.pinned (OpenSpec.ofChange vmemHintsSpec)

/-- ITS FALSE NEIGHBOUR: 'it returns false'. Refute it at one input. -/
def vmemHintsWrong : ChangeSpec := { name := "vmemHints", fn := fun _ => fun
  | [d1, d2, d3] => { results := [.lit (.bool false)], args := [d1, d2, d3] }
  | _ => none }
def VmemHintsWrongFalsely : Prop := vmemHintsRow.holds Try.pinned (OpenSpec.ofChange vmemHintsWrong)

/-- 'messuagelaw05.VmemKeeps': WHATEVER THE INPUT: true; the input reads as it did. -/
def vmemKeepsSpec : ChangeSpec := { name := "vmemKeeps", fn := fun _ => fun
  | [d1, d2, d3] => { results := [.lit (.bool true)], args := [d1, d2, d3] }
  | _ => none }
def vmemKeepsRow : OpenClaim := { program := "ytmpahimeljbliaa", sum := "828c20d0ba0089f79ff74c6c5e3a383db6ca33cf692825e668c6ebfc88e9bf2e", func := "messuage/messuagelaw05.VmemKeeps", spec := "vmemKeeps", unfollowed := true, recurses := true, apart := false }
def VmemKeepsSaid : Prop := vmemKeepsRow.holds Try.pinned (OpenSpec.ofChange vmemKeepsSpec)

/-- ITS FALSE NEIGHBOUR: 'it returns false'. Refute it at one input. -/
def vmemKeepsWrong : ChangeSpec := { name := "vmemKeeps", fn := fun _ => fun
  | [d1, d2, d3] => { results := [.lit (.bool false)], args := [d1, d2, d3] }
  | _ => none }
def VmemKeepsWrongFalsely : Prop := vmemKeepsRow.holds Try.pinned (OpenSpec.ofChange vmemKeepsWrong)

/-- 'messuagelaw05.VmemPlays': WHATEVER THE INPUT: true; the input reads as it did. -/
def vmemPlaysSpec : ChangeSpec := { name := "vmemPlays", fn := fun _ => fun
  | [d1, d2] => { results := [.lit (.bool true)], args := [d1, d2] }
  | _ => none }
def vmemPlaysRow : OpenClaim := { program := "ytmpahimeljbliaa", sum := "828c20d0ba0089f79ff74c6c5e3a383db6ca33cf692825e668c6ebfc88e9bf2e", func := "messuage/messuagelaw05.VmemPlays", spec := "vmemPlays", unfollowed := true, recurses := true, apart := false }
def VmemPlaysSaid : Prop := vmemPlaysRow.holds Try.pinned (OpenSpec.ofChange vmemPlaysSpec)

/-- ITS FALSE NEIGHBOUR: 'it returns false'. Refute it at one input. -/
def vmemPlaysWrong : ChangeSpec := { name := "vmemPlays", fn := fun _ => fun
  | [d1, d2] => { results := [.lit (.bool false)], args := [d1, d2] }
  | _ => none }
def VmemPlaysWrongFalsely : Prop := vmemPlaysRow.holds Try.pinned (OpenSpec.ofChange vmemPlaysWrong)

/-- 'messuagelaw05.VmemApart': WHATEVER THE INPUT: true; the input reads as it did. -/
def vmemApartSpec : ChangeSpec := { name := "vmemApart", fn := fun _ => fun
  | [d1, d2] => { results := [.lit (.bool true)], args := [d1, d2] }
  | _ => none }
def vmemApartRow : OpenClaim := { program := "ytmpahimeljbliaa", sum := "828c20d0ba0089f79ff74c6c5e3a383db6ca33cf692825e668c6ebfc88e9bf2e", func := "messuage/messuagelaw05.VmemApart", spec := "vmemApart", unfollowed := true, recurses := true, apart := false }
def VmemApartSaid : Prop := vmemApartRow.holds Try.pinned (OpenSpec.ofChange vmemApartSpec)

/-- ITS FALSE NEIGHBOUR: 'it returns false'. Refute it at one input. -/
def vmemApartWrong : ChangeSpec := { name := "vmemApart", fn := fun _ => fun
  | [d1, d2] => { results := [.lit (.bool false)], args := [d1, d2] }
  | _ => none }
def VmemApartWrongFalsely : Prop := vmemApartRow.holds Try.pinned (OpenSpec.ofChange vmemApartWrong)

/-- 'messuagelaw05.VmemCopies': WHATEVER THE INPUT: true; the input reads as it did. -/
def vmemCopiesSpec : ChangeSpec := { name := "vmemCopies", fn := fun _ => fun
  | [d1, d2, d3] => { results := [.lit (.bool true)], args := [d1, d2, d3] }
  | _ => none }
def vmemCopiesRow : OpenClaim := { program := "ytmpahimeljbliaa", sum := "828c20d0ba0089f79ff74c6c5e3a383db6ca33cf692825e668c6ebfc88e9bf2e", func := "messuage/messuagelaw05.VmemCopies", spec := "vmemCopies", unfollowed := true, recurses := true, apart := false }
def VmemCopiesSaid : Prop := vmemCopiesRow.holds Try.pinned (OpenSpec.ofChange vmemCopiesSpec)

/-- ITS FALSE NEIGHBOUR: 'it returns false'. Refute it at one input. -/
def vmemCopiesWrong : ChangeSpec := { name := "vmemCopies", fn := fun _ => fun
  | [d1, d2, d3] => { results := [.lit (.bool false)], args := [d1, d2, d3] }
  | _ => none }
def VmemCopiesWrongFalsely : Prop := vmemCopiesRow.holds Try.pinned (OpenSpec.ofChange vmemCopiesWrong)

/- THE SECOND FORM. 'bulk': how many values and letters a reading holds, each counted each time it is reached (what is shared counts as often as it is met; a slice's spare places count too). A statement '..UptoSaid' is the law's where the arguments, and the package variables that the reading takes, are together of bulk at most 1048576: NARROWER than '..Said'. Prove '..Said' where nothing that the law and all that it calls make is longer than what came in: it says more and counts as full. Else prove '..UptoSaid'. A law counts once. -/
mutual
def uptoBulk {H : Type} : DataW H → Nat
  | .lit (.string bytes) => bytes.length + 1
  | .lit _ => 1
  | .nil => 1
  | .ptr d => uptoBulk d + 1
  | .slice elems spare => uptoBulkAll elems + uptoBulkAll spare + 1
  | .agg parts => uptoBulkAll parts + 1
  | .iface _ d => uptoBulk d + 1
  | .map entries => uptoBulkEntries entries + 1
  | .held _ => 1
def uptoBulkAll {H : Type} : List (DataW H) → Nat
  | [] => 0
  | d :: r => uptoBulk d + uptoBulkAll r
def uptoBulkEntries {H : Type} : List (Lit × DataW H) → Nat
  | [] => 0
  | x :: r => uptoBulkEntry x + uptoBulkEntries r
def uptoBulkEntry {H : Type} : Lit × DataW H → Nat
  | (.string bytes, d) => bytes.length + uptoBulk d + 1
  | (_, d) => uptoBulk d + 1
 end
def uptoSmall : (H : Type) → List (DataW H) → Bool := fun _ ds => decide (uptoBulkAll ds ≤ 1048576)
def OpenSpec.upto (s : _root_.Go.ChangeSpec) : _root_.Go.OpenSpec := { _root_.Go.OpenSpec.ofChange s with cond := some uptoSmall }

/-- 'messuagelaw07.ZipLists', WHERE WHAT IT READS IS OF BULK AT MOST 1048576: true; the input reads as it did. -/
def zipListsUptoRow : OpenClaim := { program := "ytmpahimeljbliaa", sum := "828c20d0ba0089f79ff74c6c5e3a383db6ca33cf692825e668c6ebfc88e9bf2e", func := "messuage/messuagelaw07.ZipLists", spec := "zipLists", apart := false, narrowed := true }
def ZipListsUptoSaid : Prop := zipListsUptoRow.holds Try.pinned (OpenSpec.upto zipListsSpec)

/-- 'messuagelaw07.ZipFinds', WHERE WHAT IT READS IS OF BULK AT MOST 1048576: true; the input reads as it did. -/
def zipFindsUptoRow : OpenClaim := { program := "ytmpahimeljbliaa", sum := "828c20d0ba0089f79ff74c6c5e3a383db6ca33cf692825e668c6ebfc88e9bf2e", func := "messuage/messuagelaw07.ZipFinds", spec := "zipFinds", apart := false, narrowed := true }
def ZipFindsUptoSaid : Prop := zipFindsUptoRow.holds Try.pinned (OpenSpec.upto zipFindsSpec)

/-- 'messuagelaw07.ZipMakes', WHERE WHAT IT READS IS OF BULK AT MOST 1048576: true; the input reads as it did. -/
def zipMakesUptoRow : OpenClaim := { program := "ytmpahimeljbliaa", sum := "828c20d0ba0089f79ff74c6c5e3a383db6ca33cf692825e668c6ebfc88e9bf2e", func := "messuage/messuagelaw07.ZipMakes", spec := "zipMakes", apart := false, narrowed := true }
def ZipMakesUptoSaid : Prop := zipMakesUptoRow.holds Try.pinned (OpenSpec.upto zipMakesSpec)

/-- 'messuagelaw07.ZipBack', WHERE WHAT IT READS IS OF BULK AT MOST 1048576: true; the input reads as it did. -/
def zipBackUptoRow : OpenClaim := { program := "ytmpahimeljbliaa", sum := "828c20d0ba0089f79ff74c6c5e3a383db6ca33cf692825e668c6ebfc88e9bf2e", func := "messuage/messuagelaw07.ZipBack", spec := "zipBack", apart := false, narrowed := true }
def ZipBackUptoSaid : Prop := zipBackUptoRow.holds Try.pinned (OpenSpec.upto zipBackSpec)

/-- 'messuagelaw07.ZipWithin', WHERE WHAT IT READS IS OF BULK AT MOST 1048576: true; the input reads as it did. -/
def zipWithinUptoRow : OpenClaim := { program := "ytmpahimeljbliaa", sum := "828c20d0ba0089f79ff74c6c5e3a383db6ca33cf692825e668c6ebfc88e9bf2e", func := "messuage/messuagelaw07.ZipWithin", spec := "zipWithin", apart := false, narrowed := true }
def ZipWithinUptoSaid : Prop := zipWithinUptoRow.holds Try.pinned (OpenSpec.upto zipWithinSpec)

/-- 'messuagelaw07.ZipMore', WHERE WHAT IT READS IS OF BULK AT MOST 1048576: true; the input reads as it did. -/
def zipMoreUptoRow : OpenClaim := { program := "ytmpahimeljbliaa", sum := "828c20d0ba0089f79ff74c6c5e3a383db6ca33cf692825e668c6ebfc88e9bf2e", func := "messuage/messuagelaw07.ZipMore", spec := "zipMore", apart := false, narrowed := true }
def ZipMoreUptoSaid : Prop := zipMoreUptoRow.holds Try.pinned (OpenSpec.upto zipMoreSpec)

/-- 'messuagelaw05.VmemHints', WHERE WHAT IT READS IS OF BULK AT MOST 1048576: true; the input reads as it did. -/
def vmemHintsUptoRow : OpenClaim := { program := "ytmpahimeljbliaa", sum := "828c20d0ba0089f79ff74c6c5e3a383db6ca33cf692825e668c6ebfc88e9bf2e", func := "messuage/messuagelaw05.VmemHints", spec := "vmemHints", unfollowed := true, recurses := true, apart := false, narrowed := true }
def VmemHintsUptoSaid : Prop := vmemHintsUptoRow.holds Try.pinned (OpenSpec.upto vmemHintsSpec)

/-- 'messuagelaw05.VmemKeeps', WHERE WHAT IT READS IS OF BULK AT MOST 1048576: true; the input reads as it did. -/
def vmemKeepsUptoRow : OpenClaim := { program := "ytmpahimeljbliaa", sum := "828c20d0ba0089f79ff74c6c5e3a383db6ca33cf692825e668c6ebfc88e9bf2e", func := "messuage/messuagelaw05.VmemKeeps", spec := "vmemKeeps", unfollowed := true, recurses := true, apart := false, narrowed := true }
def VmemKeepsUptoSaid : Prop := vmemKeepsUptoRow.holds Try.pinned (OpenSpec.upto vmemKeepsSpec)

/-- 'messuagelaw05.VmemPlays', WHERE WHAT IT READS IS OF BULK AT MOST 1048576: true; the input reads as it did. -/
def vmemPlaysUptoRow : OpenClaim := { program := "ytmpahimeljbliaa", sum := "828c20d0ba0089f79ff74c6c5e3a383db6ca33cf692825e668c6ebfc88e9bf2e", func := "messuage/messuagelaw05.VmemPlays", spec := "vmemPlays", unfollowed := true, recurses := true, apart := false, narrowed := true }
def VmemPlaysUptoSaid : Prop := vmemPlaysUptoRow.holds Try.pinned (OpenSpec.upto vmemPlaysSpec)

/-- 'messuagelaw05.VmemApart', WHERE WHAT IT READS IS OF BULK AT MOST 1048576: true; the input reads as it did. -/
def vmemApartUptoRow : OpenClaim := { program := "ytmpahimeljbliaa", sum := "828c20d0ba0089f79ff74c6c5e3a383db6ca33cf692825e668c6ebfc88e9bf2e", func := "messuage/messuagelaw05.VmemApart", spec := "vmemApart", unfollowed := true, recurses := true, apart := false, narrowed := true }
def VmemApartUptoSaid : Prop := vmemApartUptoRow.holds Try.pinned (OpenSpec.upto vmemApartSpec)

/-- 'messuagelaw05.VmemCopies', WHERE WHAT IT READS IS OF BULK AT MOST 1048576: true; the input reads as it did. -/
def vmemCopiesUptoRow : OpenClaim := { program := "ytmpahimeljbliaa", sum := "828c20d0ba0089f79ff74c6c5e3a383db6ca33cf692825e668c6ebfc88e9bf2e", func := "messuage/messuagelaw05.VmemCopies", spec := "vmemCopies", unfollowed := true, recurses := true, apart := false, narrowed := true }
def VmemCopiesUptoSaid : Prop := vmemCopiesUptoRow.holds Try.pinned (OpenSpec.upto vmemCopiesSpec)

end Rows
end Go.Proofs.Ytmpahimeljbliaa
