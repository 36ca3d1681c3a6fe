/-
  No cell of these rows narrows 'for every input' (looked for: loops, veiled, ifaces, maps, wideKeys, modest, calm, conditions, laid).
  DERIVED. THE GIVEN ROWS OF THIS SEAT. 8 by the template 'for every input the law returns true; each argument reads behind the call as it read before'; 0 by the template 'total and deterministic' (their statements: YteihpaikdpdglaaTotals.lean).
  GIVEN WITH THE SEED: the statements are not yours to turn. If you find one false, say at which input.
  Laid BY PROGRAM, IN A SANDBOX (cutbox-rows.mjs): the forced cells as the released guide's own fill.sh prints them over the translation a74fe2f1a9188427… (all of the seat's roots in one cut). By AI agents, Wed Nov 11 2026. No macro, syntax, notation, axiom, sorry.
-/
import Derived.Test.YteihpaikdpdglaaChecked
import GoSem.Claim
import GoSem.ClaimJoined
import GoSem.ClaimMapViews
import Derived.JoinedTies
import Derived.KernelRfl
namespace Go.Proofs.Yteihpaikdpdglaa
/- THE CELL 'sum', in the pinned program and in every row, IS THE sha256 OF THE DUMP (.gsa) THAT YteihpaikdpdglaaProg.lean LOADS. Nothing in Lean hashes anything: it is a label: what it is worth is what the hold of that sum in a sandbox is worth. -/
noncomputable def Try.pinned : Pinned := { name := "yteihpaikdpdglaa", sum := "a74fe2f1a918842738507cb45b0c85d652c34687d27dac067e51ddb8f1adb144", checked := Try.checked }
namespace Rows
def none {H : Type} : Left H := { results := [], args := [] }

/-- 'antiphonlaw5.LanKnown': WHATEVER THE INPUT: true; the input reads as it did. -/
def lanKnownSpec : ChangeSpec := { name := "lanKnown", fn := fun _ => fun
  | [] => { results := [.lit (.bool true)], args := [] }
  | _ => none }
def lanKnownRow : OpenClaim := { program := "yteihpaikdpdglaa", sum := "a74fe2f1a918842738507cb45b0c85d652c34687d27dac067e51ddb8f1adb144", func := "antiphon/antiphonlaw5.LanKnown", spec := "lanKnown", inPlace := ["slices.overlaps[antiphon/lan.Flying]"], apart := false }
def LanKnownSaid : Prop := lanKnownRow.holds Try.pinned (OpenSpec.ofChange lanKnownSpec)

/-- ITS FALSE NEIGHBOUR: 'it returns false'. Refute it at one input. -/
def lanKnownWrong : ChangeSpec := { name := "lanKnown", fn := fun _ => fun
  | [] => { results := [.lit (.bool false)], args := [] }
  | _ => none }
def LanKnownWrongFalsely : Prop := lanKnownRow.holds Try.pinned (OpenSpec.ofChange lanKnownWrong)

/-- 'antiphonlaw5.LanCopies': WHATEVER THE INPUT: true; the input reads as it did. -/
def lanCopiesSpec : ChangeSpec := { name := "lanCopies", fn := fun _ => fun
  | [d] => { results := [.lit (.bool true)], args := [d] }
  | _ => none }
def lanCopiesRow : OpenClaim := { program := "yteihpaikdpdglaa", sum := "a74fe2f1a918842738507cb45b0c85d652c34687d27dac067e51ddb8f1adb144", func := "antiphon/antiphonlaw5.LanCopies", spec := "lanCopies", inPlace := ["slices.overlaps[antiphon/lan.Flying]"], apart := false }
def LanCopiesSaid : Prop := lanCopiesRow.holds Try.pinned (OpenSpec.ofChange lanCopiesSpec)

/-- ITS FALSE NEIGHBOUR: 'it returns false'. Refute it at one input. -/
def lanCopiesWrong : ChangeSpec := { name := "lanCopies", fn := fun _ => fun
  | [d] => { results := [.lit (.bool false)], args := [d] }
  | _ => none }
def LanCopiesWrongFalsely : Prop := lanCopiesRow.holds Try.pinned (OpenSpec.ofChange lanCopiesWrong)

/-- 'antiphonlaw5.LanSpoils': WHATEVER THE INPUT: true; the input reads as it did. -/
def lanSpoilsSpec : ChangeSpec := { name := "lanSpoils", fn := fun _ => fun
  | [d1, d2, d3] => { results := [.lit (.bool true)], args := [d1, d2, d3] }
  | _ => none }
def lanSpoilsRow : OpenClaim := { program := "yteihpaikdpdglaa", sum := "a74fe2f1a918842738507cb45b0c85d652c34687d27dac067e51ddb8f1adb144", func := "antiphon/antiphonlaw5.LanSpoils", spec := "lanSpoils", inPlace := ["slices.overlaps[antiphon/lan.Flying]"], unfollowed := true, recurses := true, apart := false }
def LanSpoilsSaid : Prop := lanSpoilsRow.holds Try.pinned (OpenSpec.ofChange lanSpoilsSpec)

/-- ITS FALSE NEIGHBOUR: 'it returns false'. Refute it at one input. -/
def lanSpoilsWrong : ChangeSpec := { name := "lanSpoils", fn := fun _ => fun
  | [d1, d2, d3] => { results := [.lit (.bool false)], args := [d1, d2, d3] }
  | _ => none }
def LanSpoilsWrongFalsely : Prop := lanSpoilsRow.holds Try.pinned (OpenSpec.ofChange lanSpoilsWrong)

/-- 'antiphonlaw5.LanFan': WHATEVER THE INPUT: true; the input reads as it did. -/
def lanFanSpec : ChangeSpec := { name := "lanFan", fn := fun _ => fun
  | [d1, d2, d3] => { results := [.lit (.bool true)], args := [d1, d2, d3] }
  | _ => none }
def lanFanRow : OpenClaim := { program := "yteihpaikdpdglaa", sum := "a74fe2f1a918842738507cb45b0c85d652c34687d27dac067e51ddb8f1adb144", func := "antiphon/antiphonlaw5.LanFan", spec := "lanFan", inPlace := ["slices.overlaps[antiphon/lan.Flying]"], unfollowed := true, recurses := true, apart := false }
def LanFanSaid : Prop := lanFanRow.holds Try.pinned (OpenSpec.ofChange lanFanSpec)

/-- ITS FALSE NEIGHBOUR: 'it returns false'. Refute it at one input. -/
def lanFanWrong : ChangeSpec := { name := "lanFan", fn := fun _ => fun
  | [d1, d2, d3] => { results := [.lit (.bool false)], args := [d1, d2, d3] }
  | _ => none }
def LanFanWrongFalsely : Prop := lanFanRow.holds Try.pinned (OpenSpec.ofChange lanFanWrong)

/-- 'antiphonlaw5.LanAges': WHATEVER THE INPUT: true; the input reads as it did. -/
def lanAgesSpec : ChangeSpec := { name := "lanAges", fn := fun _ => fun
  | [d1, d2, d3] => { results := [.lit (.bool true)], args := [d1, d2, d3] }
  | _ => none }
def lanAgesRow : OpenClaim := { program := "yteihpaikdpdglaa", sum := "a74fe2f1a918842738507cb45b0c85d652c34687d27dac067e51ddb8f1adb144", func := "antiphon/antiphonlaw5.LanAges", spec := "lanAges", inPlace := ["slices.overlaps[antiphon/lan.Flying]"], unfollowed := true, recurses := true, apart := false }
def LanAgesSaid : Prop := lanAgesRow.holds Try.pinned (OpenSpec.ofChange lanAgesSpec)

/-- ITS FALSE NEIGHBOUR: 'it returns false'. Refute it at one input. -/
def lanAgesWrong : ChangeSpec := { name := "lanAges", fn := fun _ => fun
  | [d1, d2, d3] => { results := [.lit (.bool false)], args := [d1, d2, d3] }
  | _ => none }
def LanAgesWrongFalsely : Prop := lanAgesRow.holds Try.pinned (OpenSpec.ofChange lanAgesWrong)

/-- 'antiphonlaw5.LanOrder': WHATEVER THE INPUT: true; the input reads as it did. -/
def lanOrderSpec : ChangeSpec := { name := "lanOrder", fn := fun _ => fun
  | [d] => { results := [.lit (.bool true)], args := [d] }
  | _ => none }
def lanOrderRow : OpenClaim := { program := "yteihpaikdpdglaa", sum := "a74fe2f1a918842738507cb45b0c85d652c34687d27dac067e51ddb8f1adb144", func := "antiphon/antiphonlaw5.LanOrder", spec := "lanOrder", inPlace := ["slices.overlaps[antiphon/lan.Flying]"], unfollowed := true, recurses := true, apart := false }
def LanOrderSaid : Prop := lanOrderRow.holds Try.pinned (OpenSpec.ofChange lanOrderSpec)

/-- ITS FALSE NEIGHBOUR: 'it returns false'. Refute it at one input. -/
def lanOrderWrong : ChangeSpec := { name := "lanOrder", fn := fun _ => fun
  | [d] => { results := [.lit (.bool false)], args := [d] }
  | _ => none }
def LanOrderWrongFalsely : Prop := lanOrderRow.holds Try.pinned (OpenSpec.ofChange lanOrderWrong)

/-- 'antiphonlaw5.LanCounts': WHATEVER THE INPUT: true; the input reads as it did. -/
def lanCountsSpec : ChangeSpec := { name := "lanCounts", fn := fun _ => fun
  | [d] => { results := [.lit (.bool true)], args := [d] }
  | _ => none }
def lanCountsRow : OpenClaim := { program := "yteihpaikdpdglaa", sum := "a74fe2f1a918842738507cb45b0c85d652c34687d27dac067e51ddb8f1adb144", func := "antiphon/antiphonlaw5.LanCounts", spec := "lanCounts", inPlace := ["slices.overlaps[antiphon/lan.Flying]"], unfollowed := true, recurses := true, apart := false }
def LanCountsSaid : Prop := lanCountsRow.holds Try.pinned (OpenSpec.ofChange lanCountsSpec)

/-- ITS FALSE NEIGHBOUR: 'it returns false'. Refute it at one input. -/
def lanCountsWrong : ChangeSpec := { name := "lanCounts", fn := fun _ => fun
  | [d] => { results := [.lit (.bool false)], args := [d] }
  | _ => none }
def LanCountsWrongFalsely : Prop := lanCountsRow.holds Try.pinned (OpenSpec.ofChange lanCountsWrong)

/-- 'antiphonlaw5.LanPlays': WHATEVER THE INPUT: true; the input reads as it did. -/
def lanPlaysSpec : ChangeSpec := { name := "lanPlays", fn := fun _ => fun
  | [d1, d2] => { results := [.lit (.bool true)], args := [d1, d2] }
  | _ => none }
def lanPlaysRow : OpenClaim := { program := "yteihpaikdpdglaa", sum := "a74fe2f1a918842738507cb45b0c85d652c34687d27dac067e51ddb8f1adb144", func := "antiphon/antiphonlaw5.LanPlays", spec := "lanPlays", inPlace := ["slices.overlaps[antiphon/lan.Flying]"], unfollowed := true, recurses := true, apart := false }
def LanPlaysSaid : Prop := lanPlaysRow.holds Try.pinned (OpenSpec.ofChange lanPlaysSpec)

/-- ITS FALSE NEIGHBOUR: 'it returns false'. Refute it at one input. -/
def lanPlaysWrong : ChangeSpec := { name := "lanPlays", fn := fun _ => fun
  | [d1, d2] => { results := [.lit (.bool false)], args := [d1, d2] }
  | _ => none }
def LanPlaysWrongFalsely : Prop := lanPlaysRow.holds Try.pinned (OpenSpec.ofChange lanPlaysWrong)

/- THE SECOND FORM. 'bulk': how many values and letters a reading holds, each counted each time it is reached (what is shared counts as often as it is met; a slice's spare places count too). A statement '..UptoSaid' is the law's where the arguments, and the package variables that the reading takes, are together of bulk at most 1048576: NARROWER than '..Said'. Prove '..Said' where nothing that the law and all that it calls make is longer than what came in: it says more and counts as full. Else prove '..UptoSaid'. A law counts once. -/
mutual
def uptoBulk {H : Type} : DataW H → Nat
  | .lit (.string bytes) => bytes.length + 1
  | .lit _ => 1
  | .nil => 1
  | .ptr d => uptoBulk d + 1
  | .slice elems spare => uptoBulkAll elems + uptoBulkAll spare + 1
  | .agg parts => uptoBulkAll parts + 1
  | .iface _ d => uptoBulk d + 1
  | .map entries => uptoBulkEntries entries + 1
  | .held _ => 1
def uptoBulkAll {H : Type} : List (DataW H) → Nat
  | [] => 0
  | d :: r => uptoBulk d + uptoBulkAll r
def uptoBulkEntries {H : Type} : List (Lit × DataW H) → Nat
  | [] => 0
  | x :: r => uptoBulkEntry x + uptoBulkEntries r
def uptoBulkEntry {H : Type} : Lit × DataW H → Nat
  | (.string bytes, d) => bytes.length + uptoBulk d + 1
  | (_, d) => uptoBulk d + 1
 end
def uptoSmall : (H : Type) → List (DataW H) → Bool := fun _ ds => decide (uptoBulkAll ds ≤ 1048576)
def OpenSpec.upto (s : _root_.Go.ChangeSpec) : _root_.Go.OpenSpec := { _root_.Go.OpenSpec.ofChange s with cond := some uptoSmall }

/-- 'antiphonlaw5.LanKnown', WHERE WHAT IT READS IS OF BULK AT MOST 1048576: true; the input reads as it did. -/
def lanKnownUptoRow : OpenClaim := { program := "yteihpaikdpdglaa", sum := "a74fe2f1a918842738507cb45b0c85d652c34687d27dac067e51ddb8f1adb144", func := "antiphon/antiphonlaw5.LanKnown", spec := "lanKnown", inPlace := ["slices.overlaps[antiphon/lan.Flying]"], apart := false, narrowed := true }
def LanKnownUptoSaid : Prop := lanKnownUptoRow.holds Try.pinned (OpenSpec.upto lanKnownSpec)

/-- 'antiphonlaw5.LanCopies', WHERE WHAT IT READS IS OF BULK AT MOST 1048576: true; the input reads as it did. -/
def lanCopiesUptoRow : OpenClaim := { program := "yteihpaikdpdglaa", sum := "a74fe2f1a918842738507cb45b0c85d652c34687d27dac067e51ddb8f1adb144", func := "antiphon/antiphonlaw5.LanCopies", spec := "lanCopies", inPlace := ["slices.overlaps[antiphon/lan.Flying]"], apart := false, narrowed := true }
def LanCopiesUptoSaid : Prop := lanCopiesUptoRow.holds Try.pinned (OpenSpec.upto lanCopiesSpec)

/-- 'antiphonlaw5.LanSpoils', WHERE WHAT IT READS IS OF BULK AT MOST 1048576: true; the input reads as it did. -/
def lanSpoilsUptoRow : OpenClaim := { program := "yteihpaikdpdglaa", sum := "a74fe2f1a918842738507cb45b0c85d652c34687d27dac067e51ddb8f1adb144", func := "antiphon/antiphonlaw5.LanSpoils", spec := "lanSpoils", inPlace := ["slices.overlaps[antiphon/lan.Flying]"], unfollowed := true, recurses := true, apart := false, narrowed := true }
def LanSpoilsUptoSaid : Prop := lanSpoilsUptoRow.holds Try.pinned (OpenSpec.upto lanSpoilsSpec)

/-- 'antiphonlaw5.LanFan', WHERE WHAT IT READS IS OF BULK AT MOST 1048576: true; the input reads as it did. -/
def lanFanUptoRow : OpenClaim := { program := "yteihpaikdpdglaa", sum := "a74fe2f1a918842738507cb45b0c85d652c34687d27dac067e51ddb8f1adb144", func := "antiphon/antiphonlaw5.LanFan", spec := "lanFan", inPlace := ["slices.overlaps[antiphon/lan.Flying]"], unfollowed := true, recurses := true, apart := false, narrowed := true }
def LanFanUptoSaid : Prop := lanFanUptoRow.holds Try.pinned (OpenSpec.upto lanFanSpec)

/-- 'antiphonlaw5.LanAges', WHERE WHAT IT READS IS OF BULK AT MOST 1048576: true; the input reads as it did. -/
def lanAgesUptoRow : OpenClaim := { program := "yteihpaikdpdglaa", sum := "a74fe2f1a918842738507cb45b0c85d652c34687d27dac067e51ddb8f1adb144", func := "antiphon/antiphonlaw5.LanAges", spec := "lanAges", inPlace := ["slices.overlaps[antiphon/lan.Flying]"], unfollowed := true, recurses := true, apart := false, narrowed := true }
def LanAgesUptoSaid : Prop := lanAgesUptoRow.holds Try.pinned (OpenSpec.upto lanAgesSpec)

/-- 'antiphonlaw5.LanOrder', WHERE WHAT IT READS IS OF BULK AT MOST 1048576: true; the input reads as it did. -/
def lanOrderUptoRow : OpenClaim := { program := "yteihpaikdpdglaa", sum := "a74fe2f1a918842738507cb45b0c85d652c34687d27dac067e51ddb8f1adb144", func := "antiphon/antiphonlaw5.LanOrder", spec := "lanOrder", inPlace := ["slices.overlaps[antiphon/lan.Flying]"], unfollowed := true, recurses := true, apart := false, narrowed := true }
def LanOrderUptoSaid : Prop := lanOrderUptoRow.holds Try.pinned (OpenSpec.upto lanOrderSpec)

/-- 'antiphonlaw5.LanCounts', WHERE WHAT IT READS IS OF BULK AT MOST 1048576: true; the input reads as it did. -/
def lanCountsUptoRow : OpenClaim := { program := "yteihpaikdpdglaa", sum := "a74fe2f1a918842738507cb45b0c85d652c34687d27dac067e51ddb8f1adb144", func := "antiphon/antiphonlaw5.LanCounts", spec := "lanCounts", inPlace := ["slices.overlaps[antiphon/lan.Flying]"], unfollowed := true, recurses := true, apart := false, narrowed := true }
def LanCountsUptoSaid : Prop := lanCountsUptoRow.holds Try.pinned (OpenSpec.upto lanCountsSpec)

/-- 'antiphonlaw5.LanPlays', WHERE WHAT IT READS IS OF BULK AT MOST 1048576: true; the input reads as it did. -/
def lanPlaysUptoRow : OpenClaim := { program := "yteihpaikdpdglaa", sum := "a74fe2f1a918842738507cb45b0c85d652c34687d27dac067e51ddb8f1adb144", func := "antiphon/antiphonlaw5.LanPlays", spec := "lanPlays", inPlace := ["slices.overlaps[antiphon/lan.Flying]"], unfollowed := true, recurses := true, apart := false, narrowed := true }
def LanPlaysUptoSaid : Prop := lanPlaysUptoRow.holds Try.pinned (OpenSpec.upto lanPlaysSpec)

end Rows
end Go.Proofs.Yteihpaikdpdglaa
