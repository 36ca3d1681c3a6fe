/-
  No cell of these rows narrows 'for every input' (looked for: loops, veiled, ifaces, maps, wideKeys, modest, calm, conditions, laid).
  DERIVED. THE GIVEN ROWS OF THIS SEAT. 5 by the template 'for every input the law returns true; each argument reads behind the call as it read before'; 0 by the template 'total and deterministic' (their statements: YtlpkjnafmknddaaTotals.lean).
  GIVEN WITH THE SEED: the statements are not yours to turn. If you find one false, say at which input.
  Laid BY PROGRAM, IN A SANDBOX (cutbox-rows.mjs): the forced cells as the released guide's own fill.sh prints them over the translation 9c63e6102252343e… (all of the seat's roots in one cut). By AI agents, Wed Nov 11 2026. No macro, syntax, notation, axiom, sorry.
-/
import Derived.Test.YtlpkjnafmknddaaChecked
import GoSem.Claim
import GoSem.ClaimJoined
import GoSem.ClaimMapViews
import Derived.JoinedTies
import Derived.KernelRfl
namespace Go.Proofs.Ytlpkjnafmknddaa
/- THE CELL 'sum', in the pinned program and in every row, IS THE sha256 OF THE DUMP (.gsa) THAT YtlpkjnafmknddaaProg.lean LOADS. Nothing in Lean hashes anything: it is a label: what it is worth is what the hold of that sum in a sandbox is worth. -/
noncomputable def Try.pinned : Pinned := { name := "ytlpkjnafmknddaa", sum := "9c63e6102252343e9daccc18b3368cda7cfb08b302b830d68463848ea2fea0d4", checked := Try.checked }
namespace Rows
def none {H : Type} : Left H := { results := [], args := [] }

/-- 'antiphonlaw18.BackRoom': WHATEVER THE INPUT: true; the input reads as it did. -/
def backRoomSpec : ChangeSpec := { name := "backRoom", fn := fun _ => fun
  | [d1, d2, d3] => { results := [.lit (.bool true)], args := [d1, d2, d3] }
  | _ => none }
def backRoomRow : OpenClaim := { program := "ytlpkjnafmknddaa", sum := "9c63e6102252343e9daccc18b3368cda7cfb08b302b830d68463848ea2fea0d4", func := "antiphon/antiphonlaw18.BackRoom", spec := "backRoom", inPlace := ["slices.overlaps[[]byte]"], apart := false }
def BackRoomSaid : Prop := backRoomRow.holds Try.pinned (OpenSpec.ofChange backRoomSpec)

/-- ITS FALSE NEIGHBOUR: 'it returns false'. Refute it at one input. -/
def backRoomWrong : ChangeSpec := { name := "backRoom", fn := fun _ => fun
  | [d1, d2, d3] => { results := [.lit (.bool false)], args := [d1, d2, d3] }
  | _ => none }
def BackRoomWrongFalsely : Prop := backRoomRow.holds Try.pinned (OpenSpec.ofChange backRoomWrong)

/-- 'antiphonlaw18.BackKnown': WHATEVER THE INPUT: true; the input reads as it did. -/
def backKnownSpec : ChangeSpec := { name := "backKnown", fn := fun _ => fun
  | [] => { results := [.lit (.bool true)], args := [] }
  | _ => none }
def backKnownRow : OpenClaim := { program := "ytlpkjnafmknddaa", sum := "9c63e6102252343e9daccc18b3368cda7cfb08b302b830d68463848ea2fea0d4", func := "antiphon/antiphonlaw18.BackKnown", spec := "backKnown", inPlace := ["slices.overlaps[[]byte]"], apart := false }
def BackKnownSaid : Prop := backKnownRow.holds Try.pinned (OpenSpec.ofChange backKnownSpec)

/-- ITS FALSE NEIGHBOUR: 'it returns false'. Refute it at one input. -/
def backKnownWrong : ChangeSpec := { name := "backKnown", fn := fun _ => fun
  | [] => { results := [.lit (.bool false)], args := [] }
  | _ => none }
def BackKnownWrongFalsely : Prop := backKnownRow.holds Try.pinned (OpenSpec.ofChange backKnownWrong)

/-- 'antiphonlaw18.BackOrder': WHATEVER THE INPUT: true; the input reads as it did. -/
def backOrderSpec : ChangeSpec := { name := "backOrder", fn := fun _ => fun
  | [d] => { results := [.lit (.bool true)], args := [d] }
  | _ => none }
def backOrderRow : OpenClaim := { program := "ytlpkjnafmknddaa", sum := "9c63e6102252343e9daccc18b3368cda7cfb08b302b830d68463848ea2fea0d4", func := "antiphon/antiphonlaw18.BackOrder", spec := "backOrder", inPlace := ["slices.overlaps[[]byte]"], apart := false }
def BackOrderSaid : Prop := backOrderRow.holds Try.pinned (OpenSpec.ofChange backOrderSpec)

/-- ITS FALSE NEIGHBOUR: 'it returns false'. Refute it at one input. -/
def backOrderWrong : ChangeSpec := { name := "backOrder", fn := fun _ => fun
  | [d] => { results := [.lit (.bool false)], args := [d] }
  | _ => none }
def BackOrderWrongFalsely : Prop := backOrderRow.holds Try.pinned (OpenSpec.ofChange backOrderWrong)

/-- 'antiphonlaw18.BackPlays': WHATEVER THE INPUT: true; the input reads as it did. -/
def backPlaysSpec : ChangeSpec := { name := "backPlays", fn := fun _ => fun
  | [d1, d2] => { results := [.lit (.bool true)], args := [d1, d2] }
  | _ => none }
def backPlaysRow : OpenClaim := { program := "ytlpkjnafmknddaa", sum := "9c63e6102252343e9daccc18b3368cda7cfb08b302b830d68463848ea2fea0d4", func := "antiphon/antiphonlaw18.BackPlays", spec := "backPlays", inPlace := ["slices.overlaps[[]byte]"], apart := false }
def BackPlaysSaid : Prop := backPlaysRow.holds Try.pinned (OpenSpec.ofChange backPlaysSpec)

/-- ITS FALSE NEIGHBOUR: 'it returns false'. Refute it at one input. -/
def backPlaysWrong : ChangeSpec := { name := "backPlays", fn := fun _ => fun
  | [d1, d2] => { results := [.lit (.bool false)], args := [d1, d2] }
  | _ => none }
def BackPlaysWrongFalsely : Prop := backPlaysRow.holds Try.pinned (OpenSpec.ofChange backPlaysWrong)

/-- 'antiphonlaw18.BackAgain': WHATEVER THE INPUT: true; the input reads as it did. -/
def backAgainSpec : ChangeSpec := { name := "backAgain", fn := fun _ => fun
  | [d1, d2, d3] => { results := [.lit (.bool true)], args := [d1, d2, d3] }
  | _ => none }
def backAgainRow : OpenClaim := { program := "ytlpkjnafmknddaa", sum := "9c63e6102252343e9daccc18b3368cda7cfb08b302b830d68463848ea2fea0d4", func := "antiphon/antiphonlaw18.BackAgain", spec := "backAgain", inPlace := ["slices.overlaps[[]byte]"], apart := false }
def BackAgainSaid : Prop := backAgainRow.holds Try.pinned (OpenSpec.ofChange backAgainSpec)

/-- ITS FALSE NEIGHBOUR: 'it returns false'. Refute it at one input. -/
def backAgainWrong : ChangeSpec := { name := "backAgain", fn := fun _ => fun
  | [d1, d2, d3] => { results := [.lit (.bool false)], args := [d1, d2, d3] }
  | _ => none }
def BackAgainWrongFalsely : Prop := backAgainRow.holds Try.pinned (OpenSpec.ofChange backAgainWrong)

/- THE SECOND FORM. 'bulk': how many values and letters a reading holds, each counted each time it is reached (what is shared counts as often as it is met; a slice's spare places count too). A statement '..UptoSaid' is the law's where the arguments, and the package variables that the reading takes, are together of bulk at most 1048576: NARROWER than '..Said'. Prove '..Said' where nothing that the law and all that it calls make is longer than what came in: it says more and counts as full. Else prove '..UptoSaid'. A law counts once. -/
mutual
def uptoBulk {H : Type} : DataW H → Nat
  | .lit (.string bytes) => bytes.length + 1
  | .lit _ => 1
  | .nil => 1
  | .ptr d => uptoBulk d + 1
  | .slice elems spare => uptoBulkAll elems + uptoBulkAll spare + 1
  | .agg parts => uptoBulkAll parts + 1
  | .iface _ d => uptoBulk d + 1
  | .map entries => uptoBulkEntries entries + 1
  | .held _ => 1
def uptoBulkAll {H : Type} : List (DataW H) → Nat
  | [] => 0
  | d :: r => uptoBulk d + uptoBulkAll r
def uptoBulkEntries {H : Type} : List (Lit × DataW H) → Nat
  | [] => 0
  | x :: r => uptoBulkEntry x + uptoBulkEntries r
def uptoBulkEntry {H : Type} : Lit × DataW H → Nat
  | (.string bytes, d) => bytes.length + uptoBulk d + 1
  | (_, d) => uptoBulk d + 1
 end
def uptoSmall : (H : Type) → List (DataW H) → Bool := fun _ ds => decide (uptoBulkAll ds ≤ 1048576)
def OpenSpec.upto (s : _root_.Go.ChangeSpec) : _root_.Go.OpenSpec := { _root_.Go.OpenSpec.ofChange s with cond := some uptoSmall }

/-- 'antiphonlaw18.BackRoom', WHERE WHAT IT READS IS OF BULK AT MOST 1048576: true; the input reads as it did. -/
def backRoomUptoRow : OpenClaim := { program := "ytlpkjnafmknddaa", sum := "9c63e6102252343e9daccc18b3368cda7cfb08b302b830d68463848ea2fea0d4", func := "antiphon/antiphonlaw18.BackRoom", spec := "backRoom", inPlace := ["slices.overlaps[[]byte]"], apart := false, narrowed := true }
def BackRoomUptoSaid : Prop := backRoomUptoRow.holds Try.pinned (OpenSpec.upto backRoomSpec)

/-- 'antiphonlaw18.BackKnown', WHERE WHAT IT READS IS OF BULK AT MOST 1048576: true; the input reads as it did. -/
def backKnownUptoRow : OpenClaim := { program := "ytlpkjnafmknddaa", sum := "9c63e6102252343e9daccc18b3368cda7cfb08b302b830d68463848ea2fea0d4", func := "antiphon/antiphonlaw18.BackKnown", spec := "backKnown", inPlace := ["slices.overlaps[[]byte]"], apart := false, narrowed := true }
def BackKnownUptoSaid : Prop := backKnownUptoRow.holds Try.pinned (OpenSpec.upto backKnownSpec)

/-- 'antiphonlaw18.BackOrder', WHERE WHAT IT READS IS OF BULK AT MOST 1048576: true; the input reads as it did. -/
def backOrderUptoRow : OpenClaim := { program := "ytlpkjnafmknddaa", sum := "9c63e6102252343e9daccc18b3368cda7cfb08b302b830d68463848ea2fea0d4", func := "antiphon/antiphonlaw18.BackOrder", spec := "backOrder", inPlace := ["slices.overlaps[[]byte]"], apart := false, narrowed := true }
def BackOrderUptoSaid : Prop := backOrderUptoRow.holds Try.pinned (OpenSpec.upto backOrderSpec)

/-- 'antiphonlaw18.BackPlays', WHERE WHAT IT READS IS OF BULK AT MOST 1048576: true; the input reads as it did. -/
def backPlaysUptoRow : OpenClaim := { program := "ytlpkjnafmknddaa", sum := "9c63e6102252343e9daccc18b3368cda7cfb08b302b830d68463848ea2fea0d4", func := "antiphon/antiphonlaw18.BackPlays", spec := "backPlays", inPlace := ["slices.overlaps[[]byte]"], apart := false, narrowed := true }
def BackPlaysUptoSaid : Prop := backPlaysUptoRow.holds Try.pinned (OpenSpec.upto backPlaysSpec)

/-- 'antiphonlaw18.BackAgain', WHERE WHAT IT READS IS OF BULK AT MOST 1048576: true; the input reads as it did. -/
def backAgainUptoRow : OpenClaim := { program := "ytlpkjnafmknddaa", sum := "9c63e6102252343e9daccc18b3368cda7cfb08b302b830d68463848ea2fea0d4", func := "antiphon/antiphonlaw18.BackAgain", spec := "backAgain", inPlace := ["slices.overlaps[[]byte]"], apart := false, narrowed := true }
def BackAgainUptoSaid : Prop := backAgainUptoRow.holds Try.pinned (OpenSpec.upto backAgainSpec)

end Rows
end Go.Proofs.Ytlpkjnafmknddaa
