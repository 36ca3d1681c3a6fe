/-
  No cell of these rows narrows 'for every input' (looked for: loops, veiled, ifaces, maps, wideKeys, modest, calm, conditions, laid).
  DERIVED. THE GIVEN ROWS OF THIS SEAT. 5 by the template 'for every input the law returns true; each argument reads behind the call as it read before'; 0 by the template 'total and deterministic' (their statements: YtjjfminpaoooaaaTotals.lean).
  GIVEN WITH THE SEED: the statements are not yours to turn. If you find one false, say at which input.
  Laid BY PROGRAM, IN A SANDBOX (cutbox-rows.mjs): the forced cells as the released guide's own fill.sh prints them over the translation 9b3db48bd1249637… (all of the seat's roots in one cut). By AI agents, Wed Nov 11 2026. No macro, syntax, notation, axiom, sorry.
-/
import Derived.Test.YtjjfminpaoooaaaChecked
import GoSem.Claim
import GoSem.ClaimJoined
import GoSem.ClaimMapViews
import Derived.JoinedTies
import Derived.KernelRfl
namespace Go.Proofs.Ytjjfminpaoooaaa
/- THE CELL 'sum', in the pinned program and in every row, IS THE sha256 OF THE DUMP (.gsa) THAT YtjjfminpaoooaaaProg.lean LOADS. Nothing in Lean hashes anything: it is a label: what it is worth is what the hold of that sum in a sandbox is worth. -/
noncomputable def Try.pinned : Pinned := { name := "ytjjfminpaoooaaa", sum := "9b3db48bd1249637790fec14ca0503fe0d012684e688af9b9b919b354afa6bac", checked := Try.checked }
namespace Rows
def none {H : Type} : Left H := { results := [], args := [] }

/-- 'antiphonlaw12.TiesOrder': WHATEVER THE INPUT: true; the input reads as it did. -/
def tiesOrderSpec : ChangeSpec := { name := "tiesOrder", fn := fun _ => fun
  | [d1, d2, d3] => { results := [.lit (.bool true)], args := [d1, d2, d3] }
  | _ => none }
def tiesOrderRow : OpenClaim := { program := "ytjjfminpaoooaaa", sum := "9b3db48bd1249637790fec14ca0503fe0d012684e688af9b9b919b354afa6bac", func := "antiphon/antiphonlaw12.TiesOrder", spec := "tiesOrder", inPlace := ["internal/bytealg.Compare", "slices.overlaps[antiphon/ties.item[int]]"], unfollowed := true, recurses := true, apart := false }
def TiesOrderSaid : Prop := tiesOrderRow.holds Try.pinned (OpenSpec.ofChange tiesOrderSpec)

/-- ITS FALSE NEIGHBOUR: 'it returns false'. Refute it at one input. -/
def tiesOrderWrong : ChangeSpec := { name := "tiesOrder", fn := fun _ => fun
  | [d1, d2, d3] => { results := [.lit (.bool false)], args := [d1, d2, d3] }
  | _ => none }
def TiesOrderWrongFalsely : Prop := tiesOrderRow.holds Try.pinned (OpenSpec.ofChange tiesOrderWrong)

/-- 'antiphonlaw12.TiesRoom': WHATEVER THE INPUT: true; the input reads as it did. -/
def tiesRoomSpec : ChangeSpec := { name := "tiesRoom", fn := fun _ => fun
  | [d1, d2] => { results := [.lit (.bool true)], args := [d1, d2] }
  | _ => none }
def tiesRoomRow : OpenClaim := { program := "ytjjfminpaoooaaa", sum := "9b3db48bd1249637790fec14ca0503fe0d012684e688af9b9b919b354afa6bac", func := "antiphon/antiphonlaw12.TiesRoom", spec := "tiesRoom", inPlace := ["internal/bytealg.Compare", "slices.overlaps[antiphon/ties.item[int]]", "slices.overlaps[antiphon/ties.item[string]]"], unfollowed := true, recurses := true, apart := false }
def TiesRoomSaid : Prop := tiesRoomRow.holds Try.pinned (OpenSpec.ofChange tiesRoomSpec)

/-- ITS FALSE NEIGHBOUR: 'it returns false'. Refute it at one input. -/
def tiesRoomWrong : ChangeSpec := { name := "tiesRoom", fn := fun _ => fun
  | [d1, d2] => { results := [.lit (.bool false)], args := [d1, d2] }
  | _ => none }
def TiesRoomWrongFalsely : Prop := tiesRoomRow.holds Try.pinned (OpenSpec.ofChange tiesRoomWrong)

/-- 'antiphonlaw12.TiesKnown': WHATEVER THE INPUT: true; the input reads as it did. -/
def tiesKnownSpec : ChangeSpec := { name := "tiesKnown", fn := fun _ => fun
  | [] => { results := [.lit (.bool true)], args := [] }
  | _ => none }
def tiesKnownRow : OpenClaim := { program := "ytjjfminpaoooaaa", sum := "9b3db48bd1249637790fec14ca0503fe0d012684e688af9b9b919b354afa6bac", func := "antiphon/antiphonlaw12.TiesKnown", spec := "tiesKnown", inPlace := ["internal/bytealg.Compare", "slices.overlaps[antiphon/ties.item[int]]", "slices.overlaps[antiphon/ties.item[string]]"], unfollowed := true, recurses := true, apart := false }
def TiesKnownSaid : Prop := tiesKnownRow.holds Try.pinned (OpenSpec.ofChange tiesKnownSpec)

/-- ITS FALSE NEIGHBOUR: 'it returns false'. Refute it at one input. -/
def tiesKnownWrong : ChangeSpec := { name := "tiesKnown", fn := fun _ => fun
  | [] => { results := [.lit (.bool false)], args := [] }
  | _ => none }
def TiesKnownWrongFalsely : Prop := tiesKnownRow.holds Try.pinned (OpenSpec.ofChange tiesKnownWrong)

/-- 'antiphonlaw12.TiesPlays': WHATEVER THE INPUT: true; the input reads as it did. -/
def tiesPlaysSpec : ChangeSpec := { name := "tiesPlays", fn := fun _ => fun
  | [d1, d2] => { results := [.lit (.bool true)], args := [d1, d2] }
  | _ => none }
def tiesPlaysRow : OpenClaim := { program := "ytjjfminpaoooaaa", sum := "9b3db48bd1249637790fec14ca0503fe0d012684e688af9b9b919b354afa6bac", func := "antiphon/antiphonlaw12.TiesPlays", spec := "tiesPlays", inPlace := ["internal/bytealg.Compare", "slices.overlaps[antiphon/ties.item[int]]"], unfollowed := true, recurses := true, apart := false }
def TiesPlaysSaid : Prop := tiesPlaysRow.holds Try.pinned (OpenSpec.ofChange tiesPlaysSpec)

/-- ITS FALSE NEIGHBOUR: 'it returns false'. Refute it at one input. -/
def tiesPlaysWrong : ChangeSpec := { name := "tiesPlays", fn := fun _ => fun
  | [d1, d2] => { results := [.lit (.bool false)], args := [d1, d2] }
  | _ => none }
def TiesPlaysWrongFalsely : Prop := tiesPlaysRow.holds Try.pinned (OpenSpec.ofChange tiesPlaysWrong)

/-- 'antiphonlaw12.TiesWalks': WHATEVER THE INPUT: true; the input reads as it did. -/
def tiesWalksSpec : ChangeSpec := { name := "tiesWalks", fn := fun _ => fun
  | [d1, d2, d3] => { results := [.lit (.bool true)], args := [d1, d2, d3] }
  | _ => none }
def tiesWalksRow : OpenClaim := { program := "ytjjfminpaoooaaa", sum := "9b3db48bd1249637790fec14ca0503fe0d012684e688af9b9b919b354afa6bac", func := "antiphon/antiphonlaw12.TiesWalks", spec := "tiesWalks", inPlace := ["internal/bytealg.Compare", "slices.overlaps[antiphon/ties.item[int]]"], unfollowed := true, recurses := true, apart := false }
def TiesWalksSaid : Prop := tiesWalksRow.holds Try.pinned (OpenSpec.ofChange tiesWalksSpec)

/-- ITS FALSE NEIGHBOUR: 'it returns false'. Refute it at one input. -/
def tiesWalksWrong : ChangeSpec := { name := "tiesWalks", fn := fun _ => fun
  | [d1, d2, d3] => { results := [.lit (.bool false)], args := [d1, d2, d3] }
  | _ => none }
def TiesWalksWrongFalsely : Prop := tiesWalksRow.holds Try.pinned (OpenSpec.ofChange tiesWalksWrong)

/- THE SECOND FORM. 'bulk': how many values and letters a reading holds, each counted each time it is reached (what is shared counts as often as it is met; a slice's spare places count too). A statement '..UptoSaid' is the law's where the arguments, and the package variables that the reading takes, are together of bulk at most 1048576: NARROWER than '..Said'. Prove '..Said' where nothing that the law and all that it calls make is longer than what came in: it says more and counts as full. Else prove '..UptoSaid'. A law counts once. -/
mutual
def uptoBulk {H : Type} : DataW H → Nat
  | .lit (.string bytes) => bytes.length + 1
  | .lit _ => 1
  | .nil => 1
  | .ptr d => uptoBulk d + 1
  | .slice elems spare => uptoBulkAll elems + uptoBulkAll spare + 1
  | .agg parts => uptoBulkAll parts + 1
  | .iface _ d => uptoBulk d + 1
  | .map entries => uptoBulkEntries entries + 1
  | .held _ => 1
def uptoBulkAll {H : Type} : List (DataW H) → Nat
  | [] => 0
  | d :: r => uptoBulk d + uptoBulkAll r
def uptoBulkEntries {H : Type} : List (Lit × DataW H) → Nat
  | [] => 0
  | x :: r => uptoBulkEntry x + uptoBulkEntries r
def uptoBulkEntry {H : Type} : Lit × DataW H → Nat
  | (.string bytes, d) => bytes.length + uptoBulk d + 1
  | (_, d) => uptoBulk d + 1
 end
def uptoSmall : (H : Type) → List (DataW H) → Bool := fun _ ds => decide (uptoBulkAll ds ≤ 1048576)
def OpenSpec.upto (s : _root_.Go.ChangeSpec) : _root_.Go.OpenSpec := { _root_.Go.OpenSpec.ofChange s with cond := some uptoSmall }

/-- 'antiphonlaw12.TiesOrder', WHERE WHAT IT READS IS OF BULK AT MOST 1048576: true; the input reads as it did. -/
def tiesOrderUptoRow : OpenClaim := { program := "ytjjfminpaoooaaa", sum := "9b3db48bd1249637790fec14ca0503fe0d012684e688af9b9b919b354afa6bac", func := "antiphon/antiphonlaw12.TiesOrder", spec := "tiesOrder", inPlace := ["internal/bytealg.Compare", "slices.overlaps[antiphon/ties.item[int]]"], unfollowed := true, recurses := true, apart := false, narrowed := true }
def TiesOrderUptoSaid : Prop := tiesOrderUptoRow.holds Try.pinned (OpenSpec.upto tiesOrderSpec)

/-- 'antiphonlaw12.TiesRoom', WHERE WHAT IT READS IS OF BULK AT MOST 1048576: true; the input reads as it did. -/
def tiesRoomUptoRow : OpenClaim := { program := "ytjjfminpaoooaaa", sum := "9b3db48bd1249637790fec14ca0503fe0d012684e688af9b9b919b354afa6bac", func := "antiphon/antiphonlaw12.TiesRoom", spec := "tiesRoom", inPlace := ["internal/bytealg.Compare", "slices.overlaps[antiphon/ties.item[int]]", "slices.overlaps[antiphon/ties.item[string]]"], unfollowed := true, recurses := true, apart := false, narrowed := true }
def TiesRoomUptoSaid : Prop := tiesRoomUptoRow.holds Try.pinned (OpenSpec.upto tiesRoomSpec)

/-- 'antiphonlaw12.TiesKnown', WHERE WHAT IT READS IS OF BULK AT MOST 1048576: true; the input reads as it did. -/
def tiesKnownUptoRow : OpenClaim := { program := "ytjjfminpaoooaaa", sum := "9b3db48bd1249637790fec14ca0503fe0d012684e688af9b9b919b354afa6bac", func := "antiphon/antiphonlaw12.TiesKnown", spec := "tiesKnown", inPlace := ["internal/bytealg.Compare", "slices.overlaps[antiphon/ties.item[int]]", "slices.overlaps[antiphon/ties.item[string]]"], unfollowed := true, recurses := true, apart := false, narrowed := true }
def TiesKnownUptoSaid : Prop := tiesKnownUptoRow.holds Try.pinned (OpenSpec.upto tiesKnownSpec)

/-- 'antiphonlaw12.TiesPlays', WHERE WHAT IT READS IS OF BULK AT MOST 1048576: true; the input reads as it did. -/
def tiesPlaysUptoRow : OpenClaim := { program := "ytjjfminpaoooaaa", sum := "9b3db48bd1249637790fec14ca0503fe0d012684e688af9b9b919b354afa6bac", func := "antiphon/antiphonlaw12.TiesPlays", spec := "tiesPlays", inPlace := ["internal/bytealg.Compare", "slices.overlaps[antiphon/ties.item[int]]"], unfollowed := true, recurses := true, apart := false, narrowed := true }
def TiesPlaysUptoSaid : Prop := tiesPlaysUptoRow.holds Try.pinned (OpenSpec.upto tiesPlaysSpec)

/-- 'antiphonlaw12.TiesWalks', WHERE WHAT IT READS IS OF BULK AT MOST 1048576: true; the input reads as it did. -/
def tiesWalksUptoRow : OpenClaim := { program := "ytjjfminpaoooaaa", sum := "9b3db48bd1249637790fec14ca0503fe0d012684e688af9b9b919b354afa6bac", func := "antiphon/antiphonlaw12.TiesWalks", spec := "tiesWalks", inPlace := ["internal/bytealg.Compare", "slices.overlaps[antiphon/ties.item[int]]"], unfollowed := true, recurses := true, apart := false, narrowed := true }
def TiesWalksUptoSaid : Prop := tiesWalksUptoRow.holds Try.pinned (OpenSpec.upto tiesWalksSpec)

end Rows
end Go.Proofs.Ytjjfminpaoooaaa
