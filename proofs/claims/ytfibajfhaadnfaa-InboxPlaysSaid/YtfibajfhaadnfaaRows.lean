/-
  No cell of these rows narrows 'for every input' (looked for: loops, veiled, ifaces, maps, wideKeys, modest, calm, conditions, laid).
  DERIVED. THE GIVEN ROWS OF THIS SEAT. 5 by the template 'for every input the law returns true; each argument reads behind the call as it read before'; 0 by the template 'total and deterministic' (their statements: YtfibajfhaadnfaaTotals.lean).
  GIVEN WITH THE SEED: the statements are not yours to turn. If you find one false, say at which input.
  Laid BY PROGRAM, IN A SANDBOX (cutbox-rows.mjs): the forced cells as the released guide's own fill.sh prints them over the translation a1ff40ee5543eee9… (all of the seat's roots in one cut). By AI agents, Wed Nov 11 2026. No macro, syntax, notation, axiom, sorry.
-/
import Derived.Test.YtfibajfhaadnfaaChecked
import GoSem.Claim
import GoSem.ClaimJoined
import GoSem.ClaimMapViews
import Derived.JoinedTies
import Derived.KernelRfl
namespace Go.Proofs.Ytfibajfhaadnfaa
/- THE CELL 'sum', in the pinned program and in every row, IS THE sha256 OF THE DUMP (.gsa) THAT YtfibajfhaadnfaaProg.lean LOADS. Nothing in Lean hashes anything: it is a label: what it is worth is what the hold of that sum in a sandbox is worth. -/
noncomputable def Try.pinned : Pinned := { name := "ytfibajfhaadnfaa", sum := "a1ff40ee5543eee92410887eb40bc7793ea5f3b160de039f49099b0ef075487a", checked := Try.checked }
namespace Rows
def none {H : Type} : Left H := { results := [], args := [] }

/-- 'antiphonlaw20.InboxKnown': WHATEVER THE INPUT: true; the input reads as it did. -/
def inboxKnownSpec : ChangeSpec := { name := "inboxKnown", fn := fun _ => fun
  | [] => { results := [.lit (.bool true)], args := [] }
  | _ => none }
def inboxKnownRow : OpenClaim := { program := "ytfibajfhaadnfaa", sum := "a1ff40ee5543eee92410887eb40bc7793ea5f3b160de039f49099b0ef075487a", func := "antiphon/antiphonlaw20.InboxKnown", spec := "inboxKnown", inPlace := ["slices.overlaps[[]byte]"], unfollowed := true, recurses := true, apart := false }
def InboxKnownSaid : Prop := inboxKnownRow.holds Try.pinned (OpenSpec.ofChange inboxKnownSpec)

/-- ITS FALSE NEIGHBOUR: 'it returns false'. Refute it at one input. -/
def inboxKnownWrong : ChangeSpec := { name := "inboxKnown", fn := fun _ => fun
  | [] => { results := [.lit (.bool false)], args := [] }
  | _ => none }
def InboxKnownWrongFalsely : Prop := inboxKnownRow.holds Try.pinned (OpenSpec.ofChange inboxKnownWrong)

/-- 'antiphonlaw20.InboxOrder': WHATEVER THE INPUT: true; the input reads as it did. -/
def inboxOrderSpec : ChangeSpec := { name := "inboxOrder", fn := fun _ => fun
  | [d1, d2, d3] => { results := [.lit (.bool true)], args := [d1, d2, d3] }
  | _ => none }
def inboxOrderRow : OpenClaim := { program := "ytfibajfhaadnfaa", sum := "a1ff40ee5543eee92410887eb40bc7793ea5f3b160de039f49099b0ef075487a", func := "antiphon/antiphonlaw20.InboxOrder", spec := "inboxOrder", inPlace := ["slices.overlaps[[]byte]"], unfollowed := true, recurses := true, apart := false }
def InboxOrderSaid : Prop := inboxOrderRow.holds Try.pinned (OpenSpec.ofChange inboxOrderSpec)

/-- ITS FALSE NEIGHBOUR: 'it returns false'. Refute it at one input. -/
def inboxOrderWrong : ChangeSpec := { name := "inboxOrder", fn := fun _ => fun
  | [d1, d2, d3] => { results := [.lit (.bool false)], args := [d1, d2, d3] }
  | _ => none }
def InboxOrderWrongFalsely : Prop := inboxOrderRow.holds Try.pinned (OpenSpec.ofChange inboxOrderWrong)

/-- 'antiphonlaw20.InboxTurns': WHATEVER THE INPUT: true; the input reads as it did. -/
def inboxTurnsSpec : ChangeSpec := { name := "inboxTurns", fn := fun _ => fun
  | [d1, d2] => { results := [.lit (.bool true)], args := [d1, d2] }
  | _ => none }
def inboxTurnsRow : OpenClaim := { program := "ytfibajfhaadnfaa", sum := "a1ff40ee5543eee92410887eb40bc7793ea5f3b160de039f49099b0ef075487a", func := "antiphon/antiphonlaw20.InboxTurns", spec := "inboxTurns", inPlace := ["slices.overlaps[[]byte]"], unfollowed := true, recurses := true, apart := false }
def InboxTurnsSaid : Prop := inboxTurnsRow.holds Try.pinned (OpenSpec.ofChange inboxTurnsSpec)

/-- ITS FALSE NEIGHBOUR: 'it returns false'. Refute it at one input. -/
def inboxTurnsWrong : ChangeSpec := { name := "inboxTurns", fn := fun _ => fun
  | [d1, d2] => { results := [.lit (.bool false)], args := [d1, d2] }
  | _ => none }
def InboxTurnsWrongFalsely : Prop := inboxTurnsRow.holds Try.pinned (OpenSpec.ofChange inboxTurnsWrong)

/-- 'antiphonlaw20.InboxPlays': WHATEVER THE INPUT: true; the input reads as it did. -/
def inboxPlaysSpec : ChangeSpec := { name := "inboxPlays", fn := fun _ => fun
  | [d1, d2] => { results := [.lit (.bool true)], args := [d1, d2] }
  | _ => none }
def inboxPlaysRow : OpenClaim := { program := "ytfibajfhaadnfaa", sum := "a1ff40ee5543eee92410887eb40bc7793ea5f3b160de039f49099b0ef075487a", func := "antiphon/antiphonlaw20.InboxPlays", spec := "inboxPlays", inPlace := ["slices.overlaps[[]byte]"], unfollowed := true, recurses := true, apart := false }
def InboxPlaysSaid : Prop := inboxPlaysRow.holds Try.pinned (OpenSpec.ofChange inboxPlaysSpec)

/-- ITS FALSE NEIGHBOUR: 'it returns false'. Refute it at one input. -/
def inboxPlaysWrong : ChangeSpec := { name := "inboxPlays", fn := fun _ => fun
  | [d1, d2] => { results := [.lit (.bool false)], args := [d1, d2] }
  | _ => none }
def InboxPlaysWrongFalsely : Prop := inboxPlaysRow.holds Try.pinned (OpenSpec.ofChange inboxPlaysWrong)

/-- 'antiphonlaw20.InboxCycle': WHATEVER THE INPUT: true; the input reads as it did. -/
def inboxCycleSpec : ChangeSpec := { name := "inboxCycle", fn := fun _ => fun
  | [d1, d2, d3] => { results := [.lit (.bool true)], args := [d1, d2, d3] }
  | _ => none }
def inboxCycleRow : OpenClaim := { program := "ytfibajfhaadnfaa", sum := "a1ff40ee5543eee92410887eb40bc7793ea5f3b160de039f49099b0ef075487a", func := "antiphon/antiphonlaw20.InboxCycle", spec := "inboxCycle", inPlace := ["slices.overlaps[[]byte]"], unfollowed := true, recurses := true, apart := false }
def InboxCycleSaid : Prop := inboxCycleRow.holds Try.pinned (OpenSpec.ofChange inboxCycleSpec)

/-- ITS FALSE NEIGHBOUR: 'it returns false'. Refute it at one input. -/
def inboxCycleWrong : ChangeSpec := { name := "inboxCycle", fn := fun _ => fun
  | [d1, d2, d3] => { results := [.lit (.bool false)], args := [d1, d2, d3] }
  | _ => none }
def InboxCycleWrongFalsely : Prop := inboxCycleRow.holds Try.pinned (OpenSpec.ofChange inboxCycleWrong)

/- THE SECOND FORM. 'bulk': how many values and letters a reading holds, each counted each time it is reached (what is shared counts as often as it is met; a slice's spare places count too). A statement '..UptoSaid' is the law's where the arguments, and the package variables that the reading takes, are together of bulk at most 1048576: NARROWER than '..Said'. Prove '..Said' where nothing that the law and all that it calls make is longer than what came in: it says more and counts as full. Else prove '..UptoSaid'. A law counts once. -/
mutual
def uptoBulk {H : Type} : DataW H → Nat
  | .lit (.string bytes) => bytes.length + 1
  | .lit _ => 1
  | .nil => 1
  | .ptr d => uptoBulk d + 1
  | .slice elems spare => uptoBulkAll elems + uptoBulkAll spare + 1
  | .agg parts => uptoBulkAll parts + 1
  | .iface _ d => uptoBulk d + 1
  | .map entries => uptoBulkEntries entries + 1
  | .held _ => 1
def uptoBulkAll {H : Type} : List (DataW H) → Nat
  | [] => 0
  | d :: r => uptoBulk d + uptoBulkAll r
def uptoBulkEntries {H : Type} : List (Lit × DataW H) → Nat
  | [] => 0
  | x :: r => uptoBulkEntry x + uptoBulkEntries r
def uptoBulkEntry {H : Type} : Lit × DataW H → Nat
  | (.string bytes, d) => bytes.length + uptoBulk d + 1
  | (_, d) => uptoBulk d + 1
 end
def uptoSmall : (H : Type) → List (DataW H) → Bool := fun _ ds => decide (uptoBulkAll ds ≤ 1048576)
def OpenSpec.upto (s : _root_.Go.ChangeSpec) : _root_.Go.OpenSpec := { _root_.Go.OpenSpec.ofChange s with cond := some uptoSmall }

/-- 'antiphonlaw20.InboxKnown', WHERE WHAT IT READS IS OF BULK AT MOST 1048576: true; the input reads as it did. -/
def inboxKnownUptoRow : OpenClaim := { program := "ytfibajfhaadnfaa", sum := "a1ff40ee5543eee92410887eb40bc7793ea5f3b160de039f49099b0ef075487a", func := "antiphon/antiphonlaw20.InboxKnown", spec := "inboxKnown", inPlace := ["slices.overlaps[[]byte]"], unfollowed := true, recurses := true, apart := false, narrowed := true }
def InboxKnownUptoSaid : Prop := inboxKnownUptoRow.holds Try.pinned (OpenSpec.upto inboxKnownSpec)

/-- 'antiphonlaw20.InboxOrder', WHERE WHAT IT READS IS OF BULK AT MOST 1048576: true; the input reads as it did. -/
def inboxOrderUptoRow : OpenClaim := { program := "ytfibajfhaadnfaa", sum := "a1ff40ee5543eee92410887eb40bc7793ea5f3b160de039f49099b0ef075487a", func := "antiphon/antiphonlaw20.InboxOrder", spec := "inboxOrder", inPlace := ["slices.overlaps[[]byte]"], unfollowed := true, recurses := true, apart := false, narrowed := true }
def InboxOrderUptoSaid : Prop := inboxOrderUptoRow.holds Try.pinned (OpenSpec.upto inboxOrderSpec)

/-- 'antiphonlaw20.InboxTurns', WHERE WHAT IT READS IS OF BULK AT MOST 1048576: true; the input reads as it did. -/
def inboxTurnsUptoRow : OpenClaim := { program := "ytfibajfhaadnfaa", sum := "a1ff40ee5543eee92410887eb40bc7793ea5f3b160de039f49099b0ef075487a", func := "antiphon/antiphonlaw20.InboxTurns", spec := "inboxTurns", inPlace := ["slices.overlaps[[]byte]"], unfollowed := true, recurses := true, apart := false, narrowed := true }
def InboxTurnsUptoSaid : Prop := inboxTurnsUptoRow.holds Try.pinned (OpenSpec.upto inboxTurnsSpec)

/-- 'antiphonlaw20.InboxPlays', WHERE WHAT IT READS IS OF BULK AT MOST 1048576: true; the input reads as it did. -/
def inboxPlaysUptoRow : OpenClaim := { program := "ytfibajfhaadnfaa", sum := "a1ff40ee5543eee92410887eb40bc7793ea5f3b160de039f49099b0ef075487a", func := "antiphon/antiphonlaw20.InboxPlays", spec := "inboxPlays", inPlace := ["slices.overlaps[[]byte]"], unfollowed := true, recurses := true, apart := false, narrowed := true }
def InboxPlaysUptoSaid : Prop := inboxPlaysUptoRow.holds Try.pinned (OpenSpec.upto inboxPlaysSpec)

/-- 'antiphonlaw20.InboxCycle', WHERE WHAT IT READS IS OF BULK AT MOST 1048576: true; the input reads as it did. -/
def inboxCycleUptoRow : OpenClaim := { program := "ytfibajfhaadnfaa", sum := "a1ff40ee5543eee92410887eb40bc7793ea5f3b160de039f49099b0ef075487a", func := "antiphon/antiphonlaw20.InboxCycle", spec := "inboxCycle", inPlace := ["slices.overlaps[[]byte]"], unfollowed := true, recurses := true, apart := false, narrowed := true }
def InboxCycleUptoSaid : Prop := inboxCycleUptoRow.holds Try.pinned (OpenSpec.upto inboxCycleSpec)

end Rows
end Go.Proofs.Ytfibajfhaadnfaa
