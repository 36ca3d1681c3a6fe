/-
  No cell of these rows narrows 'for every input' (looked for: loops, veiled, ifaces, maps, wideKeys, modest, calm, conditions, laid).
  DERIVED. THE GIVEN ROWS OF THIS SEAT. 5 by the template 'for every input the law returns true; each argument reads behind the call as it read before'; 0 by the template 'total and deterministic' (their statements: YtkmeklbmjdbifaaTotals.lean).
  GIVEN WITH THE SEED: the statements are not yours to turn. If you find one false, say at which input.
  Laid BY PROGRAM, IN A SANDBOX (cutbox-rows.mjs): the forced cells as the released guide's own fill.sh prints them over the translation 916861970a8fc8d7… (all of the seat's roots in one cut). By AI agents, Wed Nov 11 2026. No macro, syntax, notation, axiom, sorry.
-/
import Derived.Test.YtkmeklbmjdbifaaChecked
import GoSem.Claim
import GoSem.ClaimJoined
import GoSem.ClaimMapViews
import Derived.JoinedTies
import Derived.KernelRfl
namespace Go.Proofs.Ytkmeklbmjdbifaa
/- THE CELL 'sum', in the pinned program and in every row, IS THE sha256 OF THE DUMP (.gsa) THAT YtkmeklbmjdbifaaProg.lean LOADS. Nothing in Lean hashes anything: it is a label: what it is worth is what the hold of that sum in a sandbox is worth. -/
noncomputable def Try.pinned : Pinned := { name := "ytkmeklbmjdbifaa", sum := "916861970a8fc8d7f421da498fe3c52cb3f5a96c3ea94111e02de5ff0dada27b", checked := Try.checked }
namespace Rows
def none {H : Type} : Left H := { results := [], args := [] }

/-- 'antiphonlaw21.OnceKnown': WHATEVER THE INPUT: true; the input reads as it did. -/
def onceKnownSpec : ChangeSpec := { name := "onceKnown", fn := fun _ => fun
  | [] => { results := [.lit (.bool true)], args := [] }
  | _ => none }
def onceKnownRow : OpenClaim := { program := "ytkmeklbmjdbifaa", sum := "916861970a8fc8d7f421da498fe3c52cb3f5a96c3ea94111e02de5ff0dada27b", func := "antiphon/antiphonlaw21.OnceKnown", spec := "onceKnown", apart := false }
def OnceKnownSaid : Prop := onceKnownRow.holds Try.pinned (OpenSpec.ofChange onceKnownSpec)

/-- ITS FALSE NEIGHBOUR: 'it returns false'. Refute it at one input. -/
def onceKnownWrong : ChangeSpec := { name := "onceKnown", fn := fun _ => fun
  | [] => { results := [.lit (.bool false)], args := [] }
  | _ => none }
def OnceKnownWrongFalsely : Prop := onceKnownRow.holds Try.pinned (OpenSpec.ofChange onceKnownWrong)

/-- 'antiphonlaw21.OnceOver': WHATEVER THE INPUT: true; the input reads as it did. -/
def onceOverSpec : ChangeSpec := { name := "onceOver", fn := fun _ => fun
  | [d1, d2] => { results := [.lit (.bool true)], args := [d1, d2] }
  | _ => none }
def onceOverRow : OpenClaim := { program := "ytkmeklbmjdbifaa", sum := "916861970a8fc8d7f421da498fe3c52cb3f5a96c3ea94111e02de5ff0dada27b", func := "antiphon/antiphonlaw21.OnceOver", spec := "onceOver", apart := false }
def OnceOverSaid : Prop := onceOverRow.holds Try.pinned (OpenSpec.ofChange onceOverSpec)

/-- ITS FALSE NEIGHBOUR: 'it returns false'. Refute it at one input. -/
def onceOverWrong : ChangeSpec := { name := "onceOver", fn := fun _ => fun
  | [d1, d2] => { results := [.lit (.bool false)], args := [d1, d2] }
  | _ => none }
def OnceOverWrongFalsely : Prop := onceOverRow.holds Try.pinned (OpenSpec.ofChange onceOverWrong)

/-- 'antiphonlaw21.OncePlays': WHATEVER THE INPUT: true; the input reads as it did. -/
def oncePlaysSpec : ChangeSpec := { name := "oncePlays", fn := fun _ => fun
  | [d1, d2] => { results := [.lit (.bool true)], args := [d1, d2] }
  | _ => none }
def oncePlaysRow : OpenClaim := { program := "ytkmeklbmjdbifaa", sum := "916861970a8fc8d7f421da498fe3c52cb3f5a96c3ea94111e02de5ff0dada27b", func := "antiphon/antiphonlaw21.OncePlays", spec := "oncePlays", apart := false }
def OncePlaysSaid : Prop := oncePlaysRow.holds Try.pinned (OpenSpec.ofChange oncePlaysSpec)

/-- ITS FALSE NEIGHBOUR: 'it returns false'. Refute it at one input. -/
def oncePlaysWrong : ChangeSpec := { name := "oncePlays", fn := fun _ => fun
  | [d1, d2] => { results := [.lit (.bool false)], args := [d1, d2] }
  | _ => none }
def OncePlaysWrongFalsely : Prop := oncePlaysRow.holds Try.pinned (OpenSpec.ofChange oncePlaysWrong)

/-- 'antiphonlaw21.OnceBits': WHATEVER THE INPUT: true; the input reads as it did. -/
def onceBitsSpec : ChangeSpec := { name := "onceBits", fn := fun _ => fun
  | [d1, d2] => { results := [.lit (.bool true)], args := [d1, d2] }
  | _ => none }
def onceBitsRow : OpenClaim := { program := "ytkmeklbmjdbifaa", sum := "916861970a8fc8d7f421da498fe3c52cb3f5a96c3ea94111e02de5ff0dada27b", func := "antiphon/antiphonlaw21.OnceBits", spec := "onceBits", apart := false }
def OnceBitsSaid : Prop := onceBitsRow.holds Try.pinned (OpenSpec.ofChange onceBitsSpec)

/-- ITS FALSE NEIGHBOUR: 'it returns false'. Refute it at one input. -/
def onceBitsWrong : ChangeSpec := { name := "onceBits", fn := fun _ => fun
  | [d1, d2] => { results := [.lit (.bool false)], args := [d1, d2] }
  | _ => none }
def OnceBitsWrongFalsely : Prop := onceBitsRow.holds Try.pinned (OpenSpec.ofChange onceBitsWrong)

/-- 'antiphonlaw21.OnceHears': WHATEVER THE INPUT: true; the input reads as it did. -/
def onceHearsSpec : ChangeSpec := { name := "onceHears", fn := fun _ => fun
  | [d1, d2] => { results := [.lit (.bool true)], args := [d1, d2] }
  | _ => none }
def onceHearsRow : OpenClaim := { program := "ytkmeklbmjdbifaa", sum := "916861970a8fc8d7f421da498fe3c52cb3f5a96c3ea94111e02de5ff0dada27b", func := "antiphon/antiphonlaw21.OnceHears", spec := "onceHears", apart := false }
def OnceHearsSaid : Prop := onceHearsRow.holds Try.pinned (OpenSpec.ofChange onceHearsSpec)

/-- ITS FALSE NEIGHBOUR: 'it returns false'. Refute it at one input. -/
def onceHearsWrong : ChangeSpec := { name := "onceHears", fn := fun _ => fun
  | [d1, d2] => { results := [.lit (.bool false)], args := [d1, d2] }
  | _ => none }
def OnceHearsWrongFalsely : Prop := onceHearsRow.holds Try.pinned (OpenSpec.ofChange onceHearsWrong)

/- THE SECOND FORM. 'bulk': how many values and letters a reading holds, each counted each time it is reached (what is shared counts as often as it is met; a slice's spare places count too). A statement '..UptoSaid' is the law's where the arguments, and the package variables that the reading takes, are together of bulk at most 1048576: NARROWER than '..Said'. Prove '..Said' where nothing that the law and all that it calls make is longer than what came in: it says more and counts as full. Else prove '..UptoSaid'. A law counts once. -/
mutual
def uptoBulk {H : Type} : DataW H → Nat
  | .lit (.string bytes) => bytes.length + 1
  | .lit _ => 1
  | .nil => 1
  | .ptr d => uptoBulk d + 1
  | .slice elems spare => uptoBulkAll elems + uptoBulkAll spare + 1
  | .agg parts => uptoBulkAll parts + 1
  | .iface _ d => uptoBulk d + 1
  | .map entries => uptoBulkEntries entries + 1
  | .held _ => 1
def uptoBulkAll {H : Type} : List (DataW H) → Nat
  | [] => 0
  | d :: r => uptoBulk d + uptoBulkAll r
def uptoBulkEntries {H : Type} : List (Lit × DataW H) → Nat
  | [] => 0
  | x :: r => uptoBulkEntry x + uptoBulkEntries r
def uptoBulkEntry {H : Type} : Lit × DataW H → Nat
  | (.string bytes, d) => bytes.length + uptoBulk d + 1
  | (_, d) => uptoBulk d + 1
 end
def uptoSmall : (H : Type) → List (DataW H) → Bool := fun _ ds => decide (uptoBulkAll ds ≤ 1048576)
def OpenSpec.upto (s : _root_.Go.ChangeSpec) : _root_.Go.OpenSpec := { _root_.Go.OpenSpec.ofChange s with cond := some uptoSmall }

/-- 'antiphonlaw21.OnceKnown', WHERE WHAT IT READS IS OF BULK AT MOST 1048576: true; the input reads as it did. -/
def onceKnownUptoRow : OpenClaim := { program := "ytkmeklbmjdbifaa", sum := "916861970a8fc8d7f421da498fe3c52cb3f5a96c3ea94111e02de5ff0dada27b", func := "antiphon/antiphonlaw21.OnceKnown", spec := "onceKnown", apart := false, narrowed := true }
def OnceKnownUptoSaid : Prop := onceKnownUptoRow.holds Try.pinned (OpenSpec.upto onceKnownSpec)

/-- 'antiphonlaw21.OnceOver', WHERE WHAT IT READS IS OF BULK AT MOST 1048576: true; the input reads as it did. -/
def onceOverUptoRow : OpenClaim := { program := "ytkmeklbmjdbifaa", sum := "916861970a8fc8d7f421da498fe3c52cb3f5a96c3ea94111e02de5ff0dada27b", func := "antiphon/antiphonlaw21.OnceOver", spec := "onceOver", apart := false, narrowed := true }
def OnceOverUptoSaid : Prop := onceOverUptoRow.holds Try.pinned (OpenSpec.upto onceOverSpec)

/-- 'antiphonlaw21.OncePlays', WHERE WHAT IT READS IS OF BULK AT MOST 1048576: true; the input reads as it did. -/
def oncePlaysUptoRow : OpenClaim := { program := "ytkmeklbmjdbifaa", sum := "916861970a8fc8d7f421da498fe3c52cb3f5a96c3ea94111e02de5ff0dada27b", func := "antiphon/antiphonlaw21.OncePlays", spec := "oncePlays", apart := false, narrowed := true }
def OncePlaysUptoSaid : Prop := oncePlaysUptoRow.holds Try.pinned (OpenSpec.upto oncePlaysSpec)

/-- 'antiphonlaw21.OnceBits', WHERE WHAT IT READS IS OF BULK AT MOST 1048576: true; the input reads as it did. -/
def onceBitsUptoRow : OpenClaim := { program := "ytkmeklbmjdbifaa", sum := "916861970a8fc8d7f421da498fe3c52cb3f5a96c3ea94111e02de5ff0dada27b", func := "antiphon/antiphonlaw21.OnceBits", spec := "onceBits", apart := false, narrowed := true }
def OnceBitsUptoSaid : Prop := onceBitsUptoRow.holds Try.pinned (OpenSpec.upto onceBitsSpec)

/-- 'antiphonlaw21.OnceHears', WHERE WHAT IT READS IS OF BULK AT MOST 1048576: true; the input reads as it did. -/
def onceHearsUptoRow : OpenClaim := { program := "ytkmeklbmjdbifaa", sum := "916861970a8fc8d7f421da498fe3c52cb3f5a96c3ea94111e02de5ff0dada27b", func := "antiphon/antiphonlaw21.OnceHears", spec := "onceHears", apart := false, narrowed := true }
def OnceHearsUptoSaid : Prop := onceHearsUptoRow.holds Try.pinned (OpenSpec.upto onceHearsSpec)

end Rows
end Go.Proofs.Ytkmeklbmjdbifaa
