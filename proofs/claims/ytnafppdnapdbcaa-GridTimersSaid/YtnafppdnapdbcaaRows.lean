/-
  No cell of these rows narrows 'for every input' (looked for: loops, veiled, ifaces, maps, wideKeys, modest, calm, conditions, laid).
  DERIVED. THE GIVEN ROWS OF THIS SEAT. 7 by the template 'for every input the law returns true; each argument reads behind the call as it read before'; 0 by the template 'total and deterministic' (their statements: YtnafppdnapdbcaaTotals.lean).
  GIVEN WITH THE SEED: the statements are not yours to turn. If you find one false, say at which input.
  Laid BY PROGRAM, IN A SANDBOX (cutbox-rows.mjs): the forced cells as the released guide's own fill.sh prints them over the translation f6801699c850199a… (all of the seat's roots in one cut). By AI agents, Wed Nov 11 2026. No macro, syntax, notation, axiom, sorry.
-/
import Derived.Test.YtnafppdnapdbcaaChecked
import GoSem.Claim
import GoSem.ClaimJoined
import GoSem.ClaimMapViews
import Derived.JoinedTies
import Derived.KernelRfl
namespace Go.Proofs.Ytnafppdnapdbcaa
/- THE CELL 'sum', in the pinned program and in every row, IS THE sha256 OF THE DUMP (.gsa) THAT YtnafppdnapdbcaaProg.lean LOADS. Nothing in Lean hashes anything: it is a label: what it is worth is what the hold of that sum in a sandbox is worth. -/
noncomputable def Try.pinned : Pinned := { name := "ytnafppdnapdbcaa", sum := "f6801699c850199a256b669e80ccbc76c5fbd0a435c0bda1793c6b667d927eab", checked := Try.checked }
namespace Rows
def none {H : Type} : Left H := { results := [], args := [] }

/-- 'antiphonlaw15.GridKnown': WHATEVER THE INPUT: true; the input reads as it did. -/
def gridKnownSpec : ChangeSpec := { name := "gridKnown", fn := fun _ => fun
  | [] => { results := [.lit (.bool true)], args := [] }
  | _ => none }
def gridKnownRow : OpenClaim := { program := "ytnafppdnapdbcaa", sum := "f6801699c850199a256b669e80ccbc76c5fbd0a435c0bda1793c6b667d927eab", func := "antiphon/antiphonlaw15.GridKnown", spec := "gridKnown", unfollowed := true, recurses := true, apart := false }
def GridKnownSaid : Prop := gridKnownRow.holds Try.pinned (OpenSpec.ofChange gridKnownSpec)

/-- ITS FALSE NEIGHBOUR: 'it returns false'. Refute it at one input. -/
def gridKnownWrong : ChangeSpec := { name := "gridKnown", fn := fun _ => fun
  | [] => { results := [.lit (.bool false)], args := [] }
  | _ => none }
def GridKnownWrongFalsely : Prop := gridKnownRow.holds Try.pinned (OpenSpec.ofChange gridKnownWrong)

/-- 'antiphonlaw15.GridSteps': WHATEVER THE INPUT: true; the input reads as it did. -/
def gridStepsSpec : ChangeSpec := { name := "gridSteps", fn := fun _ => fun
  | [d1, d2] => { results := [.lit (.bool true)], args := [d1, d2] }
  | _ => none }
def gridStepsRow : OpenClaim := { program := "ytnafppdnapdbcaa", sum := "f6801699c850199a256b669e80ccbc76c5fbd0a435c0bda1793c6b667d927eab", func := "antiphon/antiphonlaw15.GridSteps", spec := "gridSteps", unfollowed := true, recurses := true, apart := false }
def GridStepsSaid : Prop := gridStepsRow.holds Try.pinned (OpenSpec.ofChange gridStepsSpec)

/-- ITS FALSE NEIGHBOUR: 'it returns false'. Refute it at one input. -/
def gridStepsWrong : ChangeSpec := { name := "gridSteps", fn := fun _ => fun
  | [d1, d2] => { results := [.lit (.bool false)], args := [d1, d2] }
  | _ => none }
def GridStepsWrongFalsely : Prop := gridStepsRow.holds Try.pinned (OpenSpec.ofChange gridStepsWrong)

/-- 'antiphonlaw15.GridEnds': WHATEVER THE INPUT: true; the input reads as it did. -/
def gridEndsSpec : ChangeSpec := { name := "gridEnds", fn := fun _ => fun
  | [d1, d2] => { results := [.lit (.bool true)], args := [d1, d2] }
  | _ => none }
def gridEndsRow : OpenClaim := { program := "ytnafppdnapdbcaa", sum := "f6801699c850199a256b669e80ccbc76c5fbd0a435c0bda1793c6b667d927eab", func := "antiphon/antiphonlaw15.GridEnds", spec := "gridEnds", unfollowed := true, recurses := true, apart := false }
def GridEndsSaid : Prop := gridEndsRow.holds Try.pinned (OpenSpec.ofChange gridEndsSpec)

/-- ITS FALSE NEIGHBOUR: 'it returns false'. Refute it at one input. -/
def gridEndsWrong : ChangeSpec := { name := "gridEnds", fn := fun _ => fun
  | [d1, d2] => { results := [.lit (.bool false)], args := [d1, d2] }
  | _ => none }
def GridEndsWrongFalsely : Prop := gridEndsRow.holds Try.pinned (OpenSpec.ofChange gridEndsWrong)

/-- 'antiphonlaw15.GridAnswers': WHATEVER THE INPUT: true; the input reads as it did. -/
def gridAnswersSpec : ChangeSpec := { name := "gridAnswers", fn := fun _ => fun
  | [d1, d2] => { results := [.lit (.bool true)], args := [d1, d2] }
  | _ => none }
def gridAnswersRow : OpenClaim := { program := "ytnafppdnapdbcaa", sum := "f6801699c850199a256b669e80ccbc76c5fbd0a435c0bda1793c6b667d927eab", func := "antiphon/antiphonlaw15.GridAnswers", spec := "gridAnswers", unfollowed := true, recurses := true, apart := false }
def GridAnswersSaid : Prop := gridAnswersRow.holds Try.pinned (OpenSpec.ofChange gridAnswersSpec)

/-- ITS FALSE NEIGHBOUR: 'it returns false'. Refute it at one input. -/
def gridAnswersWrong : ChangeSpec := { name := "gridAnswers", fn := fun _ => fun
  | [d1, d2] => { results := [.lit (.bool false)], args := [d1, d2] }
  | _ => none }
def GridAnswersWrongFalsely : Prop := gridAnswersRow.holds Try.pinned (OpenSpec.ofChange gridAnswersWrong)

/-- 'antiphonlaw15.GridWalks': WHATEVER THE INPUT: true; the input reads as it did. -/
def gridWalksSpec : ChangeSpec := { name := "gridWalks", fn := fun _ => fun
  | [d] => { results := [.lit (.bool true)], args := [d] }
  | _ => none }
def gridWalksRow : OpenClaim := { program := "ytnafppdnapdbcaa", sum := "f6801699c850199a256b669e80ccbc76c5fbd0a435c0bda1793c6b667d927eab", func := "antiphon/antiphonlaw15.GridWalks", spec := "gridWalks", unfollowed := true, recurses := true, apart := false }
def GridWalksSaid : Prop := gridWalksRow.holds Try.pinned (OpenSpec.ofChange gridWalksSpec)

/-- ITS FALSE NEIGHBOUR: 'it returns false'. Refute it at one input. -/
def gridWalksWrong : ChangeSpec := { name := "gridWalks", fn := fun _ => fun
  | [d] => { results := [.lit (.bool false)], args := [d] }
  | _ => none }
def GridWalksWrongFalsely : Prop := gridWalksRow.holds Try.pinned (OpenSpec.ofChange gridWalksWrong)

/-- 'antiphonlaw15.GridUsers': WHATEVER THE INPUT: true; the input reads as it did. -/
def gridUsersSpec : ChangeSpec := { name := "gridUsers", fn := fun _ => fun
  | [d] => { results := [.lit (.bool true)], args := [d] }
  | _ => none }
def gridUsersRow : OpenClaim := { program := "ytnafppdnapdbcaa", sum := "f6801699c850199a256b669e80ccbc76c5fbd0a435c0bda1793c6b667d927eab", func := "antiphon/antiphonlaw15.GridUsers", spec := "gridUsers", unfollowed := true, recurses := true, apart := false }
def GridUsersSaid : Prop := gridUsersRow.holds Try.pinned (OpenSpec.ofChange gridUsersSpec)

/-- ITS FALSE NEIGHBOUR: 'it returns false'. Refute it at one input. -/
def gridUsersWrong : ChangeSpec := { name := "gridUsers", fn := fun _ => fun
  | [d] => { results := [.lit (.bool false)], args := [d] }
  | _ => none }
def GridUsersWrongFalsely : Prop := gridUsersRow.holds Try.pinned (OpenSpec.ofChange gridUsersWrong)

/-- 'antiphonlaw15.GridTimers': WHATEVER THE INPUT: true; the input reads as it did. -/
def gridTimersSpec : ChangeSpec := { name := "gridTimers", fn := fun _ => fun
  | [d1, d2] => { results := [.lit (.bool true)], args := [d1, d2] }
  | _ => none }
def gridTimersRow : OpenClaim := { program := "ytnafppdnapdbcaa", sum := "f6801699c850199a256b669e80ccbc76c5fbd0a435c0bda1793c6b667d927eab", func := "antiphon/antiphonlaw15.GridTimers", spec := "gridTimers", unfollowed := true, recurses := true, apart := false }
def GridTimersSaid : Prop := gridTimersRow.holds Try.pinned (OpenSpec.ofChange gridTimersSpec)

/-- ITS FALSE NEIGHBOUR: 'it returns false'. Refute it at one input. -/
def gridTimersWrong : ChangeSpec := { name := "gridTimers", fn := fun _ => fun
  | [d1, d2] => { results := [.lit (.bool false)], args := [d1, d2] }
  | _ => none }
def GridTimersWrongFalsely : Prop := gridTimersRow.holds Try.pinned (OpenSpec.ofChange gridTimersWrong)

/- THE SECOND FORM. 'bulk': how many values and letters a reading holds, each counted each time it is reached (what is shared counts as often as it is met; a slice's spare places count too). A statement '..UptoSaid' is the law's where the arguments, and the package variables that the reading takes, are together of bulk at most 1048576: NARROWER than '..Said'. Prove '..Said' where nothing that the law and all that it calls make is longer than what came in: it says more and counts as full. Else prove '..UptoSaid'. A law counts once. -/
mutual
def uptoBulk {H : Type} : DataW H → Nat
  | .lit (.string bytes) => bytes.length + 1
  | .lit _ => 1
  | .nil => 1
  | .ptr d => uptoBulk d + 1
  | .slice elems spare => uptoBulkAll elems + uptoBulkAll spare + 1
  | .agg parts => uptoBulkAll parts + 1
  | .iface _ d => uptoBulk d + 1
  | .map entries => uptoBulkEntries entries + 1
  | .held _ => 1
def uptoBulkAll {H : Type} : List (DataW H) → Nat
  | [] => 0
  | d :: r => uptoBulk d + uptoBulkAll r
def uptoBulkEntries {H : Type} : List (Lit × DataW H) → Nat
  | [] => 0
  | x :: r => uptoBulkEntry x + uptoBulkEntries r
def uptoBulkEntry {H : Type} : Lit × DataW H → Nat
  | (.string bytes, d) => bytes.length + uptoBulk d + 1
  | (_, d) => uptoBulk d + 1
 end
def uptoSmall : (H : Type) → List (DataW H) → Bool := fun _ ds => decide (uptoBulkAll ds ≤ 1048576)
def OpenSpec.upto (s : _root_.Go.ChangeSpec) : _root_.Go.OpenSpec := { _root_.Go.OpenSpec.ofChange s with cond := some uptoSmall }

/-- 'antiphonlaw15.GridKnown', WHERE WHAT IT READS IS OF BULK AT MOST 1048576: true; the input reads as it did. -/
def gridKnownUptoRow : OpenClaim := { program := "ytnafppdnapdbcaa", sum := "f6801699c850199a256b669e80ccbc76c5fbd0a435c0bda1793c6b667d927eab", func := "antiphon/antiphonlaw15.GridKnown", spec := "gridKnown", unfollowed := true, recurses := true, apart := false, narrowed := true }
def GridKnownUptoSaid : Prop := gridKnownUptoRow.holds Try.pinned (OpenSpec.upto gridKnownSpec)

/-- 'antiphonlaw15.GridSteps', WHERE WHAT IT READS IS OF BULK AT MOST 1048576: true; the input reads as it did. -/
def gridStepsUptoRow : OpenClaim := { program := "ytnafppdnapdbcaa", sum := "f6801699c850199a256b669e80ccbc76c5fbd0a435c0bda1793c6b667d927eab", func := "antiphon/antiphonlaw15.GridSteps", spec := "gridSteps", unfollowed := true, recurses := true, apart := false, narrowed := true }
def GridStepsUptoSaid : Prop := gridStepsUptoRow.holds Try.pinned (OpenSpec.upto gridStepsSpec)

/-- 'antiphonlaw15.GridEnds', WHERE WHAT IT READS IS OF BULK AT MOST 1048576: true; the input reads as it did. -/
def gridEndsUptoRow : OpenClaim := { program := "ytnafppdnapdbcaa", sum := "f6801699c850199a256b669e80ccbc76c5fbd0a435c0bda1793c6b667d927eab", func := "antiphon/antiphonlaw15.GridEnds", spec := "gridEnds", unfollowed := true, recurses := true, apart := false, narrowed := true }
def GridEndsUptoSaid : Prop := gridEndsUptoRow.holds Try.pinned (OpenSpec.upto gridEndsSpec)

/-- 'antiphonlaw15.GridAnswers', WHERE WHAT IT READS IS OF BULK AT MOST 1048576: true; the input reads as it did. -/
def gridAnswersUptoRow : OpenClaim := { program := "ytnafppdnapdbcaa", sum := "f6801699c850199a256b669e80ccbc76c5fbd0a435c0bda1793c6b667d927eab", func := "antiphon/antiphonlaw15.GridAnswers", spec := "gridAnswers", unfollowed := true, recurses := true, apart := false, narrowed := true }
def GridAnswersUptoSaid : Prop := gridAnswersUptoRow.holds Try.pinned (OpenSpec.upto gridAnswersSpec)

/-- 'antiphonlaw15.GridWalks', WHERE WHAT IT READS IS OF BULK AT MOST 1048576: true; the input reads as it did. -/
def gridWalksUptoRow : OpenClaim := { program := "ytnafppdnapdbcaa", sum := "f6801699c850199a256b669e80ccbc76c5fbd0a435c0bda1793c6b667d927eab", func := "antiphon/antiphonlaw15.GridWalks", spec := "gridWalks", unfollowed := true, recurses := true, apart := false, narrowed := true }
def GridWalksUptoSaid : Prop := gridWalksUptoRow.holds Try.pinned (OpenSpec.upto gridWalksSpec)

/-- 'antiphonlaw15.GridUsers', WHERE WHAT IT READS IS OF BULK AT MOST 1048576: true; the input reads as it did. -/
def gridUsersUptoRow : OpenClaim := { program := "ytnafppdnapdbcaa", sum := "f6801699c850199a256b669e80ccbc76c5fbd0a435c0bda1793c6b667d927eab", func := "antiphon/antiphonlaw15.GridUsers", spec := "gridUsers", unfollowed := true, recurses := true, apart := false, narrowed := true }
def GridUsersUptoSaid : Prop := gridUsersUptoRow.holds Try.pinned (OpenSpec.upto gridUsersSpec)

/-- 'antiphonlaw15.GridTimers', WHERE WHAT IT READS IS OF BULK AT MOST 1048576: true; the input reads as it did. -/
def gridTimersUptoRow : OpenClaim := { program := "ytnafppdnapdbcaa", sum := "f6801699c850199a256b669e80ccbc76c5fbd0a435c0bda1793c6b667d927eab", func := "antiphon/antiphonlaw15.GridTimers", spec := "gridTimers", unfollowed := true, recurses := true, apart := false, narrowed := true }
def GridTimersUptoSaid : Prop := gridTimersUptoRow.holds Try.pinned (OpenSpec.upto gridTimersSpec)

end Rows
end Go.Proofs.Ytnafppdnapdbcaa
