/-
  Layer 21: the law's Config and result.
-/
import Derived.Test.YtkmeklbmjdbifaaOnr6
namespace Go.Proofs.Ytkmeklbmjdbifaa
open Go.RowKit
set_option linter.unusedVariables false


theorem lcfg (c : Cf) (w : World) : Calls Try.prog 10 #[.agg #[.int .i64 c.tries, .int .i64 c.ack, .int .i64 c.quiet]] w fun e w' => e = .returned (.agg #[.int .i64 c.tries, .int .i64 c.ack, .int .i64 c.quiet]) ∧ Below w.heap.size w w' := by
  have hres : Try.f10.results = #[.cell 2 28] := by kernel_rfl
  go_enter Try.func10, Try.ntmps10
  go_wp2_with fail
  refine bodyPost_ret (v := .agg #[.int .i64 c.tries, .int .i64 c.ack, .int .i64 c.quiet]) ?_ rfl ?_
  · simp only [results, hres]
    go_simp
  · exact ⟨rfl, ((Below.refl _ w).alloc (Nat.le_refl _) _).alloc (by simp) _⟩
theorem lres (ov : Bool) (st : Int) (a : Option Addr) (n k : Nat) (w : World) : Calls Try.prog 19 #[resV ov st (.slice a n k)] w fun e w' => e = .returned (resV ov st (.slice a n k)) ∧ Below w.heap.size w w' := by
  have hres : Try.f19.results = #[.cell 2 56] := by kernel_rfl
  go_enter Try.func19, Try.ntmps19
  go_wp2_with fail
  refine bodyPost_ret (v := resV ov st (.slice a n k)) ?_ rfl ?_
  · simp only [results, hres]
    go_simp
  · exact ⟨rfl, ((Below.refl _ w).alloc (Nat.le_refl _) _).alloc (by simp) _⟩
end Go.Proofs.Ytkmeklbmjdbifaa
