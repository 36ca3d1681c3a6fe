/-
  Layer 12: a key of the document's, as the program has it.
-/
import Derived.Test.YtjjfminpaoooaaaL12D
import Derived.Laws.Rows
namespace Go.Proofs.Ytjjfminpaoooaaa
open Go.RowKit
set_option linter.unusedVariables false


theorem kkey (k : Ky) (w : World) : Calls Try.prog 10 #[kyV k] w fun e w' => e = .returned (kyV k) ∧ Below w.heap.size w w' := by
  obtain ⟨a0, a1, a2, a3, a4, a5, a6, a7⟩ := k
  have hb : ∀ o o', ((w.alloc o).alloc o').heap[w.heap.size + 1]? = some o' := fun o o' => by
    have := heap_alloc_new' (w.alloc o) o'
    simpa using this
  have HB := Lib.hid hb
  clear hb
  go_enter Try.func10, Try.ntmps10
  go_wp2_with fail
  (try simp only [Exit.inBlock, Exit.then])
  refine bodyPost_ret (results_cell_row rfl _ _ (w.heap.size + 1) 28 _ (0, 0) _ rfl (HB.out _ _) Try.underlying28 rfl (by kernel_rfl)) rfl ?_
  exact ⟨rfl, ((Below.refl _ w).alloc (Nat.le_refl _) _).alloc (by simp) _⟩
end Go.Proofs.Ytjjfminpaoooaaa
