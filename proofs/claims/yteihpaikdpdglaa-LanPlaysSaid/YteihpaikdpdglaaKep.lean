/-
  Blocks that a law keeps beside what it works on.
-/
import Derived.Test.YteihpaikdpdglaaFoot
namespace Go.Proofs.Yteihpaikdpdglaa
open Go.RowKit
set_option linter.unusedVariables false

/-- Blocks that are kept: none of F, each as it was laid. -/
def Kept (w : World) (F : Nat → Prop) (kb : List (Nat × Obj)) : Prop := ∀ q ∈ kb, w.heap[q.1]? = some q.2 ∧ ¬ F q.1
theorem Kept.nil (w : World) (F : Nat → Prop) : Kept w F [] := fun q h => by cases h
theorem Kept.stp {w w' : World} {F F' : Nat → Prop} {kb : List (Nat × Obj)} (h : Kept w F kb) (s : Stp F F' w w') : Kept w' F' kb := fun q hq => by
  obtain ⟨h1, h2⟩ := h q hq
  have hlt := lt_of_block h1
  exact ⟨(s.fr.blk _ hlt h2).trans h1, fun e => (s.new _ e).elim h2 (fun x => by omega)⟩
theorem Kept.below {w w' : World} {F : Nat → Prop} {kb : List (Nat × Obj)} (h : Kept w F kb) (hb : Below w.heap.size w w') : Kept w' F kb := h.stp (Stp.of_below F hb)
theorem Kept.cons {w : World} {F : Nat → Prop} {kb : List (Nat × Obj)} {b : Nat} {o : Obj} (h : Kept w F kb) (hb : w.heap[b]? = some o) (hn : ¬ F b) : Kept w F ((b, o) :: kb) := fun q hq => by
  rcases List.mem_cons.1 hq with rfl | hq
  · exact ⟨hb, hn⟩
  · exact h q hq
theorem Kept.sub {w : World} {F : Nat → Prop} {kb kb' : List (Nat × Obj)} (h : Kept w F kb) (hs : ∀ q ∈ kb', q ∈ kb) : Kept w F kb' := fun q hq => h q (hs q hq)
theorem Kept.app {w : World} {F : Nat → Prop} {kb kb' : List (Nat × Obj)} (h : Kept w F kb) (h' : Kept w F kb') : Kept w F (kb ++ kb') := fun q hq => (List.mem_append.1 hq).elim (h q) (h' q)
/-- A slice that owns its row, as a kept block. -/
def rowOf (w : World) (v : Value) : List (Nat × Obj) := match v.ownBlock with | some g => (match w.heap[g]? with | some o => [(g, o)] | none => []) | none => []
theorem Kept.row {w : World} {F : Nat → Prop} {v : Value} (hn : ∀ g, v.ownBlock = some g → ¬ F g) : Kept w F (rowOf w v) := fun q hq => by
  unfold rowOf at hq
  split at hq
  · rename_i g hg
    split at hq
    · rename_i o ho
      simp at hq
      subst hq
      exact ⟨ho, hn g hg⟩
    · cases hq
  · cases hq
theorem rowOf_rd {α : Type} {enc : α → List Value} {e k : Nat} {w W : World} {B : Nat} {v : Value} {l : List α} (h : Own enc e k B w v l) (hk : ∀ q ∈ rowOf w v, W.heap[q.1]? = some q.2) : Own enc e k B W v l := own_of_block h (fun g hg => by
  obtain ⟨cur, hc⟩ := own_type h hg
  rw [hc]
  refine hk (g, _) ?_
  unfold rowOf
  rw [hg]
  simp only [hc]
  exact List.mem_singleton.2 rfl)
theorem set_heap_same {w : World} {b i : Nat} {cs : Array Value} {t : TypeId} {fr : Nat × Nat} (h : w.heap[b]? = some (.cells cs t fr)) (u : Value) : (w.setCell ⟨b, i, none⟩ u).heap[b]? = some (.cells (cs.setIfInBounds i u) t fr) := by
  simp only [World.setCell, Array.getElem?_modify]
  rw [if_pos trivial, h]
  rfl

end Go.Proofs.Yteihpaikdpdglaa
