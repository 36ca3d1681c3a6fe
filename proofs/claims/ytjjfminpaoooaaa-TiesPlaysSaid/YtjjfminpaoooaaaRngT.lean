/-
  What a round keeps: the rows to which no root refers, save the blocks of one type (a round's own variables).
-/
import Derived.Test.YtjjfminpaoooaaaRng
namespace Go.Proofs.Ytjjfminpaoooaaa
open Go.RowKit
set_option linter.unusedVariables false

structure KeepT (T : TypeId) (R : List Addr) (C0 : Nat) (W W' : World) : Prop where
  size : W.heap.size ≤ W'.heap.size
  same : ∀ k cs t fr, C0 ≤ k → t ≠ T → W.heap[k]? = some (.cells cs t fr) → NoRef R W k → W'.heap[k]? = some (.cells cs t fr) ∧ NoRef R W' k
section
variable {T : TypeId}
theorem keepT_t {R : List Addr} {C0 : Nat} {A B C : World} (h : KeepT T R C0 A B) (k : KeepT T R C0 B C) : KeepT T R C0 A C :=
  ⟨Nat.le_trans h.size k.size, fun i cs t fr hi ht hc hn => by
    obtain ⟨h1, h2⟩ := h.same i cs t fr hi ht hc hn
    exact k.same i cs t fr hi ht h1 h2⟩
theorem keepT_refl (R : List Addr) (C0 : Nat) (W : World) : KeepT T R C0 W W := ⟨Nat.le_refl _, fun _ _ _ _ _ _ h n => ⟨h, n⟩⟩
theorem keepT_b {R : List Addr} {w : World} (hR : ∀ a ∈ R, a.block < w.heap.size) (W : World) (l : Nat) (o o' : Obj) (hl : w.heap.size ≤ l) (h : W.heap[l]? = some o) (hc : o.isCells = false) (_ : o.isWalk = false) : KeepT T R w.heap.size W (W.putObj l o') := by
  refine ⟨by simp, fun k cs t fr hk _ hb hn => ?_⟩
  have hkl : k ≠ l := fun e => by subst e; rw [hb] at h; cases h; cases hc
  refine ⟨(World.putObj_heap_other hkl).trans hb, fun a ha cv hcv => hn a ha cv ?_⟩
  have hal : a.block ≠ l := by have := hR a ha; omega
  rw [← hcv]
  exact (World.cell?_of_block (World.putObj_heap_other hal)).symm
theorem keepT_fr {R : List Addr} {C0 : Nat} {S : Nat → Prop} {W W' : World} (hf : Fr S W W') (hT : ∀ k, S k → k < C0 ∨ ¬ NoRef R W k ∨ ∃ cs fr, W.heap[k]? = some (.cells cs T fr)) (hn : ∀ a ∈ R, ∀ cv, W'.cell? a = some cv → ∀ k, cv.ownBlock = some k → (∃ a' ∈ R, ∃ cv', W.cell? a' = some cv' ∧ cv'.ownBlock = some k) ∨ W.heap.size ≤ k) : KeepT T R C0 W W' :=
  ⟨hf.size, fun k cs t fr hk ht hb hnr => ⟨hf.heap hb (fun e => by
    rcases hT k e with q | q | ⟨cs', fr', q⟩
    · omega
    · exact q hnr
    · rw [hb] at q; cases q; exact ht rfl), fun a ha cv hcv e => by
    rcases hn a ha cv hcv k e with ⟨a', ha', cv', hc', e'⟩ | q
    · exact hnr a' ha' cv' hc' e'
    · have := lt_of_block hb; omega⟩⟩
end
end Go.Proofs.Ytjjfminpaoooaaa
