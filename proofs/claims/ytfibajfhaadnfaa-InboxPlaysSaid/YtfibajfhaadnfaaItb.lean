/-
  Rows of items that own their bytes.
-/
import Derived.Test.YtfibajfhaadnfaaByt
import Derived.Test.YtfibajfhaadnfaaFoot
namespace Go.Proofs.Ytfibajfhaadnfaa
open Go.RowKit
set_option linter.unusedVariables false

/-- Each item reads as its row of bytes. -/
def ItemsB (w : World) (l : List Value) (bs : List (List Int)) : Prop := l.length = bs.length ∧ ∀ (j : Nat) v b, l[j]? = some v → bs[j]? = some b → OwnB 0 w v b
theorem ItemsB.nil (w : World) : ItemsB w [] [] := ⟨rfl, fun j v b hv => by simp at hv⟩
theorem ItemsB.snoc {w : World} {l : List Value} {bs : List (List Int)} {v : Value} {b : List Int} (h : ItemsB w l bs) (o : OwnB 0 w v b) : ItemsB w (l ++ [v]) (bs ++ [b]) :=
  ⟨by simp [h.1], fun j u x hu hx => by
    by_cases hj : j < l.length
    · rw [List.getElem?_append_left hj] at hu
      rw [List.getElem?_append_left (by rw [← h.1]; exact hj)] at hx
      exact h.2 j u x hu hx
    · rw [List.getElem?_append_right (by omega)] at hu
      rw [List.getElem?_append_right (by rw [← h.1]; omega), ← h.1] at hx
      obtain ⟨h1, h2⟩ := List.getElem?_eq_some_iff.1 hu
      obtain ⟨h3, h4⟩ := List.getElem?_eq_some_iff.1 hx
      simp at h1 h2 h3 h4
      subst h2 h4
      exact o⟩
theorem ItemsB.keep {w w' : World} {l : List Value} {bs : List (List Int)} (h : ItemsB w l bs) (hk : ∀ v ∈ l, ∀ g, v.ownBlock = some g → w'.heap[g]? = w.heap[g]?) : ItemsB w' l bs :=
  ⟨h.1, fun j v b hv hb => Own.keep (h.2 j v b hv hb) (hk v (List.mem_of_getElem? hv))⟩
theorem ItemsB.tail {w : World} {v : Value} {l : List Value} {b : List Int} {bs : List (List Int)} (h : ItemsB w (v :: l) (b :: bs)) : ItemsB w l bs :=
  ⟨by simpa using h.1, fun j u x hu hx => h.2 (j + 1) u x (by simpa using hu) (by simpa using hx)⟩
theorem ItemsB.head {w : World} {v : Value} {l : List Value} {b : List Int} {bs : List (List Int)} (h : ItemsB w (v :: l) (b :: bs)) : OwnB 0 w v b := h.2 0 v b rfl rfl
theorem ItemsB.cons' {w : World} {l : List Value} {b : List Int} {bs : List (List Int)} (h : ItemsB w l (b :: bs)) : ∃ v r, l = v :: r ∧ OwnB 0 w v b ∧ ItemsB w r bs := by
  cases l with
  | nil => have := h.1; simp at this
  | cons v r => exact ⟨v, r, rfl, h.head, h.tail⟩
theorem ItemsB.lt {w : World} {l : List Value} {bs : List (List Int)} (h : ItemsB w l bs) {v : Value} (hv : v ∈ l) {g : Nat} (hg : v.ownBlock = some g) : g < w.heap.size := by
  obtain ⟨j, hj⟩ := List.getElem?_of_mem hv
  have hj' := (List.getElem?_eq_some_iff.1 hj).1
  have hb : bs[j]? = some (bs[j]'(by rw [← h.1]; exact hj')) := List.getElem?_eq_getElem _
  exact ((h.2 j v _ hj hb).lt g hg).2
theorem ItemsB.type {w : World} {l : List Value} {bs : List (List Int)} (h : ItemsB w l bs) {v : Value} (hv : v ∈ l) {g : Nat} (hg : v.ownBlock = some g) : ∃ b, OwnB 0 w v b := by
  obtain ⟨j, hj⟩ := List.getElem?_of_mem hv
  have hj' := (List.getElem?_eq_some_iff.1 hj).1
  have hb : bs[j]? = some (bs[j]'(by rw [← h.1]; exact hj')) := List.getElem?_eq_getElem _
  exact ⟨_, h.2 j v _ hj hb⟩

theorem ItemsB.one {w : World} {l : List Value} {bs : List (List Int)} (h : ItemsB w l bs) : ∀ v ∈ l, v.oneCell' = true := fun v hv => by
  obtain ⟨j, hj⟩ := List.getElem?_of_mem hv
  have hj' := (List.getElem?_eq_some_iff.1 hj).1
  have hb : bs[j]? = some (bs[j]'(by rw [← h.1]; exact hj')) := List.getElem?_eq_getElem _
  obtain ⟨a, c, rfl, _⟩ := own_shape (h.2 j v _ hj hb)
  rfl
end Go.Proofs.Ytfibajfhaadnfaa
