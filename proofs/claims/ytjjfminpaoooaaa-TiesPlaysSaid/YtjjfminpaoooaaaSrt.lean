/-
  A row by key, as plain lists: where a key stands, whether it is there.
-/
import Derived.Test.YtjjfminpaoooaaaOrd
namespace Go.Proofs.Ytjjfminpaoooaaa
open Go.RowKit
set_option linter.unusedVariables false
section
variable {α : Type}
/-- By key, each key once. -/
def Srt (l : List (Ky × α)) : Prop := ∀ i j, (hi : i < l.length) → (hj : j < l.length) → i < j → ordK l[i].1 l[j].1 < 0
/-- How many stand ahead. -/
def pos (l : List (Ky × α)) (k : Ky) : Nat := (l.takeWhile (fun e => decide (ordK e.1 k < 0))).length
theorem pos_le (l : List (Ky × α)) (k : Ky) : pos l k ≤ l.length := by unfold pos; exact (List.takeWhile_prefix _).length_le
theorem pos_of {k : Ky} : ∀ {l : List (Ky × α)} {i : Nat}, i ≤ l.length → (∀ t, (h : t < l.length) → t < i → ordK l[t].1 k < 0) → (∀ t, (h : t < l.length) → i ≤ t → 0 ≤ ordK l[t].1 k) → pos l k = i
  | [], i, h, _, _ => by simp at h; subst h; rfl
  | e :: l, 0, _, _, h2 => by
    have := h2 0 (by simp) (Nat.le_refl _)
    simp at this
    unfold pos
    rw [List.takeWhile_cons_of_neg (by simp; omega)]
    rfl
  | e :: l, i + 1, h, h1, h2 => by
    have h0 := h1 0 (by simp) (by omega)
    simp at h0
    have ih := pos_of (k := k) (l := l) (i := i) (by simpa using h) (fun t ht hti => by have := h1 (t + 1) (by simpa using ht) (by omega); simpa using this) (fun t ht hti => by have := h2 (t + 1) (by simpa using ht) (by omega); simpa using this)
    unfold pos at ih ⊢
    rw [List.takeWhile_cons_of_pos (by simpa using h0), List.length_cons, ih]
theorem pos_lt {l : List (Ky × α)} {k : Ky} (hs : Srt l) : (∀ t, (h : t < l.length) → t < pos l k → ordK l[t].1 k < 0) ∧ (∀ t, (h : t < l.length) → pos l k ≤ t → 0 ≤ ordK l[t].1 k) := by
  have key : ∀ l : List (Ky × α), (∀ t, (h : t < l.length) → t < pos l k → ordK l[t].1 k < 0) ∧ (∀ h : pos l k < l.length, ¬ ordK l[pos l k].1 k < 0) := by
    intro l
    induction l with
    | nil => exact ⟨fun t h => by simp at h, fun h => by simp at h⟩
    | cons e l ih =>
      by_cases h0 : ordK e.1 k < 0
      · have hp : pos (e :: l) k = pos l k + 1 := by unfold pos; rw [List.takeWhile_cons_of_pos (by simpa using h0), List.length_cons]
        refine ⟨fun t h ht => ?_, fun h => ?_⟩
        · cases t with
          | zero => simpa using h0
          | succ t => have := ih.1 t (by simpa using h) (by omega); simpa using this
        · have := ih.2 (by rw [hp] at h; simpa using h)
          simp only [hp, List.getElem_cons_succ]
          exact this
      · have hp : pos (e :: l) k = 0 := by unfold pos; rw [List.takeWhile_cons_of_neg (by simpa using h0)]; rfl
        refine ⟨fun t h ht => by omega, fun h => ?_⟩
        simp only [hp, List.getElem_cons_zero]
        exact h0
  obtain ⟨h1, h2⟩ := key l
  refine ⟨h1, fun t h ht => ?_⟩
  have hp : pos l k < l.length := by omega
  have h3 := h2 hp
  by_cases e : pos l k = t
  · subst e; omega
  · by_cases hn : ordK l[t].1 k < 0
    · exact absurd (ordK_trans (hs _ _ hp h (by omega)) hn) h3
    · omega
/-- Is it there? -/
def fnd (l : List (Ky × α)) (k : Ky) : Bool := match l[pos l k]? with | some e => decide (ordK e.1 k = 0) | none => false
theorem fnd_of {l : List (Ky × α)} {k : Ky} (h : pos l k < l.length) : fnd l k = decide (ordK (l[pos l k]'h).1 k = 0) := by unfold fnd; rw [List.getElem?_eq_getElem h]
theorem fnd_no {l : List (Ky × α)} {k : Ky} (h : ¬ pos l k < l.length) : fnd l k = false := by unfold fnd; rw [List.getElem?_eq_none (by omega)]

end
end Go.Proofs.Ytjjfminpaoooaaa
