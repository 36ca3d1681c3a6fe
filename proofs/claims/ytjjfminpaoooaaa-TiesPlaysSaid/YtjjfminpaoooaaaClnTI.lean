/-
  slices.Clone at an owned slice: the same elements, in memory of the call's own.
-/
import Derived.Test.YtjjfminpaoooaaaDelTI
namespace Go.Proofs.Ytjjfminpaoooaaa
open Go.RowKit

theorem cloneNil45 (w : World) : Calls Try.prog 45 #[.slice none 0 0] w fun e w' => e = .returned (.slice none 0 0) ∧ Below w.heap.size w w' := by
  have hq := fun (w : World) => Lib.run_eql_slice_nil (P := Try.prog) w 66 70 none 0 0 0 0 Try.underlying66
  go_enter Try.func45, Try.ntmps45
  go_wp2
  go_ret
  exact ⟨rfl, Below.refl _ _⟩

set_option maxHeartbeats 1000000 in
theorem clone45 {α : Type} (enc : α → List Value) (h1 : ∀ x, ∀ u ∈ enc x, u.oneCell' = true) (w : World) (B : Nat) (sv : Value) (l : List α) (hown : Own enc 70 9 B w sv l) (hsz : l.length ≤ 1000000) :
    Calls Try.prog 45 #[sv] w fun e w' => ∃ v', e = .returned v' ∧ Own enc 70 9 w.heap.size w' v' l ∧ Below w.heap.size w w' := by
  obtain ⟨i0, hi0, hz0, hz1, hz2⟩ := info_parts info70
  rcases own_cases hown with ⟨rfl, hl0, _⟩ | ⟨g, cap, rfl, hg, hcap, hmax⟩
  · have hl : l = [] := List.eq_nil_of_length_eq_zero hl0
    subst hl
    exact (cloneNil45 w).mono fun e w' ⟨he, hb⟩ => ⟨_, he, Own.nil _ _ _ _ _, hb⟩
  · have Ho := Lib.hid hown
    have H1 : Hid (∀ u ∈ l.flatMap enc, u.oneCell' = true) := fun u hu => by
      obtain ⟨x, _, hx⟩ := List.mem_flatMap.1 hu
      exact h1 x u hx
    clear hown
    have hnew : (w.alloc (.cells #[] 70)).ownsRow w.heap.size 70 9 (.slice (some ⟨w.heap.size, 0, none⟩) 0 0) 0 [] := by
      have := own_new w w.heap.size 70 9 (Nat.le_refl _) [] #[] 0 0 (by simp) (Nat.le_refl _) (Nat.zero_le _) (by simp)
      simpa using this
    have Hn := Lib.hid hnew
    clear hnew
    have hq := fun (w : World) => Lib.run_eql_slice_nil (P := Try.prog) w 66 70 (some ⟨g, 0, none⟩) l.length cap 0 0 Try.underlying66
    go_enter Try.func45, Try.ntmps45
    go_wp2_with (at_builtin; refine held ?_)
    refine unheld ?_
    refine wpList_app (B := w.heap.size) (v := .slice (some ⟨w.heap.size, 0, none⟩) 0 0) (m := l.length) rfl (.tmp 5) (.tmp 6) 66 rfl 70 i0 _ 9 _ Try.underlying66 hi0 hz0 hz1 hz2 rfl (by decide) (by simp) rfl rfl Hn.out (Ho.out.fr ((Fr.refl no w).alloc _) (fun _ _ e => e)).rd H1.out (by unfold maxLen; omega) (by omega) ?_
    intro v5 w5 o5 f5 m5 n5 z5
    have hb5 : Below w.heap.size w w5 := ((Below.refl _ w).alloc (Nat.le_refl _) _).trans (f5.below' (by simp) (fun k hk => by simp [Value.ownBlock] at hk; omega))
    have O5 := Lib.hid o5
    clear o5 n5 m5 f5
    go_wp2_with fail
    go_ret
    refine ⟨v5, rfl, ?_, hb5⟩
    unfold Own
    simpa using O5.out
end Go.Proofs.Ytjjfminpaoooaaa
