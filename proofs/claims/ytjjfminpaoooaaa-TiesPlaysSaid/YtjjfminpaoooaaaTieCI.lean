/-
  A table by key: Put, Del.
-/
import Derived.Test.YtjjfminpaoooaaaTieBI
import Derived.Test.YtjjfminpaoooaaaInsTI
import Derived.Test.YtjjfminpaoooaaaDelTI
namespace Go.Proofs.Ytjjfminpaoooaaa
open Go.RowKit
set_option linter.unusedVariables false

theorem flat_setI (l : List ItI) (i : Nat) (hi : i < l.length) (x : Int) : (l.flatMap enTI).set (i * 9 + 8) (Value.int .i64 x) = (l.set i (l[i].1, x)).flatMap enTI := by
  induction l generalizing i with
  | nil => simp at hi
  | cons e l ih =>
    cases i with
    | zero =>
      rw [List.flatMap_cons, List.set_cons_zero, List.flatMap_cons, List.set_append_left _ _ (by rw [enTI_len]; omega)]
      rfl
    | succ i =>
      rw [List.flatMap_cons, List.set_cons_succ, List.flatMap_cons, List.set_append_right _ _ (by rw [enTI_len]; omega), enTI_len, show (i + 1) * 9 + 8 - 9 = i * 9 + 8 by omega, ih i (by simpa using hi)]
      rfl
theorem own_setI {w : World} {B g n cap : Nat} {l : List ItI} (h : Own enTI 70 9 B w (.slice (some ⟨g, 0, none⟩) n cap) l) (i : Nat) (hi : i < l.length) (x : Int) : Own enTI 70 9 B (w.setCell ⟨g, i * 9 + 8, none⟩ (Value.int .i64 x)) (.slice (some ⟨g, 0, none⟩) n cap) (l.set i (l[i].1, x)) := by
  rcases h.2 with ⟨h0, _⟩ | ⟨g', cap', cur, h0, hBg, hg, hnc, hcm, hcs, htake⟩
  · simp at h0
  · simp at h0
    obtain ⟨rfl, rfl, rfl⟩ := h0
    refine ⟨by rw [flat_len enTI 9 enTI_len], .inr ⟨g, cap, cur.setIfInBounds (i * 9 + 8) (Value.int .i64 x), by simp, hBg, heap_setCell_same hg _, by simpa using hnc, hcm, by simp [hcs], ?_⟩⟩
    rw [Array.toList_setIfInBounds, List.take_set, List.length_set, htake, flat_setI l i hi x]

/-- slices.Insert behind the last item. -/
theorem insEndTI (sv : Value) (l : List ItI) (b : Nat) (x : ItI) (w : World) (B : Nat) (hB : B ≤ w.heap.size) (hown : Own enTI 70 9 B w sv l) (hx : w.heap[b]? = some (.cells (enTI x).toArray 70 (0, 0))) (hl : l.length ≤ 100000) :
    Calls Try.prog 30 #[sv, .int .i64 l.length, .slice (some ⟨b, 0, none⟩) 1 1] w fun e w' => ∃ sv', e = .returned sv' ∧ Own enTI 70 9 B w' sv' (l ++ [x]) ∧ Fr (fun g => sv.ownBlock = some g) w w' ∧ Mv w sv sv' := by
  obtain ⟨i1, hi1, hz3, hz4, hz5⟩ := info_parts infoTI
  obtain ⟨a, cap, rfl, hc1, hc2, _⟩ := own_shape hown
  have hc3 : cap ≤ 9223372036854775807 := by unfold maxLen at hc2; omega
  have H := Lib.hid hown
  have Hx : Hid (Rd w 9 (.slice (some ⟨b, 0, none⟩) 1 1) 1 (enTI x)) := ⟨rfl, _, _, rfl, fun e => (by cases e), fun ad e j u hu => by
    cases e
    rw [Addr.add_lit, Nat.zero_add, blk_cell hx]
    simpa using hu⟩
  have c0 : (0 : Int) ≤ (l.length : Int) := by omega
  have c1 : (l.length : Int) ≤ (cap : Int) := by omega
  clear hown hx
  go_enter Try.func30, Try.ntmps30
  by_cases hcap : cap = l.length
  · subst hcap
    go_wp2_with (at_builtin; refine held ?_)
    all_goals
      refine unheld ?_
      refine wpList_app (B := B) (v := .slice a l.length l.length) rfl (.tmp 23) (.tmp 24) 66 rfl 70 i1 _ 9 _ Try.underlying66 hi1 hz3 hz4 hz5 rfl (by decide) hB rfl rfl H.out Hx.out (enTI_one x) (by unfold maxLen; omega) (by omega) ?_
      intro v5 w5 o5 f5 m5 n5 z5
      have fin : Hid (Own enTI 70 9 B w5 v5 (l ++ [x]) ∧ Fr (fun g => (Value.slice a l.length l.length).ownBlock = some g) w w5 ∧ Mv w (.slice a l.length l.length) v5) := ⟨Own.snoc o5 rfl, f5, Mv.of m5⟩
      clear o5 f5 m5 n5 z5
      go_wp2_with fail
      go_ret
      exact ⟨_, rfl, fin.out⟩
  · go_wp2_with (at_builtin; refine held ?_)
    all_goals
      refine unheld ?_
      refine wpList_app (B := B) (v := .slice a l.length cap) rfl (.tmp 23) (.tmp 24) 66 rfl 70 i1 _ 9 _ Try.underlying66 hi1 hz3 hz4 hz5 rfl (by decide) hB rfl rfl H.out Hx.out (enTI_one x) (by unfold maxLen; omega) (by omega) ?_
      intro v5 w5 o5 f5 m5 n5 z5
      have fin : Hid (Own enTI 70 9 B w5 v5 (l ++ [x]) ∧ Fr (fun g => (Value.slice a l.length cap).ownBlock = some g) w w5 ∧ Mv w (.slice a l.length cap) v5) := ⟨Own.snoc o5 rfl, f5, Mv.of m5⟩
      clear o5 f5 m5 n5 z5
      go_wp2_with fail
      go_ret
      exact ⟨_, rfl, fin.out⟩
theorem flat_onesI (l : List ItI) : ∀ u ∈ l.flatMap enTI, u.oneCell' = true := fun u hu => by
  obtain ⟨x, _, hx⟩ := List.mem_flatMap.1 hu
  exact enTI_one x u hx
theorem tinsI (sv : Value) (l : List ItI) (b : Nat) (x : ItI) (i : Nat) (w : World) (hown : Own enTI 70 9 0 w sv l) (hx : w.heap[b]? = some (.cells (enTI x).toArray 70 (0, 0))) (hi : i ≤ l.length) (hl : l.length ≤ 100000) (hbg : ∀ g, sv.ownBlock = some g → b ≠ g) :
    Calls Try.prog 30 #[sv, .int .i64 i, .slice (some ⟨b, 0, none⟩) 1 1] w fun e w' => ∃ sv', e = .returned sv' ∧ Own enTI 70 9 0 w' sv' (l.take i ++ x :: l.drop i) ∧ Fr (fun g => sv.ownBlock = some g) w w' ∧ Mv w sv sv' := by
  by_cases hlt : i < l.length
  · obtain ⟨g, cap, rfl, hg⟩ := own_some hown (by omega)
    refine (insMidI l x g cap b i w 0 (Nat.zero_le _) hown hx (flat_onesI l) (enTI_one x) hlt hl (hbg g rfl)).mono ?_
    rintro e w' ⟨sv', rfl, h1, h2, h3⟩
    exact ⟨sv', rfl, h1, h2.mono (fun i _ e => by rw [e]; rfl), h3⟩
  · obtain rfl : i = l.length := by omega
    rw [List.take_of_length_le (Nat.le_refl _), List.drop_of_length_le (Nat.le_refl _)]
    exact insEndTI sv l b x w 0 (Nat.zero_le _) hown hx hl
end Go.Proofs.Ytjjfminpaoooaaa
