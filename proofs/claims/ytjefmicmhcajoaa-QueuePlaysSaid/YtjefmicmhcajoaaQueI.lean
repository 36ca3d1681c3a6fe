/-
  Package queue: a row of one-cell items: New, items, Len, Most, Peek, Insert at the end, Put, Cut, Take.
-/
import Derived.Test.YtjefmicmhcajoaaQueC
import Derived.Test.YtjefmicmhcajoaaRows
namespace Go.Proofs.Ytjefmicmhcajoaa
open Go.RowKit
set_option linter.unusedVariables false

/-- A row of items, and how many it may hold. -/
structure IsQI (w : World) (B c : Nat) (most : Int) (sv : Value) (l : List Value) : Prop where
  blk : w.heap[c]? = some (.cells #[.int .i64 most, sv] 66 (0, 0))
  ge : B ≤ c
  own : Own enQ 3 1 B w sv l
  m0 : 0 ≤ most
  m1 : most ≤ 9223372036854775807
  one : ∀ v ∈ l, v.oneCell' = true
  le : (l.length : Int) ≤ most

theorem IsQI.fr {w w' : World} {S : Nat → Prop} {B c : Nat} {most : Int} {sv : Value} {l : List Value} (h : IsQI w B c most sv l) (hf : Fr S w w') (h1 : ¬ S c) (h2 : ∀ g, sv.ownBlock = some g → ¬ S g) : IsQI w' B c most sv l :=
  ⟨hf.heap h.blk h1, h.ge, h.own.fr hf h2, h.m0, h.m1, h.one, h.le⟩
theorem IsQI.below {w w' : World} {B c : Nat} {most : Int} {sv : Value} {l : List Value} (h : IsQI w B c most sv l) (hb : Below w.heap.size w w') : IsQI w' B c most sv l :=
  h.fr (Fr.of_below hb no) (fun e => e) (fun _ _ e => e)
theorem IsQI.cell0 {w : World} {B c : Nat} {most : Int} {sv : Value} {l : List Value} (h : IsQI w B c most sv l) : w.cell? ⟨c, 0, none⟩ = some (.int .i64 most) := blk_cell h.blk 0
theorem IsQI.cell1 {w : World} {B c : Nat} {most : Int} {sv : Value} {l : List Value} (h : IsQI w B c most sv l) : w.cell? ⟨c, 1, none⟩ = some sv := blk_cell h.blk 1

theorem infoQI : (Try.prog.info? 3).map (fun i => (i.zero, i.size, i.bytes)) = some (some (.int .i64 0), 1, 8) := by kernel_rfl

theorem newQI (most : Int) (hm : most ≤ 9223372036854775807) (w : World) :
    Calls Try.prog 15 #[.int .i64 most] w fun e w' => e = .returned (.pointer (some ⟨w.heap.size, 0, none⟩)) ∧ IsQI w' w.heap.size w.heap.size (max most 0) (.slice none 0 0) [] ∧ Below w.heap.size w w' := by
  have fin : ∀ q : Int, q = max most 0 → Hid (IsQI (w.alloc (.cells #[.int .i64 q, .slice none 0 0] 66)) w.heap.size w.heap.size (max most 0) (.slice none 0 0) [] ∧ Below w.heap.size w (w.alloc (.cells #[.int .i64 q, .slice none 0 0] 66))) := fun q e => by
    subst e
    exact ⟨⟨heap_alloc_new' w _, Nat.le_refl _, Own.nil _ _ _ _ _, by omega, by omega, by simp, by simp; omega⟩, (Below.refl _ w).alloc (Nat.le_refl _) _⟩
  have Fin := Lib.hid fin
  clear fin
  by_cases h : most < 0
  · have F := Fin.out 0 (by omega)
    clear Fin
    go_enter Try.func15, Try.ntmps15
    go_wp2_with fail
    go_ret
    exact ⟨rfl, F.out⟩
  · have F := Fin.out most (by omega)
    have h2 : 0 ≤ most := by omega
    clear Fin h
    go_enter Try.func15, Try.ntmps15
    go_wp2_with fail
    go_ret
    exact ⟨rfl, F.out⟩

theorem itemsQI (c : Nat) (most : Int) (sv : Value) (l : List Value) (w : World) (B : Nat) (h : IsQI w B c most sv l) :
    Calls Try.prog 46 #[.pointer (some ⟨c, 0, none⟩)] w fun e w' => e = .returned sv ∧ w' = w := by
  obtain ⟨a, cap, rfl, _⟩ := own_shape h.own
  have c1 := h.cell1
  clear h
  go_enter Try.func46, Try.ntmps46
  go_wp2_with fail
  go_ret
  exact ⟨rfl, rfl⟩

theorem lenQI (c : Nat) (most : Int) (sv : Value) (l : List Value) (w : World) (B : Nat) (h : IsQI w B c most sv l) :
    Calls Try.prog 32 #[.pointer (some ⟨c, 0, none⟩)] w fun e w' => e = .returned (.int .i64 l.length) ∧ w' = w := by
  obtain ⟨a, cap, hv, _⟩ := own_shape h.own
  have H := Lib.hid h
  have Hv := Lib.hid hv
  clear h hv
  go_enter Try.func32, Try.ntmps32
  go_wp2_with fail
  refine (itemsQI c most sv l w B H.out).mono ?_
  rintro e w' ⟨rfl, rfl⟩
  rw [Hv.out]
  go_wp2_with fail
  go_ret
  exact ⟨rfl, rfl⟩

theorem mostQI (c : Nat) (most : Int) (sv : Value) (l : List Value) (w : World) (B : Nat) (h : IsQI w B c most sv l) :
    Calls Try.prog 18 #[.pointer (some ⟨c, 0, none⟩)] w fun e w' => e = .returned (.int .i64 most) ∧ w' = w := by
  have c0 := h.cell0
  clear h
  go_enter Try.func18, Try.ntmps18
  go_wp2_with fail
  go_ret
  exact ⟨rfl, rfl⟩

/-- slices.Insert behind the last item. -/
theorem insEndI (sv : Value) (l : List Value) (b : Nat) (x : Value) (w : World) (B : Nat) (hB : B ≤ w.heap.size) (hown : Own enQ 3 1 B w sv l) (hx : w.heap[b]? = some (.cells #[x] 3 (0, 0))) (h1 : x.oneCell' = true) (hl : l.length ≤ 100000) :
    Calls Try.prog 43 #[sv, .int .i64 l.length, .slice (some ⟨b, 0, none⟩) 1 1] w fun e w' => ∃ sv', e = .returned sv' ∧ Own enQ 3 1 B w' sv' (l ++ [x]) ∧ Fr (fun g => sv.ownBlock = some g) w w' ∧ Mv w sv sv' := by
  obtain ⟨i1, hi1, hz3, hz4, hz5⟩ := info_parts infoQI
  obtain ⟨a, cap, rfl, hc1, hc2, _⟩ := own_shape hown
  have hc3 : cap ≤ 9223372036854775807 := by unfold maxLen at hc2; omega
  have H := Lib.hid hown
  have Hx := Lib.hid hx
  have c0 : (0 : Int) ≤ (l.length : Int) := by omega
  have c1 : (l.length : Int) ≤ (cap : Int) := by omega
  clear hown hx
  go_enter Try.func43, Try.ntmps43
  by_cases hcap : cap = l.length
  · subst hcap
    go_wp2_with (at_builtin; refine held ?_)
    all_goals
      refine unheld ?_
      refine wpList_app (B := B) (v := .slice a l.length l.length) rfl (.tmp 23) (.tmp 24) 42 rfl 3 i1 _ 1 _ Try.underlying42 hi1 hz3 hz4 hz5 rfl (by decide) hB rfl rfl H.out (rd_one Hx.out) (by intro u hu; simp at hu; subst hu; exact h1) (by unfold maxLen; omega) (by omega) ?_
      intro v5 w5 o5 f5 m5 n5 z5
      have fin : Hid (Own enQ 3 1 B w5 v5 (l ++ [x]) ∧ Fr (fun g => (Value.slice a l.length l.length).ownBlock = some g) w w5 ∧ Mv w (.slice a l.length l.length) v5) := ⟨Own.snoc o5 rfl, f5, Mv.of m5⟩
      clear o5 f5 m5 n5 z5
      go_wp2_with fail
      go_ret
      exact ⟨_, rfl, fin.out⟩
  · go_wp2_with (at_builtin; refine held ?_)
    all_goals
      refine unheld ?_
      refine wpList_app (B := B) (v := .slice a l.length cap) rfl (.tmp 23) (.tmp 24) 42 rfl 3 i1 _ 1 _ Try.underlying42 hi1 hz3 hz4 hz5 rfl (by decide) hB rfl rfl H.out (rd_one Hx.out) (by intro u hu; simp at hu; subst hu; exact h1) (by unfold maxLen; omega) (by omega) ?_
      intro v5 w5 o5 f5 m5 n5 z5
      have fin : Hid (Own enQ 3 1 B w5 v5 (l ++ [x]) ∧ Fr (fun g => (Value.slice a l.length cap).ownBlock = some g) w w5 ∧ Mv w (.slice a l.length cap) v5) := ⟨Own.snoc o5 rfl, f5, Mv.of m5⟩
      clear o5 f5 m5 n5 z5
      go_wp2_with fail
      go_ret
      exact ⟨_, rfl, fin.out⟩

/-- Put where there is no room. -/
theorem insFullI (c : Nat) (most : Int) (sv : Value) (l : List Value) (i : Int) (x : Value) (w : World) (B : Nat) (h : IsQI w B c most sv l) (hf : most ≤ (l.length : Int)) :
    Calls Try.prog 28 #[.pointer (some ⟨c, 0, none⟩), .int .i64 i, x] w fun e w' => e = .returned (.bool false) ∧ Below w.heap.size w w' := by
  obtain ⟨a, cap, rfl, _⟩ := own_shape h.own
  have c0 := h.cell0
  have c1 := h.cell1
  have d1 : decide (most ≤ (l.length : Int)) = true := by simpa using hf
  clear h
  go_enter Try.func28, Try.ntmps28
  go_wp2_with fail
  go_quiet (fail)
  go_wp2_with fail
  go_ret
  exact ⟨rfl, below_drewN (Below.refl _ w) _⟩
end Go.Proofs.Ytjefmicmhcajoaa
