/-
  Frames on their way, two cells each; slices.Insert behind the last one.
-/
import Derived.Test.YteihpaikdpdglaaCpy
import Derived.Test.YteihpaikdpdglaaFoot
import Derived.Test.YteihpaikdpdglaaKep
import Derived.Test.YteihpaikdpdglaaRows
import Derived.Laws.Rows
import Derived.Laws.ResultCell
import Derived.Deep.DeepCutAuto
import Derived.Deep.CutBlock
namespace Go.Proofs.Yteihpaikdpdglaa
open Go.RowKit
set_option linter.unusedVariables false


/-- A frame on its way: its bytes' slice, its age. -/
structure Fl where
  a : Option Addr
  n : Nat
  c : Nat
  age : Int
abbrev Fl.v (f : Fl) : Value := .slice f.a f.n f.c
def enF (f : Fl) : List Value := [.slice f.a f.n f.c, .int .i64 f.age]
abbrev fV (f : Fl) : Value := .agg #[.slice f.a f.n f.c, .int .i64 f.age]
theorem enF_len (f : Fl) : (enF f).length = 2 := rfl
theorem enF_one (f : Fl) : ∀ u ∈ enF f, u.oneCell' = true := by intro u hu; simp [enF] at hu; rcases hu with rfl | rfl <;> rfl
theorem enF_ones (l : List Fl) : ∀ u ∈ l.flatMap enF, u.oneCell' = true := fun u hu => by
  obtain ⟨x, _, hx⟩ := List.mem_flatMap.1 hu
  exact enF_one x u hx
theorem infoF : (Try.prog.info? 39).map (fun i => (i.zero, i.size, i.bytes)) = some (some (.agg #[.slice none 0 0, .int .i64 0]), 2, 32) := by kernel_rfl

/-- slices.Insert behind the last item. -/
theorem insEndF (sv : Value) (l : List Fl) (b : Nat) (x : Fl) (w : World) (B : Nat) (hB : B ≤ w.heap.size) (hown : Own enF 39 2 B w sv l) (hx : w.heap[b]? = some (.cells (enF x).toArray 39 (0, 0))) (hl : l.length ≤ 100000) :
    Calls Try.prog 55 #[sv, .int .i64 l.length, .slice (some ⟨b, 0, none⟩) 1 1] w fun e w' => ∃ sv', e = .returned sv' ∧ Own enF 39 2 B w' sv' (l ++ [x]) ∧ Fr (fun g => sv.ownBlock = some g) w w' ∧ Mv w sv sv' := by
  obtain ⟨i1, hi1, hz3, hz4, hz5⟩ := info_parts infoF
  obtain ⟨a, cap, rfl, hc1, hc2, _⟩ := own_shape hown
  have hc3 : cap ≤ 9223372036854775807 := by unfold maxLen at hc2; omega
  have H := Lib.hid hown
  have Hx : Hid (Rd w 2 (.slice (some ⟨b, 0, none⟩) 1 1) 1 (enF x)) := ⟨rfl, _, _, rfl, fun e => (by cases e), fun ad e j u hu => by
    cases e
    rw [Addr.add_lit, Nat.zero_add, blk_cell hx]
    simpa using hu⟩
  have c0 : (0 : Int) ≤ (l.length : Int) := by omega
  have c1 : (l.length : Int) ≤ (cap : Int) := by omega
  clear hown hx
  go_enter Try.func55, Try.ntmps55
  by_cases hcap : cap = l.length
  · subst hcap
    go_wp2_with (at_builtin; refine held ?_)
    all_goals
      refine unheld ?_
      refine wpList_app (B := B) (v := .slice a l.length l.length) rfl (.tmp 23) (.tmp 24) 36 rfl 39 i1 _ 2 _ Try.underlying36 hi1 hz3 hz4 hz5 rfl (by decide) hB rfl rfl H.out Hx.out (enF_one x) (by unfold maxLen; omega) (by omega) ?_
      intro v5 w5 o5 f5 m5 n5 z5
      have fin : Hid (Own enF 39 2 B w5 v5 (l ++ [x]) ∧ Fr (fun g => (Value.slice a l.length l.length).ownBlock = some g) w w5 ∧ Mv w (.slice a l.length l.length) v5) := ⟨Own.snoc o5 rfl, f5, Mv.of m5⟩
      clear o5 f5 m5 n5 z5
      go_wp2_with fail
      go_ret
      exact ⟨_, rfl, fin.out⟩
  · go_wp2_with (at_builtin; refine held ?_)
    all_goals
      refine unheld ?_
      refine wpList_app (B := B) (v := .slice a l.length cap) rfl (.tmp 23) (.tmp 24) 36 rfl 39 i1 _ 2 _ Try.underlying36 hi1 hz3 hz4 hz5 rfl (by decide) hB rfl rfl H.out Hx.out (enF_one x) (by unfold maxLen; omega) (by omega) ?_
      intro v5 w5 o5 f5 m5 n5 z5
      have fin : Hid (Own enF 39 2 B w5 v5 (l ++ [x]) ∧ Fr (fun g => (Value.slice a l.length cap).ownBlock = some g) w w5 ∧ Mv w (.slice a l.length cap) v5) := ⟨Own.snoc o5 rfl, f5, Mv.of m5⟩
      clear o5 f5 m5 n5 z5
      go_wp2_with fail
      go_ret
      exact ⟨_, rfl, fin.out⟩

end Go.Proofs.Yteihpaikdpdglaa
