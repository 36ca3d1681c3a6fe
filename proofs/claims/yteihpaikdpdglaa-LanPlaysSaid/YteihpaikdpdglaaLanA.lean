/-
  Package lan: a line in memory, at one of its rows, that from station 0 to station 1: has, row, Send, Pass, Twice, Lost.
-/
import Derived.Test.YteihpaikdpdglaaFlyB
namespace Go.Proofs.Yteihpaikdpdglaa
open Go.RowKit
set_option linter.unusedVariables false


theorem putYesF {c : Nat} {most : Int} {sv : Value} {l : List Fl} (x : Fl) (w : World) (h : IsF w c most sv l) (hf : (l.length : Int) < most) :
    Calls Try.prog 32 #[.pointer (some ⟨c, 0, none⟩), fV x] w fun e w' => e = .returned (.bool true) ∧ ∃ sv', IsF w' c most sv' (l ++ [x]) ∧ Mv w sv sv' ∧ Fr (fun b => b = c ∨ sv.ownBlock = some b) w w' := by
  obtain ⟨W, hW⟩ : ∃ W, W = w.alloc (.cells #[.slice x.a x.n x.c, .int .i64 x.age] 39) := ⟨_, rfl⟩
  have hb : Below w.heap.size w W := by rw [hW]; exact (Below.refl _ w).alloc (Nat.le_refl _) _
  obtain ⟨q, hqq⟩ : ∃ q, q = w.heap.size := ⟨_, rfl⟩
  have hq : W.heap[q]? = some (.cells #[.slice x.a x.n x.c, .int .i64 x.age] 39 (0, 0)) := by rw [hW, hqq]; exact heap_alloc_new' w _
  have hw0 := h
  have h := (h.below hb).below (Below.refl _ W).drew
  have hqd : W.drew.heap[q]? = some (.cells #[.slice x.a x.n x.c, .int .i64 x.age] 39 (0, 0)) := hq
  have n0 : W.drew.cell? ⟨q, 0, none⟩ = some (.slice x.a x.n x.c) := blk_cell hqd 0
  have n1 : W.drew.cell? ⟨q, 1, none⟩ = some (.int .i64 x.age) := blk_cell hqd 1
  have H := Lib.hid h
  have HB := Lib.hid (hb.trans ((Below.refl _ W).drew.mono hb.size))
  have HQ := Lib.hid hqd
  have HF := Lib.hid hf
  have hnc : Hid (¬ (q = c ∨ sv.ownBlock = some q)) := by
    have h1 := lt_of_block hw0.blk
    rintro (e | e)
    · omega
    · have := own_lt hw0.own e; omega
  clear h hb hq hqd hf hw0
  go_enter Try.func32, Try.ntmps32
  go_upto_region 1 with fail
  rw [← hW, ← hqq]
  clear hW hqq
  go_region_held3 (fun w' => w'.cell? ⟨q, 0, none⟩ = some (.slice x.a x.n x.c) ∧ w'.cell? ⟨q, 1, none⟩ = some (.int .i64 x.age))
    (first | exact ⟨n0, n1⟩ | exact ⟨m0, m1⟩ | assumption)
    (first
      | (go_at_call 45; (with_reducible refine (lenF _ H.out).mono ?_); rintro e w' ⟨rfl, rfl⟩)
      | (go_at_call 35; (with_reducible refine (insF l.length x _ H.out HF.out (Nat.le_refl _)).mono ?_); rintro e w3 ⟨rfl, sv', h3, m3, f3⟩; have hq3 := f3.heap HQ.out hnc.out; have m0 : w3.cell? ⟨q, 0, none⟩ = some (.slice x.a x.n x.c) := blk_cell hq3 0; have m1 : w3.cell? ⟨q, 1, none⟩ = some (.int .i64 x.age) := blk_cell hq3 1; have H3 := Lib.hid h3; have M3 := Lib.hid m3; have F3 := Lib.hid f3; clear h3 m3 f3 hq3)
      | fail)
  all_goals
    try simp only [Act.put, List.setIfInBounds_toArray, List.set_cons_zero, List.set_cons_succ]
    clear m0 m1 n0 n1
    go_wp2_with fail
    go_ret
    refine ⟨rfl, sv', ?_, fun g hg => (M3.out g hg).imp id (fun e => Nat.le_trans HB.out.size e), (Fr.of_below HB.out _).trans' F3.out (fun _ _ e => e) (fun _ _ e => e)⟩
    have := H3.out
    rw [List.take_of_length_le (Nat.le_refl _), List.drop_of_length_le (Nat.le_refl _)] at this
    exact this
theorem putNoF {c : Nat} {most : Int} {sv : Value} {l : List Fl} (x : Fl) (w : World) (h : IsF w c most sv l) (hf : most ≤ (l.length : Int)) :
    Calls Try.prog 32 #[.pointer (some ⟨c, 0, none⟩), fV x] w fun e w' => e = .returned (.bool false) ∧ Below w.heap.size w w' := by
  obtain ⟨W, hW⟩ : ∃ W, W = w.alloc (.cells #[.slice x.a x.n x.c, .int .i64 x.age] 39) := ⟨_, rfl⟩
  have hb : Below w.heap.size w W := by rw [hW]; exact (Below.refl _ w).alloc (Nat.le_refl _) _
  obtain ⟨q, hqq⟩ : ∃ q, q = w.heap.size := ⟨_, rfl⟩
  have hq : W.heap[q]? = some (.cells #[.slice x.a x.n x.c, .int .i64 x.age] 39 (0, 0)) := by rw [hW, hqq]; exact heap_alloc_new' w _
  have h := (h.below hb).below (Below.refl _ W).drew
  have hqd : W.drew.heap[q]? = some (.cells #[.slice x.a x.n x.c, .int .i64 x.age] 39 (0, 0)) := hq
  have n0 : W.drew.cell? ⟨q, 0, none⟩ = some (.slice x.a x.n x.c) := blk_cell hqd 0
  have n1 : W.drew.cell? ⟨q, 1, none⟩ = some (.int .i64 x.age) := blk_cell hqd 1
  have H := Lib.hid h
  have HB := Lib.hid (hb.trans ((Below.refl _ W).drew.mono hb.size))
  have HQ := Lib.hid hqd
  have HF := Lib.hid hf
  clear h hb hq hqd hf
  go_enter Try.func32, Try.ntmps32
  go_upto_region 1 with fail
  rw [← hW, ← hqq]
  clear hW hqq
  go_region_held3 (fun w' => w'.cell? ⟨q, 0, none⟩ = some (.slice x.a x.n x.c) ∧ w'.cell? ⟨q, 1, none⟩ = some (.int .i64 x.age))
    (first | exact ⟨n0, n1⟩ | exact ⟨m0, m1⟩ | assumption)
    (first
      | (go_at_call 45; (with_reducible refine (lenF _ H.out).mono ?_); rintro e w' ⟨rfl, rfl⟩)
      | (go_at_call 35; (with_reducible refine (insFullF _ x _ H.out HF.out).mono ?_); rintro e w3 ⟨rfl, b3⟩; have hq3 := (b3.block q (lt_of_block HQ.out)).trans HQ.out; have m0 : w3.cell? ⟨q, 0, none⟩ = some (.slice x.a x.n x.c) := blk_cell hq3 0; have m1 : w3.cell? ⟨q, 1, none⟩ = some (.int .i64 x.age) := blk_cell hq3 1; have B3 := Lib.hid b3; clear b3 hq3)
      | fail)
  all_goals
    try simp only [Act.put, List.setIfInBounds_toArray, List.set_cons_zero, List.set_cons_succ]
    clear m0 m1 n0 n1
    go_wp2_with fail
    go_ret
    exact ⟨rfl, HB.out.trans (B3.out.mono HB.out.size)⟩
end Go.Proofs.Yteihpaikdpdglaa
