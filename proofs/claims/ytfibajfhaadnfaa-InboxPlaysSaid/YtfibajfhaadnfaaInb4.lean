/-
  Package inbox: Clear.
-/
import Derived.Test.YtfibajfhaadnfaaInb3
import Derived.Deep.RegionHeld3
namespace Go.Proofs.Ytfibajfhaadnfaa
open Go.RowKit
set_option linter.unusedVariables false


/-- Cut of all. -/
theorem cutAll (c : Nat) (most : Int) (sv : Value) (l : List Value) (w : World) (B : Nat) (hB : B ≤ w.heap.size) (h : IsQB w B c most sv l) (hl : l.length ≤ 100000) :
    Calls Try.prog 31 #[.pointer (some ⟨c, 0, none⟩), .int .i64 l.length] w fun e w' => e = .returned (.int .i64 l.length) ∧ ∃ sv', IsQB w' B c most sv' [] ∧ Mv w sv sv' ∧ Fr (fun b => b = c) w w' := by
  by_cases h0 : l.length = 0
  · have hl0 : l = [] := List.eq_nil_of_length_eq_zero h0
    subst hl0
    exact (cutNoB 0 c most sv [] w B h (by decide)).mono fun e w' ⟨he, hw⟩ => ⟨he, sv, by rw [hw]; exact h, Mv.refl _ _, by rw [hw]; exact Fr.refl _ _⟩
  · refine (cutYesB l.length l.length c most sv l w B hB h (by omega) (by omega) hl).mono fun e w' ⟨he, sv', hq, hm, hf⟩ => ⟨he, sv', ?_, hm, hf⟩
    rw [List.drop_length] at hq
    exact hq

set_option maxHeartbeats 2000000 in
theorem iclear (i c : Nat) (most : Int) (full : Bool) (sv : Value) (l : List Value) (w : World) (B : Nat) (hB : B ≤ w.heap.size) (h : IsIn w B i c most full sv l) (hl : l.length ≤ 100000) :
    Calls Try.prog 18 #[.pointer (some ⟨i, 0, none⟩)] w fun e w' => e = .returned (.int .i64 l.length) ∧ ∃ sv', IsIn w' B i c most false sv' [] ∧ Mv w sv sv' ∧ Fr (ftpI i c sv) w w' := by
  have H := Lib.hid h
  have i1 := h.c1
  have i1' : w.frozen? ⟨i, 1, none⟩ = false := blk_free h.blk 1
  clear h
  go_enter Try.func18, Try.ntmps18
  go_upto_region 4 with fail
  obtain ⟨W, hW⟩ : ∃ x, x = w.setCell ⟨i, 1, none⟩ (.bool false) := ⟨_, rfl⟩
  have H1 : Hid (IsIn W B i c most false sv l) := by subst hW; exact H.out.setFull false
  have F1 : Hid (Fr (ftpI i c sv) w W) := by subst hW; exact (Fr.refl _ w).setCell (p := ⟨i, 1, none⟩) (fun _ => .inl rfl) _
  have q0 := H1.out.c0
  have hs := F1.out.size
  rw [← hW]
  clear hW i1 i1'
  have q0' : W.drew.cell? ⟨i, 0, none⟩ = some (.pointer (some ⟨c, 0, none⟩)) := q0
  have H2 : Hid (IsIn W.drew B i c most false sv l) := H1.out.below ((Below.refl _ W).drew)
  have hB2 : B ≤ W.drew.heap.size := Nat.le_trans hB hs
  have F2 : Hid (Fr (ftpI i c sv) w W.drew) := F1.out.drew
  first
  | (go_region_held3 (fun w' => w'.cell? ⟨i, 0, none⟩ = some (.pointer (some ⟨c, 0, none⟩))) (first | assumption | go_keep | fail)
      (first
        | (go_at_call 24; refine (lenQB c most sv l _ B H2.out.q).mono ?_; rintro e w1 ⟨rfl, rfl⟩)
        | (go_at_call 31; refine (cutAll c most sv l _ B hB2 H2.out.q hl).mono ?_; rintro e w2 ⟨rfl, sv', hq, hm, hf⟩; have q1 := hf.cellN q0' (fun e => H1.out.ne (.inl e)); have F3 := Lib.hid hf; have Q3 := Lib.hid hq; have M3 := Lib.hid hm; clear hq hm hf)
        | fail))
  | fail "region"
  all_goals
    have fin : Hid (∃ sv', IsIn w2 B i c most false sv' [] ∧ Mv w sv sv' ∧ Fr (ftpI i c sv) w w2) :=
      ⟨sv', H2.out.row (F3.out.mono (fun _ _ e => .inl e)) Q3.out, fun g hg => (M3.out g hg).imp id (fun q => Nat.le_trans hs q), F2.out.trans' F3.out (fun _ _ e => e) (fun _ _ e => .inr (.inl e))⟩
    clear q0 q0' q1
    go_wp2_with fail
    go_ret
    exact ⟨rfl, fin.out⟩
end Go.Proofs.Ytfibajfhaadnfaa
