/-
  Package lan: what Age keeps; queue.Filter with it.
-/
import Derived.Test.YteihpaikdpdglaaGlF
import Derived.Test.YteihpaikdpdglaaGlP
import Derived.Deep.LoopGhost
import Derived.BigQuiet
namespace Go.Proofs.Yteihpaikdpdglaa
open Go.RowKit
set_option linter.unusedVariables false


set_option maxHeartbeats 2000000 in
theorem age1F (b t : Nat) (life : Int) (f : Fl) (w : World) (hb : w.cell? ⟨b, 0, none⟩ = some (.pointer (some ⟨t, 0, none⟩))) (ht : w.cell? ⟨t, 1, none⟩ = some (.int .i64 life)) :
    Calls Try.prog 43 #[fV f, .pointer (some ⟨b, 0, none⟩)] w fun e w' => e = .returned (.bool (decide (f.age ≤ life))) ∧ Below w.heap.size w w' := by
  obtain ⟨W, hW⟩ : ∃ W, W = w.alloc (.cells #[.slice f.a f.n f.c, .int .i64 f.age] 39) := ⟨_, rfl⟩
  have hbl : Below w.heap.size w W := by rw [hW]; exact (Below.refl _ w).alloc (Nat.le_refl _) _
  obtain ⟨q, hqq⟩ : ∃ q, q = w.heap.size := ⟨_, rfl⟩
  have hq : W.heap[q]? = some (.cells #[.slice f.a f.n f.c, .int .i64 f.age] 39 (0, 0)) := by rw [hW, hqq]; exact heap_alloc_new' w _
  have n1 : W.cell? ⟨q, 1, none⟩ = some (.int .i64 f.age) := blk_cell hq 1
  have nb : W.cell? ⟨b, 0, none⟩ = some (.pointer (some ⟨t, 0, none⟩)) := cellOn' hb hbl
  have nt : W.cell? ⟨t, 1, none⟩ = some (.int .i64 life) := cellOn' ht hbl
  have HB := Lib.hid hbl
  clear hb ht hq hbl
  obtain ⟨fa, fn, fc, fg⟩ := f
  dsimp only at n1 ⊢
  obtain ⟨x, hx⟩ : ∃ x, x = decide (fg ≤ life) := ⟨_, rfl⟩
  rw [← hx]
  have hx' := hx.symm
  clear hx
  go_enter Try.func43, Try.ntmps43
  go_upto_region 1 with fail
  rw [← hW, ← hqq]
  clear hW hqq
  go_quiet (fail)
  go_wp2_with fail
  go_ret
  exact ⟨rfl, below_drewN HB.out _⟩

/-- Those that are not too old. -/
def keepF (life : Int) (fl : List Fl) : List Fl := fl.filter (fun f => decide (f.age ≤ life))
theorem keepF_snoc {life : Int} {fl : List Fl} {j : Nat} (hj : j < fl.length) : keepF life (fl.take (j + 1)) = keepF life (fl.take j) ++ (if decide (fl[j].age ≤ life) then [fl[j]] else []) := by
  unfold keepF
  rw [List.take_succ_eq_append_getElem hj, List.filter_append]
  congr 1
  by_cases h : (decide (fl[j].age ≤ life)) = true <;> simp [h]
theorem keepF_le (life : Int) (fl : List Fl) : (keepF life fl).length ≤ fl.length := List.length_filter_le _ _

set_option maxHeartbeats 4000000 in
set_option maxRecDepth 100000 in
theorem filterF (life : Int) (b t c : Nat) (most : Int) (sv : Value) (fl : List Fl) (w : World) (h : IsF w c most sv fl) (hb : w.cell? ⟨b, 0, none⟩ = some (.pointer (some ⟨t, 0, none⟩))) (ht : w.cell? ⟨t, 1, none⟩ = some (.int .i64 life)) :
    Calls Try.prog 42 #[.pointer (some ⟨c, 0, none⟩), .func (.func 43) #[] #[.pointer (some ⟨b, 0, none⟩)]] w fun e w' => e = .returned (.int .i64 ((fl.length : Int) - ((keepF life fl).length : Int))) ∧ ∃ sv', IsF w' c most sv' (keepF life fl) ∧ Mv w sv sv' ∧ Fr (fun b => b = c) w w' := by
  obtain ⟨i0, hi0, hz0, hz1, hz2⟩ := info_parts infoF
  obtain ⟨a, cap, hsv, hcap, hmax, ha⟩ := own_shape h.own
  subst hsv
  have hl := h.len
  have c1 := h.cell1
  have hcl := lt_of_block h.blk
  have hsz : fl.length ≤ 9223372036854775807 := by omega
  obtain ⟨N, hN⟩ : ∃ N, N = fl.length := ⟨_, rfl⟩
  rw [← hN] at c1 hsz hcap ha hl ⊢
  have HN := Lib.hid hN
  have H := Lib.hid h
  have Hb := Lib.hid hb
  have Ht := Lib.hid ht
  have Ha := Lib.hid ha
  have ini : Hid (Below w.heap.size w w ∧ Own enF 39 2 w.heap.size w (.slice none 0 0) (keepF life (fl.take 0))) := ⟨Below.refl _ _, Own.nil _ _ _ _ _⟩
  clear h hb ht ha hN
  go_enter Try.func42, Try.ntmps42
  go_wp2_with fail
  go_loopg [5, 16] N (fun g s5 s16 wx => ∃ j : Nat, j ≤ N ∧ s16 = .int .i64 j ∧ g = N - j ∧ Hid (Below w.heap.size w wx ∧ Own enF 39 2 w.heap.size wx s5 (keepF life (fl.take j))))
  case atStart => exact ⟨0, Nat.zero_le _, rfl, rfl, ini⟩
  case round =>
    obtain ⟨j, hj, rfl, rfl, HR⟩ := hrel
    obtain ⟨la, lc, hlv, _⟩ := own_shape HR.out.2
    have Hw := Lib.hid (H.out.below HR.out.1)
    by_cases hlt : j < N
    · obtain ⟨g, rfl, hg⟩ := Ha.out (by omega)
      have hjf : j < fl.length := by rw [← HN.out]; exact hlt
      obtain ⟨p, hp⟩ : ∃ p, p = fl[j]'hjf := ⟨_, rfl⟩
      have x0 : wr.cell? ⟨g, j * 2, none⟩ = some (.slice p.a p.n p.c) := by rw [show j * 2 = j * 2 + 0 from rfl, Hw.out.own.cell enF_len j 0 hjf (by decide), ← hp]; rfl
      have x1 : wr.cell? ⟨g, j * 2 + 1, none⟩ = some (.int .i64 p.age) := by rw [Hw.out.own.cell enF_len j 1 hjf (by decide), ← hp]; rfl
      have HS := Lib.hid (keepF_snoc (life := life) hjf)
      rw [← hp] at HS
      have HP := Lib.hid hp
      clear hp
      obtain ⟨kl, hkl⟩ : ∃ kl, kl = keepF life (fl.take j) := ⟨_, rfl⟩
      have hkl2 : kl.length ≤ 100000 := by have := keepF_le life (fl.take j); rw [← hkl] at this; simp at this; omega
      rw [← hkl] at hlv HR HS
      clear hkl
      subst hlv
      obtain ⟨W9, hW9⟩ : ∃ W9, W9 = wr.alloc (.cells #[.slice p.a p.n p.c, .int .i64 p.age] 39) := ⟨_, rfl⟩
      have b9 : Below wr.heap.size wr W9 := by rw [hW9]; exact (Below.refl _ wr).alloc (Nat.le_refl _) _
      obtain ⟨q, hqq⟩ : ∃ q, q = wr.heap.size := ⟨_, rfl⟩
      have hq : W9.heap[q]? = some (.cells #[.slice p.a p.n p.c, .int .i64 p.age] 39 (0, 0)) := by rw [hW9, hqq]; exact heap_alloc_new' wr _
      have B9 := Lib.hid b9
      have n0 : W9.cell? ⟨q, 0, none⟩ = some (.slice p.a p.n p.c) := blk_cell hq 0
      have n1 : W9.cell? ⟨q, 1, none⟩ = some (.int .i64 p.age) := blk_cell hq 1
      have HQ9 := Lib.hid hq
      have A1 := Lib.hid (age1F b t life p W9 (cellOn' (cellOn' Hb.out HR.out.1) b9) (cellOn' (cellOn' Ht.out HR.out.1) b9))
      have HW9 := Lib.hid hW9
      have HQQ := Lib.hid hqq
      clear b9 hq hW9 hqq
      obtain ⟨x, hx⟩ : ∃ x, x = decide (p.age ≤ life) := ⟨_, rfl⟩
      rw [← hx] at HS A1
      clear hx
      cases x with
      | true =>
        go_wp2_with fail
        rw [← HW9.out, ← HQQ.out]
        refine A1.out.mono ?_
        rintro e w' ⟨rfl, b'⟩
        have hq' := (b'.block q (lt_of_block HQ9.out)).trans HQ9.out
        have m0 : w'.cell? ⟨q, 0, none⟩ = some (.slice p.a p.n p.c) := blk_cell hq' 0
        have m1 : w'.cell? ⟨q, 1, none⟩ = some (.int .i64 p.age) := blk_cell hq' 1
        have B' := Lib.hid (HR.out.1.trans ((B9.out.trans (b'.mono B9.out.size)).mono HR.out.1.size))
        have O' := Lib.hid (HR.out.2.keep (fun g hg => (B9.out.trans (b'.mono B9.out.size)).block g (own_lt HR.out.2 hg)))
        clear b' hq'
        go_wp2_with (at_builtin; refine held ?_)
        refine unheld ?_
        refine wpList_app (B := w.heap.size) (v := .slice la kl.length lc) (n := kl.length) rfl (.tmp 23) (.tmp 25) 36 rfl 39 i0 _ 2 _ Try.underlying36 hi0 hz0 hz1 hz2 rfl (by decide) (by have := B'.out.size; simp; omega) rfl rfl (by have := Own.fr O'.out ((Fr.refl no _).alloc (.cells #[.slice p.a p.n p.c, .int .i64 p.age] 39)) (fun _ _ e => e); unfold Own at this; exact this) (Rd.new rfl rfl) (enF_one p) (by unfold maxLen; omega) (by omega) ?_
        intro v5 w5 o5 f5 m5 n5 z5
        have fin : Hid (Below w.heap.size w w5 ∧ Own enF 39 2 w.heap.size w5 v5 (kl ++ [p])) := by
          refine ⟨B'.out.trans ((((Fr.refl _ w').alloc _).trans f5).below' B'.out.size (fun k hk => (O'.out.lt k hk).1)), ?_⟩
          exact Own.snoc (x := p) o5 rfl
        clear o5 f5 m5 n5 z5 m0 m1 n0 n1
        go_wp2_with fail
        go_roundg (N - (j + 1))
        case measure => omega
        case rel => exact ⟨j + 1, by omega, by go_num, rfl, by rw [HS.out]; exact fin⟩
      | false =>
        go_wp2_with fail
        rw [← HW9.out, ← HQQ.out]
        refine A1.out.mono ?_
        rintro e w' ⟨rfl, b'⟩
        have fin : Hid (Below w.heap.size w w' ∧ Own enF 39 2 w.heap.size w' (.slice la kl.length lc) kl) :=
          ⟨HR.out.1.trans ((B9.out.trans (b'.mono B9.out.size)).mono HR.out.1.size), HR.out.2.keep (fun g hg => (B9.out.trans (b'.mono B9.out.size)).block g (own_lt HR.out.2 hg))⟩
        clear b' n0 n1
        go_wp2_with fail
        go_roundg (N - (j + 1))
        case measure => omega
        case rel => exact ⟨j + 1, by omega, by go_num, rfl, by rw [HS.out]; simpa using fin⟩
    · obtain rfl : j = N := by omega
      rw [List.take_of_length_le (by rw [HN.out]; exact Nat.le_refl _)] at HR hlv
      obtain ⟨kl, hkl⟩ : ∃ kl, kl = keepF life fl := ⟨_, rfl⟩
      have hkl2 : kl.length ≤ j := by have := keepF_le life fl; rw [← hkl] at this; rw [HN.out]; omega
      rw [← hkl] at hlv HR
      have Hkl := Lib.hid hkl
      clear hkl
      subst hlv
      have k1 : wr.cell? ⟨c, 1, none⟩ = some (.slice a j cap) := by have := Hw.out.cell1; rw [← HN.out] at this; exact this
      have k2 : wr.frozen? ⟨c, 1, none⟩ = false := blk_free Hw.out.blk 1
      have hne : ¬ (Value.slice la kl.length lc).ownBlock = some c := fun e => by have := (HR.out.2.lt c e).1; omega
      have fin : Hid (IsF (wr.setCell ⟨c, 1, none⟩ (.slice la kl.length lc)) c most (.slice la kl.length lc) kl ∧ Mv w (.slice a fl.length cap) (.slice la kl.length lc) ∧ Fr (fun b => b = c) w (wr.setCell ⟨c, 1, none⟩ (.slice la kl.length lc))) := by
        refine ⟨⟨by have := set_heap_same Hw.out.blk (i := 1) (.slice la kl.length lc); simpa using this, ?_, Hw.out.m0, ?_⟩, fun g hg => .inr (HR.out.2.lt g hg).1, (Fr.of_below HR.out.1 (fun b => b = c)).setCell (p := ⟨c, 1, none⟩) (fun _ => rfl) _⟩
        · exact Own.fr (S := fun b => b = c) (own_zero HR.out.2) ((Fr.refl (fun b => b = c) _).setCell (fun _ => rfl) _) (fun g hg e => hne (by rw [hg, e]))
        · have := Hw.out.le; have h3 := HN.out; omega
      have hw1 : IntKind.i64.wrap ((j : Int) - (kl.length : Int)) = (j : Int) - (kl.length : Int) := by rw [IntKind.wrap_i64]; omega
      clear HR
      go_wp2_with fail
      go_ret
      rw [← Hkl.out]
      have hf := fin.out
      rw [← HN.out] at hf
      exact ⟨rfl, _, hf⟩
end Go.Proofs.Yteihpaikdpdglaa
