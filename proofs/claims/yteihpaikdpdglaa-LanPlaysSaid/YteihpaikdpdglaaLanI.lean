/-
  Package lan: Row, Spoil where there is nothing.
-/
import Derived.Test.YteihpaikdpdglaaLanH
namespace Go.Proofs.Yteihpaikdpdglaa
open Go.RowKit
set_option linter.unusedVariables false


theorem xrow {w0 w : World} {t st : Nat} {life lost : Int} {c : Nat} {most : Int} {l : List (List Int × Int)} {kr : List (Value × List Int)} (h : LnX w0 w t st life lost c most l kr) (hlen : ∀ p ∈ l, p.1.length ≤ 1000000) :
    Calls Try.prog 19 #[.pointer (some ⟨t, 0, none⟩), .int .i64 0, .int .i64 1] w fun e w' => ∃ ov fo, e = .returned ov ∧ Own enF 39 2 w.heap.size w' ov fo ∧ All2 (FlB w') fo l ∧ Below w.heap.size w w' ∧ LnX w0 w' t st life lost c most l kr := by
  obtain ⟨rv, ps, sv, fl, h1, h2, h3, h4⟩ := h.ex
  exact (rowW h1 h3 hlen).mono fun e w' ⟨ov, fo, he, ho, ha, hb⟩ => ⟨ov, fo, he, ho, ha, hb, h.below hb⟩

/-- The row from 1 to 0, of two stations. -/
theorem rowR {w : World} {t : Nat} {life lost : Int} {rv : Value} {ps : List Nat} {c : Nat} {most : Int} {sv : Value} {l : List Fl} (h : LnI w t 2 life lost rv ps c most sv l) :
    Calls Try.prog 31 #[.pointer (some ⟨t, 0, none⟩), .int .i64 1, .int .i64 0] w fun e w' => ∃ c2, e = .returned (.pointer (some ⟨c2, 0, none⟩)) ∧ IsF w' c2 most (.slice none 0 0) [] ∧ Below w.heap.size w w' := by
  obtain ⟨c2, o1, o2, o3⟩ := h.oth
  have hps : 2 < ps.length := by have := h.len; omega
  obtain ⟨g, cap, rfl, hg, hc1, hc2⟩ := own_some h.rows (by omega)
  have k0 : w.cell? ⟨t, 0, none⟩ = some (.int .i64 2) := blk_cell h.blk 0
  have k3 : w.cell? ⟨t, 3, none⟩ = some (.slice (some ⟨g, 0, none⟩) ps.length cap) := blk_cell h.blk 3
  have y1 : w.cell? ⟨g, 2, none⟩ = some (.pointer (some ⟨c2, 0, none⟩)) := by
    have := h.rows.cell enP_len 2 0 hps (by decide)
    rw [List.getElem?_eq_getElem hps] at o1
    injection o1 with o1
    rw [o1] at this
    simpa [enP] using this
  have hp1 : (2 : Int) < (ps.length : Int) := by omega
  have hq : Hid (IsF w c2 most (.slice none 0 0) []) := ⟨o3, Own.nil _ _ _ _ _, h.q.m0, by have := h.q.m0; simp; omega⟩
  have H := Lib.hid h
  clear h o1 o2 o3
  go_enter Try.func31, Try.ntmps31
  go_wp2_with fail
  refine (hasL H.out 1 (by decide)).mono ?_
  rintro e w' ⟨rfl, rfl⟩
  go_wp2_with fail
  refine (hasL H.out 0 (by decide)).mono ?_
  rintro e w' ⟨rfl, rfl⟩
  go_upto_region 3 with fail
  go_quiet (fail)
  go_wp2_with fail
  go_ret
  exact ⟨_, rfl, hq.out.below (below_drewN (Below.refl _ _) _), below_drewN (Below.refl _ _) _⟩
theorem xspoilNo {w0 w : World} {t : Nat} {life lost : Int} {c : Nat} {most : Int} {l : List (List Int × Int)} {kr : List (Value × List Int)} (h : LnX w0 w t 2 life lost c most l kr) (bit : Int) :
    Calls Try.prog 18 #[.pointer (some ⟨t, 0, none⟩), .int .i64 1, .int .i64 0, .int .i64 bit] w fun e w' => e = .returned (.bool false) ∧ LnX w0 w' t 2 life lost c most l kr := by
  obtain ⟨rv, ps, sv, fl, h1, h2, h3, h4⟩ := h.ex
  have H := Lib.hid h
  have H1 := Lib.hid h1
  clear h h1 h2 h3 h4
  go_enter Try.func18, Try.ntmps18
  go_wp2_with fail
  refine (rowR H1.out).mono ?_
  rintro e w1 ⟨c2, rfl, q1, b1⟩
  have Q1 := Lib.hid q1
  have B1 := Lib.hid b1
  clear q1 b1
  go_wp2_with fail
  refine (peekNoF w1 Q1.out).mono ?_
  rintro e w2 ⟨rfl, b2⟩
  have B2 := Lib.hid (B1.out.trans (b2.mono B1.out.size))
  clear b2
  go_wp2_with fail
  go_ret
  exact ⟨rfl, H.out.below (B2.out.alloc B2.out.size _)⟩
end Go.Proofs.Yteihpaikdpdglaa
