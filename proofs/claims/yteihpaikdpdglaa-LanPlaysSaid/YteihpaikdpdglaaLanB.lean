/-
  Package lan: a line in memory, at one of its rows, that from station 0 to station 1: has, row, Send, Lost.
-/
import Derived.Test.YteihpaikdpdglaaLanA
namespace Go.Proofs.Yteihpaikdpdglaa
open Go.RowKit
set_option linter.unusedVariables false


abbrev enP (n : Nat) : List Value := [.pointer (some ⟨n, 0, none⟩)]
theorem enP_len (n : Nat) : (enP n).length = 1 := rfl

/-- A line of st stations, at the row from 0 to 1, whose queue lies at c and holds l. -/
structure LnI (w : World) (t st : Nat) (life lost : Int) (rv : Value) (ps : List Nat) (c : Nat) (most : Int) (sv : Value) (l : List Fl) : Prop where
  blk : w.heap[t]? = some (.cells #[.int .i64 st, .int .i64 life, .int .i64 lost, rv] 69 (0, 0))
  rows : Own enP 70 1 0 w rv ps
  sts : 2 ≤ st ∧ st ≤ 16
  len : ps.length = st * st
  at' : ps[1]? = some c
  q : IsF w c most sv l
  oth : ∃ c2, ps[st]? = some c2 ∧ c2 ≠ c ∧ w.heap[c2]? = some (.cells #[.int .i64 most, .slice none 0 0] 88 (0, 0))
section
variable {w w' : World} {t st : Nat} {life lost : Int} {rv : Value} {ps : List Nat} {c : Nat} {most : Int} {sv : Value} {l : List Fl}
theorem LnI.below (h : LnI w t st life lost rv ps c most sv l) (hb : Below w.heap.size w w') : LnI w' t st life lost rv ps c most sv l :=
  ⟨(hb.block t (lt_of_block h.blk)).trans h.blk, h.rows.keep (fun g hg => hb.block g (own_lt h.rows hg)), h.sts, h.len, h.at', h.q.below hb, by obtain ⟨c2, h1, h2, h3⟩ := h.oth; exact ⟨c2, h1, h2, (hb.block _ (lt_of_block h3)).trans h3⟩⟩
end

theorem hasL {w : World} {t st : Nat} {life lost : Int} {rv : Value} {ps : List Nat} {c : Nat} {most : Int} {sv : Value} {l : List Fl} (h : LnI w t st life lost rv ps c most sv l) (n : Nat) (hn : n < 2) :
    Calls Try.prog 38 #[.pointer (some ⟨t, 0, none⟩), .int .i64 n] w fun e w' => e = .returned (.bool true) ∧ w' = w := by
  have k0 : w.cell? ⟨t, 0, none⟩ = some (.int .i64 st) := blk_cell h.blk 0
  have hst := h.sts.1
  have hd : decide ((n : Int) < (st : Int)) = true := decide_eq_true (by omega)
  have hd1 : decide (n < st) = true := decide_eq_true (by omega)
  have hd0 : decide ((0 : Int) ≤ (n : Int)) = true := decide_eq_true (by omega)
  clear h
  go_enter Try.func38, Try.ntmps38
  go_wp2_with fail
  go_ret
  exact ⟨rfl, rfl⟩
/-- The row from 0 to 1. -/
theorem rowL {w : World} {t st : Nat} {life lost : Int} {rv : Value} {ps : List Nat} {c : Nat} {most : Int} {sv : Value} {l : List Fl} (h : LnI w t st life lost rv ps c most sv l) :
    Calls Try.prog 31 #[.pointer (some ⟨t, 0, none⟩), .int .i64 0, .int .i64 1] w fun e w' => e = .returned (.pointer (some ⟨c, 0, none⟩)) ∧ Below w.heap.size w w' := by
  have hst := h.sts
  have hps : 1 < ps.length := by have := h.len; have := Nat.mul_le_mul hst.1 hst.1; omega
  obtain ⟨g, cap, rfl, hg, hc1, hc2⟩ := own_some h.rows (by omega)
  have k0 : w.cell? ⟨t, 0, none⟩ = some (.int .i64 st) := blk_cell h.blk 0
  have k3 : w.cell? ⟨t, 3, none⟩ = some (.slice (some ⟨g, 0, none⟩) ps.length cap) := blk_cell h.blk 3
  have y1 : w.cell? ⟨g, 1, none⟩ = some (.pointer (some ⟨c, 0, none⟩)) := by
    have := h.rows.cell enP_len 1 0 hps (by decide)
    have h2 := h.at'
    rw [List.getElem?_eq_getElem hps] at h2
    injection h2 with h2
    rw [h2] at this
    simpa [enP] using this
  have hp1 : (1 : Int) < (ps.length : Int) := by omega
  have H := Lib.hid h
  clear h
  go_enter Try.func31, Try.ntmps31
  go_wp2_with fail
  refine (hasL H.out 0 (by decide)).mono ?_
  rintro e w' ⟨rfl, rfl⟩
  go_wp2_with fail
  refine (hasL H.out 1 (by decide)).mono ?_
  rintro e w' ⟨rfl, rfl⟩
  go_upto_region 3 with fail
  go_quiet (fail)
  go_wp2_with fail
  go_ret
  exact ⟨rfl, below_drewN (Below.refl _ _) _⟩
/-- From 1 to 1 there is no row. -/
theorem rowNoL {w : World} {t st : Nat} {life lost : Int} {rv : Value} {ps : List Nat} {c : Nat} {most : Int} {sv : Value} {l : List Fl} (h : LnI w t st life lost rv ps c most sv l) :
    Calls Try.prog 31 #[.pointer (some ⟨t, 0, none⟩), .int .i64 1, .int .i64 1] w fun e w' => e = .returned (.pointer none) ∧ w' = w := by
  have H := Lib.hid h
  clear h
  go_enter Try.func31, Try.ntmps31
  go_wp2_with fail
  refine (hasL H.out 1 (by decide)).mono ?_
  rintro e w' ⟨rfl, rfl⟩
  go_wp2_with fail
  refine (hasL H.out 1 (by decide)).mono ?_
  rintro e w' ⟨rfl, rfl⟩
  go_wp2_with fail
  go_ret
  exact ⟨rfl, rfl⟩
theorem lostL {w : World} {t st : Nat} {life lost : Int} {rv : Value} {ps : List Nat} {c : Nat} {most : Int} {sv : Value} {l : List Fl} (h : LnI w t st life lost rv ps c most sv l) :
    Calls Try.prog 17 #[.pointer (some ⟨t, 0, none⟩)] w fun e w' => e = .returned (.int .i64 lost) ∧ w' = w := by
  have k2 : w.cell? ⟨t, 2, none⟩ = some (.int .i64 lost) := blk_cell h.blk 2
  clear h
  go_enter Try.func17, Try.ntmps17
  go_wp2_with fail
  go_ret
  exact ⟨rfl, rfl⟩
theorem sendNoL {w : World} {t st : Nat} {life lost : Int} {rv : Value} {ps : List Nat} {c : Nat} {most : Int} {sv : Value} {l : List Fl} (h : LnI w t st life lost rv ps c most sv l) (v : Value) (hv : ∃ a n k, v = .slice a n k) :
    Calls Try.prog 13 #[.pointer (some ⟨t, 0, none⟩), .int .i64 1, .int .i64 1, v] w fun e w' => e = .returned (.bool false) ∧ w' = w := by
  obtain ⟨a, n, k, rfl⟩ := hv
  have H := Lib.hid h
  clear h
  go_enter Try.func13, Try.ntmps13
  go_wp2_with fail
  refine (rowNoL H.out).mono ?_
  rintro e w' ⟨rfl, rfl⟩
  go_wp2_with fail
  go_ret
  exact ⟨rfl, rfl⟩
end Go.Proofs.Yteihpaikdpdglaa
