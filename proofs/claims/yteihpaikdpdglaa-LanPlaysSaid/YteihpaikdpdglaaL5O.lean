/-
  Layer 5: the law's do: a deed, of both. (Printed by gL5O.py.)
-/
import Derived.Test.YteihpaikdpdglaaL5N
namespace Go.Proofs.Yteihpaikdpdglaa
open Go.RowKit
set_option linter.unusedVariables false


def doP (st : Nat) (most life : Int) (d : De) (S : LS) : LS :=
  if d.dw ≤ 2 then (sendP st most d.fr d.tg d.b S).2
  else if d.dw = 3 then (putP st most d.fr d.b S).2
  else if d.dw ≤ 6 then (passP st d.fr d.tg S).2
  else if d.dw = 7 then (dropP st d.fr d.tg S).2
  else if d.dw = 8 then (twiceP st most d.fr d.tg S).2
  else if d.dw = 9 then (spoilP st d.fr d.tg d.bit S).2
  else if d.dw = 10 then (oldP life S).2
  else (cutP st d.fr S).2
section
variable {w0 w : World} {kb : List (Nat × Obj)} {t r st : Nat} {life most : Int} {S : LS}
set_option maxRecDepth 100000 in
set_option maxHeartbeats 8000000 in
theorem ddo (h : DX w0 w kb t r st life most S S) (d : De) (hok : d.ok w0) (hb : d.b.length ≤ 200) (hlo : 0 ≤ S.2 ∧ S.2 ≤ 900000000) :
    Calls Try.prog 27 #[.pointer (some ⟨t, 0, none⟩), .pointer (some ⟨r, 0, none⟩), .agg #[.int .i64 d.dw, .int .i64 d.fr, .int .i64 d.tg, .int .i64 d.bit, .slice d.a d.n d.c]] w fun e w' => e = .returned (.bool true) ∧ DX w0 w' kb t r st life most (doP st most life d S) (doP st most life d S) := by
  obtain ⟨ddw, dfr, dtg, dbit, da, dn, dc, db⟩ := d
  dsimp only at hb ⊢
  have hlo2 : 0 ≤ S.2 ∧ S.2 ≤ 1000000000 := ⟨hlo.1, by omega⟩
  obtain ⟨wd, hwd⟩ : ∃ wd, wd = w.alloc (.cells #[.int .i64 ddw, .int .i64 dfr, .int .i64 dtg, .int .i64 dbit, .slice da dn dc] 51) := ⟨_, rfl⟩
  have hbd : Below w.heap.size w wd := by rw [hwd]; exact (Below.refl _ w).alloc (Nat.le_refl _) _
  obtain ⟨q, hqq⟩ : ∃ q, q = w.heap.size := ⟨_, rfl⟩
  have hq : wd.heap[q]? = some (.cells #[.int .i64 ddw, .int .i64 dfr, .int .i64 dtg, .int .i64 dbit, .slice da dn dc] 51 (0, 0)) := by rw [hwd, hqq]; exact heap_alloc_new' w _
  have HD := Lib.hid (h.keepNew hbd hq (by rw [hqq]; exact Nat.le_refl _))
  have DOK := Lib.hid hok
  have HB := Lib.hid hb
  have HLO := Lib.hid hlo
  have HLO2 := Lib.hid hlo2
  have hst := h.sts
  clear h hq hbd hok hb hlo hlo2
  subst hqq
  by_cases c2 : ddw ≤ 2
  · have d0 : decide (ddw ≤ 2) = true := decide_eq_true c2
    obtain ⟨P, hP⟩ : ∃ P, P = sendP st most dfr dtg db S := ⟨_, rfl⟩
    have hdo : doP st most life ⟨ddw, dfr, dtg, dbit, da, dn, dc, db⟩ S = P.2 := by
      unfold doP
      dsimp only
      rw [if_pos c2]
      rw [hP]
    rw [hdo]
    have C1 := dsend HD.out (.slice da dn dc) db (DOK.out.below HD.out.bel).rd (by have := HB.out; omega) DOK.out.byte HLO2.out dfr dtg
    rw [← hP] at C1
    have HC1 := Lib.hid C1
    have HP := Lib.hid hP
    clear C1 hP hdo
    go_enter Try.func27, Try.ntmps27
    go_wp2_with fail
    rw [← hwd]
    refine HC1.out.mono ?_
    rintro e w3 ⟨rfl, h3⟩
    have C2 := esend h3 (.slice da dn dc) db (DOK.out.below h3.bel).rd (by have := HB.out; omega) DOK.out.byte HLO2.out dfr dtg
    rw [← HP.out] at C2
    have HC2 := Lib.hid C2
    have H3 := Lib.hid h3
    clear h3 C2
    have k0 : w3.cell? ⟨w.heap.size, 0, none⟩ = some (.int .i64 ddw) := blk_cell (H3.out.kept (List.mem_cons_self ..)) 0
    have k1 : w3.cell? ⟨w.heap.size, 1, none⟩ = some (.int .i64 dfr) := blk_cell (H3.out.kept (List.mem_cons_self ..)) 1
    have k2 : w3.cell? ⟨w.heap.size, 2, none⟩ = some (.int .i64 dtg) := blk_cell (H3.out.kept (List.mem_cons_self ..)) 2
    have k3 : w3.cell? ⟨w.heap.size, 3, none⟩ = some (.int .i64 dbit) := blk_cell (H3.out.kept (List.mem_cons_self ..)) 3
    have k4 : w3.cell? ⟨w.heap.size, 4, none⟩ = some (.slice da dn dc) := blk_cell (H3.out.kept (List.mem_cons_self ..)) 4
    have hq3 : w.heap.size < w3.heap.size := World.block_lt_of_cell? _ _ k0
    go_wp2_with fail
    refine HC2.out.mono ?_
    rintro e w4 ⟨rfl, h4⟩
    have H4 := Lib.hid h4
    clear h4 k0 k1 k2 k3 k4 hq3
    go_wp2_with fail
    go_ret
    exact ⟨rfl, H4.out.sub (fun q hq => List.mem_cons_of_mem _ hq)⟩
  by_cases c3 : ddw = 3
  · subst c3
    obtain ⟨P, hP⟩ : ∃ P, P = putP st most dfr db S := ⟨_, rfl⟩
    have hdo : doP st most life ⟨3, dfr, dtg, dbit, da, dn, dc, db⟩ S = P.2 := by
      unfold doP
      dsimp only
      rw [if_neg (by decide), if_pos rfl]
      rw [hP]
    rw [hdo]
    have C1 := dput HD.out (.slice da dn dc) db (DOK.out.below HD.out.bel).rd (fun h9 a n c e => by have hr := DOK.out.rd; obtain ⟨b', o', c', hv, hlt, _⟩ := Rd.some hr (by have := DOK.out.len; dsimp only at this h9 ⊢; omega) (by decide); dsimp only at hv; rw [e] at hv; simp at hv; rw [hv.1]; exact hlt) (fun a n c e => by cases e; exact DOK.out.cap) (by have := HB.out; omega) DOK.out.byte HLO.out dfr
    rw [← hP] at C1
    have HC1 := Lib.hid C1
    have HP := Lib.hid hP
    clear C1 hP hdo
    go_enter Try.func27, Try.ntmps27
    go_wp2_with fail
    rw [← hwd]
    refine HC1.out.mono ?_
    rintro e w3 ⟨rfl, h3⟩
    have C2 := eput h3 (.slice da dn dc) db (DOK.out.below h3.bel).rd (fun h9 a n c e => by have hr := DOK.out.rd; obtain ⟨b', o', c', hv, hlt, _⟩ := Rd.some hr (by have := DOK.out.len; dsimp only at this h9 ⊢; omega) (by decide); dsimp only at hv; rw [e] at hv; simp at hv; rw [hv.1]; exact hlt) (fun a n c e => by cases e; exact DOK.out.cap) (by have := HB.out; omega) DOK.out.byte HLO.out dfr
    rw [← HP.out] at C2
    have HC2 := Lib.hid C2
    have H3 := Lib.hid h3
    clear h3 C2
    have k0 : w3.cell? ⟨w.heap.size, 0, none⟩ = some (.int .i64 3) := blk_cell (H3.out.kept (List.mem_cons_self ..)) 0
    have k1 : w3.cell? ⟨w.heap.size, 1, none⟩ = some (.int .i64 dfr) := blk_cell (H3.out.kept (List.mem_cons_self ..)) 1
    have k2 : w3.cell? ⟨w.heap.size, 2, none⟩ = some (.int .i64 dtg) := blk_cell (H3.out.kept (List.mem_cons_self ..)) 2
    have k3 : w3.cell? ⟨w.heap.size, 3, none⟩ = some (.int .i64 dbit) := blk_cell (H3.out.kept (List.mem_cons_self ..)) 3
    have k4 : w3.cell? ⟨w.heap.size, 4, none⟩ = some (.slice da dn dc) := blk_cell (H3.out.kept (List.mem_cons_self ..)) 4
    have hq3 : w.heap.size < w3.heap.size := World.block_lt_of_cell? _ _ k0
    go_wp2_with fail
    refine HC2.out.mono ?_
    rintro e w4 ⟨rfl, h4⟩
    have H4 := Lib.hid h4
    clear h4 k0 k1 k2 k3 k4 hq3
    go_wp2_with fail
    go_ret
    exact ⟨rfl, H4.out.sub (fun q hq => List.mem_cons_of_mem _ hq)⟩
  by_cases c4 : ddw = 4
  · subst c4
    obtain ⟨P, hP⟩ : ∃ P, P = passP st dfr dtg S := ⟨_, rfl⟩
    have hdo : doP st most life ⟨4, dfr, dtg, dbit, da, dn, dc, db⟩ S = P.2 := by
      unfold doP
      dsimp only
      rw [if_neg (by decide), if_neg (by decide), if_pos (by decide)]
      rw [hP]
    rw [hdo]
    have C1 := dpass HD.out dfr dtg
    rw [← hP] at C1
    have HC1 := Lib.hid C1
    have HP := Lib.hid hP
    have hpl : (P.1.getD []).length ≤ 1000 := by
      rw [hP]
      unfold passP
      cases hk : rix st dfr dtg with
      | none => simp
      | some k =>
        have := (HD.out.rowOk dfr dtg).2
        unfold rowP at this
        rw [hk] at this
        dsimp only at this ⊢
        cases hl : rowAt S k with
        | nil => simp
        | cons p l => rw [hl] at this; exact this p (List.mem_cons_self ..)
    have HPL := Lib.hid hpl
    clear C1 hP hdo hpl
    go_enter Try.func27, Try.ntmps27
    go_wp2_with fail
    rw [← hwd]
    refine HC1.out.mono ?_
    rintro e w3 ⟨va, vn, vk, rfl, h3⟩
    have C2 := epass h3 dfr dtg
    rw [← HP.out] at C2
    have HC2 := Lib.hid C2
    have H3 := Lib.hid h3.dx
    clear h3 C2
    have k0 : w3.cell? ⟨w.heap.size, 0, none⟩ = some (.int .i64 4) := blk_cell (H3.out.kept (List.mem_cons_self ..)) 0
    have k1 : w3.cell? ⟨w.heap.size, 1, none⟩ = some (.int .i64 dfr) := blk_cell (H3.out.kept (List.mem_cons_self ..)) 1
    have k2 : w3.cell? ⟨w.heap.size, 2, none⟩ = some (.int .i64 dtg) := blk_cell (H3.out.kept (List.mem_cons_self ..)) 2
    have k3 : w3.cell? ⟨w.heap.size, 3, none⟩ = some (.int .i64 dbit) := blk_cell (H3.out.kept (List.mem_cons_self ..)) 3
    have k4 : w3.cell? ⟨w.heap.size, 4, none⟩ = some (.slice da dn dc) := blk_cell (H3.out.kept (List.mem_cons_self ..)) 4
    have hq3 : w.heap.size < w3.heap.size := World.block_lt_of_cell? _ _ k0
    go_wp2_with fail
    refine HC2.out.mono ?_
    rintro e w4 ⟨va', vn', vk', rfl, r1, r2, h4⟩
    have H4 := Lib.hid h4
    have R1 := Lib.hid r1
    have R2 := Lib.hid r2
    clear h4 r1 r2 k0 k1 k2 k3 k4 hq3
    have hpp : (P.1.isSome == P.1.isSome) = true := by simp
    go_wp2_with fail
    refine (sameSelf _ _ _ _ R2.out R1.out (by have := HPL.out; omega)).mono ?_
    rintro e w5 ⟨rfl, b5⟩
    have H5 := Lib.hid (H4.out.below b5)
    clear b5
    go_wp2_with fail
    go_ret
    exact ⟨rfl, H5.out.sub (fun q hq => List.mem_cons_of_mem _ hq)⟩
  by_cases c5 : ddw = 5
  · subst c5
    obtain ⟨P, hP⟩ : ∃ P, P = passP st dfr dtg S := ⟨_, rfl⟩
    have hdo : doP st most life ⟨5, dfr, dtg, dbit, da, dn, dc, db⟩ S = P.2 := by
      unfold doP
      dsimp only
      rw [if_neg (by decide), if_neg (by decide), if_pos (by decide)]
      rw [hP]
    rw [hdo]
    have C1 := dpass HD.out dfr dtg
    rw [← hP] at C1
    have HC1 := Lib.hid C1
    have HP := Lib.hid hP
    have hpl : (P.1.getD []).length ≤ 1000 := by
      rw [hP]
      unfold passP
      cases hk : rix st dfr dtg with
      | none => simp
      | some k =>
        have := (HD.out.rowOk dfr dtg).2
        unfold rowP at this
        rw [hk] at this
        dsimp only at this ⊢
        cases hl : rowAt S k with
        | nil => simp
        | cons p l => rw [hl] at this; exact this p (List.mem_cons_self ..)
    have HPL := Lib.hid hpl
    clear C1 hP hdo hpl
    go_enter Try.func27, Try.ntmps27
    go_wp2_with fail
    rw [← hwd]
    refine HC1.out.mono ?_
    rintro e w3 ⟨va, vn, vk, rfl, h3⟩
    have C2 := epass h3 dfr dtg
    rw [← HP.out] at C2
    have HC2 := Lib.hid C2
    have H3 := Lib.hid h3.dx
    clear h3 C2
    have k0 : w3.cell? ⟨w.heap.size, 0, none⟩ = some (.int .i64 5) := blk_cell (H3.out.kept (List.mem_cons_self ..)) 0
    have k1 : w3.cell? ⟨w.heap.size, 1, none⟩ = some (.int .i64 dfr) := blk_cell (H3.out.kept (List.mem_cons_self ..)) 1
    have k2 : w3.cell? ⟨w.heap.size, 2, none⟩ = some (.int .i64 dtg) := blk_cell (H3.out.kept (List.mem_cons_self ..)) 2
    have k3 : w3.cell? ⟨w.heap.size, 3, none⟩ = some (.int .i64 dbit) := blk_cell (H3.out.kept (List.mem_cons_self ..)) 3
    have k4 : w3.cell? ⟨w.heap.size, 4, none⟩ = some (.slice da dn dc) := blk_cell (H3.out.kept (List.mem_cons_self ..)) 4
    have hq3 : w.heap.size < w3.heap.size := World.block_lt_of_cell? _ _ k0
    go_wp2_with fail
    refine HC2.out.mono ?_
    rintro e w4 ⟨va', vn', vk', rfl, r1, r2, h4⟩
    have H4 := Lib.hid h4
    have R1 := Lib.hid r1
    have R2 := Lib.hid r2
    clear h4 r1 r2 k0 k1 k2 k3 k4 hq3
    have hpp : (P.1.isSome == P.1.isSome) = true := by simp
    go_wp2_with fail
    refine (sameSelf _ _ _ _ R2.out R1.out (by have := HPL.out; omega)).mono ?_
    rintro e w5 ⟨rfl, b5⟩
    have H5 := Lib.hid (H4.out.below b5)
    clear b5
    go_wp2_with fail
    go_ret
    exact ⟨rfl, H5.out.sub (fun q hq => List.mem_cons_of_mem _ hq)⟩
  by_cases c6 : ddw = 6
  · subst c6
    obtain ⟨P, hP⟩ : ∃ P, P = passP st dfr dtg S := ⟨_, rfl⟩
    have hdo : doP st most life ⟨6, dfr, dtg, dbit, da, dn, dc, db⟩ S = P.2 := by
      unfold doP
      dsimp only
      rw [if_neg (by decide), if_neg (by decide), if_pos (by decide)]
      rw [hP]
    rw [hdo]
    have C1 := dpass HD.out dfr dtg
    rw [← hP] at C1
    have HC1 := Lib.hid C1
    have HP := Lib.hid hP
    have hpl : (P.1.getD []).length ≤ 1000 := by
      rw [hP]
      unfold passP
      cases hk : rix st dfr dtg with
      | none => simp
      | some k =>
        have := (HD.out.rowOk dfr dtg).2
        unfold rowP at this
        rw [hk] at this
        dsimp only at this ⊢
        cases hl : rowAt S k with
        | nil => simp
        | cons p l => rw [hl] at this; exact this p (List.mem_cons_self ..)
    have HPL := Lib.hid hpl
    clear C1 hP hdo hpl
    go_enter Try.func27, Try.ntmps27
    go_wp2_with fail
    rw [← hwd]
    refine HC1.out.mono ?_
    rintro e w3 ⟨va, vn, vk, rfl, h3⟩
    have C2 := epass h3 dfr dtg
    rw [← HP.out] at C2
    have HC2 := Lib.hid C2
    have H3 := Lib.hid h3.dx
    clear h3 C2
    have k0 : w3.cell? ⟨w.heap.size, 0, none⟩ = some (.int .i64 6) := blk_cell (H3.out.kept (List.mem_cons_self ..)) 0
    have k1 : w3.cell? ⟨w.heap.size, 1, none⟩ = some (.int .i64 dfr) := blk_cell (H3.out.kept (List.mem_cons_self ..)) 1
    have k2 : w3.cell? ⟨w.heap.size, 2, none⟩ = some (.int .i64 dtg) := blk_cell (H3.out.kept (List.mem_cons_self ..)) 2
    have k3 : w3.cell? ⟨w.heap.size, 3, none⟩ = some (.int .i64 dbit) := blk_cell (H3.out.kept (List.mem_cons_self ..)) 3
    have k4 : w3.cell? ⟨w.heap.size, 4, none⟩ = some (.slice da dn dc) := blk_cell (H3.out.kept (List.mem_cons_self ..)) 4
    have hq3 : w.heap.size < w3.heap.size := World.block_lt_of_cell? _ _ k0
    go_wp2_with fail
    refine HC2.out.mono ?_
    rintro e w4 ⟨va', vn', vk', rfl, r1, r2, h4⟩
    have H4 := Lib.hid h4
    have R1 := Lib.hid r1
    have R2 := Lib.hid r2
    clear h4 r1 r2 k0 k1 k2 k3 k4 hq3
    have hpp : (P.1.isSome == P.1.isSome) = true := by simp
    go_wp2_with fail
    refine (sameSelf _ _ _ _ R2.out R1.out (by have := HPL.out; omega)).mono ?_
    rintro e w5 ⟨rfl, b5⟩
    have H5 := Lib.hid (H4.out.below b5)
    clear b5
    go_wp2_with fail
    go_ret
    exact ⟨rfl, H5.out.sub (fun q hq => List.mem_cons_of_mem _ hq)⟩
  by_cases c7 : ddw = 7
  · subst c7
    obtain ⟨P, hP⟩ : ∃ P, P = dropP st dfr dtg S := ⟨_, rfl⟩
    have hdo : doP st most life ⟨7, dfr, dtg, dbit, da, dn, dc, db⟩ S = P.2 := by
      unfold doP
      dsimp only
      rw [if_neg (by decide), if_neg (by decide), if_neg (by decide), if_pos rfl]
      rw [hP]
    rw [hdo]
    have C1 := ddrop HD.out HLO2.out dfr dtg
    rw [← hP] at C1
    have HC1 := Lib.hid C1
    have HP := Lib.hid hP
    clear C1 hP hdo
    go_enter Try.func27, Try.ntmps27
    go_wp2_with fail
    rw [← hwd]
    refine HC1.out.mono ?_
    rintro e w3 ⟨rfl, h3⟩
    have C2 := edrop h3 HLO2.out dfr dtg
    rw [← HP.out] at C2
    have HC2 := Lib.hid C2
    have H3 := Lib.hid h3
    clear h3 C2
    have k0 : w3.cell? ⟨w.heap.size, 0, none⟩ = some (.int .i64 7) := blk_cell (H3.out.kept (List.mem_cons_self ..)) 0
    have k1 : w3.cell? ⟨w.heap.size, 1, none⟩ = some (.int .i64 dfr) := blk_cell (H3.out.kept (List.mem_cons_self ..)) 1
    have k2 : w3.cell? ⟨w.heap.size, 2, none⟩ = some (.int .i64 dtg) := blk_cell (H3.out.kept (List.mem_cons_self ..)) 2
    have k3 : w3.cell? ⟨w.heap.size, 3, none⟩ = some (.int .i64 dbit) := blk_cell (H3.out.kept (List.mem_cons_self ..)) 3
    have k4 : w3.cell? ⟨w.heap.size, 4, none⟩ = some (.slice da dn dc) := blk_cell (H3.out.kept (List.mem_cons_self ..)) 4
    have hq3 : w.heap.size < w3.heap.size := World.block_lt_of_cell? _ _ k0
    go_wp2_with fail
    refine HC2.out.mono ?_
    rintro e w4 ⟨rfl, h4⟩
    have H4 := Lib.hid h4
    clear h4 k0 k1 k2 k3 k4 hq3
    go_wp2_with fail
    go_ret
    exact ⟨rfl, H4.out.sub (fun q hq => List.mem_cons_of_mem _ hq)⟩
  by_cases c8 : ddw = 8
  · subst c8
    obtain ⟨P, hP⟩ : ∃ P, P = twiceP st most dfr dtg S := ⟨_, rfl⟩
    have hdo : doP st most life ⟨8, dfr, dtg, dbit, da, dn, dc, db⟩ S = P.2 := by
      unfold doP
      dsimp only
      rw [if_neg (by decide), if_neg (by decide), if_neg (by decide), if_neg (by decide), if_pos rfl]
      rw [hP]
    rw [hdo]
    have C1 := dtwice HD.out dfr dtg
    rw [← hP] at C1
    have HC1 := Lib.hid C1
    have HP := Lib.hid hP
    clear C1 hP hdo
    go_enter Try.func27, Try.ntmps27
    go_wp2_with fail
    rw [← hwd]
    refine HC1.out.mono ?_
    rintro e w3 ⟨rfl, h3⟩
    have C2 := etwice h3 dfr dtg
    rw [← HP.out] at C2
    have HC2 := Lib.hid C2
    have H3 := Lib.hid h3
    clear h3 C2
    have k0 : w3.cell? ⟨w.heap.size, 0, none⟩ = some (.int .i64 8) := blk_cell (H3.out.kept (List.mem_cons_self ..)) 0
    have k1 : w3.cell? ⟨w.heap.size, 1, none⟩ = some (.int .i64 dfr) := blk_cell (H3.out.kept (List.mem_cons_self ..)) 1
    have k2 : w3.cell? ⟨w.heap.size, 2, none⟩ = some (.int .i64 dtg) := blk_cell (H3.out.kept (List.mem_cons_self ..)) 2
    have k3 : w3.cell? ⟨w.heap.size, 3, none⟩ = some (.int .i64 dbit) := blk_cell (H3.out.kept (List.mem_cons_self ..)) 3
    have k4 : w3.cell? ⟨w.heap.size, 4, none⟩ = some (.slice da dn dc) := blk_cell (H3.out.kept (List.mem_cons_self ..)) 4
    have hq3 : w.heap.size < w3.heap.size := World.block_lt_of_cell? _ _ k0
    go_wp2_with fail
    refine HC2.out.mono ?_
    rintro e w4 ⟨rfl, h4⟩
    have H4 := Lib.hid h4
    clear h4 k0 k1 k2 k3 k4 hq3
    go_wp2_with fail
    go_ret
    exact ⟨rfl, H4.out.sub (fun q hq => List.mem_cons_of_mem _ hq)⟩
  by_cases c9 : ddw = 9
  · subst c9
    obtain ⟨P, hP⟩ : ∃ P, P = spoilP st dfr dtg dbit S := ⟨_, rfl⟩
    have hdo : doP st most life ⟨9, dfr, dtg, dbit, da, dn, dc, db⟩ S = P.2 := by
      unfold doP
      dsimp only
      rw [if_neg (by decide), if_neg (by decide), if_neg (by decide), if_neg (by decide), if_neg (by decide), if_pos rfl]
      rw [hP]
    rw [hdo]
    have C1 := dspoil HD.out dfr dtg dbit
    rw [← hP] at C1
    have HC1 := Lib.hid C1
    have HP := Lib.hid hP
    clear C1 hP hdo
    go_enter Try.func27, Try.ntmps27
    go_wp2_with fail
    rw [← hwd]
    refine HC1.out.mono ?_
    rintro e w3 ⟨rfl, h3⟩
    have C2 := espoil h3 dfr dtg dbit
    rw [← HP.out] at C2
    have HC2 := Lib.hid C2
    have H3 := Lib.hid h3
    clear h3 C2
    have k0 : w3.cell? ⟨w.heap.size, 0, none⟩ = some (.int .i64 9) := blk_cell (H3.out.kept (List.mem_cons_self ..)) 0
    have k1 : w3.cell? ⟨w.heap.size, 1, none⟩ = some (.int .i64 dfr) := blk_cell (H3.out.kept (List.mem_cons_self ..)) 1
    have k2 : w3.cell? ⟨w.heap.size, 2, none⟩ = some (.int .i64 dtg) := blk_cell (H3.out.kept (List.mem_cons_self ..)) 2
    have k3 : w3.cell? ⟨w.heap.size, 3, none⟩ = some (.int .i64 dbit) := blk_cell (H3.out.kept (List.mem_cons_self ..)) 3
    have k4 : w3.cell? ⟨w.heap.size, 4, none⟩ = some (.slice da dn dc) := blk_cell (H3.out.kept (List.mem_cons_self ..)) 4
    have hq3 : w.heap.size < w3.heap.size := World.block_lt_of_cell? _ _ k0
    go_wp2_with fail
    refine HC2.out.mono ?_
    rintro e w4 ⟨rfl, h4⟩
    have H4 := Lib.hid h4
    clear h4 k0 k1 k2 k3 k4 hq3
    go_wp2_with fail
    go_ret
    exact ⟨rfl, H4.out.sub (fun q hq => List.mem_cons_of_mem _ hq)⟩
  by_cases c10 : ddw = 10
  · subst c10
    obtain ⟨P, hP⟩ : ∃ P, P = oldP life S := ⟨_, rfl⟩
    have hdo : doP st most life ⟨10, dfr, dtg, dbit, da, dn, dc, db⟩ S = P.2 := by
      unfold doP
      dsimp only
      rw [if_neg (by decide), if_neg (by decide), if_neg (by decide), if_neg (by decide), if_neg (by decide), if_neg (by decide), if_pos rfl]
      rw [hP]
    rw [hdo]
    have C1 := dage HD.out HLO2.out
    rw [← hP] at C1
    have HC1 := Lib.hid C1
    have HP := Lib.hid hP
    clear C1 hP hdo
    go_enter Try.func27, Try.ntmps27
    go_wp2_with fail
    rw [← hwd]
    refine HC1.out.mono ?_
    rintro e w3 ⟨rfl, h3⟩
    have C2 := eage h3 HLO2.out
    rw [← HP.out] at C2
    have HC2 := Lib.hid C2
    have H3 := Lib.hid h3
    clear h3 C2
    have k0 : w3.cell? ⟨w.heap.size, 0, none⟩ = some (.int .i64 10) := blk_cell (H3.out.kept (List.mem_cons_self ..)) 0
    have k1 : w3.cell? ⟨w.heap.size, 1, none⟩ = some (.int .i64 dfr) := blk_cell (H3.out.kept (List.mem_cons_self ..)) 1
    have k2 : w3.cell? ⟨w.heap.size, 2, none⟩ = some (.int .i64 dtg) := blk_cell (H3.out.kept (List.mem_cons_self ..)) 2
    have k3 : w3.cell? ⟨w.heap.size, 3, none⟩ = some (.int .i64 dbit) := blk_cell (H3.out.kept (List.mem_cons_self ..)) 3
    have k4 : w3.cell? ⟨w.heap.size, 4, none⟩ = some (.slice da dn dc) := blk_cell (H3.out.kept (List.mem_cons_self ..)) 4
    have hq3 : w.heap.size < w3.heap.size := World.block_lt_of_cell? _ _ k0
    go_wp2_with fail
    refine HC2.out.mono ?_
    rintro e w4 ⟨rfl, h4⟩
    have H4 := Lib.hid h4
    clear h4 k0 k1 k2 k3 k4 hq3
    go_wp2_with fail
    go_ret
    exact ⟨rfl, H4.out.sub (fun q hq => List.mem_cons_of_mem _ hq)⟩
  · have d2 : decide (ddw ≤ 2) = false := decide_eq_false c2
    have d6 : decide (ddw ≤ 6) = false := decide_eq_false (by omega)
    have e3 : (ddw == 3) = false := by rw [beq_eq_false_iff_ne]; exact c3
    have e7 : (ddw == 7) = false := by rw [beq_eq_false_iff_ne]; exact c7
    have e8 : (ddw == 8) = false := by rw [beq_eq_false_iff_ne]; exact c8
    have e9 : (ddw == 9) = false := by rw [beq_eq_false_iff_ne]; exact c9
    have e10 : (ddw == 10) = false := by rw [beq_eq_false_iff_ne]; exact c10
    obtain ⟨P, hP⟩ : ∃ P, P = cutP st dfr S := ⟨_, rfl⟩
    have hdo : doP st most life ⟨ddw, dfr, dtg, dbit, da, dn, dc, db⟩ S = P.2 := by
      unfold doP
      dsimp only
      rw [if_neg c2, if_neg c3, if_neg (by omega), if_neg c7, if_neg c8, if_neg c9, if_neg c10]
      rw [hP]
    rw [hdo]
    have C1 := dcut HD.out HLO2.out dfr
    rw [← hP] at C1
    have HC1 := Lib.hid C1
    have HP := Lib.hid hP
    clear C1 hP hdo
    go_enter Try.func27, Try.ntmps27
    go_wp2_with fail
    rw [← hwd]
    refine HC1.out.mono ?_
    rintro e w3 ⟨rfl, h3⟩
    have C2 := ecut h3 HLO2.out dfr
    rw [← HP.out] at C2
    have HC2 := Lib.hid C2
    have H3 := Lib.hid h3
    clear h3 C2
    have k0 : w3.cell? ⟨w.heap.size, 0, none⟩ = some (.int .i64 ddw) := blk_cell (H3.out.kept (List.mem_cons_self ..)) 0
    have k1 : w3.cell? ⟨w.heap.size, 1, none⟩ = some (.int .i64 dfr) := blk_cell (H3.out.kept (List.mem_cons_self ..)) 1
    have k2 : w3.cell? ⟨w.heap.size, 2, none⟩ = some (.int .i64 dtg) := blk_cell (H3.out.kept (List.mem_cons_self ..)) 2
    have k3 : w3.cell? ⟨w.heap.size, 3, none⟩ = some (.int .i64 dbit) := blk_cell (H3.out.kept (List.mem_cons_self ..)) 3
    have k4 : w3.cell? ⟨w.heap.size, 4, none⟩ = some (.slice da dn dc) := blk_cell (H3.out.kept (List.mem_cons_self ..)) 4
    have hq3 : w.heap.size < w3.heap.size := World.block_lt_of_cell? _ _ k0
    go_wp2_with fail
    refine HC2.out.mono ?_
    rintro e w4 ⟨rfl, h4⟩
    have H4 := Lib.hid h4
    clear h4 k0 k1 k2 k3 k4 hq3
    go_wp2_with fail
    go_ret
    exact ⟨rfl, H4.out.sub (fun q hq => List.mem_cons_of_mem _ hq)⟩
end
end Go.Proofs.Yteihpaikdpdglaa
