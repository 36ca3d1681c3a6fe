/-
  Package lan: Pass, Twice.
-/
import Derived.Test.YteihpaikdpdglaaLanC
namespace Go.Proofs.Yteihpaikdpdglaa
open Go.RowKit
set_option linter.unusedVariables false


/-- The row's queue has turned: the line behind it. -/
theorem LnX.of_q {w0 w w' : World} {t st : Nat} {life lost : Int} {rv : Value} {ps : List Nat} {c : Nat} {most : Int} {sv sv' : Value} {fl fl' : List Fl} {l l' : List (List Int × Int)} {kr kr' : List (Value × List Int)}
    (hX : LnX w0 w t st life lost c most l kr) (h1 : LnI w t st life lost rv ps c most sv fl) (h2 : ∀ b, lnS t c sv b → w0.heap.size ≤ b) (q : IsF w' c most sv' fl') (m : ∀ g, sv'.ownBlock = some g → sv.ownBlock = some g ∨ w.heap.size ≤ g) (f : Fr (fun b => b = c ∨ sv.ownBlock = some b) w w')
    (h3 : All2 (FlB w') fl' l') (hk : ∀ r ∈ kr', OwnB 0 w' r.1 r.2) (hd : Dj (fl'.map Fl.v ++ kr'.map Prod.fst) ∧ (∀ u ∈ fl'.map Fl.v, ∀ g, u.ownBlock = some g → w0.heap.size ≤ g)) : LnX w0 w' t st life lost c most l' kr' := by
  have F3 : Fr (lnS t c sv) w w' := f.mono (fun _ _ e => .inr e)
  have hbt : w'.heap[t]? = some (.cells #[.int .i64 st, .int .i64 life, .int .i64 lost, rv] 69 (0, 0)) := f.heap h1.blk (by
    rintro (e | e)
    · subst e; have h4 := h1.blk; rw [h1.q.blk] at h4; cases h4
    · exact own_ne h1.q.own h1.blk (by decide) e)
  refine ⟨⟨rv, ps, sv', fl', h1.turn q F3 hbt, fun x hx => ?_, h3, hd⟩, hX.bel.trans (F3.below' hX.bel.size h2), hk⟩
  rcases hx with e | e | e
  · exact h2 x (.inl e)
  · exact h2 x (.inr (.inl e))
  · rcases m x e with e | e
    · exact h2 x (.inr (.inr e))
    · exact Nat.le_trans hX.bel.size e

set_option maxHeartbeats 2000000 in
theorem xpassNo {w0 w : World} {t st : Nat} {life lost : Int} {c : Nat} {most : Int} {kr : List (Value × List Int)} (h : LnX w0 w t st life lost c most [] kr) :
    Calls Try.prog 15 #[.pointer (some ⟨t, 0, none⟩), .int .i64 0, .int .i64 1] w fun e w' => e = .returned (.tuple #[.slice none 0 0, .bool false]) ∧ LnX w0 w' t st life lost c most [] kr := by
  obtain ⟨rv, ps, sv, fl, h1, h2, h3, h4⟩ := h.ex
  obtain rfl : fl = [] := List.eq_nil_of_length_eq_zero (by rw [forall_len h3]; rfl)
  have H := Lib.hid h
  have H1 := Lib.hid h1
  clear h h1 h2 h3
  go_enter Try.func15, Try.ntmps15
  go_wp2_with fail
  refine (rowL H1.out).mono ?_
  rintro e w1 ⟨rfl, b1⟩
  have B1 := Lib.hid b1
  clear b1
  go_wp2_with fail
  refine (takeNoF w1 (H1.out.below B1.out).q).mono ?_
  rintro e w2 ⟨rfl, b2⟩
  have B2 := Lib.hid (B1.out.trans (b2.mono B1.out.size))
  clear b2
  go_wp2_with fail
  go_ret2
  exact ⟨rfl, H.out.below (B2.out.alloc B2.out.size _)⟩

set_option maxHeartbeats 2000000 in
theorem xpass {w0 w : World} {t st : Nat} {life lost : Int} {c : Nat} {most : Int} {p : List Int × Int} {l : List (List Int × Int)} {kr : List (Value × List Int)} (h : LnX w0 w t st life lost c most (p :: l) kr) :
    Calls Try.prog 15 #[.pointer (some ⟨t, 0, none⟩), .int .i64 0, .int .i64 1] w fun e w' => ∃ v, e = .returned (.tuple #[v, .bool true]) ∧ (∃ a n k, v = .slice a n k) ∧ LnX w0 w' t st life lost c most l ((v, p.1) :: kr) := by
  obtain ⟨rv, ps, sv, fl, h1, h2, h3, h4⟩ := h.ex
  match fl, h1, h3, h4 with
  | [], _, h3, _ => exact h3.elim
  | f :: fl, h1, h3, h4 =>
    have H4 := Lib.hid h4
    have H := Lib.hid h
    have H1 := Lib.hid h1
    have H2 := Lib.hid h2
    have H3 := Lib.hid h3
    clear h h1 h2 h3 h4
    go_enter Try.func15, Try.ntmps15
    go_wp2_with fail
    refine (rowL H1.out).mono ?_
    rintro e w1 ⟨rfl, b1⟩
    have B1 := Lib.hid b1
    have H11 := Lib.hid (H1.out.below b1)
    clear b1
    go_wp2_with fail
    refine (takeF w1 H11.out.q).mono ?_
    rintro e w2 ⟨rfl, sv', q2, m2, f2⟩
    have fin : Hid (LnX w0 w2 t st life lost c most l ((f.v, p.1) :: kr)) := by
      have hX := H.out.below B1.out
      have F3 : Fr (lnS t c sv) w1 w2 := f2.mono (fun _ _ e => .inr (.inl e))
      refine hX.of_q H11.out H2.out q2 m2 (f2.mono (fun _ _ e => .inl e)) (forall_imp H3.out.2 (fun f p e => ⟨ownB_fr H11.out (ownB_below e.1 B1.out) F3, e.2⟩)) (fun r hr => ?_) ⟨H4.out.1.perm (List.perm_middle (l₁ := fl.map Fl.v) (l₂ := kr.map Prod.fst) (a := f.v)).symm, fun u hu => H4.out.2 u (by rw [List.map_cons]; exact List.mem_cons_of_mem _ hu)⟩
      rcases List.mem_cons.1 hr with rfl | hr
      · exact ownB_fr H11.out (ownB_below H3.out.1.1 B1.out) F3
      · exact ownB_fr H11.out (hX.kept r hr) F3
    clear q2 m2 f2
    go_wp2_with fail
    go_ret2
    exact ⟨_, rfl, ⟨_, _, _, rfl⟩, fin.out.below ((Below.refl _ w2).alloc (Nat.le_refl _) _)⟩

theorem insF1 {c : Nat} {most : Int} {sv : Value} {f : Fl} {l : List Fl} (x : Fl) (w : World) (h : IsF w c most sv (f :: l)) (hf : ((f :: l).length : Int) < most) :
    Calls Try.prog 35 #[.pointer (some ⟨c, 0, none⟩), .int .i64 1, .agg #[.slice x.a x.n x.c, .int .i64 x.age]] w fun e w' => e = .returned (.bool true) ∧ ∃ sv', IsF w' c most sv' (f :: x :: l) ∧ Mv w sv sv' ∧ Fr (fun b => b = c ∨ sv.ownBlock = some b) w w' :=
  insF 1 x w h hf (by simp)
set_option maxHeartbeats 4000000 in
theorem xtwice {w0 w : World} {t st : Nat} {life lost : Int} {c : Nat} {most : Int} {p : List Int × Int} {l : List (List Int × Int)} {kr : List (Value × List Int)} (h : LnX w0 w t st life lost c most (p :: l) kr) (hf : ((p :: l).length : Int) < most) (hpl : p.1.length ≤ 1000000) :
    Calls Try.prog 14 #[.pointer (some ⟨t, 0, none⟩), .int .i64 0, .int .i64 1] w fun e w' => e = .returned (.bool true) ∧ LnX w0 w' t st life lost c most (p :: p :: l) kr := by
  obtain ⟨rv, ps, sv, fl, h1, h2, h3, h4⟩ := h.ex
  match fl, h1, h3, h4 with
  | [], _, h3, _ => exact h3.elim
  | f :: fl, h1, h3, h4 =>
    have H4 := Lib.hid h4
    have H := Lib.hid h
    have H1 := Lib.hid h1
    have H2 := Lib.hid h2
    have H3 := Lib.hid h3
    have HF : Hid (((f :: fl).length : Int) < most) := by unfold Hid; rw [forall_len h3]; exact hf
    have hfn : f.n = p.1.length := by
      obtain ⟨a, k, hv, _⟩ := own_shape h3.1.1
      simp at hv
      exact hv.2.1
    clear h h1 h2 h3 h4 hf
    obtain ⟨fa, fn, fc, fg⟩ := f
    dsimp only at hfn
    subst hfn
    go_enter Try.func14, Try.ntmps14
    go_wp2_with fail
    refine (rowL H1.out).mono ?_
    rintro e w1 ⟨rfl, b1⟩
    have B1 := Lib.hid b1
    clear b1
    go_wp2_with fail
    refine (peekF w1 (H1.out.below B1.out).q).mono ?_
    rintro e w2 ⟨rfl, b2⟩
    have B2 := Lib.hid (B1.out.trans (b2.mono B1.out.size))
    clear b2
    obtain ⟨W, hW⟩ : ∃ W, W = w2.alloc (.cells #[.slice fa p.1.length fc, .int .i64 fg] 39) := ⟨_, rfl⟩
    have hb : Below w2.heap.size w2 W := by rw [hW]; exact (Below.refl _ w2).alloc (Nat.le_refl _) _
    obtain ⟨q, hqq⟩ : ∃ q, q = w2.heap.size := ⟨_, rfl⟩
    have hq : W.heap[q]? = some (.cells #[.slice fa p.1.length fc, .int .i64 fg] 39 (0, 0)) := by rw [hW, hqq]; exact heap_alloc_new' w2 _
    go_upto_region 3 with fail
    rw [← hW, ← hqq]
    have BW := Lib.hid ((B2.out.trans (hb.mono B2.out.size)).trans ((Below.refl _ W).drew.mono (B2.out.trans (hb.mono B2.out.size)).size))
    have hqd : W.drew.heap[q]? = some (.cells #[.slice fa p.1.length fc, .int .i64 fg] 39 (0, 0)) := hq
    have n0 : W.drew.cell? ⟨q, 0, none⟩ = some (.slice fa p.1.length fc) := blk_cell hqd 0
    have n1 : W.drew.cell? ⟨q, 1, none⟩ = some (.int .i64 fg) := blk_cell hqd 1
    have HQ := Lib.hid hqd
    have H11 := Lib.hid (H1.out.below BW.out)
    have HOB := Lib.hid (show RdB W.drew (.slice fa p.1.length fc) p.1 from (ownB_below H3.out.1.1 BW.out).rd)
    have hqs : w.heap.size ≤ q := by rw [hqq]; exact B2.out.size
    have HQS := Lib.hid hqs
    have HTC : Hid (¬ lnS t c sv q) := by
      have h1 := lt_of_block H1.out.blk
      have h2 := lt_of_block H1.out.q.blk
      rintro (e | e | e)
      · omega
      · omega
      · have := own_lt H1.out.q.own e; omega
    clear hW hqq hb hq hqd hqs
    go_region_held3 (fun w' => w'.cell? ⟨q, 0, none⟩ = some (.slice fa p.1.length fc) ∧ w'.cell? ⟨q, 1, none⟩ = some (.int .i64 fg))
      (first | exact ⟨n0, n1⟩ | exact ⟨m0, m1⟩ | exact ⟨r0, r1⟩ | assumption)
      (first
        | (go_at_call 33; (with_reducible refine (cloneB _ p.1 _ HOB.out hpl).mono ?_); rintro e w3 ⟨v3, rfl, o3, b3⟩; obtain ⟨a3, c3, hv3, _⟩ := own_shape o3; subst hv3; have hq3 := (b3.block q (lt_of_block HQ.out)).trans HQ.out; have m0 : w3.cell? ⟨q, 0, none⟩ = some (.slice fa p.1.length fc) := blk_cell hq3 0; have m1 : w3.cell? ⟨q, 1, none⟩ = some (.int .i64 fg) := blk_cell hq3 1; have HQ3 := Lib.hid hq3; have O3 := Lib.hid (show OwnB 0 w3 (.slice a3 p.1.length c3) p.1 from own_zero o3); have B3 := Lib.hid b3; have HG3 : Hid (∀ g, (Value.slice a3 p.1.length c3).ownBlock = some g → w.heap.size ≤ g) := (fun g hg => Nat.le_trans BW.out.size (o3.lt g hg).1); have H13 := Lib.hid (H11.out.below b3); clear o3 b3 hq3)
        | (go_at_call 35; (with_reducible refine (insF1 ⟨a3, p.1.length, c3, fg⟩ _ H13.out.q HF.out).mono ?_); rintro e w4 ⟨rfl, sv', q4, m4, f4⟩; have hq4 := f4.heap HQ3.out (fun e => HTC.out (.inr e)); have r0 : w4.cell? ⟨q, 0, none⟩ = some (.slice fa p.1.length fc) := blk_cell hq4 0; have r1 : w4.cell? ⟨q, 1, none⟩ = some (.int .i64 fg) := blk_cell hq4 1; have Q4 := Lib.hid q4; have M4 := Lib.hid m4; have F4 := Lib.hid f4; clear q4 m4 f4 hq4)
        | fail)
    all_goals
      try simp only [Act.put, List.setIfInBounds_toArray, List.set_cons_zero, List.set_cons_succ]
      have fin : Hid (LnX w0 w4 t st life lost c most (p :: p :: l) kr) := by
        have hX := (H.out.below BW.out).below B3.out
        have F3 : Fr (lnS t c sv) w3 w4 := F4.out.mono (fun _ _ e => .inr e)
        have st : ∀ v b, OwnB 0 w v b → OwnB 0 w4 v b := fun v b o => ownB_fr H13.out (ownB_below (ownB_below o BW.out) B3.out) F3
        exact hX.of_q H13.out H2.out Q4.out M4.out F4.out ⟨⟨st _ _ H3.out.1.1, H3.out.1.2⟩, ⟨ownB_fr H13.out O3.out F3, H3.out.1.2⟩, forall_imp H3.out.2 (fun f p e => ⟨st _ _ e.1, e.2⟩)⟩ (fun r hr => ownB_fr H13.out (hX.kept r hr) F3) (by
          have h1 := H4.out.1.add (v := (⟨a3, p.1.length, c3, fg⟩ : Fl).v) (fun u hu g hg e => by have := own_all H3.out H.out.kept u hu g hg; have := HG3.out g e; omega)
          refine ⟨h1.perm (List.Perm.swap ..), fun u hu g hg => ?_⟩
          rw [List.map_cons, List.map_cons] at hu
          rcases List.mem_cons.1 hu with e | hu
          · exact H4.out.2 u (by rw [e, List.map_cons]; exact List.mem_cons_self ..) g hg
          · rcases List.mem_cons.1 hu with e | hu
            · rw [e] at hg; exact Nat.le_trans H.out.bel.size (HG3.out g hg)
            · exact H4.out.2 u (by rw [List.map_cons]; exact List.mem_cons_of_mem _ hu) g hg)
      clear m0 m1 r0 r1 n0 n1
      go_wp2_with fail
      go_ret
      exact ⟨rfl, fin.out⟩
end Go.Proofs.Yteihpaikdpdglaa
