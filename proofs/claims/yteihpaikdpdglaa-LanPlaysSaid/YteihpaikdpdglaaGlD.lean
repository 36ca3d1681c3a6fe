/-
  Package lan: Twice, Spoil, at any row.
-/
import Derived.Test.YteihpaikdpdglaaGlC
import Derived.Test.YteihpaikdpdglaaLanI
import Derived.BigQuiet
namespace Go.Proofs.Yteihpaikdpdglaa
open Go.RowKit
set_option linter.unusedVariables false


theorem insFullF1 {c : Nat} {most : Int} {sv : Value} {l : List Fl} (x : Fl) (w : World) (h : IsF w c most sv l) (hf : most ≤ (l.length : Int)) :
    Calls Try.prog 35 #[.pointer (some ⟨c, 0, none⟩), .int .i64 1, .agg #[.slice x.a x.n x.c, .int .i64 x.age]] w fun e w' => e = .returned (.bool false) ∧ Below w.heap.size w w' :=
  insFullF 1 x w h hf
section
variable {w : World} {F : Nat → Prop} {t st : Nat} {life lost most : Int} {qs : List FlA}
theorem flipB_byte' (x : Int) (r : Nat) (hx : 0 ≤ x ∧ x ≤ 255) (hr : r < 8) : 0 ≤ flipB x r ∧ flipB x r ≤ 255 := by
  obtain ⟨A, rfl⟩ := Int.eq_ofNat_of_zero_le hx.1
  have hp : 2 ^ r < 2 ^ 8 := Nat.pow_lt_pow_right (by decide) hr
  have hA : A < 2 ^ 8 := by have := hx.2; omega
  have := Nat.xor_lt_two_pow hA hp
  unfold flipB
  rw [Int.toNat_natCast]
  omega
theorem flipAt_byte (b : List Int) (k : Nat) (hk : k / 8 < b.length) (hb : ∀ x ∈ b, 0 ≤ x ∧ x ≤ 255) : ∀ x ∈ flipAt b k, 0 ≤ x ∧ x ≤ 255 := by
  intro x hx
  unfold flipAt at hx
  rcases List.mem_or_eq_of_mem_set hx with h | h
  · exact hb x h
  · rw [h, List.getD_eq_getElem?_getD, List.getElem?_eq_getElem hk]
    exact flipB_byte' _ _ (hb _ (List.getElem_mem hk)) (by omega)
/-- A row that holds something: its queue in memory. -/
theorem LGi.at_cons {rv : Value} {ps : List Nat} {Fs : Nat → Nat → Prop} (h : LGi w F t st life lost most qs rv ps Fs) {a c : Int} {k : Nat} (hk : rix st a c = some k) {p : List Int × Int} {l : FlA} (hl : p :: l = qs.getD k []) :
    ∃ (hi : k < ps.length) (sv : Value) (f : Fl) (fl : List Fl), IsF w ps[k] most sv (f :: fl) ∧ All2 (FlB w) (f :: fl) (p :: l) ∧ Dj ((f :: fl).map Fl.v) ∧ (∀ g, sv.ownBlock = some g → Fs k g) ∧ (∀ u ∈ (f :: fl).map Fl.v, ∀ g, u.ownBlock = some g → Fs k g) ∧ Fs k ps[k] ∧ (∀ b, Fs k b → b < w.heap.size) := by
  obtain ⟨A, B, rfl, rfl, hA, hB, hne, hkk, hlt⟩ := rix_lt hk
  have hi : k < ps.length := by rw [h.len]; exact hlt
  obtain ⟨sv, fl, h1, h2, h3, h4, h5⟩ := (h.row hi).ex
  rw [← hl] at h2
  match fl, h1, h2, h3, h5 with
  | [], _, h2, _, _ => exact h2.elim
  | f :: fl, h1, h2, h3, h5 => exact ⟨hi, sv, f, fl, h1, h2, h3, h4, h5, (h.row hi).c, (h.row hi).lt⟩
theorem LGi.okAt {rv : Value} {ps : List Nat} {Fs : Nat → Nat → Prop} (h : LGi w F t st life lost most qs rv ps Fs) {k : Nat} (hi : k < ps.length) : ∀ p ∈ qs.getD k [], OkFr life p := by
  have hq : k < qs.length := by rw [h.qlen, ← h.len]; exact hi
  rw [getD_get hq]
  exact h.ok _ (List.getElem_mem hq)
set_option maxHeartbeats 4000000 in
theorem twiceG (h : LG w F t st life lost most qs) (a c : Int) :
    Calls Try.prog 14 #[.pointer (some ⟨t, 0, none⟩), .int .i64 a, .int .i64 c] w fun e w' => e = .returned (.bool (twiceP st most a c (qs, lost)).1) ∧ ∃ F', LG w' F' t st life lost most (twiceP st most a c (qs, lost)).2.1 ∧ Stp F F' w w' := by
  obtain ⟨rv, ps, Fs, h⟩ := h
  have H := Lib.hid h
  clear h
  unfold twiceP
  cases hk : rix st a c with
  | none =>
    dsimp only
    have HK := Lib.hid hk
    clear hk
    go_enter Try.func14, Try.ntmps14
    go_wp2_with fail
    refine (rowNone H.out HK.out).mono ?_
    rintro e w1 ⟨rfl, rfl⟩
    go_wp2_with fail
    refine (peekNil w1).mono ?_
    rintro e w2 ⟨rfl, b2⟩
    have B2 := Lib.hid b2
    clear b2
    obtain ⟨q, hqq⟩ : ∃ q, q = w2.heap.size := ⟨_, rfl⟩
    go_upto_region 3 with fail
    refine wp_region_after (by kernel_rfl) (by kernel_rfl) ?_
    go_big_quiet_step (fail)
    go_big_quiet_step (fail)
    go_big_quiet_step (fail)
    go_big_quiet_step (fail)
    go_big_quiet_step (fail)
    go_big_quiet_step (fail)
    go_big_quiet_step (fail)
    go_big_quiet_step (fail)
    go_big_quiet_step (fail)
    go_big_quiet_step (fail)
    go_big_quiet_step (fail)
    go_big_quiet_step (fail)
    refine wpQuiet_nil ?_
    rintro w4 ⟨⟨_, b4⟩, rfl⟩
    have b3 := B2.out.alloc B2.out.size (.cells #[.slice none 0 0, .int .i64 0] 39)
    have B4 := Lib.hid (b3.trans (b4.mono b3.size))
    clear b3 b4
    go_wp2_with fail
    go_ret
    exact ⟨rfl, F, ⟨rv, ps, Fs, H.out.below B4.out⟩, Stp.of_below _ B4.out⟩
  | some k =>
    dsimp only [rowAt]
    have HK := Lib.hid hk
    clear hk
    obtain ⟨l, hl⟩ : ∃ l, l = qs.getD k [] := ⟨_, rfl⟩
    rw [← hl]
    have HL := Lib.hid hl
    clear hl
    cases l with
    | nil =>
      dsimp only
      go_enter Try.func14, Try.ntmps14
      go_wp2_with fail
      refine (rowSome H.out HK.out).mono ?_
      rintro e w1 ⟨hi, rfl, b1⟩
      obtain ⟨sv, fl, h1, h2, h3, h4, h5⟩ := (H.out.row hi).ex
      rw [← HL.out] at h2
      obtain rfl : fl = [] := List.eq_nil_of_length_eq_zero (by rw [forall_len h2]; rfl)
      have HQ := Lib.hid (h1.below b1)
      have B1 := Lib.hid b1
      clear b1 h1 h2 h3 h4 h5
      go_wp2_with fail
      refine (peekNoF w1 HQ.out).mono ?_
      rintro e w2 ⟨rfl, b2⟩
      have B2 := Lib.hid (B1.out.trans (b2.mono B1.out.size))
      clear b2
      obtain ⟨q, hqq⟩ : ∃ q, q = w2.heap.size := ⟨_, rfl⟩
      go_upto_region 3 with fail
      refine wp_region_after (by kernel_rfl) (by kernel_rfl) ?_
      go_big_quiet_step (fail)
      go_big_quiet_step (fail)
      go_big_quiet_step (fail)
      go_big_quiet_step (fail)
      go_big_quiet_step (fail)
      go_big_quiet_step (fail)
      go_big_quiet_step (fail)
      go_big_quiet_step (fail)
      go_big_quiet_step (fail)
      go_big_quiet_step (fail)
      go_big_quiet_step (fail)
      go_big_quiet_step (fail)
      refine wpQuiet_nil ?_
      rintro w4 ⟨⟨_, b4⟩, rfl⟩
      have b3 := B2.out.alloc B2.out.size (.cells #[.slice none 0 0, .int .i64 0] 39)
      have B4 := Lib.hid (b3.trans (b4.mono b3.size))
      clear b3 b4
      go_wp2_with fail
      go_ret
      exact ⟨rfl, F, ⟨rv, ps, Fs, H.out.below B4.out⟩, Stp.of_below _ B4.out⟩
    | cons p l =>
      dsimp only
      have hpl : p.1.length ≤ 1000 := by
        obtain ⟨A, B, _, _, _, _, _, _, hlt⟩ := rix_lt HK.out
        have := H.out.okAt (k := k) (by rw [H.out.len]; exact hlt)
        rw [← HL.out] at this
        exact (this p (List.mem_cons_self ..)).len
      obtain ⟨hi, sv, f, fl, h1, h2, h3, h4, h5, hc, hlt⟩ := H.out.at_cons HK.out HL.out
      obtain ⟨fa, fn, fc, fg⟩ := f
      obtain rfl : fn = p.1.length := by
        obtain ⟨a, k, hv, _⟩ := own_shape h2.1.1
        simp at hv
        exact hv.2.1
      have HQ := Lib.hid (And.intro h1 (And.intro h2 (And.intro h3 (And.intro h4 (And.intro h5 (And.intro hc hlt))))))
      clear h1 h2 h3 h4 h5 hc hlt
      obtain ⟨cq, hcq⟩ : ∃ cq, cq = ps[k] := ⟨_, rfl⟩
      have HCQ := Lib.hid hcq
      rw [← hcq] at HQ
      clear hcq
      by_cases hf : ((p :: l).length : Int) < most
      · rw [if_pos hf]
        dsimp only
        have HF : Hid (((⟨fa, p.1.length, fc, fg⟩ : Fl) :: fl : List Fl).length < most) := by unfold Hid; rw [forall_len HQ.out.2.1]; exact hf
        clear hf
        go_enter Try.func14, Try.ntmps14
        go_wp2_with fail
        refine (rowSome H.out HK.out).mono ?_
        rintro e w1 ⟨hi', rfl, b1⟩
        have B1 := Lib.hid b1
        clear b1
        rw [← HCQ.out]
        go_wp2_with fail
        refine (peekF w1 (HQ.out.1.below B1.out)).mono ?_
        rintro e w2 ⟨rfl, b2⟩
        have B2 := Lib.hid (B1.out.trans (b2.mono B1.out.size))
        clear b2
        obtain ⟨W, hW⟩ : ∃ W, W = w2.alloc (.cells #[.slice fa p.1.length fc, .int .i64 fg] 39) := ⟨_, rfl⟩
        have hb : Below w2.heap.size w2 W := by rw [hW]; exact (Below.refl _ w2).alloc (Nat.le_refl _) _
        obtain ⟨q, hqq⟩ : ∃ q, q = w2.heap.size := ⟨_, rfl⟩
        have hq : W.heap[q]? = some (.cells #[.slice fa p.1.length fc, .int .i64 fg] 39 (0, 0)) := by rw [hW, hqq]; exact heap_alloc_new' w2 _
        go_upto_region 3 with fail
        rw [← hW, ← hqq]
        have BW := Lib.hid ((B2.out.trans (hb.mono B2.out.size)).trans ((Below.refl _ W).drew.mono (B2.out.trans (hb.mono B2.out.size)).size))
        have hqd : W.drew.heap[q]? = some (.cells #[.slice fa p.1.length fc, .int .i64 fg] 39 (0, 0)) := hq
        have n0 : W.drew.cell? ⟨q, 0, none⟩ = some (.slice fa p.1.length fc) := blk_cell hqd 0
        have n1 : W.drew.cell? ⟨q, 1, none⟩ = some (.int .i64 fg) := blk_cell hqd 1
        have HQQ := Lib.hid hqd
        have H11 := Lib.hid (HQ.out.1.below BW.out)
        have HOB := Lib.hid (show RdB W.drew (.slice fa p.1.length fc) p.1 from (ownB_below HQ.out.2.1.1.1 BW.out).rd)
        have HTC : Hid (¬ qS cq sv q) := by
          have h2 := lt_of_block HQ.out.1.blk
          have h3 := B2.out.size
          rintro (e | e)
          · omega
          · have := own_lt HQ.out.1.own e; omega
        clear hW hqq hb hq hqd
        go_region_held3 (fun w' => w'.cell? ⟨q, 0, none⟩ = some (.slice fa p.1.length fc) ∧ w'.cell? ⟨q, 1, none⟩ = some (.int .i64 fg))
          (first | exact ⟨n0, n1⟩ | exact ⟨m0, m1⟩ | exact ⟨r0, r1⟩ | assumption)
          (first
            | (go_at_call 33; (with_reducible refine (cloneB _ p.1 _ HOB.out (by omega)).mono ?_); rintro e w3 ⟨v3, rfl, o3, b3⟩; obtain ⟨a3, c3, hv3, _⟩ := own_shape o3; subst hv3; have hq3 := (b3.block q (lt_of_block HQQ.out)).trans HQQ.out; have m0 : w3.cell? ⟨q, 0, none⟩ = some (.slice fa p.1.length fc) := blk_cell hq3 0; have m1 : w3.cell? ⟨q, 1, none⟩ = some (.int .i64 fg) := blk_cell hq3 1; have HQ3 := Lib.hid hq3; have O3 := Lib.hid (show OwnB 0 w3 (.slice a3 p.1.length c3) p.1 from own_zero o3); have B3 := Lib.hid b3; have HG3 : Hid (∀ g, (Value.slice a3 p.1.length c3).ownBlock = some g → w.heap.size ≤ g) := (fun g hg => Nat.le_trans BW.out.size (o3.lt g hg).1); have H13 := Lib.hid (H11.out.below b3); clear o3 b3 hq3)
            | (go_at_call 35; (with_reducible refine (insF1 ⟨a3, p.1.length, c3, fg⟩ _ H13.out HF.out).mono ?_); rintro e w4 ⟨rfl, sv', q4, m4, f4⟩; have hq4 := f4.heap HQ3.out HTC.out; have r0 : w4.cell? ⟨q, 0, none⟩ = some (.slice fa p.1.length fc) := blk_cell hq4 0; have r1 : w4.cell? ⟨q, 1, none⟩ = some (.int .i64 fg) := blk_cell hq4 1; have Q4 := Lib.hid q4; have M4 := Lib.hid m4; have F4 := Lib.hid f4; clear q4 m4 f4 hq4)
            | fail)
        all_goals
          try simp only [Act.put, List.setIfInBounds_toArray, List.set_cons_zero, List.set_cons_succ]
          have fin : Hid (∃ F', LG w4 F' t st life lost most (qs.set k (p :: p :: l)) ∧ Stp F F' w w4) := by
            obtain ⟨g1, g2, g3, g4, g5, g6, g7⟩ := HQ.out
            have bb := BW.out.trans (B3.out.mono BW.out.size)
            have ob : ∀ v b, OwnB 0 w v b → OwnB 0 w4 v b := fun v b o => ownB_q H13.out (ownB_below o bb) F4.out
            obtain ⟨F', qx, s, _⟩ := QX.of_q (l' := p :: p :: l) g1 g6 g4 g7 bb Q4.out (fun g hg => (M4.out g hg).imp id (fun e => Nat.le_trans bb.size e)) F4.out
              ⟨⟨ob _ _ g2.1.1, g2.1.2⟩, ⟨ownB_q H13.out O3.out F4.out, g2.1.2⟩, all2_map g2.2 ob⟩
              (by
                have h1 := g3.add (v := (⟨a3, p.1.length, c3, fg⟩ : Fl).v) (fun u hu g hg e => by have := g7 g (g5 u hu g hg); have := HG3.out g e; omega)
                exact h1.perm (List.Perm.swap ..))
              (fun u hu g hg => by
                rw [List.map_cons, List.map_cons] at hu
                rcases List.mem_cons.1 hu with e | hu
                · exact .inl (g5 u (by rw [e, List.map_cons]; exact List.mem_cons_self ..) g hg)
                · rcases List.mem_cons.1 hu with e | hu
                  · rw [e] at hg; exact .inr (HG3.out g hg)
                  · exact .inl (g5 u (by rw [List.map_cons]; exact List.mem_cons_of_mem _ hu) g hg))
            rw [HCQ.out] at qx
            obtain ⟨F2, Fs2, hL, hS, _⟩ := H.out.turn hi s qx (fun x hx => by
              have ho := H.out.okAt hi
              rw [← HL.out] at ho
              rcases List.mem_cons.1 hx with e | hx
              · exact ho x (by rw [e]; exact List.mem_cons_self ..)
              · exact ho x hx)
            exact ⟨F2, ⟨rv, ps, Fs2, hL⟩, hS⟩
          clear m0 m1 r0 r1 n0 n1
          go_wp2_with fail
          go_ret
          exact ⟨rfl, fin.out⟩
      · rw [if_neg hf]
        dsimp only
        have HF : Hid (most ≤ ((⟨fa, p.1.length, fc, fg⟩ : Fl) :: fl : List Fl).length) := by unfold Hid; rw [forall_len HQ.out.2.1]; exact Int.not_lt.1 hf
        clear hf
        go_enter Try.func14, Try.ntmps14
        go_wp2_with fail
        refine (rowSome H.out HK.out).mono ?_
        rintro e w1 ⟨hi', rfl, b1⟩
        have B1 := Lib.hid b1
        clear b1
        rw [← HCQ.out]
        go_wp2_with fail
        refine (peekF w1 (HQ.out.1.below B1.out)).mono ?_
        rintro e w2 ⟨rfl, b2⟩
        have B2 := Lib.hid (B1.out.trans (b2.mono B1.out.size))
        clear b2
        obtain ⟨W, hW⟩ : ∃ W, W = w2.alloc (.cells #[.slice fa p.1.length fc, .int .i64 fg] 39) := ⟨_, rfl⟩
        have hb : Below w2.heap.size w2 W := by rw [hW]; exact (Below.refl _ w2).alloc (Nat.le_refl _) _
        obtain ⟨q, hqq⟩ : ∃ q, q = w2.heap.size := ⟨_, rfl⟩
        have hq : W.heap[q]? = some (.cells #[.slice fa p.1.length fc, .int .i64 fg] 39 (0, 0)) := by rw [hW, hqq]; exact heap_alloc_new' w2 _
        go_upto_region 3 with fail
        rw [← hW, ← hqq]
        have BW := Lib.hid ((B2.out.trans (hb.mono B2.out.size)).trans ((Below.refl _ W).drew.mono (B2.out.trans (hb.mono B2.out.size)).size))
        have hqd : W.drew.heap[q]? = some (.cells #[.slice fa p.1.length fc, .int .i64 fg] 39 (0, 0)) := hq
        have n0 : W.drew.cell? ⟨q, 0, none⟩ = some (.slice fa p.1.length fc) := blk_cell hqd 0
        have n1 : W.drew.cell? ⟨q, 1, none⟩ = some (.int .i64 fg) := blk_cell hqd 1
        have HQQ := Lib.hid hqd
        have H11 := Lib.hid (HQ.out.1.below BW.out)
        have HOB := Lib.hid (show RdB W.drew (.slice fa p.1.length fc) p.1 from (ownB_below HQ.out.2.1.1.1 BW.out).rd)
        have HTC : Hid (¬ qS cq sv q) := by
          have h2 := lt_of_block HQ.out.1.blk
          have h3 := B2.out.size
          rintro (e | e)
          · omega
          · have := own_lt HQ.out.1.own e; omega
        clear hW hqq hb hq hqd
        go_region_held3 (fun w' => w'.cell? ⟨q, 0, none⟩ = some (.slice fa p.1.length fc) ∧ w'.cell? ⟨q, 1, none⟩ = some (.int .i64 fg))
          (first | exact ⟨n0, n1⟩ | exact ⟨m0, m1⟩ | exact ⟨r0, r1⟩ | assumption)
          (first
            | (go_at_call 33; (with_reducible refine (cloneB _ p.1 _ HOB.out (by omega)).mono ?_); rintro e w3 ⟨v3, rfl, o3, b3⟩; obtain ⟨a3, c3, hv3, _⟩ := own_shape o3; subst hv3; have hq3 := (b3.block q (lt_of_block HQQ.out)).trans HQQ.out; have m0 : w3.cell? ⟨q, 0, none⟩ = some (.slice fa p.1.length fc) := blk_cell hq3 0; have m1 : w3.cell? ⟨q, 1, none⟩ = some (.int .i64 fg) := blk_cell hq3 1; have HQ3 := Lib.hid hq3; have O3 := Lib.hid (show OwnB 0 w3 (.slice a3 p.1.length c3) p.1 from own_zero o3); have B3 := Lib.hid b3; have HG3 : Hid (∀ g, (Value.slice a3 p.1.length c3).ownBlock = some g → w.heap.size ≤ g) := (fun g hg => Nat.le_trans BW.out.size (o3.lt g hg).1); have H13 := Lib.hid (H11.out.below b3); clear o3 b3 hq3)
            | (go_at_call 35; (with_reducible refine (insFullF1 ⟨a3, p.1.length, c3, fg⟩ _ H13.out HF.out).mono ?_); rintro e w4 ⟨rfl, b4⟩; have hq4 := (b4.block q (lt_of_block HQ3.out)).trans HQ3.out; have r0 : w4.cell? ⟨q, 0, none⟩ = some (.slice fa p.1.length fc) := blk_cell hq4 0; have r1 : w4.cell? ⟨q, 1, none⟩ = some (.int .i64 fg) := blk_cell hq4 1; have B4 := Lib.hid b4; clear b4 hq4)
            | fail)
        all_goals
          try simp only [Act.put, List.setIfInBounds_toArray, List.set_cons_zero, List.set_cons_succ]
          clear m0 m1 r0 r1 n0 n1
          go_wp2_with fail
          go_ret
          have bb := (BW.out.trans (B3.out.mono BW.out.size))
          have bb2 := bb.trans (B4.out.mono bb.size)
          exact ⟨rfl, F, ⟨rv, ps, Fs, H.out.below bb2⟩, Stp.of_below _ bb2⟩
set_option maxRecDepth 100000 in
set_option maxHeartbeats 4000000 in
theorem spoilG (h : LG w F t st life lost most qs) (a c bit : Int) :
    Calls Try.prog 18 #[.pointer (some ⟨t, 0, none⟩), .int .i64 a, .int .i64 c, .int .i64 bit] w fun e w' => e = .returned (.bool (spoilP st a c bit (qs, lost)).1) ∧ ∃ F', LG w' F' t st life lost most (spoilP st a c bit (qs, lost)).2.1 ∧ Stp F F' w w' := by
  obtain ⟨rv, ps, Fs, h⟩ := h
  have H := Lib.hid h
  clear h
  unfold spoilP
  cases hk : rix st a c with
  | none =>
    dsimp only
    have HK := Lib.hid hk
    clear hk
    go_enter Try.func18, Try.ntmps18
    go_wp2_with fail
    refine (rowNone H.out HK.out).mono ?_
    rintro e w1 ⟨rfl, rfl⟩
    go_wp2_with fail
    refine (peekNil w1).mono ?_
    rintro e w2 ⟨rfl, b2⟩
    have B2 := Lib.hid b2
    clear b2
    go_wp2_with fail
    go_ret
    have b3 := B2.out.alloc B2.out.size (.cells #[.slice none 0 0, .int .i64 0] 39)
    exact ⟨rfl, F, ⟨rv, ps, Fs, H.out.below b3⟩, Stp.of_below _ b3⟩
  | some k =>
    dsimp only [rowAt]
    have HK := Lib.hid hk
    clear hk
    obtain ⟨l, hl⟩ : ∃ l, l = qs.getD k [] := ⟨_, rfl⟩
    rw [← hl]
    have HL := Lib.hid hl
    clear hl
    cases l with
    | nil =>
      dsimp only
      go_enter Try.func18, Try.ntmps18
      go_wp2_with fail
      refine (rowSome H.out HK.out).mono ?_
      rintro e w1 ⟨hi, rfl, b1⟩
      obtain ⟨sv, fl, h1, h2, h3, h4, h5⟩ := (H.out.row hi).ex
      rw [← HL.out] at h2
      obtain rfl : fl = [] := List.eq_nil_of_length_eq_zero (by rw [forall_len h2]; rfl)
      have HQ := Lib.hid (h1.below b1)
      have B1 := Lib.hid b1
      clear b1 h1 h2 h3 h4 h5
      go_wp2_with fail
      refine (peekNoF w1 HQ.out).mono ?_
      rintro e w2 ⟨rfl, b2⟩
      have B2 := Lib.hid (B1.out.trans (b2.mono B1.out.size))
      clear b2
      go_wp2_with fail
      go_ret
      have b3 := B2.out.alloc B2.out.size (.cells #[.slice none 0 0, .int .i64 0] 39)
      exact ⟨rfl, F, ⟨rv, ps, Fs, H.out.below b3⟩, Stp.of_below _ b3⟩
    | cons p l =>
      dsimp only
      have hpok : OkFr life p := by
        obtain ⟨A, B, _, _, _, _, _, _, hlt⟩ := rix_lt HK.out
        have := H.out.okAt (k := k) (by rw [H.out.len]; exact hlt)
        rw [← HL.out] at this
        exact this p (List.mem_cons_self ..)
      have hpl := hpok.len
      have HBY := Lib.hid hpok.byte
      clear hpok
      obtain ⟨hi, sv, f, fl, h1, h2, h3, h4, h5, hc, hlt⟩ := H.out.at_cons HK.out HL.out
      obtain ⟨fa, fn, fc, fg⟩ := f
      obtain rfl : fn = p.1.length := by
        obtain ⟨a, k, hv, _⟩ := own_shape h2.1.1
        simp at hv
        exact hv.2.1
      have HQ := Lib.hid (And.intro h1 (And.intro h2 (And.intro h3 (And.intro h4 (And.intro h5 (And.intro hc hlt))))))
      clear h1 h2 h3 h4 h5 hc hlt
      obtain ⟨cq, hcq⟩ : ∃ cq, cq = ps[k] := ⟨_, rfl⟩
      have HCQ := Lib.hid hcq
      rw [← hcq] at HQ
      clear hcq
      by_cases h0 : p.1.length = 0
      · rw [if_pos h0]
        dsimp only
        rw [h0] at HQ
        have HF := Lib.hid h0
        clear h0 hpl
        go_enter Try.func18, Try.ntmps18
        go_wp2_with fail
        refine (rowSome H.out HK.out).mono ?_
        rintro e w1 ⟨hi', rfl, b1⟩
        have B1 := Lib.hid b1
        clear b1
        rw [← HCQ.out]
        go_wp2_with fail
        refine (peekF w1 (HQ.out.1.below B1.out)).mono ?_
        rintro e w2 ⟨rfl, b2⟩
        have B2 := Lib.hid (B1.out.trans (b2.mono B1.out.size))
        clear b2
        go_wp2_with fail
        go_ret
        have b3 := B2.out.alloc B2.out.size (.cells #[.slice fa 0 fc, .int .i64 fg] 39)
        exact ⟨rfl, F, ⟨rv, ps, Fs, H.out.below b3⟩, Stp.of_below _ b3⟩
      · rw [if_neg h0]
        dsimp only
        obtain ⟨g, cap, hv, hg, hc1, hc2⟩ := own_some HQ.out.2.1.1.1 (by omega)
        have hyt : ∀ i, (hi : i < p.1.length) → w.cell? ⟨g, i, none⟩ = some (.int .u8 p.1[i]) := fun i hi => by
          have ho := HQ.out.2.1.1.1
          rw [hv] at ho
          have := Own.cell ho encB_len i 0 hi (by decide)
          simpa [encB] using this
        have HYT := Lib.hid hyt
        simp at hv
        obtain ⟨rfl, rfl⟩ := hv
        clear hyt
        obtain ⟨kk, hkd⟩ : ∃ kk, kk = kOf bit p.1.length := ⟨_, rfl⟩
        obtain ⟨hk, hk8⟩ := kOf_lt bit (show 0 < p.1.length by omega) hpl
        rw [← hkd] at hk hk8 ⊢
        have HKD := Lib.hid hkd
        clear hkd
        have HKK := Lib.hid hk
        clear hk
        go_enter Try.func18, Try.ntmps18
        go_wp2_with fail
        refine (rowSome H.out HK.out).mono ?_
        rintro e w1 ⟨hi', rfl, b1⟩
        have B1 := Lib.hid b1
        clear b1
        rw [← HCQ.out]
        go_wp2_with fail
        refine (peekF w1 (HQ.out.1.below B1.out)).mono ?_
        rintro e w2 ⟨rfl, b2⟩
        have B2 := Lib.hid (B1.out.trans (b2.mono B1.out.size))
        clear b2
        obtain ⟨W, hW⟩ : ∃ W, W = w2.alloc (.cells #[.slice (some ⟨g, 0, none⟩) p.1.length fc, .int .i64 fg] 39) := ⟨_, rfl⟩
        obtain ⟨q, hqq⟩ : ∃ q, q = w2.heap.size := ⟨_, rfl⟩
        go_upto_region 6 with fail
        rw [HKK.out, ← hW, ← hqq]
        have hbW : Below w2.heap.size w2 W := by rw [hW]; exact (Below.refl _ w2).alloc (Nat.le_refl _) _
        have hqc : W.heap[q]? = some (.cells #[.slice (some ⟨g, 0, none⟩) p.1.length fc, .int .i64 fg] 39 (0, 0)) := by rw [hW, hqq]; exact heap_alloc_new' w2 _
        have BW := Lib.hid (B2.out.trans (hbW.mono B2.out.size))
        obtain ⟨j, hjd⟩ : ∃ j, j = kk / 8 := ⟨_, rfl⟩
        obtain ⟨r, hrd⟩ : ∃ r, r = kk % 8 := ⟨_, rfl⟩
        have hj : j < p.1.length := by omega
        have hr8 : r < 8 := by omega
        obtain ⟨x, hx⟩ : ∃ x, x = p.1[j]'hj := ⟨_, rfl⟩
        have y0 : W.cell? ⟨q, 0, none⟩ = some (.slice (some ⟨g, 0, none⟩) p.1.length fc) := blk_cell hqc 0
        have yx : W.cell? ⟨g, j, none⟩ = some (.int .u8 x) := by rw [hx]; exact (BW.out.cell (p := ⟨g, j, none⟩) (own_lt HQ.out.2.1.1.1 rfl)).trans (HYT.out _ hj)
        have zx : W.frozen? ⟨g, j, none⟩ = false := own_free (ownB_below HQ.out.2.1.1.1 BW.out) _
        have HQC := Lib.hid hqc
        have hkI : (kk : Int) / 8 = (j : Int) := by omega
        have hkM : (kk : Int) % 8 = (r : Int) := by omega
        have hjI : (j : Int) < (p.1.length : Int) := by omega
        have hkb0 : (0 : Int) ≤ (kk : Int) := by omega
        have hkb1 : (kk : Int) ≤ 8000 := by omega
        have hr8I : (r : Int) < 8 := by omega
        have hwj : IntKind.i64.wrap (j : Int) = (j : Int) := IntWalk.i64_in _ (by omega)
        have hkT : (kk : Int).tmod 8 = (r : Int) := by rw [Int.tmod_eq_emod_of_nonneg (by omega)]; omega
        have hwr : IntKind.i64.wrap (r : Int) = (r : Int) := IntWalk.i64_in _ (by omega)
        have hxb := HBY.out x (by rw [hx]; exact List.getElem_mem hj)
        have hfl := bits_flip x r hxb hr8
        have HX := Lib.hid hx
        have HJD := Lib.hid hjd
        have HRDD := Lib.hid hrd
        clear hx hjd hrd
        clear hW hqq hbW hqc
        go_still_tail 11, (by kernel_rfl)
        change wpList _ _ _ _ _ W.drew
        clear hfl
        obtain ⟨y, hy⟩ : ∃ y, y = flipB x r := ⟨_, rfl⟩
        rw [← hy]
        have HY := Lib.hid hy
        have BD := Lib.hid (BW.out.trans ((Below.refl _ W).drew.mono BW.out.size))
        have yd : W.drew.cell? ⟨g, j, none⟩ = some (.int .u8 x) := yx
        have zd : W.drew.frozen? ⟨g, j, none⟩ = false := zx
        have fin : Hid (∃ F', LG (W.drew.setCell ⟨g, j, none⟩ (.int .u8 y)) F' t st life lost most (qs.set k ((flipAt p.1 kk, p.2) :: l)) ∧ Stp F F' w (W.drew.setCell ⟨g, j, none⟩ (.int .u8 y))) := by
          obtain ⟨g1, g2, g3, g4, g5, g6, g7⟩ := HQ.out
          have f : Fr (fun b => b = g) W.drew (W.drew.setCell ⟨g, j, none⟩ (.int .u8 y)) := (Fr.refl (fun b => b = g) W.drew).setCell (p := ⟨g, j, none⟩) (fun _ => rfl) _
          have o0 := ownB_below g2.1.1 BD.out
          obtain ⟨cur, hcur⟩ := own_type o0 (g := g) rfl
          have hd := List.pairwise_cons.1 (show Dj ((⟨some ⟨g, 0, none⟩, p.1.length, fc, fg⟩ : Fl).v :: fl.map Fl.v) from g3)
          have st' : ∀ (v : Value) (bs : List Int), OwnB 0 w v bs → v ∈ fl.map Fl.v → OwnB 0 (W.drew.setCell ⟨g, j, none⟩ (.int .u8 y)) v bs := fun v bs o hm => (ownB_below o BD.out).fr f (fun g' hg' (e : g' = g) => hd.1 v hm g rfl (by rw [← e]; exact hg'))
          have hgF : Fs k g := g5 _ (by rw [List.map_cons]; exact List.mem_cons_self ..) g rfl
          have qx : QX (W.drew.setCell ⟨g, j, none⟩ (.int .u8 y)) (Fs k) cq most ((flipAt p.1 kk, p.2) :: l) := by
            refine ⟨⟨sv, ⟨some ⟨g, 0, none⟩, p.1.length, fc, fg⟩ :: fl, ?_, ⟨⟨?_, g2.1.2⟩, ?_⟩, g3, g4, g5⟩, g6, fun b hb => ?_⟩
            · have hi := g1.below BD.out
              exact hi.keep (f.blk cq (lt_of_block hi.blk) (fun e => by subst e; have h4 := hi.blk; rw [hcur] at h4; cases h4)) (fun g' hg' => f.blk g' (own_lt hi.own hg') (fun e => by subst e; exact own_ne hi.own hcur (by decide) hg'))
            · have := own_setB o0 j hj y
              have e : p.1.set j y = flipAt p.1 kk := by
                unfold flipAt
                rw [← HJD.out, ← HRDD.out, HY.out, HX.out, List.getD_eq_getElem?_getD, List.getElem?_eq_getElem hj]
                rfl
              rw [e] at this
              exact this
            · exact all2_mem g2.2 (fun f p hf e => ⟨st' _ _ e.1 (List.mem_map.2 ⟨f, hf, rfl⟩), e.2⟩)
            · exact Nat.lt_of_lt_of_le (g7 b hb) (Nat.le_trans BD.out.size f.size)
          rw [HCQ.out] at qx
          obtain ⟨F2, Fs2, hL, hS, _⟩ := H.out.turn hi (Stp.afterBelow BD.out ⟨f.mono (fun b _ (e : b = g) => by rw [e]; exact hgF), fun b hb => .inl hb⟩) qx (fun q hq => by
            have ho := H.out.okAt hi
            rw [← HL.out] at ho
            rcases List.mem_cons.1 hq with e | hq
            · rw [e]
              have hp := ho p (List.mem_cons_self ..)
              exact ⟨by rw [flipAt_len]; exact hp.len, flipAt_byte p.1 kk (by omega) hp.byte, hp.age⟩
            · exact ho q (List.mem_cons_of_mem _ hq))
          exact ⟨F2, ⟨rv, ps, Fs2, hL⟩, hS⟩
        clear yx zx
        go_wp2_with fail
        go_ret
        have hfin := fin.out
        rw [HY.out] at hfin
        exact ⟨rfl, hfin⟩
end
end Go.Proofs.Yteihpaikdpdglaa
