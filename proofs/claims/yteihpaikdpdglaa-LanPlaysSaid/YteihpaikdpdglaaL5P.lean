/-
  Layer 5: LanPlays: the walk. (Printed by gL5P.py.)
-/
import Derived.Test.YteihpaikdpdglaaL5O
import Derived.Test.YteihpaikdpdglaaL5A
namespace Go.Proofs.Yteihpaikdpdglaa
open Go.RowKit
set_option linter.unusedVariables false


theorem rowLift {w w' : World} {B e : Nat} {v : Value} {fl : List Fl} {l : FlA} (o : Own enF e 2 B w v fl) (a : All2 (FlB w) fl l) (hb : Below w.heap.size w w') : Own enF e 2 B w' v fl ∧ All2 (FlB w') fl l :=
  ⟨o.fr (Fr.of_below hb no) (fun _ _ e => e), forall_imp a (fun f' p' e' => ⟨ownB_below e'.1 hb, e'.2⟩)⟩
theorem lost_puts (st : Nat) (most s : Int) (x : List Int) (tg : Int) (S : LS) : ∀ i, S.2 ≤ (putsP st most s x tg S i).2.2 ∧ (putsP st most s x tg S i).2.2 ≤ S.2 + i
  | 0 => by unfold putsP; dsimp only; omega
  | i + 1 => by
    have h1 := lost_puts st most s x tg S i
    unfold putsP
    split
    · have h2 := sendP_lost st most s i x (putsP st most s x tg S i).2
      dsimp only
      omega
    · omega
theorem lost_put (st : Nat) (most s : Int) (x : List Int) (S : LS) : S.2 ≤ (putP st most s x S).2.2 ∧ (putP st most s x S).2.2 ≤ S.2 + st := by
  unfold putP
  split
  · split
    · dsimp only; omega
    · exact lost_puts st most s x _ S st
  · dsimp only; omega
theorem cutAt_bound (st : Nat) (a b : Int) (qs : List FlA) (h : ∀ l ∈ qs, (l.length : Int) ≤ 10000) : (0 ≤ (cutAt st a b qs).1 ∧ (cutAt st a b qs).1 ≤ 10000) ∧ ∀ l ∈ (cutAt st a b qs).2, (l.length : Int) ≤ 10000 := by
  unfold cutAt
  cases rix st a b with
  | none => exact ⟨by dsimp only; omega, h⟩
  | some k =>
    refine ⟨⟨by dsimp only; omega, ?_⟩, fun l hl => ?_⟩
    · dsimp only
      by_cases hk : k < qs.length
      · rw [getD_get hk]; exact h _ (List.getElem_mem hk)
      · rw [List.getD_eq_getElem?_getD, List.getElem?_eq_none (by omega)]; simp
    · rcases List.mem_or_eq_of_mem_set hl with e | e
      · exact h l e
      · rw [e]; simp
theorem cuts_bound (st : Nat) (s : Int) (qs : List FlA) (h : ∀ l ∈ qs, (l.length : Int) ≤ 10000) : ∀ i, (0 ≤ (cutsP st s qs i).1 ∧ (cutsP st s qs i).1 ≤ 20000 * i) ∧ ∀ l ∈ (cutsP st s qs i).2, (l.length : Int) ≤ 10000
  | 0 => ⟨by unfold cutsP; dsimp only; omega, h⟩
  | i + 1 => by
    have h1 := cuts_bound st s qs h i
    have h2 := cutAt_bound st s i (cutsP st s qs i).2 h1.2
    have h3 := cutAt_bound st i s (cutAt st s i (cutsP st s qs i).2).2 h2.2
    unfold cutsP
    exact ⟨by dsimp only; omega, h3.2⟩
theorem lost_cut (st : Nat) (hst : st ≤ 16) (s : Int) (S : LS) (h : ∀ l ∈ S.1, (l.length : Int) ≤ 10000) : S.2 ≤ (cutP st s S).2.2 ∧ (cutP st s S).2.2 ≤ S.2 + 320000 := by
  unfold cutP
  split
  · have := (cuts_bound st s S.1 h st).1
    dsimp only
    omega
  · dsimp only; omega
theorem lost_old (st : Nat) (hst : st ≤ 16) (life : Int) (S : LS) (hl : S.1.length = st * st) (h : ∀ l ∈ S.1, (l.length : Int) ≤ 10000) : S.2 ≤ (oldP life S).2.2 ∧ (oldP life S).2.2 ≤ S.2 + 2560000 := by
  have h1 := gonesP_range life 10000 S.1 h
  have h2 : st * st ≤ 256 := Nat.mul_le_mul hst hst
  rw [hl] at h1
  show S.2 ≤ S.2 + gonesP life S.1 ∧ S.2 + gonesP life S.1 ≤ S.2 + 2560000
  omega
theorem lost_do (st : Nat) (hst : st ≤ 16) (most life : Int) (d : De) (S : LS) (hl : S.1.length = st * st) (h : ∀ l ∈ S.1, (l.length : Int) ≤ 10000) : S.2 ≤ (doP st most life d S).2 ∧ (doP st most life d S).2 ≤ S.2 + 3000000 := by
  unfold doP
  split
  · have := lost_send st most d.fr d.tg d.b S; omega
  split
  · have := lost_put st most d.fr d.b S; omega
  split
  · have := lost_pass st d.fr d.tg S; omega
  split
  · have := lost_drop st d.fr d.tg S; omega
  split
  · have := lost_twice st most d.fr d.tg S; omega
  split
  · have := lost_spoil st d.fr d.tg d.bit S; omega
  split
  · have := lost_old st hst life S hl h; omega
  · have := lost_cut st hst d.fr S h; omega

structure PX (w0 w : World) (t r st : Nat) (life most : Int) (i : Nat) (S : LS) : Prop where
  d : DX w0 w [] t r st life most S S
  lo : 0 ≤ S.2 ∧ S.2 ≤ i * 3000000
theorem PX.below {w0 w w' : World} {t r st : Nat} {life most : Int} {i : Nat} {S : LS} (h : PX w0 w t r st life most i S) (hb : Below w.heap.size w w') : PX w0 w' t r st life most i S := ⟨h.d.below hb, h.lo⟩
theorem PX.next {w0 w w' : World} {t r st : Nat} {life most : Int} {i : Nat} {S : LS} {d : De} (h : PX w0 w t r st life most i S) (hd : DX w0 w' [] t r st life most (doP st most life d S) (doP st most life d S)) : PX w0 w' t r st life most (i + 1) (doP st most life d S) :=
  ⟨hd, by
    have h1 := lost_do st h.d.sts.2 most life d S h.d.qlen h.d.rlen
    have h2 := h.lo
    refine ⟨by omega, ?_⟩
    push_cast
    omega⟩
set_option maxRecDepth 100000 in
set_option maxHeartbeats 8000000 in
theorem playsL (x0 x1 x2 : Int) (v : Value) (l : List De) (w : World) (hrd : Rd w 5 v l.length (l.flatMap encE)) (hok : ∀ d ∈ l, d.ok w) (hlm : l.length ≤ maxLen) :
    Calls Try.prog 10 #[.agg #[.int .i64 x0, .int .i64 x1, .int .i64 x2], v] w fun e w' => e = .returned (.bool true) ∧ Below w.heap.size w w' := by
  obtain ⟨la, lc, rfl⟩ := hrd.len
  have HRD := Lib.hid hrd
  have HOK := Lib.hid hok
  have HLM := Lib.hid hlm
  clear hrd hok hlm
  obtain ⟨wd, hwd⟩ : ∃ wd, wd = w.alloc (.cells #[.int .i64 x0, .int .i64 x1, .int .i64 x2] 55) := ⟨_, rfl⟩
  have hbd : Below w.heap.size w wd := by rw [hwd]; exact (Below.refl _ w).alloc (Nat.le_refl _) _
  obtain ⟨q, hqq⟩ : ∃ q, q = w.heap.size := ⟨_, rfl⟩
  have hq : wd.heap[q]? = some (.cells #[.int .i64 x0, .int .i64 x1, .int .i64 x2] 55 (0, 0)) := by rw [hwd, hqq]; exact heap_alloc_new' w _
  have HBD := Lib.hid hbd
  have HQ := Lib.hid hq
  clear hbd hq
  subst hqq
  go_enter Try.func10, Try.ntmps10
  go_wp2_with fail
  rw [← hwd]
  refine (awake wd).mono ?_
  rintro e w0 ⟨rfl, b0⟩
  have B0 := Lib.hid (HBD.out.trans (b0.mono HBD.out.size))
  have hqb : w0.heap[w.heap.size]? = some (.cells #[.int .i64 x0, .int .i64 x1, .int .i64 x2] 55 (0, 0)) := (b0.block _ (lt_of_block HQ.out)).trans HQ.out
  have RD0 := Lib.hid (Rd.fr HRD.out (Fr.of_below B0.out no) (fun _ _ e => e))
  have OK0 := Lib.hid (fun d hd => (HOK.out d hd).below B0.out)
  have n0 : w0.cell? ⟨w.heap.size, 0, none⟩ = some (.int .i64 x0) := blk_cell hqb 0
  have n1 : w0.cell? ⟨w.heap.size, 1, none⟩ = some (.int .i64 x1) := blk_cell hqb 1
  have n2 : w0.cell? ⟨w.heap.size, 2, none⟩ = some (.int .i64 x2) := blk_cell hqb 2
  clear b0 hqb hwd
  go_wp2_with fail
  refine (room _ l 120 (by decide) w0 RD0.out OK0.out HLM.out).mono ?_
  rintro e w' ⟨rfl, hw'⟩
  obtain rfl := hw'.symm
  clear hw'
  cases hr : roomP l 120 with
  | false =>
    clear hr
    go_wp2_with fail
    go_ret
    exact ⟨rfl, B0.out⟩
  | true =>
  obtain ⟨hlen, hb200⟩ := room_true hr
  have HB2 := Lib.hid hb200
  clear hr hb200
  obtain ⟨N, hN⟩ : ∃ N, N = l.length := ⟨_, rfl⟩
  have HN := Lib.hid hN
  rw [← hN] at hlen ⊢
  clear hN
  have hN120 : N ≤ 120 := by omega
  cases hnw : newOk x0 x1 x2 with
  | false =>
    have HNW := Lib.hid hnw
    clear hnw
    go_wp2_with fail
    refine (newBadG x0 x1 x2 HNW.out _).mono ?_
    rintro e w' ⟨rfl, hw'⟩
    obtain rfl := hw'.symm
    clear hw'
    go_wp2_with fail
    refine (rnewBad x0 x1 x2 HNW.out _).mono ?_
    rintro e w' ⟨rfl, hw'⟩
    obtain rfl := hw'.symm
    clear hw'
    go_wp2_with fail
    go_ret
    exact ⟨rfl, B0.out⟩
  | true =>
  have hrg : (1 ≤ x0 ∧ x0 ≤ 16) ∧ (1 ≤ x1 ∧ x1 ≤ 64) ∧ (1 ≤ x2 ∧ x2 ≤ 10000) := by
    unfold newOk at hnw
    simp only [Bool.and_eq_true, decide_eq_true_eq] at hnw
    omega
  obtain ⟨st, rfl⟩ : ∃ st : Nat, x0 = st := ⟨x0.toNat, by omega⟩
  have hst : 1 ≤ st ∧ st ≤ 16 := by omega
  have HRG := Lib.hid hrg
  clear hnw hrg
  have HB0 : Hid (∀ W, Below w0.heap.size w0 W → W.cell? ⟨w.heap.size, 0, none⟩ = some (.int .i64 st)) := fun W hb => cellOn' n0 hb
  go_wp2_with fail
  refine (newG st x1 x2 hst HRG.out.2.1 HRG.out.2.2 w0).mono ?_
  rintro e w1 ⟨t, F, rfl, g1, g2, g3⟩
  have G1 := Lib.hid g1
  have G2 := Lib.hid g2
  have G3 := Lib.hid g3
  have m0 := cellOn' n0 g2
  have m1 := cellOn' n1 g2
  have m2 := cellOn' n2 g2
  clear g1 g2 g3
  go_wp2_with fail
  refine (rnew st x1 x2 hst HRG.out.2.1 HRG.out.2.2 w1).mono ?_
  rintro e w2 ⟨r, G, rfl, g4, g5, g6⟩
  have P0 : Hid (PX w0 w2 t r st x2 x1 0 (List.replicate (st * st) [], 0)) := ⟨⟨⟨F, G, G1.out.below g5, g4, G3.out, fun b hb => Nat.le_trans G2.out.size (g6 b hb), fun b hF hG => by have := G1.out.lt b hF; have := g6 b hG; omega, Kept.nil _ _, Kept.nil _ _⟩, G2.out.trans (g5.mono G2.out.size)⟩, by dsimp only; omega⟩
  clear g4 g5 g6 m0 m1 m2 n0 n1 n2
  go_wp2_with fail
  go_loopg [9] N (fun g s9 wx => ∃ (i : Nat) (S : LS), i ≤ N ∧ s9 = .int .i64 i ∧ g = N - i ∧ Hid (PX w0 wx t r st x2 x1 i S))
  case atStart => exact ⟨0, _, Nat.zero_le _, rfl, rfl, P0⟩
  case round =>
    obtain ⟨i, S, hi, rfl, rfl, HX⟩ := hrel
    rename World => wx
    by_cases hlt : i < N
    · have hdl : decide ((i : Int) < (N : Int)) = true := decide_eq_true (by omega)
      have hdn : decide (i < N) = true := decide_eq_true hlt
      have hil : i < l.length := by rw [← HN.out]; exact hlt
      have hi1 : (i : Int) < (N : Int) := by omega
      have rd := RD0.out
      obtain ⟨bb, o, c, hvv, _, _⟩ := Rd.some rd (by omega) (by decide)
      have hvv := hvv
      simp at hvv
      obtain ⟨rfl, hvc⟩ := hvv
      have hyy := deedAt rd hil
      obtain ⟨d, hdd⟩ : ∃ d, d = l[i] := ⟨_, rfl⟩
      rw [← hdd] at hyy
      have dok := OK0.out d (by rw [hdd]; exact List.getElem_mem hil)
      have db : d.b.length ≤ 200 := HB2.out d (by rw [hdd]; exact List.getElem_mem hil)
      have HDB := Lib.hid db
      have DOK := Lib.hid dok
      have HS : Hid (∀ W, Below w0.heap.size w0 W → W.cell? ⟨bb, o + i * 5, none⟩ = some (.int .i64 d.dw) ∧ W.cell? ⟨bb, o + i * 5 + 1, none⟩ = some (.int .i64 d.fr) ∧ W.cell? ⟨bb, o + i * 5 + 2, none⟩ = some (.int .i64 d.tg) ∧ W.cell? ⟨bb, o + i * 5 + 3, none⟩ = some (.int .i64 d.bit) ∧ W.cell? ⟨bb, o + i * 5 + 4, none⟩ = some (.slice d.a d.n d.c)) := fun W hb => ⟨cellOn' hyy.1 hb, cellOn' hyy.2.1 hb, cellOn' hyy.2.2.1 hb, cellOn' hyy.2.2.2.1 hb, cellOn' hyy.2.2.2.2 hb⟩
      obtain ⟨Sn, hSn⟩ : ∃ Sn, Sn = doP st x1 x2 d S := ⟨_, rfl⟩
      have HSN := Lib.hid hSn
      have CD : Hid (∀ W, DX w0 W [] t r st x2 x1 S S → Calls Try.prog 27 #[.pointer (some ⟨t, 0, none⟩), .pointer (some ⟨r, 0, none⟩), .agg #[.int .i64 d.dw, .int .i64 d.fr, .int .i64 d.tg, .int .i64 d.bit, .slice d.a d.n d.c]] W fun e w' => e = .returned (.bool true) ∧ DX w0 w' [] t r st x2 x1 Sn Sn) := fun W hW => by
        have h9 := ddo hW d DOK.out HDB.out ⟨HX.out.lo.1, by have := HX.out.lo.2; omega⟩
        rw [← HSN.out] at h9
        exact h9
      clear hdd hvc rd db dok hyy hSn
      go_upto_region 14 with fail
      have HDX : Hid (DX w0 wx.drew [] t r st x2 x1 S S) := HX.out.d.below (Below.refl _ wx).drew
      have s0 : wx.drew.cell? ⟨bb, o + i * 5, none⟩ = some (.int .i64 d.dw) ∧ wx.drew.cell? ⟨bb, o + i * 5 + 1, none⟩ = some (.int .i64 d.fr) ∧ wx.drew.cell? ⟨bb, o + i * 5 + 2, none⟩ = some (.int .i64 d.tg) ∧ wx.drew.cell? ⟨bb, o + i * 5 + 3, none⟩ = some (.int .i64 d.bit) ∧ wx.drew.cell? ⟨bb, o + i * 5 + 4, none⟩ = some (.slice d.a d.n d.c) := HS.out _ HDX.out.bel
      refine wp_region_held_drew (S := fun w' => w'.cell? ⟨bb, o + i * 5, none⟩ = some (.int .i64 d.dw) ∧ w'.cell? ⟨bb, o + i * 5 + 1, none⟩ = some (.int .i64 d.fr) ∧ w'.cell? ⟨bb, o + i * 5 + 2, none⟩ = some (.int .i64 d.tg) ∧ w'.cell? ⟨bb, o + i * 5 + 3, none⟩ = some (.int .i64 d.bit) ∧ w'.cell? ⟨bb, o + i * 5 + 4, none⟩ = some (.slice d.a d.n d.c)) (by kernel_rfl) s0 (fun hHeld => ?_)
      refine wpAnyH_take (i := 0) (oi := ⟨some 50, _, _, _, _, _⟩) (v := .pointer (some ⟨t, 0, none⟩)) rfl (by kernel_rfl) (by kernel_rfl) (by kernel_rfl) (fun _ _ _ h => h) (Or.inl ⟨by rfl, ?_⟩) s0 ?_
      · intro w' hSw
        go_simp
      try simp only [Act.put, List.setIfInBounds_toArray, List.set_cons_zero, List.set_cons_succ]
      refine wpAnyH_take (i := 1) (oi := ⟨some 51, _, _, _, _, _⟩) (v := .pointer (some ⟨r, 0, none⟩)) rfl (by kernel_rfl) (by kernel_rfl) (by kernel_rfl) (fun _ _ _ h => h) (Or.inl ⟨by rfl, ?_⟩) s0 ?_
      · intro w' hSw
        go_simp
      try simp only [Act.put, List.setIfInBounds_toArray, List.set_cons_zero, List.set_cons_succ]
      refine wpAnyH_take (i := 2) (oi := ⟨some 52, _, _, _, _, _⟩) (v := .slice (some ⟨bb, o, none⟩) N lc) rfl (by kernel_rfl) (by kernel_rfl) (by kernel_rfl) (fun _ _ _ h => h) (Or.inl ⟨by rfl, ?_⟩) s0 ?_
      · intro w' hSw
        go_simp
      try simp only [Act.put, List.setIfInBounds_toArray, List.set_cons_zero, List.set_cons_succ]
      refine wpAnyH_take (i := 3) (oi := ⟨some 53, _, _, _, _, _⟩) (v := .int .i64 (i : Int)) rfl (by kernel_rfl) (by kernel_rfl) (by kernel_rfl) (fun _ _ _ h => h) (Or.inl ⟨by rfl, ?_⟩) s0 ?_
      · intro w' hSw
        go_simp
      try simp only [Act.put, List.setIfInBounds_toArray, List.set_cons_zero, List.set_cons_succ]
      refine wpAnyH_take (i := 4) (oi := ⟨some 54, _, _, _, _, _⟩) (v := .pointer (some ⟨bb, o + i * 5, none⟩)) rfl (by kernel_rfl) (by kernel_rfl) (by kernel_rfl) (fun _ _ _ h => h) (Or.inl ⟨by rfl, ?_⟩) s0 ?_
      · intro w' hSw
        go_simp
      try simp only [Act.put, List.setIfInBounds_toArray, List.set_cons_zero, List.set_cons_succ]
      refine wpAnyH_take (i := 5) (oi := ⟨some 55, _, _, _, _, _⟩) (v := .agg #[.int .i64 d.dw, .int .i64 d.fr, .int .i64 d.tg, .int .i64 d.bit, .slice d.a d.n d.c]) rfl (by kernel_rfl) (by kernel_rfl) (by kernel_rfl) (fun _ _ _ h => h) (Or.inl ⟨by rfl, ?_⟩) s0 ?_
      · intro w' hSw
        obtain ⟨s0, s1, s2, s3, s4⟩ := hSw
        go_simp
      try simp only [Act.put, List.setIfInBounds_toArray, List.set_cons_zero, List.set_cons_succ]
      refine wpAnyH_ready (rs := [6]) (by kernel_rfl) (by simp) ?_
      refine AllReadyH.cons (i := 6) (o := ⟨some 56, _, _, _, _, _⟩) rfl (fun K hK => ?_) ?_
      · go_simp
        go_at_call 27
        refine (CD.out _ HDX.out).mono ?_
        rintro e w3 ⟨rfl, h3⟩
        have H3 := Lib.hid h3
        have s3 : w3.cell? ⟨bb, o + i * 5, none⟩ = some (.int .i64 d.dw) ∧ w3.cell? ⟨bb, o + i * 5 + 1, none⟩ = some (.int .i64 d.fr) ∧ w3.cell? ⟨bb, o + i * 5 + 2, none⟩ = some (.int .i64 d.tg) ∧ w3.cell? ⟨bb, o + i * 5 + 3, none⟩ = some (.int .i64 d.bit) ∧ w3.cell? ⟨bb, o + i * 5 + 4, none⟩ = some (.slice d.a d.n d.c) := HS.out _ h3.bel
        clear h3
        refine hK.out _ _ s3 (fun hHeld => ?_)
        clear hK
        try simp only [Act.put, List.setIfInBounds_toArray, List.set_cons_zero, List.set_cons_succ]
        refine wpAnyH_take (i := 7) (oi := ⟨some 57, _, _, _, _, _⟩) (v := .bool false) rfl (by kernel_rfl) (by kernel_rfl) (by kernel_rfl) (fun _ _ _ h => h) (Or.inl ⟨by rfl, ?_⟩) s3 ?_
        · intro w' hSw
          go_simp
        try simp only [Act.put, List.setIfInBounds_toArray, List.set_cons_zero, List.set_cons_succ]
        refine wpAnyH_take (i := 8) (oi := ⟨some 58, _, _, _, _, _⟩) (v := .bool false) rfl (by kernel_rfl) (by kernel_rfl) (by kernel_rfl) (fun _ _ _ h => h) (Or.inl ⟨by rfl, ?_⟩) s3 ?_
        · intro w' hSw
          go_simp
        try simp only [Act.put, List.setIfInBounds_toArray, List.set_cons_zero, List.set_cons_succ]
        refine wpAnyH_take (i := 9) (oi := ⟨some 59, _, _, _, _, _⟩) (v := .pointer (some ⟨t, 0, none⟩)) rfl (by kernel_rfl) (by kernel_rfl) (by kernel_rfl) (fun _ _ _ h => h) (Or.inl ⟨by rfl, ?_⟩) s3 ?_
        · intro w' hSw
          go_simp
        try simp only [Act.put, List.setIfInBounds_toArray, List.set_cons_zero, List.set_cons_succ]
        refine wpAnyH_take (i := 10) (oi := ⟨some 60, _, _, _, _, _⟩) (v := .slice (some ⟨bb, o, none⟩) N lc) rfl (by kernel_rfl) (by kernel_rfl) (by kernel_rfl) (fun _ _ _ h => h) (Or.inl ⟨by rfl, ?_⟩) s3 ?_
        · intro w' hSw
          go_simp
        try simp only [Act.put, List.setIfInBounds_toArray, List.set_cons_zero, List.set_cons_succ]
        refine wpAnyH_take (i := 11) (oi := ⟨some 61, _, _, _, _, _⟩) (v := .int .i64 (i : Int)) rfl (by kernel_rfl) (by kernel_rfl) (by kernel_rfl) (fun _ _ _ h => h) (Or.inl ⟨by rfl, ?_⟩) s3 ?_
        · intro w' hSw
          go_simp
        try simp only [Act.put, List.setIfInBounds_toArray, List.set_cons_zero, List.set_cons_succ]
        refine wpAnyH_take (i := 12) (oi := ⟨some 62, _, _, _, _, _⟩) (v := .pointer (some ⟨bb, o + i * 5, none⟩)) rfl (by kernel_rfl) (by kernel_rfl) (by kernel_rfl) (fun _ _ _ h => h) (Or.inl ⟨by rfl, ?_⟩) s3 ?_
        · intro w' hSw
          go_simp
        try simp only [Act.put, List.setIfInBounds_toArray, List.set_cons_zero, List.set_cons_succ]
        refine wpAnyH_take (i := 13) (oi := ⟨some 63, _, _, _, _, _⟩) (v := .pointer (some ⟨bb, o + i * 5 + 1, none⟩)) rfl (by kernel_rfl) (by kernel_rfl) (by kernel_rfl) (fun _ _ _ h => h) (Or.inl ⟨by rfl, ?_⟩) s3 ?_
        · intro w' hSw
          go_simp
        try simp only [Act.put, List.setIfInBounds_toArray, List.set_cons_zero, List.set_cons_succ]
        refine wpAnyH_take (i := 14) (oi := ⟨some 64, _, _, _, _, _⟩) (v := .int .i64 d.fr) rfl (by kernel_rfl) (by kernel_rfl) (by kernel_rfl) (fun _ _ _ h => h) (Or.inl ⟨by rfl, ?_⟩) s3 ?_
        · intro w' hSw
          obtain ⟨s0, s1, s2, s3, s4⟩ := hSw
          go_simp
        try simp only [Act.put, List.setIfInBounds_toArray, List.set_cons_zero, List.set_cons_succ]
        refine wpAnyH_take (i := 15) (oi := ⟨some 65, _, _, _, _, _⟩) (v := .slice (some ⟨bb, o, none⟩) N lc) rfl (by kernel_rfl) (by kernel_rfl) (by kernel_rfl) (fun _ _ _ h => h) (Or.inl ⟨by rfl, ?_⟩) s3 ?_
        · intro w' hSw
          go_simp
        try simp only [Act.put, List.setIfInBounds_toArray, List.set_cons_zero, List.set_cons_succ]
        refine wpAnyH_take (i := 16) (oi := ⟨some 66, _, _, _, _, _⟩) (v := .int .i64 (i : Int)) rfl (by kernel_rfl) (by kernel_rfl) (by kernel_rfl) (fun _ _ _ h => h) (Or.inl ⟨by rfl, ?_⟩) s3 ?_
        · intro w' hSw
          go_simp
        try simp only [Act.put, List.setIfInBounds_toArray, List.set_cons_zero, List.set_cons_succ]
        refine wpAnyH_take (i := 17) (oi := ⟨some 67, _, _, _, _, _⟩) (v := .pointer (some ⟨bb, o + i * 5, none⟩)) rfl (by kernel_rfl) (by kernel_rfl) (by kernel_rfl) (fun _ _ _ h => h) (Or.inl ⟨by rfl, ?_⟩) s3 ?_
        · intro w' hSw
          go_simp
        try simp only [Act.put, List.setIfInBounds_toArray, List.set_cons_zero, List.set_cons_succ]
        refine wpAnyH_take (i := 18) (oi := ⟨some 68, _, _, _, _, _⟩) (v := .pointer (some ⟨bb, o + i * 5 + 2, none⟩)) rfl (by kernel_rfl) (by kernel_rfl) (by kernel_rfl) (fun _ _ _ h => h) (Or.inl ⟨by rfl, ?_⟩) s3 ?_
        · intro w' hSw
          go_simp
        try simp only [Act.put, List.setIfInBounds_toArray, List.set_cons_zero, List.set_cons_succ]
        refine wpAnyH_take (i := 19) (oi := ⟨some 69, _, _, _, _, _⟩) (v := .int .i64 d.tg) rfl (by kernel_rfl) (by kernel_rfl) (by kernel_rfl) (fun _ _ _ h => h) (Or.inl ⟨by rfl, ?_⟩) s3 ?_
        · intro w' hSw
          obtain ⟨s0, s1, s2, s3, s4⟩ := hSw
          go_simp
        try simp only [Act.put, List.setIfInBounds_toArray, List.set_cons_zero, List.set_cons_succ]
        refine wpAnyH_take (i := 21) (oi := ⟨some 71, _, _, _, _, _⟩) (v := .pointer (some ⟨r, 0, none⟩)) rfl (by kernel_rfl) (by kernel_rfl) (by kernel_rfl) (fun _ _ _ h => h) (Or.inl ⟨by rfl, ?_⟩) s3 ?_
        · intro w' hSw
          go_simp
        try simp only [Act.put, List.setIfInBounds_toArray, List.set_cons_zero, List.set_cons_succ]
        refine wpAnyH_take (i := 22) (oi := ⟨some 72, _, _, _, _, _⟩) (v := .slice (some ⟨bb, o, none⟩) N lc) rfl (by kernel_rfl) (by kernel_rfl) (by kernel_rfl) (fun _ _ _ h => h) (Or.inl ⟨by rfl, ?_⟩) s3 ?_
        · intro w' hSw
          go_simp
        try simp only [Act.put, List.setIfInBounds_toArray, List.set_cons_zero, List.set_cons_succ]
        refine wpAnyH_take (i := 23) (oi := ⟨some 73, _, _, _, _, _⟩) (v := .int .i64 (i : Int)) rfl (by kernel_rfl) (by kernel_rfl) (by kernel_rfl) (fun _ _ _ h => h) (Or.inl ⟨by rfl, ?_⟩) s3 ?_
        · intro w' hSw
          go_simp
        try simp only [Act.put, List.setIfInBounds_toArray, List.set_cons_zero, List.set_cons_succ]
        refine wpAnyH_take (i := 24) (oi := ⟨some 74, _, _, _, _, _⟩) (v := .pointer (some ⟨bb, o + i * 5, none⟩)) rfl (by kernel_rfl) (by kernel_rfl) (by kernel_rfl) (fun _ _ _ h => h) (Or.inl ⟨by rfl, ?_⟩) s3 ?_
        · intro w' hSw
          go_simp
        try simp only [Act.put, List.setIfInBounds_toArray, List.set_cons_zero, List.set_cons_succ]
        refine wpAnyH_take (i := 25) (oi := ⟨some 75, _, _, _, _, _⟩) (v := .pointer (some ⟨bb, o + i * 5 + 1, none⟩)) rfl (by kernel_rfl) (by kernel_rfl) (by kernel_rfl) (fun _ _ _ h => h) (Or.inl ⟨by rfl, ?_⟩) s3 ?_
        · intro w' hSw
          go_simp
        try simp only [Act.put, List.setIfInBounds_toArray, List.set_cons_zero, List.set_cons_succ]
        refine wpAnyH_take (i := 26) (oi := ⟨some 76, _, _, _, _, _⟩) (v := .int .i64 d.fr) rfl (by kernel_rfl) (by kernel_rfl) (by kernel_rfl) (fun _ _ _ h => h) (Or.inl ⟨by rfl, ?_⟩) s3 ?_
        · intro w' hSw
          obtain ⟨s0, s1, s2, s3, s4⟩ := hSw
          go_simp
        try simp only [Act.put, List.setIfInBounds_toArray, List.set_cons_zero, List.set_cons_succ]
        refine wpAnyH_take (i := 27) (oi := ⟨some 77, _, _, _, _, _⟩) (v := .slice (some ⟨bb, o, none⟩) N lc) rfl (by kernel_rfl) (by kernel_rfl) (by kernel_rfl) (fun _ _ _ h => h) (Or.inl ⟨by rfl, ?_⟩) s3 ?_
        · intro w' hSw
          go_simp
        try simp only [Act.put, List.setIfInBounds_toArray, List.set_cons_zero, List.set_cons_succ]
        refine wpAnyH_take (i := 28) (oi := ⟨some 78, _, _, _, _, _⟩) (v := .int .i64 (i : Int)) rfl (by kernel_rfl) (by kernel_rfl) (by kernel_rfl) (fun _ _ _ h => h) (Or.inl ⟨by rfl, ?_⟩) s3 ?_
        · intro w' hSw
          go_simp
        try simp only [Act.put, List.setIfInBounds_toArray, List.set_cons_zero, List.set_cons_succ]
        refine wpAnyH_take (i := 29) (oi := ⟨some 79, _, _, _, _, _⟩) (v := .pointer (some ⟨bb, o + i * 5, none⟩)) rfl (by kernel_rfl) (by kernel_rfl) (by kernel_rfl) (fun _ _ _ h => h) (Or.inl ⟨by rfl, ?_⟩) s3 ?_
        · intro w' hSw
          go_simp
        try simp only [Act.put, List.setIfInBounds_toArray, List.set_cons_zero, List.set_cons_succ]
        refine wpAnyH_take (i := 30) (oi := ⟨some 80, _, _, _, _, _⟩) (v := .pointer (some ⟨bb, o + i * 5 + 2, none⟩)) rfl (by kernel_rfl) (by kernel_rfl) (by kernel_rfl) (fun _ _ _ h => h) (Or.inl ⟨by rfl, ?_⟩) s3 ?_
        · intro w' hSw
          go_simp
        try simp only [Act.put, List.setIfInBounds_toArray, List.set_cons_zero, List.set_cons_succ]
        refine wpAnyH_take (i := 31) (oi := ⟨some 81, _, _, _, _, _⟩) (v := .int .i64 d.tg) rfl (by kernel_rfl) (by kernel_rfl) (by kernel_rfl) (fun _ _ _ h => h) (Or.inl ⟨by rfl, ?_⟩) s3 ?_
        · intro w' hSw
          obtain ⟨s0, s1, s2, s3, s4⟩ := hSw
          go_simp
        try simp only [Act.put, List.setIfInBounds_toArray, List.set_cons_zero, List.set_cons_succ]
        refine wpAnyH_ready (rs := [20]) (by kernel_rfl) (by simp) ?_
        refine AllReadyH.cons (i := 20) (o := ⟨some 70, _, _, _, _, _⟩) rfl (fun K hK => ?_) ?_
        · go_simp
          go_at_call 19
          refine (drow H3.out d.fr d.tg).mono ?_
          rintro e w4 ⟨ov, fo, rfl, o4, a4, b4⟩
          have H4 := Lib.hid (H3.out.below b4)
          have O4 := Lib.hid (And.intro o4 a4)
          have s4 : w4.cell? ⟨bb, o + i * 5, none⟩ = some (.int .i64 d.dw) ∧ w4.cell? ⟨bb, o + i * 5 + 1, none⟩ = some (.int .i64 d.fr) ∧ w4.cell? ⟨bb, o + i * 5 + 2, none⟩ = some (.int .i64 d.tg) ∧ w4.cell? ⟨bb, o + i * 5 + 3, none⟩ = some (.int .i64 d.bit) ∧ w4.cell? ⟨bb, o + i * 5 + 4, none⟩ = some (.slice d.a d.n d.c) := HS.out _ H4.out.bel
          clear o4 a4 b4
          refine hK.out _ _ s4 (fun hHeld => ?_)
          clear hK
          try simp only [Act.put, List.setIfInBounds_toArray, List.set_cons_zero, List.set_cons_succ]
          refine wpAnyH_ready (rs := [32]) (by kernel_rfl) (by simp) ?_
          refine AllReadyH.cons (i := 32) (o := ⟨some 82, _, _, _, _, _⟩) rfl (fun K hK => ?_) ?_
          · go_simp
            go_at_call 29
            refine (drline H4.out d.fr d.tg).mono ?_
            rintro e w5 ⟨ow, fl, rfl, o5, a5, b5⟩
            have H5 := Lib.hid (H4.out.below b5)
            have CR := Lib.hid (rowSame (rowLift O4.out.1 O4.out.2 b5).1 o5 (rowLift O4.out.1 O4.out.2 b5).2 a5 (H5.out.rowOk d.fr d.tg).2 (H5.out.rowOk d.fr d.tg).1)
            have s5 : w5.cell? ⟨bb, o + i * 5, none⟩ = some (.int .i64 d.dw) ∧ w5.cell? ⟨bb, o + i * 5 + 1, none⟩ = some (.int .i64 d.fr) ∧ w5.cell? ⟨bb, o + i * 5 + 2, none⟩ = some (.int .i64 d.tg) ∧ w5.cell? ⟨bb, o + i * 5 + 3, none⟩ = some (.int .i64 d.bit) ∧ w5.cell? ⟨bb, o + i * 5 + 4, none⟩ = some (.slice d.a d.n d.c) := HS.out _ H5.out.bel
            clear o5 a5 b5
            refine hK.out _ _ s5 (fun hHeld => ?_)
            clear hK
            try simp only [Act.put, List.setIfInBounds_toArray, List.set_cons_zero, List.set_cons_succ]
            refine wpAnyH_ready (rs := [33]) (by kernel_rfl) (by simp) ?_
            refine AllReadyH.cons (i := 33) (o := ⟨some 83, _, _, _, _, _⟩) rfl (fun K hK => ?_) ?_
            · go_simp
              go_at_call 28
              refine CR.out.mono ?_
              rintro e w6 ⟨rfl, b6⟩
              have H6 := Lib.hid (H5.out.below b6)
              have s6 : w6.cell? ⟨bb, o + i * 5, none⟩ = some (.int .i64 d.dw) ∧ w6.cell? ⟨bb, o + i * 5 + 1, none⟩ = some (.int .i64 d.fr) ∧ w6.cell? ⟨bb, o + i * 5 + 2, none⟩ = some (.int .i64 d.tg) ∧ w6.cell? ⟨bb, o + i * 5 + 3, none⟩ = some (.int .i64 d.bit) ∧ w6.cell? ⟨bb, o + i * 5 + 4, none⟩ = some (.slice d.a d.n d.c) := HS.out _ H6.out.bel
              have lr := H6.out.lostR
              clear b6
              refine hK.out _ _ s6 (fun hHeld => ?_)
              clear hK
              try simp only [Act.put, List.setIfInBounds_toArray, List.set_cons_zero, List.set_cons_succ]
              refine wpAnyH_take (i := 34) (oi := ⟨some 84, _, _, _, _, _⟩) (v := .bool false) rfl (by kernel_rfl) (by kernel_rfl) (by kernel_rfl) (fun _ _ _ h => h) (Or.inl ⟨by rfl, ?_⟩) s6 ?_
              · intro w' hSw
                go_simp
              try simp only [Act.put, List.setIfInBounds_toArray, List.set_cons_zero, List.set_cons_succ]
              refine wpAnyH_take (i := 35) (oi := ⟨some 85, _, _, _, _, _⟩) (v := .bool false) rfl (by kernel_rfl) (by kernel_rfl) (by kernel_rfl) (fun _ _ _ h => h) (Or.inl ⟨by rfl, ?_⟩) s6 ?_
              · intro w' hSw
                go_simp
              try simp only [Act.put, List.setIfInBounds_toArray, List.set_cons_zero, List.set_cons_succ]
              refine wpAnyH_take (i := 36) (oi := ⟨some 86, _, _, _, _, _⟩) (v := .bool false) rfl (by kernel_rfl) (by kernel_rfl) (by kernel_rfl) (fun _ _ _ h => h) (Or.inl ⟨by rfl, ?_⟩) s6 ?_
              · intro w' hSw
                go_simp
              try simp only [Act.put, List.setIfInBounds_toArray, List.set_cons_zero, List.set_cons_succ]
              refine wpAnyH_take (i := 37) (oi := ⟨some 87, _, _, _, _, _⟩) (v := .pointer (some ⟨t, 0, none⟩)) rfl (by kernel_rfl) (by kernel_rfl) (by kernel_rfl) (fun _ _ _ h => h) (Or.inl ⟨by rfl, ?_⟩) s6 ?_
              · intro w' hSw
                go_simp
              try simp only [Act.put, List.setIfInBounds_toArray, List.set_cons_zero, List.set_cons_succ]
              refine wpAnyH_take (i := 39) (oi := ⟨some 89, _, _, _, _, _⟩) (v := .pointer (some ⟨r, 0, none⟩)) rfl (by kernel_rfl) (by kernel_rfl) (by kernel_rfl) (fun _ _ _ h => h) (Or.inl ⟨by rfl, ?_⟩) s6 ?_
              · intro w' hSw
                go_simp
              try simp only [Act.put, List.setIfInBounds_toArray, List.set_cons_zero, List.set_cons_succ]
              refine wpAnyH_take (i := 40) (oi := ⟨some 90, _, _, _, _, _⟩) (v := .pointer (some ⟨r, 0, none⟩)) rfl (by kernel_rfl) (by kernel_rfl) (by kernel_rfl) (fun _ _ _ h => h) (Or.inl ⟨by rfl, ?_⟩) s6 ?_
              · intro w' hSw
                go_simp
              try simp only [Act.put, List.setIfInBounds_toArray, List.set_cons_zero, List.set_cons_succ]
              refine wpAnyH_take (i := 41) (oi := ⟨some 91, _, _, _, _, _⟩) (v := .pointer (some ⟨r, 3, none⟩)) rfl (by kernel_rfl) (by kernel_rfl) (by kernel_rfl) (fun _ _ _ h => h) (Or.inl ⟨by rfl, ?_⟩) s6 ?_
              · intro w' hSw
                go_simp
              try simp only [Act.put, List.setIfInBounds_toArray, List.set_cons_zero, List.set_cons_succ]
              refine wpAnyH_ready (rs := [38, 42]) (by kernel_rfl) (by simp) ?_
              refine AllReadyH.cons (i := 38) (o := ⟨some 88, _, _, _, _, _⟩) rfl (fun K hK => ?_) ?_
              · go_simp
                go_at_call 17
                refine (dlost H6.out).mono ?_
                rintro e w7 ⟨rfl, hw7⟩
                obtain rfl := hw7.symm
                clear hw7
                refine hK.out _ _ s6 (fun hHeld => ?_)
                clear hK
                try simp only [Act.put, List.setIfInBounds_toArray, List.set_cons_zero, List.set_cons_succ]
                refine wpAnyH_ready (rs := [42]) (by kernel_rfl) (by simp) ?_
                refine AllReadyH.cons (i := 42) (o := ⟨some 92, _, _, _, _, _⟩) rfl (fun K hK => ?_) ?_
                · go_simp
                  refine hK.out _ _ s6 (fun hHeld => ?_)
                  clear hK
                  try simp only [Act.put, List.setIfInBounds_toArray, List.set_cons_zero, List.set_cons_succ]
                  refine wpAnyH_take (i := 43) (oi := ⟨some 93, _, _, _, _, _⟩) (v := .bool false) rfl (by kernel_rfl) (by kernel_rfl) (by kernel_rfl) (fun _ _ _ h => h) (Or.inl ⟨by rfl, ?_⟩) s6 ?_
                  · intro w' hSw
                    go_simp
                  try simp only [Act.put, List.setIfInBounds_toArray, List.set_cons_zero, List.set_cons_succ]
                  refine wpAnyH_take (i := 44) (oi := ⟨some 94, _, _, _, _, _⟩) (v := .bool false) rfl (by kernel_rfl) (by kernel_rfl) (by kernel_rfl) (fun _ _ _ h => h) (Or.inl ⟨by rfl, ?_⟩) s6 ?_
                  · intro w' hSw
                    go_simp
                  try simp only [Act.put, List.setIfInBounds_toArray, List.set_cons_zero, List.set_cons_succ]
                  refine wpAnyH_done (by kernel_rfl) ?_ _
                  have HF : Hid (PX w0 w6 t r st x2 x1 (i + 1) Sn) := by have h9 := HX.out; have h8 := H6.out; rw [HSN.out] at h8 ⊢; exact h9.next h8
                  clear lr s0 s3 s4 s5 s6
                  go_wp2_with fail
                  go_roundg (N - (i + 1))
                  case measure => omega
                  case rel => exact ⟨i + 1, Sn, by omega, by go_num, rfl, HF⟩
                exact AllReadyH.nil
              refine AllReadyH.cons (i := 42) (o := ⟨some 92, _, _, _, _, _⟩) rfl (fun K hK => ?_) ?_
              · go_simp
                refine hK.out _ _ s6 (fun hHeld => ?_)
                clear hK
                try simp only [Act.put, List.setIfInBounds_toArray, List.set_cons_zero, List.set_cons_succ]
                refine wpAnyH_ready (rs := [38]) (by kernel_rfl) (by simp) ?_
                refine AllReadyH.cons (i := 38) (o := ⟨some 88, _, _, _, _, _⟩) rfl (fun K hK => ?_) ?_
                · go_simp
                  go_at_call 17
                  refine (dlost H6.out).mono ?_
                  rintro e w7 ⟨rfl, hw7⟩
                  obtain rfl := hw7.symm
                  clear hw7
                  refine hK.out _ _ s6 (fun hHeld => ?_)
                  clear hK
                  try simp only [Act.put, List.setIfInBounds_toArray, List.set_cons_zero, List.set_cons_succ]
                  refine wpAnyH_take (i := 43) (oi := ⟨some 93, _, _, _, _, _⟩) (v := .bool false) rfl (by kernel_rfl) (by kernel_rfl) (by kernel_rfl) (fun _ _ _ h => h) (Or.inl ⟨by rfl, ?_⟩) s6 ?_
                  · intro w' hSw
                    go_simp
                  try simp only [Act.put, List.setIfInBounds_toArray, List.set_cons_zero, List.set_cons_succ]
                  refine wpAnyH_take (i := 44) (oi := ⟨some 94, _, _, _, _, _⟩) (v := .bool false) rfl (by kernel_rfl) (by kernel_rfl) (by kernel_rfl) (fun _ _ _ h => h) (Or.inl ⟨by rfl, ?_⟩) s6 ?_
                  · intro w' hSw
                    go_simp
                  try simp only [Act.put, List.setIfInBounds_toArray, List.set_cons_zero, List.set_cons_succ]
                  refine wpAnyH_done (by kernel_rfl) ?_ _
                  have HF : Hid (PX w0 w6 t r st x2 x1 (i + 1) Sn) := by have h9 := HX.out; have h8 := H6.out; rw [HSN.out] at h8 ⊢; exact h9.next h8
                  clear lr s0 s3 s4 s5 s6
                  go_wp2_with fail
                  go_roundg (N - (i + 1))
                  case measure => omega
                  case rel => exact ⟨i + 1, Sn, by omega, by go_num, rfl, HF⟩
                exact AllReadyH.nil
              exact AllReadyH.nil
            exact AllReadyH.nil
          exact AllReadyH.nil
        exact AllReadyH.nil
      exact AllReadyH.nil
    · obtain rfl : i = N := by omega
      have hdl : decide ((i : Int) < (i : Int)) = false := by simp
      go_wp2_with fail
      go_loopg [10] (st + 2) (fun g s10 wy => ∃ (a : Int), -1 ≤ a ∧ a ≤ (st : Int) + 1 ∧ s10 = .int .i64 a ∧ g = ((st : Int) + 1 - a).toNat ∧ Hid (PX w0 wy t r st x2 x1 i S))
      case atStart => exact ⟨-1, by omega, by omega, rfl, by omega, HX⟩
      case round =>
        obtain ⟨a, ha0, ha1, rfl, rfl, HY⟩ := hrel
        rename World => wy
        have hc0 := HB0.out wy HY.out.d.bel
        by_cases hal : a ≤ (st : Int)
        · have hda : decide (a ≤ (st : Int)) = true := decide_eq_true hal
          have hwa : wrap64 (a + 1) = a + 1 := IntWalk.wrap64_in _ (by omega)
          go_wp2_with fail
          go_loopg [11] (st + 2) (fun g s11 wz => ∃ (b : Int), -1 ≤ b ∧ b ≤ (st : Int) + 1 ∧ s11 = .int .i64 b ∧ g = ((st : Int) + 1 - b).toNat ∧ Hid (PX w0 wz t r st x2 x1 i S))
          case atStart => exact ⟨-1, by omega, by omega, rfl, by omega, HY⟩
          case round =>
            obtain ⟨b, hb0, hb1, rfl, rfl, HZ⟩ := hrel
            rename World => wz
            have hcz := HB0.out wz HZ.out.d.bel
            by_cases hbl : b ≤ (st : Int)
            · have hdb : decide (b ≤ (st : Int)) = true := decide_eq_true hbl
              have hwb : wrap64 (b + 1) = b + 1 := IntWalk.wrap64_in _ (by omega)
              go_wp2_with fail
              refine (drow HZ.out.d a b).mono ?_
              rintro e w4 ⟨ov, fo, rfl, o4, a4, b4⟩
              have H4 := Lib.hid (HZ.out.below b4)
              have O4 := Lib.hid (And.intro o4 a4)
              clear o4 a4 b4
              go_wp2_with fail
              refine (drline H4.out.d a b).mono ?_
              rintro e w5 ⟨ow, fl, rfl, o5, a5, b5⟩
              have H5 := Lib.hid (H4.out.below b5)
              have CR := Lib.hid (rowSame (rowLift O4.out.1 O4.out.2 b5).1 o5 (rowLift O4.out.1 O4.out.2 b5).2 a5 (H5.out.d.rowOk a b).2 (H5.out.d.rowOk a b).1)
              clear o5 a5 b5
              go_wp2_with fail
              refine CR.out.mono ?_
              rintro e w6 ⟨rfl, b6⟩
              have H6 := Lib.hid (H5.out.below b6)
              clear b6
              go_wp2_with fail
              go_roundg ((st : Int) + 1 - (b + 1)).toNat
              case measure => omega
              case rel => exact ⟨b + 1, by omega, by omega, rfl, rfl, H6⟩
            · obtain rfl : b = (st : Int) + 1 := by omega
              have hdb : decide ((st : Int) + 1 ≤ (st : Int)) = false := decide_eq_false (by omega)
              go_wp2_with fail
              go_roundg ((st : Int) + 1 - (a + 1)).toNat
              case measure => omega
              case rel => exact ⟨a + 1, by omega, by omega, rfl, rfl, HZ⟩
        · obtain rfl : a = (st : Int) + 1 := by omega
          have hda : decide ((st : Int) + 1 ≤ (st : Int)) = false := decide_eq_false (by omega)
          go_wp2_with fail
          go_ret
          exact ⟨rfl, B0.out.trans (HY.out.d.bel.mono B0.out.size)⟩
end Go.Proofs.Yteihpaikdpdglaa
