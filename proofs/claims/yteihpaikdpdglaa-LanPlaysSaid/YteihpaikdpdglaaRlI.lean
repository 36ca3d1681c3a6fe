/-
  The reference's line: Twice. (Its region is printed by gRlI.py.)
-/
import Derived.Test.YteihpaikdpdglaaRlH
namespace Go.Proofs.Yteihpaikdpdglaa
open Go.RowKit
set_option linter.unusedVariables false


section
variable {w : World} {F : Nat → Prop} {r st : Nat} {life lost most : Int} {qs : List FlA} {lv : Value} {vs : List Value}
set_option maxRecDepth 100000 in
set_option maxHeartbeats 8000000 in
theorem rtwice (h : RG w F r st life lost most qs) (a b : Int) :
    Calls Try.prog 50 #[.pointer (some ⟨r, 0, none⟩), .int .i64 a, .int .i64 b] w fun e w' => e = .returned (.bool (twiceP st most a b (qs, lost)).1) ∧ ∃ F', RG w' F' r st life lost most (twiceP st most a b (qs, lost)).2.1 ∧ Stp F F' w w' := by
  obtain ⟨lv, vs, h⟩ := h
  have H := Lib.hid h
  have H1 := Lib.hid (rat h a b)
  unfold twiceP
  cases hk : rix st a b with
  | none =>
    have hat : atV st a b = -1 := by unfold atV; rw [hk]
    rw [hat] at H1
    clear h hk hat
    go_enter Try.func50, Try.ntmps50
    go_wp2_with fail
    refine H1.out.mono ?_
    rintro e w' ⟨rfl, hw'⟩
    obtain rfl := hw'.symm
    clear hw'
    go_wp2_with fail
    go_quiet (fail)
    go_wp2_with fail
    go_ret
    have hbd := fun m => below_drewN (Below.refl _ w) m
    exact ⟨rfl, F, ⟨lv, vs, H.out.below (hbd _)⟩, Stp.of_below _ (hbd _)⟩
  | some k =>
    obtain ⟨hkv, hkq, hat⟩ := h.at_ hk
    rw [hat] at H1
    obtain ⟨g, cap, hlv, hc1, hc2, y, zg⟩ := h.slot hkv
    obtain ⟨fl, h1, h2, h3⟩ := (h.q k hkv hkq).ex
    obtain ⟨la, lc, hvk, hlc1, hlc2, _⟩ := own_shape h1
    rw [hvk] at y
    subst hlv
    obtain ⟨_, k1, _, _, k4⟩ := h.cells
    obtain ⟨N, hN⟩ : ∃ N, N = vs.length := ⟨_, rfl⟩
    rw [← hN] at k4 hkv H
    have hki : (k : Int) < (N : Int) := by omega
    have hk0 : decide ((k : Int) < 0) = false := decide_eq_false (by omega)
    have hrow : rowAt (qs, lost) k = qs[k] := getD_get hkq
    have hql := (h.q k (by rw [← hN]; exact hkv) hkq).len
    have hok : ∀ p ∈ qs[k], OkFr life p := h.ok _ (List.getElem_mem hkq)
    have hkl : Hid (k < vs.length) := by unfold Hid; omega
    have HNV := Lib.hid hN
    dsimp only
    rw [hrow]
    obtain ⟨l, hl⟩ : ∃ l, l = qs[k] := ⟨_, rfl⟩
    rw [← hl] at h2 hql hok ⊢
    have HL := Lib.hid hl
    clear h hk hat hN hrow hl
    cases l with
    | nil =>
      obtain rfl : fl = [] := List.eq_nil_of_length_eq_zero (by rw [forall_len h2]; rfl)
      dsimp only
      rw [show ([] : List Fl).length = 0 from rfl] at y
      clear h1 h2 h3 hvk hlc1
      go_enter Try.func50, Try.ntmps50
      go_wp2_with fail
      refine H1.out.mono ?_
      rintro e w' ⟨rfl, hw'⟩
      obtain rfl := hw'.symm
      clear hw'
      go_wp2_with fail
      go_quiet (fail)
      go_wp2_with fail
      go_ret
      have hbd := fun m => below_drewN (Below.refl _ w) m
      exact ⟨rfl, F, ⟨_, vs, H.out.below (hbd _)⟩, Stp.of_below _ (hbd _)⟩
    | cons p l =>
      obtain ⟨f, fl', rfl, hfp, h2'⟩ := all2_cons h2
      dsimp only
      obtain ⟨q, rfl, hql2⟩ : ∃ q, la = some ⟨q, 0, none⟩ ∧ q < w.heap.size := by
        obtain ⟨q, cq, hq, hql, _⟩ := own_some h1 (by simp)
        rw [hvk] at hq
        simp at hq
        exact ⟨q, hq.1, hql⟩
      obtain ⟨fa, fn, fc, fg⟩ := f
      have hown : Own enF 85 2 0 w (.slice (some ⟨q, 0, none⟩) ((⟨fa, fn, fc, fg⟩ : Fl) :: fl').length lc) ((⟨fa, fn, fc, fg⟩ : Fl) :: fl') := by rw [← hvk]; exact h1
      have x0 : w.cell? ⟨q, 0, none⟩ = some (.slice fa fn fc) := hown.cell enF_len 0 0 (by simp) (by decide)
      have x1 : w.cell? ⟨q, 1, none⟩ = some (.int .i64 fg) := hown.cell enF_len 0 1 (by simp) (by decide)
      have hfn : fn = p.1.length := by
        obtain ⟨a, c, hv, _⟩ := own_shape hfp.1
        simp at hv
        exact hv.2.1
      subst hfn
      have R2 := Lib.hid (Own.dropRd enF_len hown (i := 1) (by simp) hlc1)
      obtain ⟨n, hn⟩ : ∃ n, n = ((⟨fa, p.1.length, fc, fg⟩ : Fl) :: fl').length := ⟨_, rfl⟩
      have hn1 : n = fl'.length + 1 := by rw [hn]; simp
      have hnl : n = (p :: l).length := by rw [hn]; exact forall_len h2
      rw [← hn] at y hlc1 R2 hown
      rw [← hnl]
      have HN1 := Lib.hid hn1
      have hn10 : n ≤ 10000 := by rw [hnl]; exact hql
      have hnpos : 1 ≤ n := by omega
      have hne0 : ((n : Int) == 0) = false := by rw [beq_eq_false_iff_ne]; omega
      have hne0n : (n == 0) = false := by rw [beq_eq_false_iff_ne]; omega
      have hn0i : (0 : Int) < (n : Int) := by omega
      have i1n : (1 : Int) ≤ (n : Int) := by omega
      have hlc3 : lc ≤ 9223372036854775807 := by unfold maxLen at hlc2; omega
      have inl : (n : Int) ≤ (lc : Int) := by omega
      have HR := Lib.hid (And.intro h2' (And.intro hfp h3))
      have HO := Lib.hid hown
      have HOK := Lib.hid hok
      have hlsm : l.length + 1 ≤ 10000 := by simp at hql; omega
      have hnl2 := Lib.hid hnl
      obtain ⟨i0, hi0, hz0, hz1, hz2⟩ := info_parts infoRF
      clear h1 h2 h2' h3 hvk hfp hn hn1 hql hok hown hnl
      by_cases hf : (n : Int) < most
      · rw [if_pos hf]
        dsimp only
        have hd : decide (most ≤ (n : Int)) = false := decide_eq_false (by omega)
        have HF := Lib.hid hf
        have hmm := H.out.m
        clear hf
        go_enter Try.func50, Try.ntmps50
        go_wp2_with fail
        refine H1.out.mono ?_
        rintro e w' ⟨rfl, hw'⟩
        obtain rfl := hw'.symm
        clear hw'
        go_wp2_with fail
        go_quiet (fail)
        obtain ⟨wq, hwq⟩ : ∃ wq, wq = w.drewN nq := ⟨_, rfl⟩
        rw [← hwq]
        have HBQ : Hid (Below w.heap.size w wq) := by unfold Hid; rw [hwq]; exact below_drewN (Below.refl _ w) nq
        have k4q := cellOn' k4 HBQ.out
        have yq := cellOn' y HBQ.out
        have x0q := cellOn' x0 HBQ.out
        have x1q := cellOn' x1 HBQ.out
        have zgq : wq.frozen? ⟨g, k, none⟩ = false := (HBQ.out.frozen (World.block_lt_of_cell? _ _ y)).trans zg
        have YW := Lib.hid (And.intro y zg)
        clear hwq k4 y x0 x1 zg k1
        go_upto_region 5 with fail
        obtain ⟨W1, hW1⟩ : ∃ W1, W1 = wq.alloc (.cells #[.slice fa p.1.length fc, .int .i64 fg] 85) := ⟨_, rfl⟩
        obtain ⟨xb, hxb⟩ : ∃ xb, xb = wq.heap.size := ⟨_, rfl⟩
        rw [← hW1, ← hxb]
        have hb1 : Below wq.heap.size wq W1 := by rw [hW1]; exact (Below.refl _ wq).alloc (Nat.le_refl _) _
        have hxblk : W1.heap[xb]? = some (.cells #[.slice fa p.1.length fc, .int .i64 fg] 85 (0, 0)) := by rw [hW1, hxb]; exact heap_alloc_new' wq _
        have HBW : Hid (Below w.heap.size w W1.drew) := HBQ.out.trans ((hb1.drew).mono HBQ.out.size)
        have yw : w.cell? ⟨g, k, none⟩ = some (.slice (some ⟨q, 0, none⟩) n lc) := YW.out.1
        have zw : w.frozen? ⟨g, k, none⟩ = false := YW.out.2
        have jy : W1.drew.cell? ⟨g, k, none⟩ = some (.slice (some ⟨q, 0, none⟩) n lc) := cellOn' yw HBW.out
        have s0 : W1.drew.cell? ⟨r, 4, none⟩ = some (.slice (some ⟨g, 0, none⟩) N cap) ∧ W1.drew.cell? ⟨xb, 0, none⟩ = some (.slice fa p.1.length fc) ∧ W1.drew.cell? ⟨xb, 1, none⟩ = some (.int .i64 fg) := ⟨cellOn' k4q hb1.drew, blk_cell (w := W1) hxblk 0, blk_cell (w := W1) hxblk 1⟩
        have HXN : Hid (RdB W1.drew (.slice fa p.1.length fc) p.1) := RdB.fr (show RdB w (.slice fa p.1.length fc) p.1 from HR.out.2.1.1.rd) HBW.out
        have hgr : g ≠ r := fun e => own_ne H.out.rows H.out.blk (by decide) (by rw [e]; rfl)
        have hgx : g ≠ xb := fun e => by have h8 := World.block_lt_of_cell? _ _ yq; dsimp only at h8; omega
        have HGR := Lib.hid (And.intro (fun e : r = g => hgr e.symm) (fun e : xb = g => hgx e.symm))
        have hrW : r < W1.drew.heap.size := World.block_lt_of_cell? _ _ s0.1
        have hxW : xb < W1.drew.heap.size := World.block_lt_of_cell? _ _ s0.2.1
        have hgW : g < W1.drew.heap.size := World.block_lt_of_cell? _ _ jy
        clear hW1 hxb hb1 hxblk hgr hgx k4q yq x0q x1q zgq
        refine wp_region_held_drew (S := fun w' => w'.cell? ⟨r, 4, none⟩ = some (.slice (some ⟨g, 0, none⟩) N cap) ∧ w'.cell? ⟨xb, 0, none⟩ = some (.slice fa p.1.length fc) ∧ w'.cell? ⟨xb, 1, none⟩ = some (.int .i64 fg)) (by kernel_rfl) s0 (fun hHeld => ?_)
        refine wpAnyH_take (i := 0) (oi := ⟨some 50, _, _, _, _, _⟩) (v := .pointer (some ⟨r, 0, none⟩)) rfl (by kernel_rfl) (by kernel_rfl) (by kernel_rfl) (fun _ _ _ h => h) (Or.inl ⟨by rfl, ?_⟩) s0 ?_
        · intro w' hSw
          go_simp
        try simp only [Act.put, List.setIfInBounds_toArray, List.set_cons_zero, List.set_cons_succ]
        refine wpAnyH_take (i := 1) (oi := ⟨some 51, _, _, _, _, _⟩) (v := .pointer (some ⟨r, 0, none⟩)) rfl (by kernel_rfl) (by kernel_rfl) (by kernel_rfl) (fun _ _ _ h => h) (Or.inl ⟨by rfl, ?_⟩) s0 ?_
        · intro w' hSw
          go_simp
        try simp only [Act.put, List.setIfInBounds_toArray, List.set_cons_zero, List.set_cons_succ]
        refine wpAnyH_take (i := 2) (oi := ⟨some 52, _, _, _, _, _⟩) (v := .pointer (some ⟨r, 4, none⟩)) rfl (by kernel_rfl) (by kernel_rfl) (by kernel_rfl) (fun _ _ _ h => h) (Or.inl ⟨by rfl, ?_⟩) s0 ?_
        · intro w' hSw
          go_simp
        try simp only [Act.put, List.setIfInBounds_toArray, List.set_cons_zero, List.set_cons_succ]
        refine wpAnyH_take (i := 3) (oi := ⟨some 53, _, _, _, _, _⟩) (v := .slice (some ⟨g, 0, none⟩) N cap) rfl (by kernel_rfl) (by kernel_rfl) (by kernel_rfl) (fun _ _ _ h => h) (Or.inl ⟨by rfl, ?_⟩) s0 ?_
        · intro w' hSw
          obtain ⟨s0, s1, s2⟩ := hSw
          go_simp
        try simp only [Act.put, List.setIfInBounds_toArray, List.set_cons_zero, List.set_cons_succ]
        refine wpAnyH_take (i := 4) (oi := ⟨some 54, _, _, _, _, _⟩) (v := .int .i64 (k : Int)) rfl (by kernel_rfl) (by kernel_rfl) (by kernel_rfl) (fun _ _ _ h => h) (Or.inl ⟨by rfl, ?_⟩) s0 ?_
        · intro w' hSw
          go_simp
        try simp only [Act.put, List.setIfInBounds_toArray, List.set_cons_zero, List.set_cons_succ]
        refine wpAnyH_take (i := 5) (oi := ⟨some 55, _, _, _, _, _⟩) (v := .agg #[.slice fa p.1.length fc, .int .i64 fg]) rfl (by kernel_rfl) (by kernel_rfl) (by kernel_rfl) (fun _ _ _ h => h) (Or.inl ⟨by rfl, ?_⟩) s0 ?_
        · intro w' hSw
          obtain ⟨s0, s1, s2⟩ := hSw
          go_simp
        try simp only [Act.put, List.setIfInBounds_toArray, List.set_cons_zero, List.set_cons_succ]
        refine wpAnyH_take (i := 6) (oi := ⟨some 56, _, _, _, _, _⟩) (v := .pointer (some ⟨xb, 0, none⟩)) rfl (by kernel_rfl) (by kernel_rfl) (by kernel_rfl) (fun _ _ _ h => h) (Or.inl ⟨by rfl, ?_⟩) s0 ?_
        · intro w' hSw
          go_simp
        try simp only [Act.put, List.setIfInBounds_toArray, List.set_cons_zero, List.set_cons_succ]
        refine wpAnyH_take (i := 7) (oi := ⟨some 57, _, _, _, _, _⟩) (v := .slice fa p.1.length fc) rfl (by kernel_rfl) (by kernel_rfl) (by kernel_rfl) (fun _ _ _ h => h) (Or.inl ⟨by rfl, ?_⟩) s0 ?_
        · intro w' hSw
          obtain ⟨s0, s1, s2⟩ := hSw
          go_simp
        try simp only [Act.put, List.setIfInBounds_toArray, List.set_cons_zero, List.set_cons_succ]
        refine wpAnyH_take (i := 9) (oi := ⟨some 59, _, _, _, _, _⟩) (v := .pointer (some ⟨xb, 1, none⟩)) rfl (by kernel_rfl) (by kernel_rfl) (by kernel_rfl) (fun _ _ _ h => h) (Or.inl ⟨by rfl, ?_⟩) s0 ?_
        · intro w' hSw
          go_simp
        try simp only [Act.put, List.setIfInBounds_toArray, List.set_cons_zero, List.set_cons_succ]
        refine wpAnyH_take (i := 10) (oi := ⟨some 60, _, _, _, _, _⟩) (v := .int .i64 fg) rfl (by kernel_rfl) (by kernel_rfl) (by kernel_rfl) (fun _ _ _ h => h) (Or.inl ⟨by rfl, ?_⟩) s0 ?_
        · intro w' hSw
          obtain ⟨s0, s1, s2⟩ := hSw
          go_simp
        try simp only [Act.put, List.setIfInBounds_toArray, List.set_cons_zero, List.set_cons_succ]
        refine wpAnyH_take (i := 13) (oi := ⟨some 63, _, _, _, _, _⟩) (v := .pointer (some ⟨r, 0, none⟩)) rfl (by kernel_rfl) (by kernel_rfl) (by kernel_rfl) (fun _ _ _ h => h) (Or.inl ⟨by rfl, ?_⟩) s0 ?_
        · intro w' hSw
          go_simp
        try simp only [Act.put, List.setIfInBounds_toArray, List.set_cons_zero, List.set_cons_succ]
        refine wpAnyH_take (i := 14) (oi := ⟨some 64, _, _, _, _, _⟩) (v := .pointer (some ⟨r, 0, none⟩)) rfl (by kernel_rfl) (by kernel_rfl) (by kernel_rfl) (fun _ _ _ h => h) (Or.inl ⟨by rfl, ?_⟩) s0 ?_
        · intro w' hSw
          go_simp
        try simp only [Act.put, List.setIfInBounds_toArray, List.set_cons_zero, List.set_cons_succ]
        refine wpAnyH_take (i := 15) (oi := ⟨some 65, _, _, _, _, _⟩) (v := .pointer (some ⟨r, 4, none⟩)) rfl (by kernel_rfl) (by kernel_rfl) (by kernel_rfl) (fun _ _ _ h => h) (Or.inl ⟨by rfl, ?_⟩) s0 ?_
        · intro w' hSw
          go_simp
        try simp only [Act.put, List.setIfInBounds_toArray, List.set_cons_zero, List.set_cons_succ]
        refine wpAnyH_take (i := 16) (oi := ⟨some 66, _, _, _, _, _⟩) (v := .slice (some ⟨g, 0, none⟩) N cap) rfl (by kernel_rfl) (by kernel_rfl) (by kernel_rfl) (fun _ _ _ h => h) (Or.inl ⟨by rfl, ?_⟩) s0 ?_
        · intro w' hSw
          obtain ⟨s0, s1, s2⟩ := hSw
          go_simp
        try simp only [Act.put, List.setIfInBounds_toArray, List.set_cons_zero, List.set_cons_succ]
        refine wpAnyH_take (i := 17) (oi := ⟨some 67, _, _, _, _, _⟩) (v := .int .i64 (k : Int)) rfl (by kernel_rfl) (by kernel_rfl) (by kernel_rfl) (fun _ _ _ h => h) (Or.inl ⟨by rfl, ?_⟩) s0 ?_
        · intro w' hSw
          go_simp
        try simp only [Act.put, List.setIfInBounds_toArray, List.set_cons_zero, List.set_cons_succ]
        refine wpAnyH_take (i := 18) (oi := ⟨some 68, _, _, _, _, _⟩) (v := .pointer (some ⟨g, k, none⟩)) rfl (by kernel_rfl) (by kernel_rfl) (by kernel_rfl) (fun _ _ _ h => h) (Or.inl ⟨by rfl, ?_⟩) s0 ?_
        · intro w' hSw
          go_simp
        try simp only [Act.put, List.setIfInBounds_toArray, List.set_cons_zero, List.set_cons_succ]
        refine wpAnyH_ready (rs := [8, 19]) (by kernel_rfl) (by simp) ?_
        refine AllReadyH.cons (i := 8) (o := ⟨some 58, _, _, _, _, _⟩) rfl (fun K hK => ?_) ?_
        · go_simp
          go_at_call 60
          refine (copyB (.slice fa p.1.length fc) p.1 _ HXN.out (by have := (HOK.out p (List.mem_cons_self ..)).len; omega)).mono ?_
          rintro e w2 ⟨v', rfl, o2, b2⟩
          have ly := cellOn' jy b2
          have hr3 := World.block_lt_of_cell? w2 _ ly
          dsimp only at hr3
          obtain ⟨ca, ck, hcv, _⟩ := own_shape o2
          have O2 := Lib.hid o2
          have B2 := Lib.hid b2
          have s2 : w2.cell? ⟨r, 4, none⟩ = some (.slice (some ⟨g, 0, none⟩) N cap) ∧ w2.cell? ⟨xb, 0, none⟩ = some (.slice fa p.1.length fc) ∧ w2.cell? ⟨xb, 1, none⟩ = some (.int .i64 fg) := ⟨cellOn' s0.1 b2, cellOn' s0.2.1 b2, cellOn' s0.2.2 b2⟩
          clear o2 b2
          subst hcv
          have s3 : (w2.alloc (.cells #[.slice fa p.1.length fc, .int .i64 fg, .slice ca p.1.length ck, .int .i64 fg] 85)).cell? ⟨r, 4, none⟩ = some (.slice (some ⟨g, 0, none⟩) N cap) ∧ (w2.alloc (.cells #[.slice fa p.1.length fc, .int .i64 fg, .slice ca p.1.length ck, .int .i64 fg] 85)).cell? ⟨xb, 0, none⟩ = some (.slice fa p.1.length fc) ∧ (w2.alloc (.cells #[.slice fa p.1.length fc, .int .i64 fg, .slice ca p.1.length ck, .int .i64 fg] 85)).cell? ⟨xb, 1, none⟩ = some (.int .i64 fg) := ⟨cellOn' s2.1 ((Below.refl _ w2).alloc (Nat.le_refl _) _), cellOn' s2.2.1 ((Below.refl _ w2).alloc (Nat.le_refl _) _), cellOn' s2.2.2 ((Below.refl _ w2).alloc (Nat.le_refl _) _)⟩
          have hr2 := World.block_lt_of_cell? w2 _ s2.1
          have hr4 := World.block_lt_of_cell? w2 _ s2.2.1
          dsimp only at hr2 hr4
          refine hK.out _ _ s2 (fun hHeld => ?_)
          clear hK
          try simp only [Act.put, List.setIfInBounds_toArray, List.set_cons_zero, List.set_cons_succ]
          refine wpAnyH_take (i := 11) (oi := ⟨some 61, _, _, _, _, _⟩) (v := .agg #[.slice ca p.1.length ck, .int .i64 fg]) rfl (by kernel_rfl) (by kernel_rfl) (by kernel_rfl) (fun _ _ _ h => h) (Or.inl ⟨by rfl, ?_⟩) s2 ?_
          · intro w' hSw
            go_simp
          try simp only [Act.put, List.setIfInBounds_toArray, List.set_cons_zero, List.set_cons_succ]
          refine wpAnyH_ready (rs := [12, 19]) (by kernel_rfl) (by simp) ?_
          refine AllReadyH.cons (i := 12) (o := ⟨some 62, _, _, _, _, _⟩) rfl (fun K hK => ?_) ?_
          · go_simp
            refine hK.out _ _ s3 (fun hHeld => ?_)
            clear hK
            try simp only [Act.put, List.setIfInBounds_toArray, List.set_cons_zero, List.set_cons_succ]
            refine wpAnyH_ready (rs := [19]) (by kernel_rfl) (by simp) ?_
            refine AllReadyH.cons (i := 19) (o := ⟨some 69, _, _, _, _, _⟩) rfl (fun K hK => ?_) ?_
            · go_simp
              refine hK.out _ _ s3 (fun hHeld => ?_)
              clear hK
              try simp only [Act.put, List.setIfInBounds_toArray, List.set_cons_zero, List.set_cons_succ]
              refine wpAnyH_ready (rs := [20]) (by kernel_rfl) (by simp) ?_
              refine AllReadyH.cons (i := 20) (o := ⟨some 70, _, _, _, _, _⟩) rfl (fun K hK => ?_) ?_
              · go_simp
                refine hK.out _ _ s3 (fun hHeld => ?_)
                clear hK
                try simp only [Act.put, List.setIfInBounds_toArray, List.set_cons_zero, List.set_cons_succ]
                refine wpAnyH_ready (rs := [21]) (by kernel_rfl) (by simp) ?_
                refine AllReadyH.cons (i := 21) (o := ⟨some 71, _, _, _, _, _⟩) rfl (fun K hK => ?_) ?_
                · have BA : Below w.heap.size w (w2.alloc (.cells #[.slice fa p.1.length fc, .int .i64 fg, .slice ca p.1.length ck, .int .i64 fg] 85)) := HBW.out.trans ((B2.out.alloc B2.out.size (.cells #[.slice fa p.1.length fc, .int .i64 fg, .slice ca p.1.length ck, .int .i64 fg] 85)).mono HBW.out.size)
                  have oL : (w2.alloc (.cells #[.slice fa p.1.length fc, .int .i64 fg, .slice ca p.1.length ck, .int .i64 fg] 85)).ownsRow w.heap.size 85 2 (.slice (some ⟨w2.heap.size, 0, none⟩) 2 2) 2 [.slice fa p.1.length fc, .int .i64 fg, .slice ca p.1.length ck, .int .i64 fg] := World.ownsRow_lit w2 _ 2 (Nat.le_trans HBW.out.size B2.out.size) (by decide) rfl
                  refine step_app (B := w.heap.size) (v := .slice (some ⟨w2.heap.size, 0, none⟩) 2 2) (n := 2) (m := n - 1) rfl (.tmp 62) (.tmp 70) 61 rfl 85 i0 _ 2 _ Try.underlying61 hi0 hz0 hz1 hz2 rfl (by decide) BA.size rfl rfl oL (R2.out.fr (Fr.of_below BA no) (fun _ _ e => e)) (enF_ones _) (by unfold maxLen; omega) (by omega) ?_
                  intro v5 w5 o5 f5 m5 n5 z5
                  have b5 : Below w.heap.size w w5 := BA.trans (f5.below' BA.size (fun k' hk' => by simp [Value.ownBlock] at hk'; rw [← hk']; exact Nat.le_trans HBW.out.size B2.out.size))
                  have o5' : Own enF 85 2 w.heap.size w5 v5 ((⟨fa, p.1.length, fc, fg⟩ : Fl) :: ⟨ca, p.1.length, ck, fg⟩ :: fl') := by have h9 := o5; rw [show 2 + (n - 1) = ((⟨fa, p.1.length, fc, fg⟩ : Fl) :: ⟨ca, p.1.length, ck, fg⟩ :: fl').length by have := HN1.out; simp; omega] at h9; exact h9
                  have hc5 : OwnB 0 w5 (.slice ca p.1.length ck) p.1 := (ownB_below (own_zero O2.out) ((Below.refl _ w2).alloc (Nat.le_refl _) (.cells #[.slice fa p.1.length fc, .int .i64 fg, .slice ca p.1.length ck, .int .i64 fg] 85))).fr f5 (fun g' hg' e => by simp [Value.ownBlock] at e; subst e; have := own_lt O2.out hg'; omega)
                  have hfr : ∀ f' ∈ ((⟨fa, p.1.length, fc, fg⟩ : Fl) :: ⟨ca, p.1.length, ck, fg⟩ :: fl'), ∀ g', f'.v.ownBlock = some g' → F g' ∨ w.heap.size ≤ g' := fun f' hf' g' hg' => by
                    rcases List.mem_cons.1 hf' with rfl | hf'
                    · exact .inl (HR.out.2.2 _ (List.mem_cons_self ..) g' hg')
                    · rcases List.mem_cons.1 hf' with rfl | hf'
                      · exact .inr (Nat.le_trans HBW.out.size (O2.out.lt g' hg').1)
                      · exact .inl (HR.out.2.2 f' (List.mem_cons_of_mem _ hf') g' hg')
                  have hok2 : ∀ p' ∈ p :: p :: l, OkFr life p' := fun p' hp' => by
                    rcases List.mem_cons.1 hp' with rfl | hp'
                    · exact HOK.out _ (List.mem_cons_self ..)
                    · exact HOK.out p' hp'
                  have fin := Lib.hid (H.out.put (l' := p :: p :: l) hkl.out b5 o5' ⟨⟨ownB_below HR.out.2.1.1 b5, HR.out.2.1.2⟩, ⟨hc5, HR.out.2.1.2⟩, forall_imp HR.out.1 (fun f' p' e' => ⟨ownB_below e'.1 b5, e'.2⟩)⟩ hfr hok2 (by have h1 := HF.out; have h2 := hnl2.out; simp at h2 ⊢; omega))
                  have s5 : w5.cell? ⟨r, 4, none⟩ = some (.slice (some ⟨g, 0, none⟩) N cap) ∧ w5.cell? ⟨xb, 0, none⟩ = some (.slice fa p.1.length fc) ∧ w5.cell? ⟨xb, 1, none⟩ = some (.int .i64 fg) := by
                    have q0 : ∀ (a : Addr) (u : Value), (w2.alloc (.cells #[.slice fa p.1.length fc, .int .i64 fg, .slice ca p.1.length ck, .int .i64 fg] 85)).cell? a = some u → a.block < w2.heap.size → w5.cell? a = some u := fun a u hu hl => (f5.cell (World.block_lt_of_cell? _ _ hu) (fun e => by have e' : some w2.heap.size = some a.block := e; injection e' with e'; omega)).trans hu
                    exact ⟨q0 _ _ s3.1 hr2, q0 _ _ s3.2.1 hr4, q0 _ _ s3.2.2 hr4⟩
                  have k5 : w5.cell? ⟨g, k, none⟩ = some (.slice (some ⟨q, 0, none⟩) n lc) := cellOn' yw b5
                  have k6 : w5.frozen? ⟨g, k, none⟩ = false := (b5.frozen (World.block_lt_of_cell? _ _ yw)).trans zw
                  obtain ⟨a5, c5, hv5, _⟩ := own_shape o5
                  subst hv5
                  have s6 : (w5.setCell ⟨g, k, none⟩ (.slice a5 (2 + (n - 1)) c5)).cell? ⟨r, 4, none⟩ = some (.slice (some ⟨g, 0, none⟩) N cap) ∧ (w5.setCell ⟨g, k, none⟩ (.slice a5 (2 + (n - 1)) c5)).cell? ⟨xb, 0, none⟩ = some (.slice fa p.1.length fc) ∧ (w5.setCell ⟨g, k, none⟩ (.slice a5 (2 + (n - 1)) c5)).cell? ⟨xb, 1, none⟩ = some (.int .i64 fg) := by
                    have q0 : ∀ (a : Addr) (u : Value), w5.cell? a = some u → a.block ≠ g → (w5.setCell ⟨g, k, none⟩ (.slice a5 (2 + (n - 1)) c5)).cell? a = some u := fun a u hu hl => (((Fr.refl (fun b => b = g) w5).setCell (p := ⟨g, k, none⟩) (fun _ => rfl) (.slice a5 (2 + (n - 1)) c5)).cell (World.block_lt_of_cell? _ _ hu) hl).trans hu
                    exact ⟨q0 _ _ s5.1 HGR.out.1, q0 _ _ s5.2.1 HGR.out.2, q0 _ _ s5.2.2 HGR.out.2⟩
                  clear o5 o5' f5 m5 n5 z5 b5 hc5 oL BA hfr hok2
                  refine hK.out _ _ s5 (fun hHeld => ?_)
                  clear hK
                  try simp only [Act.put, List.setIfInBounds_toArray, List.set_cons_zero, List.set_cons_succ]
                  refine wpAnyH_take (i := 22) (oi := ⟨some 72, _, _, _, _, _⟩) (v := .pointer (some ⟨g, k, none⟩)) rfl (by kernel_rfl) (by kernel_rfl) (by kernel_rfl) (fun _ _ _ h => h) (Or.inl ⟨by rfl, ?_⟩) s5 ?_
                  · intro w' hSw
                    go_simp
                  try simp only [Act.put, List.setIfInBounds_toArray, List.set_cons_zero, List.set_cons_succ]
                  refine wpAnyH_ready (rs := [23]) (by kernel_rfl) (by simp) ?_
                  refine AllReadyH.cons (i := 23) (o := ⟨none, _, _, _, _, _⟩) rfl (fun K hK => ?_) ?_
                  · go_simp
                    refine hK.out _ _ s6 (fun hHeld => ?_)
                    clear hK
                    try simp only [Act.put, List.setIfInBounds_toArray, List.set_cons_zero, List.set_cons_succ]
                    refine wpAnyH_done (by kernel_rfl) ?_ _
                    clear k5 k6 s5 s6
                    go_wp2_with fail
                    all_goals
                      go_ret
                      exact ⟨rfl, fin.out⟩
                  exact AllReadyH.nil
                exact AllReadyH.nil
              exact AllReadyH.nil
            exact AllReadyH.nil
          refine AllReadyH.cons (i := 19) (o := ⟨some 69, _, _, _, _, _⟩) rfl (fun K hK => ?_) ?_
          · go_simp
            refine hK.out _ _ s2 (fun hHeld => ?_)
            clear hK
            try simp only [Act.put, List.setIfInBounds_toArray, List.set_cons_zero, List.set_cons_succ]
            refine wpAnyH_ready (rs := [12, 20]) (by kernel_rfl) (by simp) ?_
            refine AllReadyH.cons (i := 12) (o := ⟨some 62, _, _, _, _, _⟩) rfl (fun K hK => ?_) ?_
            · go_simp
              refine hK.out _ _ s3 (fun hHeld => ?_)
              clear hK
              try simp only [Act.put, List.setIfInBounds_toArray, List.set_cons_zero, List.set_cons_succ]
              refine wpAnyH_ready (rs := [20]) (by kernel_rfl) (by simp) ?_
              refine AllReadyH.cons (i := 20) (o := ⟨some 70, _, _, _, _, _⟩) rfl (fun K hK => ?_) ?_
              · go_simp
                refine hK.out _ _ s3 (fun hHeld => ?_)
                clear hK
                try simp only [Act.put, List.setIfInBounds_toArray, List.set_cons_zero, List.set_cons_succ]
                refine wpAnyH_ready (rs := [21]) (by kernel_rfl) (by simp) ?_
                refine AllReadyH.cons (i := 21) (o := ⟨some 71, _, _, _, _, _⟩) rfl (fun K hK => ?_) ?_
                · have BA : Below w.heap.size w (w2.alloc (.cells #[.slice fa p.1.length fc, .int .i64 fg, .slice ca p.1.length ck, .int .i64 fg] 85)) := HBW.out.trans ((B2.out.alloc B2.out.size (.cells #[.slice fa p.1.length fc, .int .i64 fg, .slice ca p.1.length ck, .int .i64 fg] 85)).mono HBW.out.size)
                  have oL : (w2.alloc (.cells #[.slice fa p.1.length fc, .int .i64 fg, .slice ca p.1.length ck, .int .i64 fg] 85)).ownsRow w.heap.size 85 2 (.slice (some ⟨w2.heap.size, 0, none⟩) 2 2) 2 [.slice fa p.1.length fc, .int .i64 fg, .slice ca p.1.length ck, .int .i64 fg] := World.ownsRow_lit w2 _ 2 (Nat.le_trans HBW.out.size B2.out.size) (by decide) rfl
                  refine step_app (B := w.heap.size) (v := .slice (some ⟨w2.heap.size, 0, none⟩) 2 2) (n := 2) (m := n - 1) rfl (.tmp 62) (.tmp 70) 61 rfl 85 i0 _ 2 _ Try.underlying61 hi0 hz0 hz1 hz2 rfl (by decide) BA.size rfl rfl oL (R2.out.fr (Fr.of_below BA no) (fun _ _ e => e)) (enF_ones _) (by unfold maxLen; omega) (by omega) ?_
                  intro v5 w5 o5 f5 m5 n5 z5
                  have b5 : Below w.heap.size w w5 := BA.trans (f5.below' BA.size (fun k' hk' => by simp [Value.ownBlock] at hk'; rw [← hk']; exact Nat.le_trans HBW.out.size B2.out.size))
                  have o5' : Own enF 85 2 w.heap.size w5 v5 ((⟨fa, p.1.length, fc, fg⟩ : Fl) :: ⟨ca, p.1.length, ck, fg⟩ :: fl') := by have h9 := o5; rw [show 2 + (n - 1) = ((⟨fa, p.1.length, fc, fg⟩ : Fl) :: ⟨ca, p.1.length, ck, fg⟩ :: fl').length by have := HN1.out; simp; omega] at h9; exact h9
                  have hc5 : OwnB 0 w5 (.slice ca p.1.length ck) p.1 := (ownB_below (own_zero O2.out) ((Below.refl _ w2).alloc (Nat.le_refl _) (.cells #[.slice fa p.1.length fc, .int .i64 fg, .slice ca p.1.length ck, .int .i64 fg] 85))).fr f5 (fun g' hg' e => by simp [Value.ownBlock] at e; subst e; have := own_lt O2.out hg'; omega)
                  have hfr : ∀ f' ∈ ((⟨fa, p.1.length, fc, fg⟩ : Fl) :: ⟨ca, p.1.length, ck, fg⟩ :: fl'), ∀ g', f'.v.ownBlock = some g' → F g' ∨ w.heap.size ≤ g' := fun f' hf' g' hg' => by
                    rcases List.mem_cons.1 hf' with rfl | hf'
                    · exact .inl (HR.out.2.2 _ (List.mem_cons_self ..) g' hg')
                    · rcases List.mem_cons.1 hf' with rfl | hf'
                      · exact .inr (Nat.le_trans HBW.out.size (O2.out.lt g' hg').1)
                      · exact .inl (HR.out.2.2 f' (List.mem_cons_of_mem _ hf') g' hg')
                  have hok2 : ∀ p' ∈ p :: p :: l, OkFr life p' := fun p' hp' => by
                    rcases List.mem_cons.1 hp' with rfl | hp'
                    · exact HOK.out _ (List.mem_cons_self ..)
                    · exact HOK.out p' hp'
                  have fin := Lib.hid (H.out.put (l' := p :: p :: l) hkl.out b5 o5' ⟨⟨ownB_below HR.out.2.1.1 b5, HR.out.2.1.2⟩, ⟨hc5, HR.out.2.1.2⟩, forall_imp HR.out.1 (fun f' p' e' => ⟨ownB_below e'.1 b5, e'.2⟩)⟩ hfr hok2 (by have h1 := HF.out; have h2 := hnl2.out; simp at h2 ⊢; omega))
                  have s5 : w5.cell? ⟨r, 4, none⟩ = some (.slice (some ⟨g, 0, none⟩) N cap) ∧ w5.cell? ⟨xb, 0, none⟩ = some (.slice fa p.1.length fc) ∧ w5.cell? ⟨xb, 1, none⟩ = some (.int .i64 fg) := by
                    have q0 : ∀ (a : Addr) (u : Value), (w2.alloc (.cells #[.slice fa p.1.length fc, .int .i64 fg, .slice ca p.1.length ck, .int .i64 fg] 85)).cell? a = some u → a.block < w2.heap.size → w5.cell? a = some u := fun a u hu hl => (f5.cell (World.block_lt_of_cell? _ _ hu) (fun e => by have e' : some w2.heap.size = some a.block := e; injection e' with e'; omega)).trans hu
                    exact ⟨q0 _ _ s3.1 hr2, q0 _ _ s3.2.1 hr4, q0 _ _ s3.2.2 hr4⟩
                  have k5 : w5.cell? ⟨g, k, none⟩ = some (.slice (some ⟨q, 0, none⟩) n lc) := cellOn' yw b5
                  have k6 : w5.frozen? ⟨g, k, none⟩ = false := (b5.frozen (World.block_lt_of_cell? _ _ yw)).trans zw
                  obtain ⟨a5, c5, hv5, _⟩ := own_shape o5
                  subst hv5
                  have s6 : (w5.setCell ⟨g, k, none⟩ (.slice a5 (2 + (n - 1)) c5)).cell? ⟨r, 4, none⟩ = some (.slice (some ⟨g, 0, none⟩) N cap) ∧ (w5.setCell ⟨g, k, none⟩ (.slice a5 (2 + (n - 1)) c5)).cell? ⟨xb, 0, none⟩ = some (.slice fa p.1.length fc) ∧ (w5.setCell ⟨g, k, none⟩ (.slice a5 (2 + (n - 1)) c5)).cell? ⟨xb, 1, none⟩ = some (.int .i64 fg) := by
                    have q0 : ∀ (a : Addr) (u : Value), w5.cell? a = some u → a.block ≠ g → (w5.setCell ⟨g, k, none⟩ (.slice a5 (2 + (n - 1)) c5)).cell? a = some u := fun a u hu hl => (((Fr.refl (fun b => b = g) w5).setCell (p := ⟨g, k, none⟩) (fun _ => rfl) (.slice a5 (2 + (n - 1)) c5)).cell (World.block_lt_of_cell? _ _ hu) hl).trans hu
                    exact ⟨q0 _ _ s5.1 HGR.out.1, q0 _ _ s5.2.1 HGR.out.2, q0 _ _ s5.2.2 HGR.out.2⟩
                  clear o5 o5' f5 m5 n5 z5 b5 hc5 oL BA hfr hok2
                  refine hK.out _ _ s5 (fun hHeld => ?_)
                  clear hK
                  try simp only [Act.put, List.setIfInBounds_toArray, List.set_cons_zero, List.set_cons_succ]
                  refine wpAnyH_take (i := 22) (oi := ⟨some 72, _, _, _, _, _⟩) (v := .pointer (some ⟨g, k, none⟩)) rfl (by kernel_rfl) (by kernel_rfl) (by kernel_rfl) (fun _ _ _ h => h) (Or.inl ⟨by rfl, ?_⟩) s5 ?_
                  · intro w' hSw
                    go_simp
                  try simp only [Act.put, List.setIfInBounds_toArray, List.set_cons_zero, List.set_cons_succ]
                  refine wpAnyH_ready (rs := [23]) (by kernel_rfl) (by simp) ?_
                  refine AllReadyH.cons (i := 23) (o := ⟨none, _, _, _, _, _⟩) rfl (fun K hK => ?_) ?_
                  · go_simp
                    refine hK.out _ _ s6 (fun hHeld => ?_)
                    clear hK
                    try simp only [Act.put, List.setIfInBounds_toArray, List.set_cons_zero, List.set_cons_succ]
                    refine wpAnyH_done (by kernel_rfl) ?_ _
                    clear k5 k6 s5 s6
                    go_wp2_with fail
                    all_goals
                      go_ret
                      exact ⟨rfl, fin.out⟩
                  exact AllReadyH.nil
                exact AllReadyH.nil
              exact AllReadyH.nil
            refine AllReadyH.cons (i := 20) (o := ⟨some 70, _, _, _, _, _⟩) rfl (fun K hK => ?_) ?_
            · go_simp
              refine hK.out _ _ s2 (fun hHeld => ?_)
              clear hK
              try simp only [Act.put, List.setIfInBounds_toArray, List.set_cons_zero, List.set_cons_succ]
              refine wpAnyH_ready (rs := [12]) (by kernel_rfl) (by simp) ?_
              refine AllReadyH.cons (i := 12) (o := ⟨some 62, _, _, _, _, _⟩) rfl (fun K hK => ?_) ?_
              · go_simp
                refine hK.out _ _ s3 (fun hHeld => ?_)
                clear hK
                try simp only [Act.put, List.setIfInBounds_toArray, List.set_cons_zero, List.set_cons_succ]
                refine wpAnyH_ready (rs := [21]) (by kernel_rfl) (by simp) ?_
                refine AllReadyH.cons (i := 21) (o := ⟨some 71, _, _, _, _, _⟩) rfl (fun K hK => ?_) ?_
                · have BA : Below w.heap.size w (w2.alloc (.cells #[.slice fa p.1.length fc, .int .i64 fg, .slice ca p.1.length ck, .int .i64 fg] 85)) := HBW.out.trans ((B2.out.alloc B2.out.size (.cells #[.slice fa p.1.length fc, .int .i64 fg, .slice ca p.1.length ck, .int .i64 fg] 85)).mono HBW.out.size)
                  have oL : (w2.alloc (.cells #[.slice fa p.1.length fc, .int .i64 fg, .slice ca p.1.length ck, .int .i64 fg] 85)).ownsRow w.heap.size 85 2 (.slice (some ⟨w2.heap.size, 0, none⟩) 2 2) 2 [.slice fa p.1.length fc, .int .i64 fg, .slice ca p.1.length ck, .int .i64 fg] := World.ownsRow_lit w2 _ 2 (Nat.le_trans HBW.out.size B2.out.size) (by decide) rfl
                  refine step_app (B := w.heap.size) (v := .slice (some ⟨w2.heap.size, 0, none⟩) 2 2) (n := 2) (m := n - 1) rfl (.tmp 62) (.tmp 70) 61 rfl 85 i0 _ 2 _ Try.underlying61 hi0 hz0 hz1 hz2 rfl (by decide) BA.size rfl rfl oL (R2.out.fr (Fr.of_below BA no) (fun _ _ e => e)) (enF_ones _) (by unfold maxLen; omega) (by omega) ?_
                  intro v5 w5 o5 f5 m5 n5 z5
                  have b5 : Below w.heap.size w w5 := BA.trans (f5.below' BA.size (fun k' hk' => by simp [Value.ownBlock] at hk'; rw [← hk']; exact Nat.le_trans HBW.out.size B2.out.size))
                  have o5' : Own enF 85 2 w.heap.size w5 v5 ((⟨fa, p.1.length, fc, fg⟩ : Fl) :: ⟨ca, p.1.length, ck, fg⟩ :: fl') := by have h9 := o5; rw [show 2 + (n - 1) = ((⟨fa, p.1.length, fc, fg⟩ : Fl) :: ⟨ca, p.1.length, ck, fg⟩ :: fl').length by have := HN1.out; simp; omega] at h9; exact h9
                  have hc5 : OwnB 0 w5 (.slice ca p.1.length ck) p.1 := (ownB_below (own_zero O2.out) ((Below.refl _ w2).alloc (Nat.le_refl _) (.cells #[.slice fa p.1.length fc, .int .i64 fg, .slice ca p.1.length ck, .int .i64 fg] 85))).fr f5 (fun g' hg' e => by simp [Value.ownBlock] at e; subst e; have := own_lt O2.out hg'; omega)
                  have hfr : ∀ f' ∈ ((⟨fa, p.1.length, fc, fg⟩ : Fl) :: ⟨ca, p.1.length, ck, fg⟩ :: fl'), ∀ g', f'.v.ownBlock = some g' → F g' ∨ w.heap.size ≤ g' := fun f' hf' g' hg' => by
                    rcases List.mem_cons.1 hf' with rfl | hf'
                    · exact .inl (HR.out.2.2 _ (List.mem_cons_self ..) g' hg')
                    · rcases List.mem_cons.1 hf' with rfl | hf'
                      · exact .inr (Nat.le_trans HBW.out.size (O2.out.lt g' hg').1)
                      · exact .inl (HR.out.2.2 f' (List.mem_cons_of_mem _ hf') g' hg')
                  have hok2 : ∀ p' ∈ p :: p :: l, OkFr life p' := fun p' hp' => by
                    rcases List.mem_cons.1 hp' with rfl | hp'
                    · exact HOK.out _ (List.mem_cons_self ..)
                    · exact HOK.out p' hp'
                  have fin := Lib.hid (H.out.put (l' := p :: p :: l) hkl.out b5 o5' ⟨⟨ownB_below HR.out.2.1.1 b5, HR.out.2.1.2⟩, ⟨hc5, HR.out.2.1.2⟩, forall_imp HR.out.1 (fun f' p' e' => ⟨ownB_below e'.1 b5, e'.2⟩)⟩ hfr hok2 (by have h1 := HF.out; have h2 := hnl2.out; simp at h2 ⊢; omega))
                  have s5 : w5.cell? ⟨r, 4, none⟩ = some (.slice (some ⟨g, 0, none⟩) N cap) ∧ w5.cell? ⟨xb, 0, none⟩ = some (.slice fa p.1.length fc) ∧ w5.cell? ⟨xb, 1, none⟩ = some (.int .i64 fg) := by
                    have q0 : ∀ (a : Addr) (u : Value), (w2.alloc (.cells #[.slice fa p.1.length fc, .int .i64 fg, .slice ca p.1.length ck, .int .i64 fg] 85)).cell? a = some u → a.block < w2.heap.size → w5.cell? a = some u := fun a u hu hl => (f5.cell (World.block_lt_of_cell? _ _ hu) (fun e => by have e' : some w2.heap.size = some a.block := e; injection e' with e'; omega)).trans hu
                    exact ⟨q0 _ _ s3.1 hr2, q0 _ _ s3.2.1 hr4, q0 _ _ s3.2.2 hr4⟩
                  have k5 : w5.cell? ⟨g, k, none⟩ = some (.slice (some ⟨q, 0, none⟩) n lc) := cellOn' yw b5
                  have k6 : w5.frozen? ⟨g, k, none⟩ = false := (b5.frozen (World.block_lt_of_cell? _ _ yw)).trans zw
                  obtain ⟨a5, c5, hv5, _⟩ := own_shape o5
                  subst hv5
                  have s6 : (w5.setCell ⟨g, k, none⟩ (.slice a5 (2 + (n - 1)) c5)).cell? ⟨r, 4, none⟩ = some (.slice (some ⟨g, 0, none⟩) N cap) ∧ (w5.setCell ⟨g, k, none⟩ (.slice a5 (2 + (n - 1)) c5)).cell? ⟨xb, 0, none⟩ = some (.slice fa p.1.length fc) ∧ (w5.setCell ⟨g, k, none⟩ (.slice a5 (2 + (n - 1)) c5)).cell? ⟨xb, 1, none⟩ = some (.int .i64 fg) := by
                    have q0 : ∀ (a : Addr) (u : Value), w5.cell? a = some u → a.block ≠ g → (w5.setCell ⟨g, k, none⟩ (.slice a5 (2 + (n - 1)) c5)).cell? a = some u := fun a u hu hl => (((Fr.refl (fun b => b = g) w5).setCell (p := ⟨g, k, none⟩) (fun _ => rfl) (.slice a5 (2 + (n - 1)) c5)).cell (World.block_lt_of_cell? _ _ hu) hl).trans hu
                    exact ⟨q0 _ _ s5.1 HGR.out.1, q0 _ _ s5.2.1 HGR.out.2, q0 _ _ s5.2.2 HGR.out.2⟩
                  clear o5 o5' f5 m5 n5 z5 b5 hc5 oL BA hfr hok2
                  refine hK.out _ _ s5 (fun hHeld => ?_)
                  clear hK
                  try simp only [Act.put, List.setIfInBounds_toArray, List.set_cons_zero, List.set_cons_succ]
                  refine wpAnyH_take (i := 22) (oi := ⟨some 72, _, _, _, _, _⟩) (v := .pointer (some ⟨g, k, none⟩)) rfl (by kernel_rfl) (by kernel_rfl) (by kernel_rfl) (fun _ _ _ h => h) (Or.inl ⟨by rfl, ?_⟩) s5 ?_
                  · intro w' hSw
                    go_simp
                  try simp only [Act.put, List.setIfInBounds_toArray, List.set_cons_zero, List.set_cons_succ]
                  refine wpAnyH_ready (rs := [23]) (by kernel_rfl) (by simp) ?_
                  refine AllReadyH.cons (i := 23) (o := ⟨none, _, _, _, _, _⟩) rfl (fun K hK => ?_) ?_
                  · go_simp
                    refine hK.out _ _ s6 (fun hHeld => ?_)
                    clear hK
                    try simp only [Act.put, List.setIfInBounds_toArray, List.set_cons_zero, List.set_cons_succ]
                    refine wpAnyH_done (by kernel_rfl) ?_ _
                    clear k5 k6 s5 s6
                    go_wp2_with fail
                    all_goals
                      go_ret
                      exact ⟨rfl, fin.out⟩
                  exact AllReadyH.nil
                exact AllReadyH.nil
              exact AllReadyH.nil
            exact AllReadyH.nil
          exact AllReadyH.nil
        refine AllReadyH.cons (i := 19) (o := ⟨some 69, _, _, _, _, _⟩) rfl (fun K hK => ?_) ?_
        · go_simp
          refine hK.out _ _ s0 (fun hHeld => ?_)
          clear hK
          try simp only [Act.put, List.setIfInBounds_toArray, List.set_cons_zero, List.set_cons_succ]
          refine wpAnyH_ready (rs := [8, 20]) (by kernel_rfl) (by simp) ?_
          refine AllReadyH.cons (i := 8) (o := ⟨some 58, _, _, _, _, _⟩) rfl (fun K hK => ?_) ?_
          · go_simp
            go_at_call 60
            refine (copyB (.slice fa p.1.length fc) p.1 _ HXN.out (by have := (HOK.out p (List.mem_cons_self ..)).len; omega)).mono ?_
            rintro e w2 ⟨v', rfl, o2, b2⟩
            have ly := cellOn' jy b2
            have hr3 := World.block_lt_of_cell? w2 _ ly
            dsimp only at hr3
            obtain ⟨ca, ck, hcv, _⟩ := own_shape o2
            have O2 := Lib.hid o2
            have B2 := Lib.hid b2
            have s2 : w2.cell? ⟨r, 4, none⟩ = some (.slice (some ⟨g, 0, none⟩) N cap) ∧ w2.cell? ⟨xb, 0, none⟩ = some (.slice fa p.1.length fc) ∧ w2.cell? ⟨xb, 1, none⟩ = some (.int .i64 fg) := ⟨cellOn' s0.1 b2, cellOn' s0.2.1 b2, cellOn' s0.2.2 b2⟩
            clear o2 b2
            subst hcv
            have s3 : (w2.alloc (.cells #[.slice fa p.1.length fc, .int .i64 fg, .slice ca p.1.length ck, .int .i64 fg] 85)).cell? ⟨r, 4, none⟩ = some (.slice (some ⟨g, 0, none⟩) N cap) ∧ (w2.alloc (.cells #[.slice fa p.1.length fc, .int .i64 fg, .slice ca p.1.length ck, .int .i64 fg] 85)).cell? ⟨xb, 0, none⟩ = some (.slice fa p.1.length fc) ∧ (w2.alloc (.cells #[.slice fa p.1.length fc, .int .i64 fg, .slice ca p.1.length ck, .int .i64 fg] 85)).cell? ⟨xb, 1, none⟩ = some (.int .i64 fg) := ⟨cellOn' s2.1 ((Below.refl _ w2).alloc (Nat.le_refl _) _), cellOn' s2.2.1 ((Below.refl _ w2).alloc (Nat.le_refl _) _), cellOn' s2.2.2 ((Below.refl _ w2).alloc (Nat.le_refl _) _)⟩
            have hr2 := World.block_lt_of_cell? w2 _ s2.1
            have hr4 := World.block_lt_of_cell? w2 _ s2.2.1
            dsimp only at hr2 hr4
            refine hK.out _ _ s2 (fun hHeld => ?_)
            clear hK
            try simp only [Act.put, List.setIfInBounds_toArray, List.set_cons_zero, List.set_cons_succ]
            refine wpAnyH_take (i := 11) (oi := ⟨some 61, _, _, _, _, _⟩) (v := .agg #[.slice ca p.1.length ck, .int .i64 fg]) rfl (by kernel_rfl) (by kernel_rfl) (by kernel_rfl) (fun _ _ _ h => h) (Or.inl ⟨by rfl, ?_⟩) s2 ?_
            · intro w' hSw
              go_simp
            try simp only [Act.put, List.setIfInBounds_toArray, List.set_cons_zero, List.set_cons_succ]
            refine wpAnyH_ready (rs := [12, 20]) (by kernel_rfl) (by simp) ?_
            refine AllReadyH.cons (i := 12) (o := ⟨some 62, _, _, _, _, _⟩) rfl (fun K hK => ?_) ?_
            · go_simp
              refine hK.out _ _ s3 (fun hHeld => ?_)
              clear hK
              try simp only [Act.put, List.setIfInBounds_toArray, List.set_cons_zero, List.set_cons_succ]
              refine wpAnyH_ready (rs := [20]) (by kernel_rfl) (by simp) ?_
              refine AllReadyH.cons (i := 20) (o := ⟨some 70, _, _, _, _, _⟩) rfl (fun K hK => ?_) ?_
              · go_simp
                refine hK.out _ _ s3 (fun hHeld => ?_)
                clear hK
                try simp only [Act.put, List.setIfInBounds_toArray, List.set_cons_zero, List.set_cons_succ]
                refine wpAnyH_ready (rs := [21]) (by kernel_rfl) (by simp) ?_
                refine AllReadyH.cons (i := 21) (o := ⟨some 71, _, _, _, _, _⟩) rfl (fun K hK => ?_) ?_
                · have BA : Below w.heap.size w (w2.alloc (.cells #[.slice fa p.1.length fc, .int .i64 fg, .slice ca p.1.length ck, .int .i64 fg] 85)) := HBW.out.trans ((B2.out.alloc B2.out.size (.cells #[.slice fa p.1.length fc, .int .i64 fg, .slice ca p.1.length ck, .int .i64 fg] 85)).mono HBW.out.size)
                  have oL : (w2.alloc (.cells #[.slice fa p.1.length fc, .int .i64 fg, .slice ca p.1.length ck, .int .i64 fg] 85)).ownsRow w.heap.size 85 2 (.slice (some ⟨w2.heap.size, 0, none⟩) 2 2) 2 [.slice fa p.1.length fc, .int .i64 fg, .slice ca p.1.length ck, .int .i64 fg] := World.ownsRow_lit w2 _ 2 (Nat.le_trans HBW.out.size B2.out.size) (by decide) rfl
                  refine step_app (B := w.heap.size) (v := .slice (some ⟨w2.heap.size, 0, none⟩) 2 2) (n := 2) (m := n - 1) rfl (.tmp 62) (.tmp 70) 61 rfl 85 i0 _ 2 _ Try.underlying61 hi0 hz0 hz1 hz2 rfl (by decide) BA.size rfl rfl oL (R2.out.fr (Fr.of_below BA no) (fun _ _ e => e)) (enF_ones _) (by unfold maxLen; omega) (by omega) ?_
                  intro v5 w5 o5 f5 m5 n5 z5
                  have b5 : Below w.heap.size w w5 := BA.trans (f5.below' BA.size (fun k' hk' => by simp [Value.ownBlock] at hk'; rw [← hk']; exact Nat.le_trans HBW.out.size B2.out.size))
                  have o5' : Own enF 85 2 w.heap.size w5 v5 ((⟨fa, p.1.length, fc, fg⟩ : Fl) :: ⟨ca, p.1.length, ck, fg⟩ :: fl') := by have h9 := o5; rw [show 2 + (n - 1) = ((⟨fa, p.1.length, fc, fg⟩ : Fl) :: ⟨ca, p.1.length, ck, fg⟩ :: fl').length by have := HN1.out; simp; omega] at h9; exact h9
                  have hc5 : OwnB 0 w5 (.slice ca p.1.length ck) p.1 := (ownB_below (own_zero O2.out) ((Below.refl _ w2).alloc (Nat.le_refl _) (.cells #[.slice fa p.1.length fc, .int .i64 fg, .slice ca p.1.length ck, .int .i64 fg] 85))).fr f5 (fun g' hg' e => by simp [Value.ownBlock] at e; subst e; have := own_lt O2.out hg'; omega)
                  have hfr : ∀ f' ∈ ((⟨fa, p.1.length, fc, fg⟩ : Fl) :: ⟨ca, p.1.length, ck, fg⟩ :: fl'), ∀ g', f'.v.ownBlock = some g' → F g' ∨ w.heap.size ≤ g' := fun f' hf' g' hg' => by
                    rcases List.mem_cons.1 hf' with rfl | hf'
                    · exact .inl (HR.out.2.2 _ (List.mem_cons_self ..) g' hg')
                    · rcases List.mem_cons.1 hf' with rfl | hf'
                      · exact .inr (Nat.le_trans HBW.out.size (O2.out.lt g' hg').1)
                      · exact .inl (HR.out.2.2 f' (List.mem_cons_of_mem _ hf') g' hg')
                  have hok2 : ∀ p' ∈ p :: p :: l, OkFr life p' := fun p' hp' => by
                    rcases List.mem_cons.1 hp' with rfl | hp'
                    · exact HOK.out _ (List.mem_cons_self ..)
                    · exact HOK.out p' hp'
                  have fin := Lib.hid (H.out.put (l' := p :: p :: l) hkl.out b5 o5' ⟨⟨ownB_below HR.out.2.1.1 b5, HR.out.2.1.2⟩, ⟨hc5, HR.out.2.1.2⟩, forall_imp HR.out.1 (fun f' p' e' => ⟨ownB_below e'.1 b5, e'.2⟩)⟩ hfr hok2 (by have h1 := HF.out; have h2 := hnl2.out; simp at h2 ⊢; omega))
                  have s5 : w5.cell? ⟨r, 4, none⟩ = some (.slice (some ⟨g, 0, none⟩) N cap) ∧ w5.cell? ⟨xb, 0, none⟩ = some (.slice fa p.1.length fc) ∧ w5.cell? ⟨xb, 1, none⟩ = some (.int .i64 fg) := by
                    have q0 : ∀ (a : Addr) (u : Value), (w2.alloc (.cells #[.slice fa p.1.length fc, .int .i64 fg, .slice ca p.1.length ck, .int .i64 fg] 85)).cell? a = some u → a.block < w2.heap.size → w5.cell? a = some u := fun a u hu hl => (f5.cell (World.block_lt_of_cell? _ _ hu) (fun e => by have e' : some w2.heap.size = some a.block := e; injection e' with e'; omega)).trans hu
                    exact ⟨q0 _ _ s3.1 hr2, q0 _ _ s3.2.1 hr4, q0 _ _ s3.2.2 hr4⟩
                  have k5 : w5.cell? ⟨g, k, none⟩ = some (.slice (some ⟨q, 0, none⟩) n lc) := cellOn' yw b5
                  have k6 : w5.frozen? ⟨g, k, none⟩ = false := (b5.frozen (World.block_lt_of_cell? _ _ yw)).trans zw
                  obtain ⟨a5, c5, hv5, _⟩ := own_shape o5
                  subst hv5
                  have s6 : (w5.setCell ⟨g, k, none⟩ (.slice a5 (2 + (n - 1)) c5)).cell? ⟨r, 4, none⟩ = some (.slice (some ⟨g, 0, none⟩) N cap) ∧ (w5.setCell ⟨g, k, none⟩ (.slice a5 (2 + (n - 1)) c5)).cell? ⟨xb, 0, none⟩ = some (.slice fa p.1.length fc) ∧ (w5.setCell ⟨g, k, none⟩ (.slice a5 (2 + (n - 1)) c5)).cell? ⟨xb, 1, none⟩ = some (.int .i64 fg) := by
                    have q0 : ∀ (a : Addr) (u : Value), w5.cell? a = some u → a.block ≠ g → (w5.setCell ⟨g, k, none⟩ (.slice a5 (2 + (n - 1)) c5)).cell? a = some u := fun a u hu hl => (((Fr.refl (fun b => b = g) w5).setCell (p := ⟨g, k, none⟩) (fun _ => rfl) (.slice a5 (2 + (n - 1)) c5)).cell (World.block_lt_of_cell? _ _ hu) hl).trans hu
                    exact ⟨q0 _ _ s5.1 HGR.out.1, q0 _ _ s5.2.1 HGR.out.2, q0 _ _ s5.2.2 HGR.out.2⟩
                  clear o5 o5' f5 m5 n5 z5 b5 hc5 oL BA hfr hok2
                  refine hK.out _ _ s5 (fun hHeld => ?_)
                  clear hK
                  try simp only [Act.put, List.setIfInBounds_toArray, List.set_cons_zero, List.set_cons_succ]
                  refine wpAnyH_take (i := 22) (oi := ⟨some 72, _, _, _, _, _⟩) (v := .pointer (some ⟨g, k, none⟩)) rfl (by kernel_rfl) (by kernel_rfl) (by kernel_rfl) (fun _ _ _ h => h) (Or.inl ⟨by rfl, ?_⟩) s5 ?_
                  · intro w' hSw
                    go_simp
                  try simp only [Act.put, List.setIfInBounds_toArray, List.set_cons_zero, List.set_cons_succ]
                  refine wpAnyH_ready (rs := [23]) (by kernel_rfl) (by simp) ?_
                  refine AllReadyH.cons (i := 23) (o := ⟨none, _, _, _, _, _⟩) rfl (fun K hK => ?_) ?_
                  · go_simp
                    refine hK.out _ _ s6 (fun hHeld => ?_)
                    clear hK
                    try simp only [Act.put, List.setIfInBounds_toArray, List.set_cons_zero, List.set_cons_succ]
                    refine wpAnyH_done (by kernel_rfl) ?_ _
                    clear k5 k6 s5 s6
                    go_wp2_with fail
                    all_goals
                      go_ret
                      exact ⟨rfl, fin.out⟩
                  exact AllReadyH.nil
                exact AllReadyH.nil
              exact AllReadyH.nil
            refine AllReadyH.cons (i := 20) (o := ⟨some 70, _, _, _, _, _⟩) rfl (fun K hK => ?_) ?_
            · go_simp
              refine hK.out _ _ s2 (fun hHeld => ?_)
              clear hK
              try simp only [Act.put, List.setIfInBounds_toArray, List.set_cons_zero, List.set_cons_succ]
              refine wpAnyH_ready (rs := [12]) (by kernel_rfl) (by simp) ?_
              refine AllReadyH.cons (i := 12) (o := ⟨some 62, _, _, _, _, _⟩) rfl (fun K hK => ?_) ?_
              · go_simp
                refine hK.out _ _ s3 (fun hHeld => ?_)
                clear hK
                try simp only [Act.put, List.setIfInBounds_toArray, List.set_cons_zero, List.set_cons_succ]
                refine wpAnyH_ready (rs := [21]) (by kernel_rfl) (by simp) ?_
                refine AllReadyH.cons (i := 21) (o := ⟨some 71, _, _, _, _, _⟩) rfl (fun K hK => ?_) ?_
                · have BA : Below w.heap.size w (w2.alloc (.cells #[.slice fa p.1.length fc, .int .i64 fg, .slice ca p.1.length ck, .int .i64 fg] 85)) := HBW.out.trans ((B2.out.alloc B2.out.size (.cells #[.slice fa p.1.length fc, .int .i64 fg, .slice ca p.1.length ck, .int .i64 fg] 85)).mono HBW.out.size)
                  have oL : (w2.alloc (.cells #[.slice fa p.1.length fc, .int .i64 fg, .slice ca p.1.length ck, .int .i64 fg] 85)).ownsRow w.heap.size 85 2 (.slice (some ⟨w2.heap.size, 0, none⟩) 2 2) 2 [.slice fa p.1.length fc, .int .i64 fg, .slice ca p.1.length ck, .int .i64 fg] := World.ownsRow_lit w2 _ 2 (Nat.le_trans HBW.out.size B2.out.size) (by decide) rfl
                  refine step_app (B := w.heap.size) (v := .slice (some ⟨w2.heap.size, 0, none⟩) 2 2) (n := 2) (m := n - 1) rfl (.tmp 62) (.tmp 70) 61 rfl 85 i0 _ 2 _ Try.underlying61 hi0 hz0 hz1 hz2 rfl (by decide) BA.size rfl rfl oL (R2.out.fr (Fr.of_below BA no) (fun _ _ e => e)) (enF_ones _) (by unfold maxLen; omega) (by omega) ?_
                  intro v5 w5 o5 f5 m5 n5 z5
                  have b5 : Below w.heap.size w w5 := BA.trans (f5.below' BA.size (fun k' hk' => by simp [Value.ownBlock] at hk'; rw [← hk']; exact Nat.le_trans HBW.out.size B2.out.size))
                  have o5' : Own enF 85 2 w.heap.size w5 v5 ((⟨fa, p.1.length, fc, fg⟩ : Fl) :: ⟨ca, p.1.length, ck, fg⟩ :: fl') := by have h9 := o5; rw [show 2 + (n - 1) = ((⟨fa, p.1.length, fc, fg⟩ : Fl) :: ⟨ca, p.1.length, ck, fg⟩ :: fl').length by have := HN1.out; simp; omega] at h9; exact h9
                  have hc5 : OwnB 0 w5 (.slice ca p.1.length ck) p.1 := (ownB_below (own_zero O2.out) ((Below.refl _ w2).alloc (Nat.le_refl _) (.cells #[.slice fa p.1.length fc, .int .i64 fg, .slice ca p.1.length ck, .int .i64 fg] 85))).fr f5 (fun g' hg' e => by simp [Value.ownBlock] at e; subst e; have := own_lt O2.out hg'; omega)
                  have hfr : ∀ f' ∈ ((⟨fa, p.1.length, fc, fg⟩ : Fl) :: ⟨ca, p.1.length, ck, fg⟩ :: fl'), ∀ g', f'.v.ownBlock = some g' → F g' ∨ w.heap.size ≤ g' := fun f' hf' g' hg' => by
                    rcases List.mem_cons.1 hf' with rfl | hf'
                    · exact .inl (HR.out.2.2 _ (List.mem_cons_self ..) g' hg')
                    · rcases List.mem_cons.1 hf' with rfl | hf'
                      · exact .inr (Nat.le_trans HBW.out.size (O2.out.lt g' hg').1)
                      · exact .inl (HR.out.2.2 f' (List.mem_cons_of_mem _ hf') g' hg')
                  have hok2 : ∀ p' ∈ p :: p :: l, OkFr life p' := fun p' hp' => by
                    rcases List.mem_cons.1 hp' with rfl | hp'
                    · exact HOK.out _ (List.mem_cons_self ..)
                    · exact HOK.out p' hp'
                  have fin := Lib.hid (H.out.put (l' := p :: p :: l) hkl.out b5 o5' ⟨⟨ownB_below HR.out.2.1.1 b5, HR.out.2.1.2⟩, ⟨hc5, HR.out.2.1.2⟩, forall_imp HR.out.1 (fun f' p' e' => ⟨ownB_below e'.1 b5, e'.2⟩)⟩ hfr hok2 (by have h1 := HF.out; have h2 := hnl2.out; simp at h2 ⊢; omega))
                  have s5 : w5.cell? ⟨r, 4, none⟩ = some (.slice (some ⟨g, 0, none⟩) N cap) ∧ w5.cell? ⟨xb, 0, none⟩ = some (.slice fa p.1.length fc) ∧ w5.cell? ⟨xb, 1, none⟩ = some (.int .i64 fg) := by
                    have q0 : ∀ (a : Addr) (u : Value), (w2.alloc (.cells #[.slice fa p.1.length fc, .int .i64 fg, .slice ca p.1.length ck, .int .i64 fg] 85)).cell? a = some u → a.block < w2.heap.size → w5.cell? a = some u := fun a u hu hl => (f5.cell (World.block_lt_of_cell? _ _ hu) (fun e => by have e' : some w2.heap.size = some a.block := e; injection e' with e'; omega)).trans hu
                    exact ⟨q0 _ _ s3.1 hr2, q0 _ _ s3.2.1 hr4, q0 _ _ s3.2.2 hr4⟩
                  have k5 : w5.cell? ⟨g, k, none⟩ = some (.slice (some ⟨q, 0, none⟩) n lc) := cellOn' yw b5
                  have k6 : w5.frozen? ⟨g, k, none⟩ = false := (b5.frozen (World.block_lt_of_cell? _ _ yw)).trans zw
                  obtain ⟨a5, c5, hv5, _⟩ := own_shape o5
                  subst hv5
                  have s6 : (w5.setCell ⟨g, k, none⟩ (.slice a5 (2 + (n - 1)) c5)).cell? ⟨r, 4, none⟩ = some (.slice (some ⟨g, 0, none⟩) N cap) ∧ (w5.setCell ⟨g, k, none⟩ (.slice a5 (2 + (n - 1)) c5)).cell? ⟨xb, 0, none⟩ = some (.slice fa p.1.length fc) ∧ (w5.setCell ⟨g, k, none⟩ (.slice a5 (2 + (n - 1)) c5)).cell? ⟨xb, 1, none⟩ = some (.int .i64 fg) := by
                    have q0 : ∀ (a : Addr) (u : Value), w5.cell? a = some u → a.block ≠ g → (w5.setCell ⟨g, k, none⟩ (.slice a5 (2 + (n - 1)) c5)).cell? a = some u := fun a u hu hl => (((Fr.refl (fun b => b = g) w5).setCell (p := ⟨g, k, none⟩) (fun _ => rfl) (.slice a5 (2 + (n - 1)) c5)).cell (World.block_lt_of_cell? _ _ hu) hl).trans hu
                    exact ⟨q0 _ _ s5.1 HGR.out.1, q0 _ _ s5.2.1 HGR.out.2, q0 _ _ s5.2.2 HGR.out.2⟩
                  clear o5 o5' f5 m5 n5 z5 b5 hc5 oL BA hfr hok2
                  refine hK.out _ _ s5 (fun hHeld => ?_)
                  clear hK
                  try simp only [Act.put, List.setIfInBounds_toArray, List.set_cons_zero, List.set_cons_succ]
                  refine wpAnyH_take (i := 22) (oi := ⟨some 72, _, _, _, _, _⟩) (v := .pointer (some ⟨g, k, none⟩)) rfl (by kernel_rfl) (by kernel_rfl) (by kernel_rfl) (fun _ _ _ h => h) (Or.inl ⟨by rfl, ?_⟩) s5 ?_
                  · intro w' hSw
                    go_simp
                  try simp only [Act.put, List.setIfInBounds_toArray, List.set_cons_zero, List.set_cons_succ]
                  refine wpAnyH_ready (rs := [23]) (by kernel_rfl) (by simp) ?_
                  refine AllReadyH.cons (i := 23) (o := ⟨none, _, _, _, _, _⟩) rfl (fun K hK => ?_) ?_
                  · go_simp
                    refine hK.out _ _ s6 (fun hHeld => ?_)
                    clear hK
                    try simp only [Act.put, List.setIfInBounds_toArray, List.set_cons_zero, List.set_cons_succ]
                    refine wpAnyH_done (by kernel_rfl) ?_ _
                    clear k5 k6 s5 s6
                    go_wp2_with fail
                    all_goals
                      go_ret
                      exact ⟨rfl, fin.out⟩
                  exact AllReadyH.nil
                exact AllReadyH.nil
              exact AllReadyH.nil
            exact AllReadyH.nil
          refine AllReadyH.cons (i := 20) (o := ⟨some 70, _, _, _, _, _⟩) rfl (fun K hK => ?_) ?_
          · go_simp
            refine hK.out _ _ s0 (fun hHeld => ?_)
            clear hK
            try simp only [Act.put, List.setIfInBounds_toArray, List.set_cons_zero, List.set_cons_succ]
            refine wpAnyH_ready (rs := [8]) (by kernel_rfl) (by simp) ?_
            refine AllReadyH.cons (i := 8) (o := ⟨some 58, _, _, _, _, _⟩) rfl (fun K hK => ?_) ?_
            · go_simp
              go_at_call 60
              refine (copyB (.slice fa p.1.length fc) p.1 _ HXN.out (by have := (HOK.out p (List.mem_cons_self ..)).len; omega)).mono ?_
              rintro e w2 ⟨v', rfl, o2, b2⟩
              have ly := cellOn' jy b2
              have hr3 := World.block_lt_of_cell? w2 _ ly
              dsimp only at hr3
              obtain ⟨ca, ck, hcv, _⟩ := own_shape o2
              have O2 := Lib.hid o2
              have B2 := Lib.hid b2
              have s2 : w2.cell? ⟨r, 4, none⟩ = some (.slice (some ⟨g, 0, none⟩) N cap) ∧ w2.cell? ⟨xb, 0, none⟩ = some (.slice fa p.1.length fc) ∧ w2.cell? ⟨xb, 1, none⟩ = some (.int .i64 fg) := ⟨cellOn' s0.1 b2, cellOn' s0.2.1 b2, cellOn' s0.2.2 b2⟩
              clear o2 b2
              subst hcv
              have s3 : (w2.alloc (.cells #[.slice fa p.1.length fc, .int .i64 fg, .slice ca p.1.length ck, .int .i64 fg] 85)).cell? ⟨r, 4, none⟩ = some (.slice (some ⟨g, 0, none⟩) N cap) ∧ (w2.alloc (.cells #[.slice fa p.1.length fc, .int .i64 fg, .slice ca p.1.length ck, .int .i64 fg] 85)).cell? ⟨xb, 0, none⟩ = some (.slice fa p.1.length fc) ∧ (w2.alloc (.cells #[.slice fa p.1.length fc, .int .i64 fg, .slice ca p.1.length ck, .int .i64 fg] 85)).cell? ⟨xb, 1, none⟩ = some (.int .i64 fg) := ⟨cellOn' s2.1 ((Below.refl _ w2).alloc (Nat.le_refl _) _), cellOn' s2.2.1 ((Below.refl _ w2).alloc (Nat.le_refl _) _), cellOn' s2.2.2 ((Below.refl _ w2).alloc (Nat.le_refl _) _)⟩
              have hr2 := World.block_lt_of_cell? w2 _ s2.1
              have hr4 := World.block_lt_of_cell? w2 _ s2.2.1
              dsimp only at hr2 hr4
              refine hK.out _ _ s2 (fun hHeld => ?_)
              clear hK
              try simp only [Act.put, List.setIfInBounds_toArray, List.set_cons_zero, List.set_cons_succ]
              refine wpAnyH_take (i := 11) (oi := ⟨some 61, _, _, _, _, _⟩) (v := .agg #[.slice ca p.1.length ck, .int .i64 fg]) rfl (by kernel_rfl) (by kernel_rfl) (by kernel_rfl) (fun _ _ _ h => h) (Or.inl ⟨by rfl, ?_⟩) s2 ?_
              · intro w' hSw
                go_simp
              try simp only [Act.put, List.setIfInBounds_toArray, List.set_cons_zero, List.set_cons_succ]
              refine wpAnyH_ready (rs := [12]) (by kernel_rfl) (by simp) ?_
              refine AllReadyH.cons (i := 12) (o := ⟨some 62, _, _, _, _, _⟩) rfl (fun K hK => ?_) ?_
              · go_simp
                refine hK.out _ _ s3 (fun hHeld => ?_)
                clear hK
                try simp only [Act.put, List.setIfInBounds_toArray, List.set_cons_zero, List.set_cons_succ]
                refine wpAnyH_ready (rs := [21]) (by kernel_rfl) (by simp) ?_
                refine AllReadyH.cons (i := 21) (o := ⟨some 71, _, _, _, _, _⟩) rfl (fun K hK => ?_) ?_
                · have BA : Below w.heap.size w (w2.alloc (.cells #[.slice fa p.1.length fc, .int .i64 fg, .slice ca p.1.length ck, .int .i64 fg] 85)) := HBW.out.trans ((B2.out.alloc B2.out.size (.cells #[.slice fa p.1.length fc, .int .i64 fg, .slice ca p.1.length ck, .int .i64 fg] 85)).mono HBW.out.size)
                  have oL : (w2.alloc (.cells #[.slice fa p.1.length fc, .int .i64 fg, .slice ca p.1.length ck, .int .i64 fg] 85)).ownsRow w.heap.size 85 2 (.slice (some ⟨w2.heap.size, 0, none⟩) 2 2) 2 [.slice fa p.1.length fc, .int .i64 fg, .slice ca p.1.length ck, .int .i64 fg] := World.ownsRow_lit w2 _ 2 (Nat.le_trans HBW.out.size B2.out.size) (by decide) rfl
                  refine step_app (B := w.heap.size) (v := .slice (some ⟨w2.heap.size, 0, none⟩) 2 2) (n := 2) (m := n - 1) rfl (.tmp 62) (.tmp 70) 61 rfl 85 i0 _ 2 _ Try.underlying61 hi0 hz0 hz1 hz2 rfl (by decide) BA.size rfl rfl oL (R2.out.fr (Fr.of_below BA no) (fun _ _ e => e)) (enF_ones _) (by unfold maxLen; omega) (by omega) ?_
                  intro v5 w5 o5 f5 m5 n5 z5
                  have b5 : Below w.heap.size w w5 := BA.trans (f5.below' BA.size (fun k' hk' => by simp [Value.ownBlock] at hk'; rw [← hk']; exact Nat.le_trans HBW.out.size B2.out.size))
                  have o5' : Own enF 85 2 w.heap.size w5 v5 ((⟨fa, p.1.length, fc, fg⟩ : Fl) :: ⟨ca, p.1.length, ck, fg⟩ :: fl') := by have h9 := o5; rw [show 2 + (n - 1) = ((⟨fa, p.1.length, fc, fg⟩ : Fl) :: ⟨ca, p.1.length, ck, fg⟩ :: fl').length by have := HN1.out; simp; omega] at h9; exact h9
                  have hc5 : OwnB 0 w5 (.slice ca p.1.length ck) p.1 := (ownB_below (own_zero O2.out) ((Below.refl _ w2).alloc (Nat.le_refl _) (.cells #[.slice fa p.1.length fc, .int .i64 fg, .slice ca p.1.length ck, .int .i64 fg] 85))).fr f5 (fun g' hg' e => by simp [Value.ownBlock] at e; subst e; have := own_lt O2.out hg'; omega)
                  have hfr : ∀ f' ∈ ((⟨fa, p.1.length, fc, fg⟩ : Fl) :: ⟨ca, p.1.length, ck, fg⟩ :: fl'), ∀ g', f'.v.ownBlock = some g' → F g' ∨ w.heap.size ≤ g' := fun f' hf' g' hg' => by
                    rcases List.mem_cons.1 hf' with rfl | hf'
                    · exact .inl (HR.out.2.2 _ (List.mem_cons_self ..) g' hg')
                    · rcases List.mem_cons.1 hf' with rfl | hf'
                      · exact .inr (Nat.le_trans HBW.out.size (O2.out.lt g' hg').1)
                      · exact .inl (HR.out.2.2 f' (List.mem_cons_of_mem _ hf') g' hg')
                  have hok2 : ∀ p' ∈ p :: p :: l, OkFr life p' := fun p' hp' => by
                    rcases List.mem_cons.1 hp' with rfl | hp'
                    · exact HOK.out _ (List.mem_cons_self ..)
                    · exact HOK.out p' hp'
                  have fin := Lib.hid (H.out.put (l' := p :: p :: l) hkl.out b5 o5' ⟨⟨ownB_below HR.out.2.1.1 b5, HR.out.2.1.2⟩, ⟨hc5, HR.out.2.1.2⟩, forall_imp HR.out.1 (fun f' p' e' => ⟨ownB_below e'.1 b5, e'.2⟩)⟩ hfr hok2 (by have h1 := HF.out; have h2 := hnl2.out; simp at h2 ⊢; omega))
                  have s5 : w5.cell? ⟨r, 4, none⟩ = some (.slice (some ⟨g, 0, none⟩) N cap) ∧ w5.cell? ⟨xb, 0, none⟩ = some (.slice fa p.1.length fc) ∧ w5.cell? ⟨xb, 1, none⟩ = some (.int .i64 fg) := by
                    have q0 : ∀ (a : Addr) (u : Value), (w2.alloc (.cells #[.slice fa p.1.length fc, .int .i64 fg, .slice ca p.1.length ck, .int .i64 fg] 85)).cell? a = some u → a.block < w2.heap.size → w5.cell? a = some u := fun a u hu hl => (f5.cell (World.block_lt_of_cell? _ _ hu) (fun e => by have e' : some w2.heap.size = some a.block := e; injection e' with e'; omega)).trans hu
                    exact ⟨q0 _ _ s3.1 hr2, q0 _ _ s3.2.1 hr4, q0 _ _ s3.2.2 hr4⟩
                  have k5 : w5.cell? ⟨g, k, none⟩ = some (.slice (some ⟨q, 0, none⟩) n lc) := cellOn' yw b5
                  have k6 : w5.frozen? ⟨g, k, none⟩ = false := (b5.frozen (World.block_lt_of_cell? _ _ yw)).trans zw
                  obtain ⟨a5, c5, hv5, _⟩ := own_shape o5
                  subst hv5
                  have s6 : (w5.setCell ⟨g, k, none⟩ (.slice a5 (2 + (n - 1)) c5)).cell? ⟨r, 4, none⟩ = some (.slice (some ⟨g, 0, none⟩) N cap) ∧ (w5.setCell ⟨g, k, none⟩ (.slice a5 (2 + (n - 1)) c5)).cell? ⟨xb, 0, none⟩ = some (.slice fa p.1.length fc) ∧ (w5.setCell ⟨g, k, none⟩ (.slice a5 (2 + (n - 1)) c5)).cell? ⟨xb, 1, none⟩ = some (.int .i64 fg) := by
                    have q0 : ∀ (a : Addr) (u : Value), w5.cell? a = some u → a.block ≠ g → (w5.setCell ⟨g, k, none⟩ (.slice a5 (2 + (n - 1)) c5)).cell? a = some u := fun a u hu hl => (((Fr.refl (fun b => b = g) w5).setCell (p := ⟨g, k, none⟩) (fun _ => rfl) (.slice a5 (2 + (n - 1)) c5)).cell (World.block_lt_of_cell? _ _ hu) hl).trans hu
                    exact ⟨q0 _ _ s5.1 HGR.out.1, q0 _ _ s5.2.1 HGR.out.2, q0 _ _ s5.2.2 HGR.out.2⟩
                  clear o5 o5' f5 m5 n5 z5 b5 hc5 oL BA hfr hok2
                  refine hK.out _ _ s5 (fun hHeld => ?_)
                  clear hK
                  try simp only [Act.put, List.setIfInBounds_toArray, List.set_cons_zero, List.set_cons_succ]
                  refine wpAnyH_take (i := 22) (oi := ⟨some 72, _, _, _, _, _⟩) (v := .pointer (some ⟨g, k, none⟩)) rfl (by kernel_rfl) (by kernel_rfl) (by kernel_rfl) (fun _ _ _ h => h) (Or.inl ⟨by rfl, ?_⟩) s5 ?_
                  · intro w' hSw
                    go_simp
                  try simp only [Act.put, List.setIfInBounds_toArray, List.set_cons_zero, List.set_cons_succ]
                  refine wpAnyH_ready (rs := [23]) (by kernel_rfl) (by simp) ?_
                  refine AllReadyH.cons (i := 23) (o := ⟨none, _, _, _, _, _⟩) rfl (fun K hK => ?_) ?_
                  · go_simp
                    refine hK.out _ _ s6 (fun hHeld => ?_)
                    clear hK
                    try simp only [Act.put, List.setIfInBounds_toArray, List.set_cons_zero, List.set_cons_succ]
                    refine wpAnyH_done (by kernel_rfl) ?_ _
                    clear k5 k6 s5 s6
                    go_wp2_with fail
                    all_goals
                      go_ret
                      exact ⟨rfl, fin.out⟩
                  exact AllReadyH.nil
                exact AllReadyH.nil
              exact AllReadyH.nil
            exact AllReadyH.nil
          exact AllReadyH.nil
        exact AllReadyH.nil
      · rw [if_neg hf]
        dsimp only
        have hd : decide (most ≤ (n : Int)) = true := decide_eq_true (by omega)
        clear hf
        go_enter Try.func50, Try.ntmps50
        go_wp2_with fail
        refine H1.out.mono ?_
        rintro e w' ⟨rfl, hw'⟩
        obtain rfl := hw'.symm
        clear hw'
        go_wp2_with fail
        go_quiet (fail)
        go_wp2_with fail
        go_ret
        have hbd := fun m => below_drewN (Below.refl _ w) m
        exact ⟨rfl, F, ⟨_, vs, H.out.below (hbd _)⟩, Stp.of_below _ (hbd _)⟩
end
end Go.Proofs.Yteihpaikdpdglaa
