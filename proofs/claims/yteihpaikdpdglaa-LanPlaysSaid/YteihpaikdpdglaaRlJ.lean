/-
  The reference's line: Spoil. (Its region is printed by gRlJ.py.)
-/
import Derived.Test.YteihpaikdpdglaaRlI
namespace Go.Proofs.Yteihpaikdpdglaa
open Go.RowKit
set_option linter.unusedVariables false


section
variable {w : World} {F : Nat → Prop} {r st : Nat} {life lost most : Int} {qs : List FlA} {lv : Value} {vs : List Value}
set_option maxRecDepth 100000 in
set_option maxHeartbeats 8000000 in
theorem rspoil (h : RG w F r st life lost most qs) (a b bit : Int) :
    Calls Try.prog 51 #[.pointer (some ⟨r, 0, none⟩), .int .i64 a, .int .i64 b, .int .i64 bit] w fun e w' => e = .returned (.bool (spoilP st a b bit (qs, lost)).1) ∧ ∃ F', RG w' F' r st life lost most (spoilP st a b bit (qs, lost)).2.1 ∧ Stp F F' w w' := by
  obtain ⟨lv, vs, h⟩ := h
  have H := Lib.hid h
  have H1 := Lib.hid (rat h a b)
  unfold spoilP
  cases hk : rix st a b with
  | none =>
    have hat : atV st a b = -1 := by unfold atV; rw [hk]
    rw [hat] at H1
    clear h hk hat
    go_enter Try.func51, Try.ntmps51
    go_wp2_with fail
    refine H1.out.mono ?_
    rintro e w' ⟨rfl, hw'⟩
    obtain rfl := hw'.symm
    clear hw'
    go_wp2_with fail
    go_ret
    exact ⟨rfl, F, ⟨lv, vs, H.out⟩, Stp.of_below _ (Below.refl _ w)⟩
  | some k =>
    obtain ⟨hkv, hkq, hat⟩ := h.at_ hk
    rw [hat] at H1
    obtain ⟨g, cap, hlv, hc1, hc2, y, zg⟩ := h.slot hkv
    obtain ⟨fl, h1, h2, h3⟩ := (h.q k hkv hkq).ex
    obtain ⟨la, lc, hvk, hlc1, hlc2, _⟩ := own_shape h1
    rw [hvk] at y
    subst hlv
    obtain ⟨_, k1, _, _, k4⟩ := h.cells
    obtain ⟨N, hN⟩ : ∃ N, N = vs.length := ⟨_, rfl⟩
    rw [← hN] at k4 hkv H
    have hki : (k : Int) < (N : Int) := by omega
    have hk0 : decide ((k : Int) < 0) = false := decide_eq_false (by omega)
    have hrow : rowAt (qs, lost) k = qs[k] := getD_get hkq
    have hql := (h.q k (by rw [← hN]; exact hkv) hkq).len
    have hok : ∀ p ∈ qs[k], OkFr life p := h.ok _ (List.getElem_mem hkq)
    have hkl : Hid (k < vs.length) := by unfold Hid; omega
    have HNV := Lib.hid hN
    dsimp only
    rw [hrow]
    obtain ⟨l, hl⟩ : ∃ l, l = qs[k] := ⟨_, rfl⟩
    rw [← hl] at h2 hql hok ⊢
    have HL := Lib.hid hl
    clear h hk hat hN hrow hl
    cases l with
    | nil =>
      obtain rfl : fl = [] := List.eq_nil_of_length_eq_zero (by rw [forall_len h2]; rfl)
      dsimp only
      rw [show ([] : List Fl).length = 0 from rfl] at y
      clear h1 h2 h3 hvk hlc1
      go_enter Try.func51, Try.ntmps51
      go_wp2_with fail
      refine H1.out.mono ?_
      rintro e w' ⟨rfl, hw'⟩
      obtain rfl := hw'.symm
      clear hw'
      go_wp2_with fail
      go_ret
      exact ⟨rfl, F, ⟨_, vs, H.out⟩, Stp.of_below _ (Below.refl _ w)⟩
    | cons p l =>
      obtain ⟨f, fl', rfl, hfp, h2'⟩ := all2_cons h2
      dsimp only
      obtain ⟨q, rfl, hql2⟩ : ∃ q, la = some ⟨q, 0, none⟩ ∧ q < w.heap.size := by
        obtain ⟨q, cq, hq, hql, _⟩ := own_some h1 (by simp)
        rw [hvk] at hq
        simp at hq
        exact ⟨q, hq.1, hql⟩
      obtain ⟨fa, fn, fc, fg⟩ := f
      have hown : Own enF 85 2 0 w (.slice (some ⟨q, 0, none⟩) ((⟨fa, fn, fc, fg⟩ : Fl) :: fl').length lc) ((⟨fa, fn, fc, fg⟩ : Fl) :: fl') := by rw [← hvk]; exact h1
      have x0 : w.cell? ⟨q, 0, none⟩ = some (.slice fa fn fc) := hown.cell enF_len 0 0 (by simp) (by decide)
      have x1 : w.cell? ⟨q, 1, none⟩ = some (.int .i64 fg) := hown.cell enF_len 0 1 (by simp) (by decide)
      have hfn : fn = p.1.length := by
        obtain ⟨a, c, hv, _⟩ := own_shape hfp.1
        simp at hv
        exact hv.2.1
      subst hfn
      have R2 := Lib.hid (Own.dropRd enF_len hown (i := 1) (by simp) hlc1)
      obtain ⟨n, hn⟩ : ∃ n, n = ((⟨fa, p.1.length, fc, fg⟩ : Fl) :: fl').length := ⟨_, rfl⟩
      have hn1 : n = fl'.length + 1 := by rw [hn]; simp
      have hnl : n = (p :: l).length := by rw [hn]; exact forall_len h2
      rw [← hn] at y hlc1 R2 hown
      have HN1 := Lib.hid hn1
      have hn10 : n ≤ 10000 := by rw [hnl]; exact hql
      have hnpos : 1 ≤ n := by omega
      have hne0 : ((n : Int) == 0) = false := by rw [beq_eq_false_iff_ne]; omega
      have hne0n : (n == 0) = false := by rw [beq_eq_false_iff_ne]; omega
      have hn0i : (0 : Int) < (n : Int) := by omega
      have i1n : (1 : Int) ≤ (n : Int) := by omega
      have hlc3 : lc ≤ 9223372036854775807 := by unfold maxLen at hlc2; omega
      have inl : (n : Int) ≤ (lc : Int) := by omega
      have HR := Lib.hid (And.intro h2' (And.intro hfp h3))
      have HO := Lib.hid hown
      have HOK := Lib.hid hok
      have hlsm : l.length + 1 ≤ 10000 := by simp at hql; omega
      have hnl2 := Lib.hid hnl
      obtain ⟨i0, hi0, hz0, hz1, hz2⟩ := info_parts infoRF
      clear h1 h2 h2' h3 hvk hfp hn hn1 hql hok hown hnl
      obtain ⟨L, hL⟩ : ∃ L, L = p.1.length := ⟨_, rfl⟩
      by_cases h0 : p.1.length = 0
      · rw [if_pos h0]
        dsimp only
        rw [h0] at x0
        have hmm := H.out.m
        clear h0 hL
        go_enter Try.func51, Try.ntmps51
        go_wp2_with fail
        refine H1.out.mono ?_
        rintro e w' ⟨rfl, hw'⟩
        obtain rfl := hw'.symm
        clear hw'
        go_wp2_with fail
        go_ret
        exact ⟨rfl, F, ⟨_, vs, H.out⟩, Stp.of_below _ (Below.refl _ w)⟩
      · rw [if_neg h0]
        dsimp only
        have hL0 : ((L : Int) == 0) = false := by rw [beq_eq_false_iff_ne]; omega
        have hL0n : (L == 0) = false := by rw [beq_eq_false_iff_ne]; omega
        have hpok := HOK.out p (List.mem_cons_self ..)
        have hpl := hpok.len
        have HBY := Lib.hid hpok.byte
        have HRB := Lib.hid (show RdB w (.slice fa L fc) p.1 by rw [hL]; exact HR.out.2.1.1.rd)
        clear hpok
        rw [← hL] at x0 R2 HO
        obtain ⟨kk, hkd⟩ : ∃ kk, kk = kOf bit p.1.length := ⟨_, rfl⟩
        obtain ⟨hk, hk8⟩ := kOf_lt bit (show 0 < p.1.length by omega) hpl
        rw [← hkd, ← hL] at hk
        rw [← hkd] at hk8 ⊢
        have HKD := Lib.hid hkd
        have HKK := Lib.hid hk
        have hLb : L ≤ 1000 := by omega
        have HLL := Lib.hid hL
        have HK8 := Lib.hid hk8
        have hw8 : IntKind.i64.wrap (8 * (L : Int)) = 8 * (L : Int) := IntWalk.i64_in _ (by omega)
        have h8n : ((8 * (L : Int)) == 0) = false := by rw [beq_eq_false_iff_ne]; omega
        have h8p : (0 : Int) < 8 * (L : Int) := by omega
        have hmm := H.out.m
        clear hkd hk hk8 hL h0
        go_enter Try.func51, Try.ntmps51
        go_wp2_with fail
        refine H1.out.mono ?_
        rintro e w' ⟨rfl, hw'⟩
        obtain rfl := hw'.symm
        clear hw'
        go_wp2_with fail
        refine (copyB (.slice fa L fc) p.1 _ HRB.out (by have := HLL.out; omega)).mono ?_
        rintro e w2 ⟨v', rfl, o2, b2⟩
        obtain ⟨ca, ck, hcv, _⟩ := own_shape o2
        rw [← HLL.out] at hcv
        subst hcv
        have O2 := Lib.hid (show OwnB w.heap.size w2 (.slice ca L ck) p.1 from o2)
        have B2 := Lib.hid b2
        clear o2 b2
        go_upto_region 7 with fail
        rw [HKK.out]
        obtain ⟨cb, hca, hcq⟩ : ∃ cb, ca = some ⟨cb, 0, none⟩ ∧ w.heap.size ≤ cb := by
          obtain ⟨cb, ck', hv, _⟩ := own_some O2.out (by have := HLL.out; omega)
          simp at hv
          exact ⟨cb, hv.1, (O2.out.lt cb (by rw [hv.1]; rfl)).1⟩
        subst hca
        obtain ⟨j, hjd⟩ : ∃ j, j = kk / 8 := ⟨_, rfl⟩
        obtain ⟨rr, hrd⟩ : ∃ rr, rr = kk % 8 := ⟨_, rfl⟩
        have hk8 := HK8.out
        have hj : j < p.1.length := by omega
        have hjL : j < L := by rw [HLL.out]; exact hj
        have hr8 : rr < 8 := by omega
        obtain ⟨x, hx⟩ : ∃ x, x = p.1[j]'hj := ⟨_, rfl⟩
        have yx : w2.cell? ⟨cb, j, none⟩ = some (.int .u8 x) := by
          have ho : OwnB w.heap.size w2 (.slice (some ⟨cb, 0, none⟩) p.1.length ck) p.1 := by have h9 := O2.out; rw [HLL.out] at h9; exact h9
          have := Own.cell ho encB_len j 0 hj (by decide)
          rw [hx]
          simpa [encB] using this
        have zx : w2.frozen? ⟨cb, j, none⟩ = false := by
          have ho : OwnB w.heap.size w2 (.slice (some ⟨cb, 0, none⟩) p.1.length ck) p.1 := by have h9 := O2.out; rw [HLL.out] at h9; exact h9
          exact own_free ho _
        have hkI : (kk : Int) / 8 = (j : Int) := by omega
        have hkM : (kk : Int) % 8 = (rr : Int) := by omega
        have hjI : (j : Int) < (L : Int) := by omega
        have hkb0 : (0 : Int) ≤ (kk : Int) := by omega
        have hkb1 : (kk : Int) ≤ 8000 := by have := HLL.out; omega
        have hr8I : (rr : Int) < 8 := by omega
        have hwj : IntKind.i64.wrap (j : Int) = (j : Int) := IntWalk.i64_in _ (by omega)
        have hkT : (kk : Int).tmod 8 = (rr : Int) := by rw [Int.tmod_eq_emod_of_nonneg (by omega)]; omega
        have hwr : IntKind.i64.wrap (rr : Int) = (rr : Int) := IntWalk.i64_in _ (by omega)
        have hxb := HBY.out x (by rw [hx]; exact List.getElem_mem hj)
        have hfl := bits_flip x rr hxb hr8
        have HX := Lib.hid hx
        have HJD := Lib.hid hjd
        have HRDD := Lib.hid hrd
        have HJ := Lib.hid hj
        clear hx hjd hrd hk8
        go_upto_region 8 with fail
        have hfl2 : bits BinOp.xor IntKind.u8 x (2 ^ rr % 256) = flipB x rr := by
          rw [← hfl]
          have h8 : rr = 0 ∨ rr = 1 ∨ rr = 2 ∨ rr = 3 ∨ rr = 4 ∨ rr = 5 ∨ rr = 6 ∨ rr = 7 := by omega
          rcases h8 with h8 | h8 | h8 | h8 | h8 | h8 | h8 | h8 <;> rw [h8] <;> rfl
        rw [hfl2]
        have hnz : ¬ n = 0 := by omega
        obtain ⟨WC, hWC⟩ : ∃ WC, WC = w2.setCell ⟨cb, j, none⟩ (.int .u8 (flipB x rr)) := ⟨_, rfl⟩
        rw [← hWC]
        have HBC : Below w.heap.size w WC := by
          rw [hWC]
          exact B2.out.trans (((Fr.refl (fun b => b = cb) w2).setCell (p := ⟨cb, j, none⟩) (fun _ => rfl) _).below' B2.out.size (fun k' hk' => by rw [hk']; exact hcq))
        have HBW : Hid (Below w.heap.size w WC.drew) := HBC.trans ((Below.refl _ WC).drew.mono HBC.size)
        have OC : Hid (OwnB 0 WC.drew (.slice (some ⟨cb, 0, none⟩) L ck) (flipAt p.1 kk)) := by
          have h9 := own_setB (own_zero O2.out) j hj (flipB x rr)
          have e : p.1.set j (flipB x rr) = flipAt p.1 kk := by
            unfold flipAt
            rw [← HJD.out, ← HRDD.out, HX.out, List.getD_eq_getElem?_getD, List.getElem?_eq_getElem hj]
            rfl
          rw [e, ← hWC] at h9
          exact ownB_below h9 (Below.refl _ WC).drew
        have yw : w.cell? ⟨g, k, none⟩ = some (.slice (some ⟨q, 0, none⟩) n lc) := y
        have zw : w.frozen? ⟨g, k, none⟩ = false := zg
        have jy : WC.drew.cell? ⟨g, k, none⟩ = some (.slice (some ⟨q, 0, none⟩) n lc) := cellOn' yw HBW.out
        have s0 : WC.drew.cell? ⟨r, 4, none⟩ = some (.slice (some ⟨g, 0, none⟩) N cap) ∧ WC.drew.cell? ⟨q, 1, none⟩ = some (.int .i64 fg) := ⟨cellOn' k4 HBW.out, cellOn' x1 HBW.out⟩
        have s1 : (WC.drew.alloc (.cells #[.slice (some ⟨cb, 0, none⟩) L ck, .int .i64 fg] 85)).cell? ⟨r, 4, none⟩ = some (.slice (some ⟨g, 0, none⟩) N cap) ∧ (WC.drew.alloc (.cells #[.slice (some ⟨cb, 0, none⟩) L ck, .int .i64 fg] 85)).cell? ⟨q, 1, none⟩ = some (.int .i64 fg) := ⟨cellOn' s0.1 ((Below.refl _ WC.drew).alloc (Nat.le_refl _) _), cellOn' s0.2 ((Below.refl _ WC.drew).alloc (Nat.le_refl _) _)⟩
        have hgr : g ≠ r := fun e => own_ne H.out.rows H.out.blk (by decide) (by rw [e]; rfl)
        have hgq : g ≠ q := fun e => by
          obtain ⟨cur, hcur⟩ := own_type HO.out (g := q) rfl
          exact own_ne H.out.rows hcur (by decide) (by rw [e]; rfl)
        have HGR := Lib.hid (And.intro (fun e : r = g => hgr e.symm) (fun e : q = g => hgq e.symm))
        have hrW : r < WC.drew.heap.size := World.block_lt_of_cell? _ _ s0.1
        have hqW : q < WC.drew.heap.size := World.block_lt_of_cell? _ _ s0.2
        have hgW : g < WC.drew.heap.size := World.block_lt_of_cell? _ _ jy
        have jy0 : WC.cell? ⟨g, k, none⟩ = some (.slice (some ⟨q, 0, none⟩) n lc) := jy
        have hgW0 : g < WC.heap.size := hgW
        clear hWC HBC hgr hgq k1 x0 zg yx zx y hfl hfl2
        refine wp_region_held_drew (S := fun w' => w'.cell? ⟨r, 4, none⟩ = some (.slice (some ⟨g, 0, none⟩) N cap) ∧ w'.cell? ⟨q, 1, none⟩ = some (.int .i64 fg)) (by kernel_rfl) s0 (fun hHeld => ?_)
        refine wpAnyH_take (i := 0) (oi := ⟨some 78, _, _, _, _, _⟩) (v := .pointer (some ⟨r, 0, none⟩)) rfl (by kernel_rfl) (by kernel_rfl) (by kernel_rfl) (fun _ _ _ h => h) (Or.inl ⟨by rfl, ?_⟩) s0 ?_
        · intro w' hSw
          go_simp
        try simp only [Act.put, List.setIfInBounds_toArray, List.set_cons_zero, List.set_cons_succ]
        refine wpAnyH_take (i := 1) (oi := ⟨some 79, _, _, _, _, _⟩) (v := .pointer (some ⟨r, 0, none⟩)) rfl (by kernel_rfl) (by kernel_rfl) (by kernel_rfl) (fun _ _ _ h => h) (Or.inl ⟨by rfl, ?_⟩) s0 ?_
        · intro w' hSw
          go_simp
        try simp only [Act.put, List.setIfInBounds_toArray, List.set_cons_zero, List.set_cons_succ]
        refine wpAnyH_take (i := 2) (oi := ⟨some 80, _, _, _, _, _⟩) (v := .pointer (some ⟨r, 4, none⟩)) rfl (by kernel_rfl) (by kernel_rfl) (by kernel_rfl) (fun _ _ _ h => h) (Or.inl ⟨by rfl, ?_⟩) s0 ?_
        · intro w' hSw
          go_simp
        try simp only [Act.put, List.setIfInBounds_toArray, List.set_cons_zero, List.set_cons_succ]
        refine wpAnyH_take (i := 3) (oi := ⟨some 81, _, _, _, _, _⟩) (v := .slice (some ⟨g, 0, none⟩) N cap) rfl (by kernel_rfl) (by kernel_rfl) (by kernel_rfl) (fun _ _ _ h => h) (Or.inl ⟨by rfl, ?_⟩) s0 ?_
        · intro w' hSw
          obtain ⟨s0, s1⟩ := hSw
          go_simp
        try simp only [Act.put, List.setIfInBounds_toArray, List.set_cons_zero, List.set_cons_succ]
        refine wpAnyH_take (i := 4) (oi := ⟨some 82, _, _, _, _, _⟩) (v := .int .i64 (k : Int)) rfl (by kernel_rfl) (by kernel_rfl) (by kernel_rfl) (fun _ _ _ h => h) (Or.inl ⟨by rfl, ?_⟩) s0 ?_
        · intro w' hSw
          go_simp
        try simp only [Act.put, List.setIfInBounds_toArray, List.set_cons_zero, List.set_cons_succ]
        refine wpAnyH_take (i := 5) (oi := ⟨some 83, _, _, _, _, _⟩) (v := .slice (some ⟨cb, 0, none⟩) L ck) rfl (by kernel_rfl) (by kernel_rfl) (by kernel_rfl) (fun _ _ _ h => h) (Or.inl ⟨by rfl, ?_⟩) s0 ?_
        · intro w' hSw
          go_simp
        try simp only [Act.put, List.setIfInBounds_toArray, List.set_cons_zero, List.set_cons_succ]
        refine wpAnyH_take (i := 6) (oi := ⟨some 84, _, _, _, _, _⟩) (v := .pointer (some ⟨r, 0, none⟩)) rfl (by kernel_rfl) (by kernel_rfl) (by kernel_rfl) (fun _ _ _ h => h) (Or.inl ⟨by rfl, ?_⟩) s0 ?_
        · intro w' hSw
          go_simp
        try simp only [Act.put, List.setIfInBounds_toArray, List.set_cons_zero, List.set_cons_succ]
        refine wpAnyH_take (i := 7) (oi := ⟨some 85, _, _, _, _, _⟩) (v := .pointer (some ⟨r, 0, none⟩)) rfl (by kernel_rfl) (by kernel_rfl) (by kernel_rfl) (fun _ _ _ h => h) (Or.inl ⟨by rfl, ?_⟩) s0 ?_
        · intro w' hSw
          go_simp
        try simp only [Act.put, List.setIfInBounds_toArray, List.set_cons_zero, List.set_cons_succ]
        refine wpAnyH_take (i := 8) (oi := ⟨some 86, _, _, _, _, _⟩) (v := .pointer (some ⟨r, 4, none⟩)) rfl (by kernel_rfl) (by kernel_rfl) (by kernel_rfl) (fun _ _ _ h => h) (Or.inl ⟨by rfl, ?_⟩) s0 ?_
        · intro w' hSw
          go_simp
        try simp only [Act.put, List.setIfInBounds_toArray, List.set_cons_zero, List.set_cons_succ]
        refine wpAnyH_take (i := 9) (oi := ⟨some 87, _, _, _, _, _⟩) (v := .slice (some ⟨g, 0, none⟩) N cap) rfl (by kernel_rfl) (by kernel_rfl) (by kernel_rfl) (fun _ _ _ h => h) (Or.inl ⟨by rfl, ?_⟩) s0 ?_
        · intro w' hSw
          obtain ⟨s0, s1⟩ := hSw
          go_simp
        try simp only [Act.put, List.setIfInBounds_toArray, List.set_cons_zero, List.set_cons_succ]
        refine wpAnyH_take (i := 10) (oi := ⟨some 88, _, _, _, _, _⟩) (v := .int .i64 (k : Int)) rfl (by kernel_rfl) (by kernel_rfl) (by kernel_rfl) (fun _ _ _ h => h) (Or.inl ⟨by rfl, ?_⟩) s0 ?_
        · intro w' hSw
          go_simp
        try simp only [Act.put, List.setIfInBounds_toArray, List.set_cons_zero, List.set_cons_succ]
        refine wpAnyH_take (i := 11) (oi := ⟨some 89, _, _, _, _, _⟩) (v := .pointer (some ⟨g, k, none⟩)) rfl (by kernel_rfl) (by kernel_rfl) (by kernel_rfl) (fun _ _ _ h => h) (Or.inl ⟨by rfl, ?_⟩) s0 ?_
        · intro w' hSw
          go_simp
        try simp only [Act.put, List.setIfInBounds_toArray, List.set_cons_zero, List.set_cons_succ]
        refine wpAnyH_take (i := 18) (oi := ⟨some 96, _, _, _, _, _⟩) (v := .pointer (some ⟨r, 0, none⟩)) rfl (by kernel_rfl) (by kernel_rfl) (by kernel_rfl) (fun _ _ _ h => h) (Or.inl ⟨by rfl, ?_⟩) s0 ?_
        · intro w' hSw
          go_simp
        try simp only [Act.put, List.setIfInBounds_toArray, List.set_cons_zero, List.set_cons_succ]
        refine wpAnyH_take (i := 19) (oi := ⟨some 97, _, _, _, _, _⟩) (v := .pointer (some ⟨r, 0, none⟩)) rfl (by kernel_rfl) (by kernel_rfl) (by kernel_rfl) (fun _ _ _ h => h) (Or.inl ⟨by rfl, ?_⟩) s0 ?_
        · intro w' hSw
          go_simp
        try simp only [Act.put, List.setIfInBounds_toArray, List.set_cons_zero, List.set_cons_succ]
        refine wpAnyH_take (i := 20) (oi := ⟨some 98, _, _, _, _, _⟩) (v := .pointer (some ⟨r, 4, none⟩)) rfl (by kernel_rfl) (by kernel_rfl) (by kernel_rfl) (fun _ _ _ h => h) (Or.inl ⟨by rfl, ?_⟩) s0 ?_
        · intro w' hSw
          go_simp
        try simp only [Act.put, List.setIfInBounds_toArray, List.set_cons_zero, List.set_cons_succ]
        refine wpAnyH_take (i := 21) (oi := ⟨some 99, _, _, _, _, _⟩) (v := .slice (some ⟨g, 0, none⟩) N cap) rfl (by kernel_rfl) (by kernel_rfl) (by kernel_rfl) (fun _ _ _ h => h) (Or.inl ⟨by rfl, ?_⟩) s0 ?_
        · intro w' hSw
          obtain ⟨s0, s1⟩ := hSw
          go_simp
        try simp only [Act.put, List.setIfInBounds_toArray, List.set_cons_zero, List.set_cons_succ]
        refine wpAnyH_take (i := 22) (oi := ⟨some 100, _, _, _, _, _⟩) (v := .int .i64 (k : Int)) rfl (by kernel_rfl) (by kernel_rfl) (by kernel_rfl) (fun _ _ _ h => h) (Or.inl ⟨by rfl, ?_⟩) s0 ?_
        · intro w' hSw
          go_simp
        try simp only [Act.put, List.setIfInBounds_toArray, List.set_cons_zero, List.set_cons_succ]
        refine wpAnyH_take (i := 23) (oi := ⟨some 101, _, _, _, _, _⟩) (v := .pointer (some ⟨g, k, none⟩)) rfl (by kernel_rfl) (by kernel_rfl) (by kernel_rfl) (fun _ _ _ h => h) (Or.inl ⟨by rfl, ?_⟩) s0 ?_
        · intro w' hSw
          go_simp
        try simp only [Act.put, List.setIfInBounds_toArray, List.set_cons_zero, List.set_cons_succ]
        refine wpAnyH_ready (rs := [12, 24]) (by kernel_rfl) (by simp) ?_
        refine AllReadyH.cons (i := 12) (o := ⟨some 90, _, _, _, _, _⟩) rfl (fun K hK => ?_) ?_
        · go_simp
          refine hK.out _ _ s0 (fun hHeld => ?_)
          clear hK
          try simp only [Act.put, List.setIfInBounds_toArray, List.set_cons_zero, List.set_cons_succ]
          refine wpAnyH_take (i := 13) (oi := ⟨some 91, _, _, _, _, _⟩) (v := .pointer (some ⟨q, 0, none⟩)) rfl (by kernel_rfl) (by kernel_rfl) (by kernel_rfl) (fun _ _ _ h => h) (Or.inl ⟨by rfl, ?_⟩) s0 ?_
          · intro w' hSw
            go_simp
          try simp only [Act.put, List.setIfInBounds_toArray, List.set_cons_zero, List.set_cons_succ]
          refine wpAnyH_take (i := 14) (oi := ⟨some 92, _, _, _, _, _⟩) (v := .pointer (some ⟨q, 1, none⟩)) rfl (by kernel_rfl) (by kernel_rfl) (by kernel_rfl) (fun _ _ _ h => h) (Or.inl ⟨by rfl, ?_⟩) s0 ?_
          · intro w' hSw
            go_simp
          try simp only [Act.put, List.setIfInBounds_toArray, List.set_cons_zero, List.set_cons_succ]
          refine wpAnyH_take (i := 15) (oi := ⟨some 93, _, _, _, _, _⟩) (v := .int .i64 fg) rfl (by kernel_rfl) (by kernel_rfl) (by kernel_rfl) (fun _ _ _ h => h) (Or.inl ⟨by rfl, ?_⟩) s0 ?_
          · intro w' hSw
            obtain ⟨s0, s1⟩ := hSw
            go_simp
          try simp only [Act.put, List.setIfInBounds_toArray, List.set_cons_zero, List.set_cons_succ]
          refine wpAnyH_take (i := 16) (oi := ⟨some 94, _, _, _, _, _⟩) (v := .agg #[.slice (some ⟨cb, 0, none⟩) L ck, .int .i64 fg]) rfl (by kernel_rfl) (by kernel_rfl) (by kernel_rfl) (fun _ _ _ h => h) (Or.inl ⟨by rfl, ?_⟩) s0 ?_
          · intro w' hSw
            go_simp
          try simp only [Act.put, List.setIfInBounds_toArray, List.set_cons_zero, List.set_cons_succ]
          refine wpAnyH_ready (rs := [17, 24]) (by kernel_rfl) (by simp) ?_
          refine AllReadyH.cons (i := 17) (o := ⟨some 95, _, _, _, _, _⟩) rfl (fun K hK => ?_) ?_
          · go_simp
            refine hK.out _ _ s1 (fun hHeld => ?_)
            clear hK
            try simp only [Act.put, List.setIfInBounds_toArray, List.set_cons_zero, List.set_cons_succ]
            refine wpAnyH_ready (rs := [24]) (by kernel_rfl) (by simp) ?_
            refine AllReadyH.cons (i := 24) (o := ⟨some 102, _, _, _, _, _⟩) rfl (fun K hK => ?_) ?_
            · go_simp
              refine hK.out _ _ s1 (fun hHeld => ?_)
              clear hK
              try simp only [Act.put, List.setIfInBounds_toArray, List.set_cons_zero, List.set_cons_succ]
              refine wpAnyH_ready (rs := [25]) (by kernel_rfl) (by simp) ?_
              refine AllReadyH.cons (i := 25) (o := ⟨some 103, _, _, _, _, _⟩) rfl (fun K hK => ?_) ?_
              · go_simp
                refine hK.out _ _ s1 (fun hHeld => ?_)
                clear hK
                try simp only [Act.put, List.setIfInBounds_toArray, List.set_cons_zero, List.set_cons_succ]
                refine wpAnyH_ready (rs := [26]) (by kernel_rfl) (by simp) ?_
                refine AllReadyH.cons (i := 26) (o := ⟨some 104, _, _, _, _, _⟩) rfl (fun K hK => ?_) ?_
                · have BA : Below w.heap.size w (WC.drew.alloc (.cells #[.slice (some ⟨cb, 0, none⟩) L ck, .int .i64 fg] 85)) := HBW.out.trans (((Below.refl _ WC.drew).alloc (Nat.le_refl _) (.cells #[.slice (some ⟨cb, 0, none⟩) L ck, .int .i64 fg] 85)).mono HBW.out.size)
                  have oL : (WC.drew.alloc (.cells #[.slice (some ⟨cb, 0, none⟩) L ck, .int .i64 fg] 85)).ownsRow w.heap.size 85 2 (.slice (some ⟨WC.heap.size, 0, none⟩) 1 1) 1 [.slice (some ⟨cb, 0, none⟩) L ck, .int .i64 fg] := World.ownsRow_lit WC.drew _ 1 HBW.out.size (by decide) rfl
                  refine step_app (B := w.heap.size) (v := .slice (some ⟨WC.heap.size, 0, none⟩) 1 1) (n := 1) (m := n - 1) rfl (.tmp 95) (.tmp 103) 61 rfl 85 i0 _ 2 _ Try.underlying61 hi0 hz0 hz1 hz2 rfl (by decide) BA.size rfl rfl oL (R2.out.fr (Fr.of_below BA no) (fun _ _ e => e)) (enF_ones _) (by unfold maxLen; omega) (by omega) ?_
                  intro v5 w5 o5 f5 m5 n5 z5
                  rw [show 1 + (n - 1) = n by omega] at o5
                  have b5 : Below w.heap.size w w5 := BA.trans (f5.below' BA.size (fun k' hk' => by simp [Value.ownBlock] at hk'; rw [← hk']; exact HBW.out.size))
                  have o5' : Own enF 85 2 w.heap.size w5 v5 ((⟨(some ⟨cb, 0, none⟩), L, ck, fg⟩ : Fl) :: fl') := by have h9 := o5; rw [show n = ((⟨(some ⟨cb, 0, none⟩), L, ck, fg⟩ : Fl) :: fl').length by have := HN1.out; simp; omega] at h9; exact h9
                  have hc5 : OwnB 0 w5 (.slice (some ⟨cb, 0, none⟩) L ck) (flipAt p.1 kk) := (ownB_below OC.out ((Below.refl _ WC.drew).alloc (Nat.le_refl _) (.cells #[.slice (some ⟨cb, 0, none⟩) L ck, .int .i64 fg] 85))).fr f5 (fun g' hg' e => by have h8 : g' < WC.heap.size := own_lt OC.out hg'; simp [Value.ownBlock] at e; omega)
                  have hfr : ∀ f' ∈ ((⟨(some ⟨cb, 0, none⟩), L, ck, fg⟩ : Fl) :: fl'), ∀ g', f'.v.ownBlock = some g' → F g' ∨ w.heap.size ≤ g' := fun f' hf' g' hg' => by
                    rcases List.mem_cons.1 hf' with rfl | hf'
                    · simp [Value.ownBlock] at hg'; exact .inr (by rw [← hg']; exact hcq)
                    · exact .inl (HR.out.2.2 f' (List.mem_cons_of_mem _ hf') g' hg')
                  have hok2 : ∀ p' ∈ (flipAt p.1 kk, p.2) :: l, OkFr life p' := fun p' hp' => by
                    rcases List.mem_cons.1 hp' with e | hp'
                    · rw [e]
                      have hp := HOK.out p (List.mem_cons_self ..)
                      exact ⟨by rw [flipAt_len]; exact hp.len, flipAt_byte p.1 kk (by have := HK8.out; omega) hp.byte, hp.age⟩
                    · exact HOK.out p' (List.mem_cons_of_mem _ hp')
                  have fin := Lib.hid (H.out.put (l' := (flipAt p.1 kk, p.2) :: l) hkl.out b5 o5' ⟨⟨hc5, HR.out.2.1.2⟩, forall_imp HR.out.1 (fun f' p' e' => ⟨ownB_below e'.1 b5, e'.2⟩)⟩ hfr hok2 (by simpa using hlsm))
                  have s5 : w5.cell? ⟨r, 4, none⟩ = some (.slice (some ⟨g, 0, none⟩) N cap) ∧ w5.cell? ⟨q, 1, none⟩ = some (.int .i64 fg) := ⟨cellOn' k4 b5, cellOn' x1 b5⟩
                  have k5 : w5.cell? ⟨g, k, none⟩ = some (.slice (some ⟨q, 0, none⟩) n lc) := cellOn' yw b5
                  have k6 : w5.frozen? ⟨g, k, none⟩ = false := (b5.frozen (World.block_lt_of_cell? _ _ yw)).trans zw
                  obtain ⟨a5, c5, hv5, _⟩ := own_shape o5
                  subst hv5
                  have s6 : (w5.setCell ⟨g, k, none⟩ (.slice a5 n c5)).cell? ⟨r, 4, none⟩ = some (.slice (some ⟨g, 0, none⟩) N cap) ∧ (w5.setCell ⟨g, k, none⟩ (.slice a5 n c5)).cell? ⟨q, 1, none⟩ = some (.int .i64 fg) := by
                    have q0 : ∀ (a : Addr) (u : Value), w5.cell? a = some u → a.block ≠ g → (w5.setCell ⟨g, k, none⟩ (.slice a5 n c5)).cell? a = some u := fun a u hu hl => (((Fr.refl (fun b => b = g) w5).setCell (p := ⟨g, k, none⟩) (fun _ => rfl) (.slice a5 n c5)).cell (World.block_lt_of_cell? _ _ hu) hl).trans hu
                    exact ⟨q0 _ _ s5.1 HGR.out.1, q0 _ _ s5.2 HGR.out.2⟩
                  clear o5 o5' f5 m5 n5 z5 b5 hc5 oL BA hfr hok2
                  refine hK.out _ _ s5 (fun hHeld => ?_)
                  clear hK
                  try simp only [Act.put, List.setIfInBounds_toArray, List.set_cons_zero, List.set_cons_succ]
                  refine wpAnyH_take (i := 27) (oi := ⟨some 105, _, _, _, _, _⟩) (v := .pointer (some ⟨g, k, none⟩)) rfl (by kernel_rfl) (by kernel_rfl) (by kernel_rfl) (fun _ _ _ h => h) (Or.inl ⟨by rfl, ?_⟩) s5 ?_
                  · intro w' hSw
                    go_simp
                  try simp only [Act.put, List.setIfInBounds_toArray, List.set_cons_zero, List.set_cons_succ]
                  refine wpAnyH_ready (rs := [28]) (by kernel_rfl) (by simp) ?_
                  refine AllReadyH.cons (i := 28) (o := ⟨none, _, _, _, _, _⟩) rfl (fun K hK => ?_) ?_
                  · go_simp
                    refine hK.out _ _ s6 (fun hHeld => ?_)
                    clear hK
                    try simp only [Act.put, List.setIfInBounds_toArray, List.set_cons_zero, List.set_cons_succ]
                    refine wpAnyH_done (by kernel_rfl) ?_ _
                    clear k5 k6 s5 s6
                    go_wp2_with fail
                    all_goals
                      go_ret
                      exact ⟨rfl, fin.out⟩
                  exact AllReadyH.nil
                exact AllReadyH.nil
              exact AllReadyH.nil
            exact AllReadyH.nil
          refine AllReadyH.cons (i := 24) (o := ⟨some 102, _, _, _, _, _⟩) rfl (fun K hK => ?_) ?_
          · go_simp
            refine hK.out _ _ s0 (fun hHeld => ?_)
            clear hK
            try simp only [Act.put, List.setIfInBounds_toArray, List.set_cons_zero, List.set_cons_succ]
            refine wpAnyH_ready (rs := [17, 25]) (by kernel_rfl) (by simp) ?_
            refine AllReadyH.cons (i := 17) (o := ⟨some 95, _, _, _, _, _⟩) rfl (fun K hK => ?_) ?_
            · go_simp
              refine hK.out _ _ s1 (fun hHeld => ?_)
              clear hK
              try simp only [Act.put, List.setIfInBounds_toArray, List.set_cons_zero, List.set_cons_succ]
              refine wpAnyH_ready (rs := [25]) (by kernel_rfl) (by simp) ?_
              refine AllReadyH.cons (i := 25) (o := ⟨some 103, _, _, _, _, _⟩) rfl (fun K hK => ?_) ?_
              · go_simp
                refine hK.out _ _ s1 (fun hHeld => ?_)
                clear hK
                try simp only [Act.put, List.setIfInBounds_toArray, List.set_cons_zero, List.set_cons_succ]
                refine wpAnyH_ready (rs := [26]) (by kernel_rfl) (by simp) ?_
                refine AllReadyH.cons (i := 26) (o := ⟨some 104, _, _, _, _, _⟩) rfl (fun K hK => ?_) ?_
                · have BA : Below w.heap.size w (WC.drew.alloc (.cells #[.slice (some ⟨cb, 0, none⟩) L ck, .int .i64 fg] 85)) := HBW.out.trans (((Below.refl _ WC.drew).alloc (Nat.le_refl _) (.cells #[.slice (some ⟨cb, 0, none⟩) L ck, .int .i64 fg] 85)).mono HBW.out.size)
                  have oL : (WC.drew.alloc (.cells #[.slice (some ⟨cb, 0, none⟩) L ck, .int .i64 fg] 85)).ownsRow w.heap.size 85 2 (.slice (some ⟨WC.heap.size, 0, none⟩) 1 1) 1 [.slice (some ⟨cb, 0, none⟩) L ck, .int .i64 fg] := World.ownsRow_lit WC.drew _ 1 HBW.out.size (by decide) rfl
                  refine step_app (B := w.heap.size) (v := .slice (some ⟨WC.heap.size, 0, none⟩) 1 1) (n := 1) (m := n - 1) rfl (.tmp 95) (.tmp 103) 61 rfl 85 i0 _ 2 _ Try.underlying61 hi0 hz0 hz1 hz2 rfl (by decide) BA.size rfl rfl oL (R2.out.fr (Fr.of_below BA no) (fun _ _ e => e)) (enF_ones _) (by unfold maxLen; omega) (by omega) ?_
                  intro v5 w5 o5 f5 m5 n5 z5
                  rw [show 1 + (n - 1) = n by omega] at o5
                  have b5 : Below w.heap.size w w5 := BA.trans (f5.below' BA.size (fun k' hk' => by simp [Value.ownBlock] at hk'; rw [← hk']; exact HBW.out.size))
                  have o5' : Own enF 85 2 w.heap.size w5 v5 ((⟨(some ⟨cb, 0, none⟩), L, ck, fg⟩ : Fl) :: fl') := by have h9 := o5; rw [show n = ((⟨(some ⟨cb, 0, none⟩), L, ck, fg⟩ : Fl) :: fl').length by have := HN1.out; simp; omega] at h9; exact h9
                  have hc5 : OwnB 0 w5 (.slice (some ⟨cb, 0, none⟩) L ck) (flipAt p.1 kk) := (ownB_below OC.out ((Below.refl _ WC.drew).alloc (Nat.le_refl _) (.cells #[.slice (some ⟨cb, 0, none⟩) L ck, .int .i64 fg] 85))).fr f5 (fun g' hg' e => by have h8 : g' < WC.heap.size := own_lt OC.out hg'; simp [Value.ownBlock] at e; omega)
                  have hfr : ∀ f' ∈ ((⟨(some ⟨cb, 0, none⟩), L, ck, fg⟩ : Fl) :: fl'), ∀ g', f'.v.ownBlock = some g' → F g' ∨ w.heap.size ≤ g' := fun f' hf' g' hg' => by
                    rcases List.mem_cons.1 hf' with rfl | hf'
                    · simp [Value.ownBlock] at hg'; exact .inr (by rw [← hg']; exact hcq)
                    · exact .inl (HR.out.2.2 f' (List.mem_cons_of_mem _ hf') g' hg')
                  have hok2 : ∀ p' ∈ (flipAt p.1 kk, p.2) :: l, OkFr life p' := fun p' hp' => by
                    rcases List.mem_cons.1 hp' with e | hp'
                    · rw [e]
                      have hp := HOK.out p (List.mem_cons_self ..)
                      exact ⟨by rw [flipAt_len]; exact hp.len, flipAt_byte p.1 kk (by have := HK8.out; omega) hp.byte, hp.age⟩
                    · exact HOK.out p' (List.mem_cons_of_mem _ hp')
                  have fin := Lib.hid (H.out.put (l' := (flipAt p.1 kk, p.2) :: l) hkl.out b5 o5' ⟨⟨hc5, HR.out.2.1.2⟩, forall_imp HR.out.1 (fun f' p' e' => ⟨ownB_below e'.1 b5, e'.2⟩)⟩ hfr hok2 (by simpa using hlsm))
                  have s5 : w5.cell? ⟨r, 4, none⟩ = some (.slice (some ⟨g, 0, none⟩) N cap) ∧ w5.cell? ⟨q, 1, none⟩ = some (.int .i64 fg) := ⟨cellOn' k4 b5, cellOn' x1 b5⟩
                  have k5 : w5.cell? ⟨g, k, none⟩ = some (.slice (some ⟨q, 0, none⟩) n lc) := cellOn' yw b5
                  have k6 : w5.frozen? ⟨g, k, none⟩ = false := (b5.frozen (World.block_lt_of_cell? _ _ yw)).trans zw
                  obtain ⟨a5, c5, hv5, _⟩ := own_shape o5
                  subst hv5
                  have s6 : (w5.setCell ⟨g, k, none⟩ (.slice a5 n c5)).cell? ⟨r, 4, none⟩ = some (.slice (some ⟨g, 0, none⟩) N cap) ∧ (w5.setCell ⟨g, k, none⟩ (.slice a5 n c5)).cell? ⟨q, 1, none⟩ = some (.int .i64 fg) := by
                    have q0 : ∀ (a : Addr) (u : Value), w5.cell? a = some u → a.block ≠ g → (w5.setCell ⟨g, k, none⟩ (.slice a5 n c5)).cell? a = some u := fun a u hu hl => (((Fr.refl (fun b => b = g) w5).setCell (p := ⟨g, k, none⟩) (fun _ => rfl) (.slice a5 n c5)).cell (World.block_lt_of_cell? _ _ hu) hl).trans hu
                    exact ⟨q0 _ _ s5.1 HGR.out.1, q0 _ _ s5.2 HGR.out.2⟩
                  clear o5 o5' f5 m5 n5 z5 b5 hc5 oL BA hfr hok2
                  refine hK.out _ _ s5 (fun hHeld => ?_)
                  clear hK
                  try simp only [Act.put, List.setIfInBounds_toArray, List.set_cons_zero, List.set_cons_succ]
                  refine wpAnyH_take (i := 27) (oi := ⟨some 105, _, _, _, _, _⟩) (v := .pointer (some ⟨g, k, none⟩)) rfl (by kernel_rfl) (by kernel_rfl) (by kernel_rfl) (fun _ _ _ h => h) (Or.inl ⟨by rfl, ?_⟩) s5 ?_
                  · intro w' hSw
                    go_simp
                  try simp only [Act.put, List.setIfInBounds_toArray, List.set_cons_zero, List.set_cons_succ]
                  refine wpAnyH_ready (rs := [28]) (by kernel_rfl) (by simp) ?_
                  refine AllReadyH.cons (i := 28) (o := ⟨none, _, _, _, _, _⟩) rfl (fun K hK => ?_) ?_
                  · go_simp
                    refine hK.out _ _ s6 (fun hHeld => ?_)
                    clear hK
                    try simp only [Act.put, List.setIfInBounds_toArray, List.set_cons_zero, List.set_cons_succ]
                    refine wpAnyH_done (by kernel_rfl) ?_ _
                    clear k5 k6 s5 s6
                    go_wp2_with fail
                    all_goals
                      go_ret
                      exact ⟨rfl, fin.out⟩
                  exact AllReadyH.nil
                exact AllReadyH.nil
              exact AllReadyH.nil
            refine AllReadyH.cons (i := 25) (o := ⟨some 103, _, _, _, _, _⟩) rfl (fun K hK => ?_) ?_
            · go_simp
              refine hK.out _ _ s0 (fun hHeld => ?_)
              clear hK
              try simp only [Act.put, List.setIfInBounds_toArray, List.set_cons_zero, List.set_cons_succ]
              refine wpAnyH_ready (rs := [17]) (by kernel_rfl) (by simp) ?_
              refine AllReadyH.cons (i := 17) (o := ⟨some 95, _, _, _, _, _⟩) rfl (fun K hK => ?_) ?_
              · go_simp
                refine hK.out _ _ s1 (fun hHeld => ?_)
                clear hK
                try simp only [Act.put, List.setIfInBounds_toArray, List.set_cons_zero, List.set_cons_succ]
                refine wpAnyH_ready (rs := [26]) (by kernel_rfl) (by simp) ?_
                refine AllReadyH.cons (i := 26) (o := ⟨some 104, _, _, _, _, _⟩) rfl (fun K hK => ?_) ?_
                · have BA : Below w.heap.size w (WC.drew.alloc (.cells #[.slice (some ⟨cb, 0, none⟩) L ck, .int .i64 fg] 85)) := HBW.out.trans (((Below.refl _ WC.drew).alloc (Nat.le_refl _) (.cells #[.slice (some ⟨cb, 0, none⟩) L ck, .int .i64 fg] 85)).mono HBW.out.size)
                  have oL : (WC.drew.alloc (.cells #[.slice (some ⟨cb, 0, none⟩) L ck, .int .i64 fg] 85)).ownsRow w.heap.size 85 2 (.slice (some ⟨WC.heap.size, 0, none⟩) 1 1) 1 [.slice (some ⟨cb, 0, none⟩) L ck, .int .i64 fg] := World.ownsRow_lit WC.drew _ 1 HBW.out.size (by decide) rfl
                  refine step_app (B := w.heap.size) (v := .slice (some ⟨WC.heap.size, 0, none⟩) 1 1) (n := 1) (m := n - 1) rfl (.tmp 95) (.tmp 103) 61 rfl 85 i0 _ 2 _ Try.underlying61 hi0 hz0 hz1 hz2 rfl (by decide) BA.size rfl rfl oL (R2.out.fr (Fr.of_below BA no) (fun _ _ e => e)) (enF_ones _) (by unfold maxLen; omega) (by omega) ?_
                  intro v5 w5 o5 f5 m5 n5 z5
                  rw [show 1 + (n - 1) = n by omega] at o5
                  have b5 : Below w.heap.size w w5 := BA.trans (f5.below' BA.size (fun k' hk' => by simp [Value.ownBlock] at hk'; rw [← hk']; exact HBW.out.size))
                  have o5' : Own enF 85 2 w.heap.size w5 v5 ((⟨(some ⟨cb, 0, none⟩), L, ck, fg⟩ : Fl) :: fl') := by have h9 := o5; rw [show n = ((⟨(some ⟨cb, 0, none⟩), L, ck, fg⟩ : Fl) :: fl').length by have := HN1.out; simp; omega] at h9; exact h9
                  have hc5 : OwnB 0 w5 (.slice (some ⟨cb, 0, none⟩) L ck) (flipAt p.1 kk) := (ownB_below OC.out ((Below.refl _ WC.drew).alloc (Nat.le_refl _) (.cells #[.slice (some ⟨cb, 0, none⟩) L ck, .int .i64 fg] 85))).fr f5 (fun g' hg' e => by have h8 : g' < WC.heap.size := own_lt OC.out hg'; simp [Value.ownBlock] at e; omega)
                  have hfr : ∀ f' ∈ ((⟨(some ⟨cb, 0, none⟩), L, ck, fg⟩ : Fl) :: fl'), ∀ g', f'.v.ownBlock = some g' → F g' ∨ w.heap.size ≤ g' := fun f' hf' g' hg' => by
                    rcases List.mem_cons.1 hf' with rfl | hf'
                    · simp [Value.ownBlock] at hg'; exact .inr (by rw [← hg']; exact hcq)
                    · exact .inl (HR.out.2.2 f' (List.mem_cons_of_mem _ hf') g' hg')
                  have hok2 : ∀ p' ∈ (flipAt p.1 kk, p.2) :: l, OkFr life p' := fun p' hp' => by
                    rcases List.mem_cons.1 hp' with e | hp'
                    · rw [e]
                      have hp := HOK.out p (List.mem_cons_self ..)
                      exact ⟨by rw [flipAt_len]; exact hp.len, flipAt_byte p.1 kk (by have := HK8.out; omega) hp.byte, hp.age⟩
                    · exact HOK.out p' (List.mem_cons_of_mem _ hp')
                  have fin := Lib.hid (H.out.put (l' := (flipAt p.1 kk, p.2) :: l) hkl.out b5 o5' ⟨⟨hc5, HR.out.2.1.2⟩, forall_imp HR.out.1 (fun f' p' e' => ⟨ownB_below e'.1 b5, e'.2⟩)⟩ hfr hok2 (by simpa using hlsm))
                  have s5 : w5.cell? ⟨r, 4, none⟩ = some (.slice (some ⟨g, 0, none⟩) N cap) ∧ w5.cell? ⟨q, 1, none⟩ = some (.int .i64 fg) := ⟨cellOn' k4 b5, cellOn' x1 b5⟩
                  have k5 : w5.cell? ⟨g, k, none⟩ = some (.slice (some ⟨q, 0, none⟩) n lc) := cellOn' yw b5
                  have k6 : w5.frozen? ⟨g, k, none⟩ = false := (b5.frozen (World.block_lt_of_cell? _ _ yw)).trans zw
                  obtain ⟨a5, c5, hv5, _⟩ := own_shape o5
                  subst hv5
                  have s6 : (w5.setCell ⟨g, k, none⟩ (.slice a5 n c5)).cell? ⟨r, 4, none⟩ = some (.slice (some ⟨g, 0, none⟩) N cap) ∧ (w5.setCell ⟨g, k, none⟩ (.slice a5 n c5)).cell? ⟨q, 1, none⟩ = some (.int .i64 fg) := by
                    have q0 : ∀ (a : Addr) (u : Value), w5.cell? a = some u → a.block ≠ g → (w5.setCell ⟨g, k, none⟩ (.slice a5 n c5)).cell? a = some u := fun a u hu hl => (((Fr.refl (fun b => b = g) w5).setCell (p := ⟨g, k, none⟩) (fun _ => rfl) (.slice a5 n c5)).cell (World.block_lt_of_cell? _ _ hu) hl).trans hu
                    exact ⟨q0 _ _ s5.1 HGR.out.1, q0 _ _ s5.2 HGR.out.2⟩
                  clear o5 o5' f5 m5 n5 z5 b5 hc5 oL BA hfr hok2
                  refine hK.out _ _ s5 (fun hHeld => ?_)
                  clear hK
                  try simp only [Act.put, List.setIfInBounds_toArray, List.set_cons_zero, List.set_cons_succ]
                  refine wpAnyH_take (i := 27) (oi := ⟨some 105, _, _, _, _, _⟩) (v := .pointer (some ⟨g, k, none⟩)) rfl (by kernel_rfl) (by kernel_rfl) (by kernel_rfl) (fun _ _ _ h => h) (Or.inl ⟨by rfl, ?_⟩) s5 ?_
                  · intro w' hSw
                    go_simp
                  try simp only [Act.put, List.setIfInBounds_toArray, List.set_cons_zero, List.set_cons_succ]
                  refine wpAnyH_ready (rs := [28]) (by kernel_rfl) (by simp) ?_
                  refine AllReadyH.cons (i := 28) (o := ⟨none, _, _, _, _, _⟩) rfl (fun K hK => ?_) ?_
                  · go_simp
                    refine hK.out _ _ s6 (fun hHeld => ?_)
                    clear hK
                    try simp only [Act.put, List.setIfInBounds_toArray, List.set_cons_zero, List.set_cons_succ]
                    refine wpAnyH_done (by kernel_rfl) ?_ _
                    clear k5 k6 s5 s6
                    go_wp2_with fail
                    all_goals
                      go_ret
                      exact ⟨rfl, fin.out⟩
                  exact AllReadyH.nil
                exact AllReadyH.nil
              exact AllReadyH.nil
            exact AllReadyH.nil
          exact AllReadyH.nil
        refine AllReadyH.cons (i := 24) (o := ⟨some 102, _, _, _, _, _⟩) rfl (fun K hK => ?_) ?_
        · go_simp
          refine hK.out _ _ s0 (fun hHeld => ?_)
          clear hK
          try simp only [Act.put, List.setIfInBounds_toArray, List.set_cons_zero, List.set_cons_succ]
          refine wpAnyH_ready (rs := [12, 25]) (by kernel_rfl) (by simp) ?_
          refine AllReadyH.cons (i := 12) (o := ⟨some 90, _, _, _, _, _⟩) rfl (fun K hK => ?_) ?_
          · go_simp
            refine hK.out _ _ s0 (fun hHeld => ?_)
            clear hK
            try simp only [Act.put, List.setIfInBounds_toArray, List.set_cons_zero, List.set_cons_succ]
            refine wpAnyH_take (i := 13) (oi := ⟨some 91, _, _, _, _, _⟩) (v := .pointer (some ⟨q, 0, none⟩)) rfl (by kernel_rfl) (by kernel_rfl) (by kernel_rfl) (fun _ _ _ h => h) (Or.inl ⟨by rfl, ?_⟩) s0 ?_
            · intro w' hSw
              go_simp
            try simp only [Act.put, List.setIfInBounds_toArray, List.set_cons_zero, List.set_cons_succ]
            refine wpAnyH_take (i := 14) (oi := ⟨some 92, _, _, _, _, _⟩) (v := .pointer (some ⟨q, 1, none⟩)) rfl (by kernel_rfl) (by kernel_rfl) (by kernel_rfl) (fun _ _ _ h => h) (Or.inl ⟨by rfl, ?_⟩) s0 ?_
            · intro w' hSw
              go_simp
            try simp only [Act.put, List.setIfInBounds_toArray, List.set_cons_zero, List.set_cons_succ]
            refine wpAnyH_take (i := 15) (oi := ⟨some 93, _, _, _, _, _⟩) (v := .int .i64 fg) rfl (by kernel_rfl) (by kernel_rfl) (by kernel_rfl) (fun _ _ _ h => h) (Or.inl ⟨by rfl, ?_⟩) s0 ?_
            · intro w' hSw
              obtain ⟨s0, s1⟩ := hSw
              go_simp
            try simp only [Act.put, List.setIfInBounds_toArray, List.set_cons_zero, List.set_cons_succ]
            refine wpAnyH_take (i := 16) (oi := ⟨some 94, _, _, _, _, _⟩) (v := .agg #[.slice (some ⟨cb, 0, none⟩) L ck, .int .i64 fg]) rfl (by kernel_rfl) (by kernel_rfl) (by kernel_rfl) (fun _ _ _ h => h) (Or.inl ⟨by rfl, ?_⟩) s0 ?_
            · intro w' hSw
              go_simp
            try simp only [Act.put, List.setIfInBounds_toArray, List.set_cons_zero, List.set_cons_succ]
            refine wpAnyH_ready (rs := [17, 25]) (by kernel_rfl) (by simp) ?_
            refine AllReadyH.cons (i := 17) (o := ⟨some 95, _, _, _, _, _⟩) rfl (fun K hK => ?_) ?_
            · go_simp
              refine hK.out _ _ s1 (fun hHeld => ?_)
              clear hK
              try simp only [Act.put, List.setIfInBounds_toArray, List.set_cons_zero, List.set_cons_succ]
              refine wpAnyH_ready (rs := [25]) (by kernel_rfl) (by simp) ?_
              refine AllReadyH.cons (i := 25) (o := ⟨some 103, _, _, _, _, _⟩) rfl (fun K hK => ?_) ?_
              · go_simp
                refine hK.out _ _ s1 (fun hHeld => ?_)
                clear hK
                try simp only [Act.put, List.setIfInBounds_toArray, List.set_cons_zero, List.set_cons_succ]
                refine wpAnyH_ready (rs := [26]) (by kernel_rfl) (by simp) ?_
                refine AllReadyH.cons (i := 26) (o := ⟨some 104, _, _, _, _, _⟩) rfl (fun K hK => ?_) ?_
                · have BA : Below w.heap.size w (WC.drew.alloc (.cells #[.slice (some ⟨cb, 0, none⟩) L ck, .int .i64 fg] 85)) := HBW.out.trans (((Below.refl _ WC.drew).alloc (Nat.le_refl _) (.cells #[.slice (some ⟨cb, 0, none⟩) L ck, .int .i64 fg] 85)).mono HBW.out.size)
                  have oL : (WC.drew.alloc (.cells #[.slice (some ⟨cb, 0, none⟩) L ck, .int .i64 fg] 85)).ownsRow w.heap.size 85 2 (.slice (some ⟨WC.heap.size, 0, none⟩) 1 1) 1 [.slice (some ⟨cb, 0, none⟩) L ck, .int .i64 fg] := World.ownsRow_lit WC.drew _ 1 HBW.out.size (by decide) rfl
                  refine step_app (B := w.heap.size) (v := .slice (some ⟨WC.heap.size, 0, none⟩) 1 1) (n := 1) (m := n - 1) rfl (.tmp 95) (.tmp 103) 61 rfl 85 i0 _ 2 _ Try.underlying61 hi0 hz0 hz1 hz2 rfl (by decide) BA.size rfl rfl oL (R2.out.fr (Fr.of_below BA no) (fun _ _ e => e)) (enF_ones _) (by unfold maxLen; omega) (by omega) ?_
                  intro v5 w5 o5 f5 m5 n5 z5
                  rw [show 1 + (n - 1) = n by omega] at o5
                  have b5 : Below w.heap.size w w5 := BA.trans (f5.below' BA.size (fun k' hk' => by simp [Value.ownBlock] at hk'; rw [← hk']; exact HBW.out.size))
                  have o5' : Own enF 85 2 w.heap.size w5 v5 ((⟨(some ⟨cb, 0, none⟩), L, ck, fg⟩ : Fl) :: fl') := by have h9 := o5; rw [show n = ((⟨(some ⟨cb, 0, none⟩), L, ck, fg⟩ : Fl) :: fl').length by have := HN1.out; simp; omega] at h9; exact h9
                  have hc5 : OwnB 0 w5 (.slice (some ⟨cb, 0, none⟩) L ck) (flipAt p.1 kk) := (ownB_below OC.out ((Below.refl _ WC.drew).alloc (Nat.le_refl _) (.cells #[.slice (some ⟨cb, 0, none⟩) L ck, .int .i64 fg] 85))).fr f5 (fun g' hg' e => by have h8 : g' < WC.heap.size := own_lt OC.out hg'; simp [Value.ownBlock] at e; omega)
                  have hfr : ∀ f' ∈ ((⟨(some ⟨cb, 0, none⟩), L, ck, fg⟩ : Fl) :: fl'), ∀ g', f'.v.ownBlock = some g' → F g' ∨ w.heap.size ≤ g' := fun f' hf' g' hg' => by
                    rcases List.mem_cons.1 hf' with rfl | hf'
                    · simp [Value.ownBlock] at hg'; exact .inr (by rw [← hg']; exact hcq)
                    · exact .inl (HR.out.2.2 f' (List.mem_cons_of_mem _ hf') g' hg')
                  have hok2 : ∀ p' ∈ (flipAt p.1 kk, p.2) :: l, OkFr life p' := fun p' hp' => by
                    rcases List.mem_cons.1 hp' with e | hp'
                    · rw [e]
                      have hp := HOK.out p (List.mem_cons_self ..)
                      exact ⟨by rw [flipAt_len]; exact hp.len, flipAt_byte p.1 kk (by have := HK8.out; omega) hp.byte, hp.age⟩
                    · exact HOK.out p' (List.mem_cons_of_mem _ hp')
                  have fin := Lib.hid (H.out.put (l' := (flipAt p.1 kk, p.2) :: l) hkl.out b5 o5' ⟨⟨hc5, HR.out.2.1.2⟩, forall_imp HR.out.1 (fun f' p' e' => ⟨ownB_below e'.1 b5, e'.2⟩)⟩ hfr hok2 (by simpa using hlsm))
                  have s5 : w5.cell? ⟨r, 4, none⟩ = some (.slice (some ⟨g, 0, none⟩) N cap) ∧ w5.cell? ⟨q, 1, none⟩ = some (.int .i64 fg) := ⟨cellOn' k4 b5, cellOn' x1 b5⟩
                  have k5 : w5.cell? ⟨g, k, none⟩ = some (.slice (some ⟨q, 0, none⟩) n lc) := cellOn' yw b5
                  have k6 : w5.frozen? ⟨g, k, none⟩ = false := (b5.frozen (World.block_lt_of_cell? _ _ yw)).trans zw
                  obtain ⟨a5, c5, hv5, _⟩ := own_shape o5
                  subst hv5
                  have s6 : (w5.setCell ⟨g, k, none⟩ (.slice a5 n c5)).cell? ⟨r, 4, none⟩ = some (.slice (some ⟨g, 0, none⟩) N cap) ∧ (w5.setCell ⟨g, k, none⟩ (.slice a5 n c5)).cell? ⟨q, 1, none⟩ = some (.int .i64 fg) := by
                    have q0 : ∀ (a : Addr) (u : Value), w5.cell? a = some u → a.block ≠ g → (w5.setCell ⟨g, k, none⟩ (.slice a5 n c5)).cell? a = some u := fun a u hu hl => (((Fr.refl (fun b => b = g) w5).setCell (p := ⟨g, k, none⟩) (fun _ => rfl) (.slice a5 n c5)).cell (World.block_lt_of_cell? _ _ hu) hl).trans hu
                    exact ⟨q0 _ _ s5.1 HGR.out.1, q0 _ _ s5.2 HGR.out.2⟩
                  clear o5 o5' f5 m5 n5 z5 b5 hc5 oL BA hfr hok2
                  refine hK.out _ _ s5 (fun hHeld => ?_)
                  clear hK
                  try simp only [Act.put, List.setIfInBounds_toArray, List.set_cons_zero, List.set_cons_succ]
                  refine wpAnyH_take (i := 27) (oi := ⟨some 105, _, _, _, _, _⟩) (v := .pointer (some ⟨g, k, none⟩)) rfl (by kernel_rfl) (by kernel_rfl) (by kernel_rfl) (fun _ _ _ h => h) (Or.inl ⟨by rfl, ?_⟩) s5 ?_
                  · intro w' hSw
                    go_simp
                  try simp only [Act.put, List.setIfInBounds_toArray, List.set_cons_zero, List.set_cons_succ]
                  refine wpAnyH_ready (rs := [28]) (by kernel_rfl) (by simp) ?_
                  refine AllReadyH.cons (i := 28) (o := ⟨none, _, _, _, _, _⟩) rfl (fun K hK => ?_) ?_
                  · go_simp
                    refine hK.out _ _ s6 (fun hHeld => ?_)
                    clear hK
                    try simp only [Act.put, List.setIfInBounds_toArray, List.set_cons_zero, List.set_cons_succ]
                    refine wpAnyH_done (by kernel_rfl) ?_ _
                    clear k5 k6 s5 s6
                    go_wp2_with fail
                    all_goals
                      go_ret
                      exact ⟨rfl, fin.out⟩
                  exact AllReadyH.nil
                exact AllReadyH.nil
              exact AllReadyH.nil
            refine AllReadyH.cons (i := 25) (o := ⟨some 103, _, _, _, _, _⟩) rfl (fun K hK => ?_) ?_
            · go_simp
              refine hK.out _ _ s0 (fun hHeld => ?_)
              clear hK
              try simp only [Act.put, List.setIfInBounds_toArray, List.set_cons_zero, List.set_cons_succ]
              refine wpAnyH_ready (rs := [17]) (by kernel_rfl) (by simp) ?_
              refine AllReadyH.cons (i := 17) (o := ⟨some 95, _, _, _, _, _⟩) rfl (fun K hK => ?_) ?_
              · go_simp
                refine hK.out _ _ s1 (fun hHeld => ?_)
                clear hK
                try simp only [Act.put, List.setIfInBounds_toArray, List.set_cons_zero, List.set_cons_succ]
                refine wpAnyH_ready (rs := [26]) (by kernel_rfl) (by simp) ?_
                refine AllReadyH.cons (i := 26) (o := ⟨some 104, _, _, _, _, _⟩) rfl (fun K hK => ?_) ?_
                · have BA : Below w.heap.size w (WC.drew.alloc (.cells #[.slice (some ⟨cb, 0, none⟩) L ck, .int .i64 fg] 85)) := HBW.out.trans (((Below.refl _ WC.drew).alloc (Nat.le_refl _) (.cells #[.slice (some ⟨cb, 0, none⟩) L ck, .int .i64 fg] 85)).mono HBW.out.size)
                  have oL : (WC.drew.alloc (.cells #[.slice (some ⟨cb, 0, none⟩) L ck, .int .i64 fg] 85)).ownsRow w.heap.size 85 2 (.slice (some ⟨WC.heap.size, 0, none⟩) 1 1) 1 [.slice (some ⟨cb, 0, none⟩) L ck, .int .i64 fg] := World.ownsRow_lit WC.drew _ 1 HBW.out.size (by decide) rfl
                  refine step_app (B := w.heap.size) (v := .slice (some ⟨WC.heap.size, 0, none⟩) 1 1) (n := 1) (m := n - 1) rfl (.tmp 95) (.tmp 103) 61 rfl 85 i0 _ 2 _ Try.underlying61 hi0 hz0 hz1 hz2 rfl (by decide) BA.size rfl rfl oL (R2.out.fr (Fr.of_below BA no) (fun _ _ e => e)) (enF_ones _) (by unfold maxLen; omega) (by omega) ?_
                  intro v5 w5 o5 f5 m5 n5 z5
                  rw [show 1 + (n - 1) = n by omega] at o5
                  have b5 : Below w.heap.size w w5 := BA.trans (f5.below' BA.size (fun k' hk' => by simp [Value.ownBlock] at hk'; rw [← hk']; exact HBW.out.size))
                  have o5' : Own enF 85 2 w.heap.size w5 v5 ((⟨(some ⟨cb, 0, none⟩), L, ck, fg⟩ : Fl) :: fl') := by have h9 := o5; rw [show n = ((⟨(some ⟨cb, 0, none⟩), L, ck, fg⟩ : Fl) :: fl').length by have := HN1.out; simp; omega] at h9; exact h9
                  have hc5 : OwnB 0 w5 (.slice (some ⟨cb, 0, none⟩) L ck) (flipAt p.1 kk) := (ownB_below OC.out ((Below.refl _ WC.drew).alloc (Nat.le_refl _) (.cells #[.slice (some ⟨cb, 0, none⟩) L ck, .int .i64 fg] 85))).fr f5 (fun g' hg' e => by have h8 : g' < WC.heap.size := own_lt OC.out hg'; simp [Value.ownBlock] at e; omega)
                  have hfr : ∀ f' ∈ ((⟨(some ⟨cb, 0, none⟩), L, ck, fg⟩ : Fl) :: fl'), ∀ g', f'.v.ownBlock = some g' → F g' ∨ w.heap.size ≤ g' := fun f' hf' g' hg' => by
                    rcases List.mem_cons.1 hf' with rfl | hf'
                    · simp [Value.ownBlock] at hg'; exact .inr (by rw [← hg']; exact hcq)
                    · exact .inl (HR.out.2.2 f' (List.mem_cons_of_mem _ hf') g' hg')
                  have hok2 : ∀ p' ∈ (flipAt p.1 kk, p.2) :: l, OkFr life p' := fun p' hp' => by
                    rcases List.mem_cons.1 hp' with e | hp'
                    · rw [e]
                      have hp := HOK.out p (List.mem_cons_self ..)
                      exact ⟨by rw [flipAt_len]; exact hp.len, flipAt_byte p.1 kk (by have := HK8.out; omega) hp.byte, hp.age⟩
                    · exact HOK.out p' (List.mem_cons_of_mem _ hp')
                  have fin := Lib.hid (H.out.put (l' := (flipAt p.1 kk, p.2) :: l) hkl.out b5 o5' ⟨⟨hc5, HR.out.2.1.2⟩, forall_imp HR.out.1 (fun f' p' e' => ⟨ownB_below e'.1 b5, e'.2⟩)⟩ hfr hok2 (by simpa using hlsm))
                  have s5 : w5.cell? ⟨r, 4, none⟩ = some (.slice (some ⟨g, 0, none⟩) N cap) ∧ w5.cell? ⟨q, 1, none⟩ = some (.int .i64 fg) := ⟨cellOn' k4 b5, cellOn' x1 b5⟩
                  have k5 : w5.cell? ⟨g, k, none⟩ = some (.slice (some ⟨q, 0, none⟩) n lc) := cellOn' yw b5
                  have k6 : w5.frozen? ⟨g, k, none⟩ = false := (b5.frozen (World.block_lt_of_cell? _ _ yw)).trans zw
                  obtain ⟨a5, c5, hv5, _⟩ := own_shape o5
                  subst hv5
                  have s6 : (w5.setCell ⟨g, k, none⟩ (.slice a5 n c5)).cell? ⟨r, 4, none⟩ = some (.slice (some ⟨g, 0, none⟩) N cap) ∧ (w5.setCell ⟨g, k, none⟩ (.slice a5 n c5)).cell? ⟨q, 1, none⟩ = some (.int .i64 fg) := by
                    have q0 : ∀ (a : Addr) (u : Value), w5.cell? a = some u → a.block ≠ g → (w5.setCell ⟨g, k, none⟩ (.slice a5 n c5)).cell? a = some u := fun a u hu hl => (((Fr.refl (fun b => b = g) w5).setCell (p := ⟨g, k, none⟩) (fun _ => rfl) (.slice a5 n c5)).cell (World.block_lt_of_cell? _ _ hu) hl).trans hu
                    exact ⟨q0 _ _ s5.1 HGR.out.1, q0 _ _ s5.2 HGR.out.2⟩
                  clear o5 o5' f5 m5 n5 z5 b5 hc5 oL BA hfr hok2
                  refine hK.out _ _ s5 (fun hHeld => ?_)
                  clear hK
                  try simp only [Act.put, List.setIfInBounds_toArray, List.set_cons_zero, List.set_cons_succ]
                  refine wpAnyH_take (i := 27) (oi := ⟨some 105, _, _, _, _, _⟩) (v := .pointer (some ⟨g, k, none⟩)) rfl (by kernel_rfl) (by kernel_rfl) (by kernel_rfl) (fun _ _ _ h => h) (Or.inl ⟨by rfl, ?_⟩) s5 ?_
                  · intro w' hSw
                    go_simp
                  try simp only [Act.put, List.setIfInBounds_toArray, List.set_cons_zero, List.set_cons_succ]
                  refine wpAnyH_ready (rs := [28]) (by kernel_rfl) (by simp) ?_
                  refine AllReadyH.cons (i := 28) (o := ⟨none, _, _, _, _, _⟩) rfl (fun K hK => ?_) ?_
                  · go_simp
                    refine hK.out _ _ s6 (fun hHeld => ?_)
                    clear hK
                    try simp only [Act.put, List.setIfInBounds_toArray, List.set_cons_zero, List.set_cons_succ]
                    refine wpAnyH_done (by kernel_rfl) ?_ _
                    clear k5 k6 s5 s6
                    go_wp2_with fail
                    all_goals
                      go_ret
                      exact ⟨rfl, fin.out⟩
                  exact AllReadyH.nil
                exact AllReadyH.nil
              exact AllReadyH.nil
            exact AllReadyH.nil
          refine AllReadyH.cons (i := 25) (o := ⟨some 103, _, _, _, _, _⟩) rfl (fun K hK => ?_) ?_
          · go_simp
            refine hK.out _ _ s0 (fun hHeld => ?_)
            clear hK
            try simp only [Act.put, List.setIfInBounds_toArray, List.set_cons_zero, List.set_cons_succ]
            refine wpAnyH_ready (rs := [12]) (by kernel_rfl) (by simp) ?_
            refine AllReadyH.cons (i := 12) (o := ⟨some 90, _, _, _, _, _⟩) rfl (fun K hK => ?_) ?_
            · go_simp
              refine hK.out _ _ s0 (fun hHeld => ?_)
              clear hK
              try simp only [Act.put, List.setIfInBounds_toArray, List.set_cons_zero, List.set_cons_succ]
              refine wpAnyH_take (i := 13) (oi := ⟨some 91, _, _, _, _, _⟩) (v := .pointer (some ⟨q, 0, none⟩)) rfl (by kernel_rfl) (by kernel_rfl) (by kernel_rfl) (fun _ _ _ h => h) (Or.inl ⟨by rfl, ?_⟩) s0 ?_
              · intro w' hSw
                go_simp
              try simp only [Act.put, List.setIfInBounds_toArray, List.set_cons_zero, List.set_cons_succ]
              refine wpAnyH_take (i := 14) (oi := ⟨some 92, _, _, _, _, _⟩) (v := .pointer (some ⟨q, 1, none⟩)) rfl (by kernel_rfl) (by kernel_rfl) (by kernel_rfl) (fun _ _ _ h => h) (Or.inl ⟨by rfl, ?_⟩) s0 ?_
              · intro w' hSw
                go_simp
              try simp only [Act.put, List.setIfInBounds_toArray, List.set_cons_zero, List.set_cons_succ]
              refine wpAnyH_take (i := 15) (oi := ⟨some 93, _, _, _, _, _⟩) (v := .int .i64 fg) rfl (by kernel_rfl) (by kernel_rfl) (by kernel_rfl) (fun _ _ _ h => h) (Or.inl ⟨by rfl, ?_⟩) s0 ?_
              · intro w' hSw
                obtain ⟨s0, s1⟩ := hSw
                go_simp
              try simp only [Act.put, List.setIfInBounds_toArray, List.set_cons_zero, List.set_cons_succ]
              refine wpAnyH_take (i := 16) (oi := ⟨some 94, _, _, _, _, _⟩) (v := .agg #[.slice (some ⟨cb, 0, none⟩) L ck, .int .i64 fg]) rfl (by kernel_rfl) (by kernel_rfl) (by kernel_rfl) (fun _ _ _ h => h) (Or.inl ⟨by rfl, ?_⟩) s0 ?_
              · intro w' hSw
                go_simp
              try simp only [Act.put, List.setIfInBounds_toArray, List.set_cons_zero, List.set_cons_succ]
              refine wpAnyH_ready (rs := [17]) (by kernel_rfl) (by simp) ?_
              refine AllReadyH.cons (i := 17) (o := ⟨some 95, _, _, _, _, _⟩) rfl (fun K hK => ?_) ?_
              · go_simp
                refine hK.out _ _ s1 (fun hHeld => ?_)
                clear hK
                try simp only [Act.put, List.setIfInBounds_toArray, List.set_cons_zero, List.set_cons_succ]
                refine wpAnyH_ready (rs := [26]) (by kernel_rfl) (by simp) ?_
                refine AllReadyH.cons (i := 26) (o := ⟨some 104, _, _, _, _, _⟩) rfl (fun K hK => ?_) ?_
                · have BA : Below w.heap.size w (WC.drew.alloc (.cells #[.slice (some ⟨cb, 0, none⟩) L ck, .int .i64 fg] 85)) := HBW.out.trans (((Below.refl _ WC.drew).alloc (Nat.le_refl _) (.cells #[.slice (some ⟨cb, 0, none⟩) L ck, .int .i64 fg] 85)).mono HBW.out.size)
                  have oL : (WC.drew.alloc (.cells #[.slice (some ⟨cb, 0, none⟩) L ck, .int .i64 fg] 85)).ownsRow w.heap.size 85 2 (.slice (some ⟨WC.heap.size, 0, none⟩) 1 1) 1 [.slice (some ⟨cb, 0, none⟩) L ck, .int .i64 fg] := World.ownsRow_lit WC.drew _ 1 HBW.out.size (by decide) rfl
                  refine step_app (B := w.heap.size) (v := .slice (some ⟨WC.heap.size, 0, none⟩) 1 1) (n := 1) (m := n - 1) rfl (.tmp 95) (.tmp 103) 61 rfl 85 i0 _ 2 _ Try.underlying61 hi0 hz0 hz1 hz2 rfl (by decide) BA.size rfl rfl oL (R2.out.fr (Fr.of_below BA no) (fun _ _ e => e)) (enF_ones _) (by unfold maxLen; omega) (by omega) ?_
                  intro v5 w5 o5 f5 m5 n5 z5
                  rw [show 1 + (n - 1) = n by omega] at o5
                  have b5 : Below w.heap.size w w5 := BA.trans (f5.below' BA.size (fun k' hk' => by simp [Value.ownBlock] at hk'; rw [← hk']; exact HBW.out.size))
                  have o5' : Own enF 85 2 w.heap.size w5 v5 ((⟨(some ⟨cb, 0, none⟩), L, ck, fg⟩ : Fl) :: fl') := by have h9 := o5; rw [show n = ((⟨(some ⟨cb, 0, none⟩), L, ck, fg⟩ : Fl) :: fl').length by have := HN1.out; simp; omega] at h9; exact h9
                  have hc5 : OwnB 0 w5 (.slice (some ⟨cb, 0, none⟩) L ck) (flipAt p.1 kk) := (ownB_below OC.out ((Below.refl _ WC.drew).alloc (Nat.le_refl _) (.cells #[.slice (some ⟨cb, 0, none⟩) L ck, .int .i64 fg] 85))).fr f5 (fun g' hg' e => by have h8 : g' < WC.heap.size := own_lt OC.out hg'; simp [Value.ownBlock] at e; omega)
                  have hfr : ∀ f' ∈ ((⟨(some ⟨cb, 0, none⟩), L, ck, fg⟩ : Fl) :: fl'), ∀ g', f'.v.ownBlock = some g' → F g' ∨ w.heap.size ≤ g' := fun f' hf' g' hg' => by
                    rcases List.mem_cons.1 hf' with rfl | hf'
                    · simp [Value.ownBlock] at hg'; exact .inr (by rw [← hg']; exact hcq)
                    · exact .inl (HR.out.2.2 f' (List.mem_cons_of_mem _ hf') g' hg')
                  have hok2 : ∀ p' ∈ (flipAt p.1 kk, p.2) :: l, OkFr life p' := fun p' hp' => by
                    rcases List.mem_cons.1 hp' with e | hp'
                    · rw [e]
                      have hp := HOK.out p (List.mem_cons_self ..)
                      exact ⟨by rw [flipAt_len]; exact hp.len, flipAt_byte p.1 kk (by have := HK8.out; omega) hp.byte, hp.age⟩
                    · exact HOK.out p' (List.mem_cons_of_mem _ hp')
                  have fin := Lib.hid (H.out.put (l' := (flipAt p.1 kk, p.2) :: l) hkl.out b5 o5' ⟨⟨hc5, HR.out.2.1.2⟩, forall_imp HR.out.1 (fun f' p' e' => ⟨ownB_below e'.1 b5, e'.2⟩)⟩ hfr hok2 (by simpa using hlsm))
                  have s5 : w5.cell? ⟨r, 4, none⟩ = some (.slice (some ⟨g, 0, none⟩) N cap) ∧ w5.cell? ⟨q, 1, none⟩ = some (.int .i64 fg) := ⟨cellOn' k4 b5, cellOn' x1 b5⟩
                  have k5 : w5.cell? ⟨g, k, none⟩ = some (.slice (some ⟨q, 0, none⟩) n lc) := cellOn' yw b5
                  have k6 : w5.frozen? ⟨g, k, none⟩ = false := (b5.frozen (World.block_lt_of_cell? _ _ yw)).trans zw
                  obtain ⟨a5, c5, hv5, _⟩ := own_shape o5
                  subst hv5
                  have s6 : (w5.setCell ⟨g, k, none⟩ (.slice a5 n c5)).cell? ⟨r, 4, none⟩ = some (.slice (some ⟨g, 0, none⟩) N cap) ∧ (w5.setCell ⟨g, k, none⟩ (.slice a5 n c5)).cell? ⟨q, 1, none⟩ = some (.int .i64 fg) := by
                    have q0 : ∀ (a : Addr) (u : Value), w5.cell? a = some u → a.block ≠ g → (w5.setCell ⟨g, k, none⟩ (.slice a5 n c5)).cell? a = some u := fun a u hu hl => (((Fr.refl (fun b => b = g) w5).setCell (p := ⟨g, k, none⟩) (fun _ => rfl) (.slice a5 n c5)).cell (World.block_lt_of_cell? _ _ hu) hl).trans hu
                    exact ⟨q0 _ _ s5.1 HGR.out.1, q0 _ _ s5.2 HGR.out.2⟩
                  clear o5 o5' f5 m5 n5 z5 b5 hc5 oL BA hfr hok2
                  refine hK.out _ _ s5 (fun hHeld => ?_)
                  clear hK
                  try simp only [Act.put, List.setIfInBounds_toArray, List.set_cons_zero, List.set_cons_succ]
                  refine wpAnyH_take (i := 27) (oi := ⟨some 105, _, _, _, _, _⟩) (v := .pointer (some ⟨g, k, none⟩)) rfl (by kernel_rfl) (by kernel_rfl) (by kernel_rfl) (fun _ _ _ h => h) (Or.inl ⟨by rfl, ?_⟩) s5 ?_
                  · intro w' hSw
                    go_simp
                  try simp only [Act.put, List.setIfInBounds_toArray, List.set_cons_zero, List.set_cons_succ]
                  refine wpAnyH_ready (rs := [28]) (by kernel_rfl) (by simp) ?_
                  refine AllReadyH.cons (i := 28) (o := ⟨none, _, _, _, _, _⟩) rfl (fun K hK => ?_) ?_
                  · go_simp
                    refine hK.out _ _ s6 (fun hHeld => ?_)
                    clear hK
                    try simp only [Act.put, List.setIfInBounds_toArray, List.set_cons_zero, List.set_cons_succ]
                    refine wpAnyH_done (by kernel_rfl) ?_ _
                    clear k5 k6 s5 s6
                    go_wp2_with fail
                    all_goals
                      go_ret
                      exact ⟨rfl, fin.out⟩
                  exact AllReadyH.nil
                exact AllReadyH.nil
              exact AllReadyH.nil
            exact AllReadyH.nil
          exact AllReadyH.nil
        exact AllReadyH.nil
end
end Go.Proofs.Yteihpaikdpdglaa
