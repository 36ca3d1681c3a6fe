/-
  The reference's line: Line, NewLan, Send.
-/
import Derived.Test.YteihpaikdpdglaaRlB
namespace Go.Proofs.Yteihpaikdpdglaa
open Go.RowKit
set_option linter.unusedVariables false


section
variable {w : World} {F : Nat → Prop} {r st : Nat} {life lost most : Int} {qs : List FlA} {lv : Value} {vs : List Value}
theorem rline (h : RG w F r st life lost most qs) (a b : Int) :
    Calls Try.prog 29 #[.pointer (some ⟨r, 0, none⟩), .int .i64 a, .int .i64 b] w fun e w' => ∃ v fl, e = .returned v ∧ Own enF 85 2 0 w' v fl ∧ All2 (FlB w') fl (rowP st a b (qs, lost)) ∧ (∃ n, w' = w.drewN n) := by
  obtain ⟨lv, vs, h⟩ := h
  have H := Lib.hid h
  have H1 := Lib.hid (rat h a b)
  unfold rowP
  cases hk : rix st a b with
  | none =>
    have hat : atV st a b = -1 := by unfold atV; rw [hk]
    rw [hat] at H1
    clear h hk hat
    go_enter Try.func29, Try.ntmps29
    go_wp2_with fail
    refine H1.out.mono ?_
    rintro e w' ⟨rfl, hw'⟩
    obtain rfl := hw'.symm
    clear hw'
    go_wp2_with fail
    go_ret
    exact ⟨_, [], rfl, Own.nil _ _ _ _ _, trivial, 0, rfl⟩
  | some k =>
    obtain ⟨hkv, hkq, hat⟩ := h.at_ hk
    rw [hat] at H1
    obtain ⟨g, cap, hlv, hc1, hc2, y, _⟩ := h.slot hkv
    obtain ⟨fl, h1, h2, h3⟩ := (h.q k hkv hkq).ex
    obtain ⟨la, lc, hv, _⟩ := own_shape h1
    rw [hv] at y
    subst hlv
    have k4 := h.cells.2.2.2.2
    obtain ⟨N, hN⟩ : ∃ N, N = vs.length := ⟨_, rfl⟩
    rw [← hN] at k4 hkv
    have hki : (k : Int) < (N : Int) := by omega
    have hk0 : decide ((k : Int) < 0) = false := decide_eq_false (by omega)
    have fin : Hid (Own enF 85 2 0 w (.slice la fl.length lc) fl ∧ All2 (FlB w) fl (rowAt (qs, lost) k)) := ⟨by rw [← hv]; exact h1, by show All2 (FlB w) fl (qs.getD k []); rw [getD_get hkq]; exact h2⟩
    obtain ⟨n, hn⟩ : ∃ n, n = fl.length := ⟨_, rfl⟩
    rw [← hn] at y fin
    clear h hk hat hv h1 h2 h3 hN hn
    go_enter Try.func29, Try.ntmps29
    go_wp2_with fail
    refine H1.out.mono ?_
    rintro e w' ⟨rfl, hw'⟩
    obtain rfl := hw'.symm
    clear hw'
    dsimp only
    first
      | (go_wp2_with fail
         go_ret
         exact ⟨_, fl, rfl, fin.out.1, fin.out.2, 0, rfl⟩)
      | (go_wp2_with fail
         go_quiet (fail)
         go_wp2_with fail
         go_ret
         exact ⟨_, fl, rfl, fin.out.1, fin.out.2, _, rfl⟩)
/-- A row of the reference, turned. -/
theorem RX.of {w w5 : World} {F : Nat → Prop} {v v5 : Value} {l l' : FlA} {fl' : List Fl} (h : RX w F v l) (hl : ∀ b, F b → b < w.heap.size) (hs : w.heap.size ≤ w5.heap.size) (o : Own enF 85 2 0 w5 v5 fl') (a : All2 (FlB w5) fl' l') (m : ∀ g, v5.ownBlock = some g → v.ownBlock = some g ∨ w.heap.size ≤ g)
    (hf : ∀ f ∈ fl', ∀ g, f.v.ownBlock = some g → F g ∨ (w.heap.size ≤ g ∧ g < w5.heap.size)) (hlen : l'.length ≤ 10000) : RX w5 (fun b => F b ∨ (w.heap.size ≤ b ∧ b < w5.heap.size)) v5 l' :=
  ⟨⟨fl', o, a, hf⟩, fun g hg => (m g hg).imp (h.own g) (fun e => ⟨e, own_lt o hg⟩), hlen⟩
theorem all2_own {w : World} : ∀ {fl : List Fl} {l : FlA}, All2 (FlB w) fl l → ∀ f ∈ fl, ∀ g, f.v.ownBlock = some g → g < w.heap.size
  | [], _, _, f, hf => by cases hf
  | f :: fl, p :: l, h, f', hf => by
    rcases List.mem_cons.1 hf with rfl | hf
    · exact fun g hg => own_lt h.1.1 hg
    · exact all2_own h.2 f' hf
  | _ :: _, [], h, _, _ => h.elim
/-- A frame more, at a row's end. -/
theorem rsend_fin {w W w5 : World} {k g cap N n : Nat} {la : Option Addr} {lc : Nat} {v5 : Value} {fl : List Fl} {nf : Fl} {x : List Int} (h : RGi w F r st life lost most qs (.slice (some ⟨g, 0, none⟩) N cap) vs) (hkv : k < vs.length) (hkq : k < qs.length) (hv : vs[k] = .slice la n lc) (hn : n = fl.length)
    (h1 : Own enF 85 2 0 w vs[k] fl) (h2 : All2 (FlB w) fl qs[k]) (h3 : ∀ f ∈ fl, ∀ g, f.v.ownBlock = some g → F g) (hb : Below w.heap.size w W) (hnew : FlB W nf (x, 0)) (hnb : ∀ g, nf.v.ownBlock = some g → w.heap.size ≤ g)
    (o5 : w5.ownsRow 0 85 2 v5 (n + 1) (fl.flatMap enF ++ enF nf)) (f5 : Fr (fun b => (Value.slice la n lc).ownBlock = some b) W w5) (m5 : v5.ownBlock = (Value.slice la n lc).ownBlock ∨ v5.ownBlock = some W.heap.size)
    (hlen : (qs[k].length : Int) < most) (hx : x.length ≤ 1000 ∧ ∀ y ∈ x, 0 ≤ y ∧ y ≤ 255) :
    ∃ F', RG (w5.setCell ⟨g, k, none⟩ v5) F' r st life lost most (qs.set k (qs[k] ++ [(x, 0)])) ∧ Stp F F' w (w5.setCell ⟨g, k, none⟩ v5) := by
  have o5' : Own enF 85 2 0 w5 v5 (fl ++ [nf]) := Own.snoc (x := nf) (by rw [← hn]; exact o5) rfl
  have hnb' : ∀ (v : Value) (b : List Int), OwnB 0 W v b → OwnB 0 w5 v b := fun v b o => o.fr f5 (fun g' hg' e => by
    obtain ⟨cur, hc⟩ := own_type o hg'
    have h1W := h1.keep (w' := W) (fun g' hg' => hb.block g' (own_lt h1 hg'))
    rw [hv] at h1W
    exact own_ne h1W hc (by decide) e)
  have ha : All2 (FlB w5) (fl ++ [nf]) (qs[k] ++ [(x, 0)]) := forall_app (forall_imp h2 (fun f p e => ⟨hnb' _ _ (ownB_below e.1 hb), e.2⟩)) ⟨⟨hnb' _ _ hnew.1, hnew.2⟩, trivial⟩
  have fw : Fr (fun b => vs[k].ownBlock = some b) w w5 := by rw [hv]; exact (Fr.of_below hb _).trans' f5 (fun _ _ e => e) (fun _ _ e => e)
  have hm : Mv w vs[k] v5 := fun g' hg' => by
    rw [hv]
    rcases m5 with e | e
    · exact .inl (by rw [← e]; exact hg')
    · rw [e] at hg'; injection hg' with hg'; exact .inr (by rw [← hg']; exact hb.size)
  have hll := (h.q k hkv hkq).len
  have hmm := h.m
  have hfr : ∀ f ∈ fl ++ [nf], ∀ g', f.v.ownBlock = some g' → F g' ∨ (w.heap.size ≤ g' ∧ g' < w5.heap.size) := fun f hf g' hg => by
    rcases List.mem_append.1 hf with hf | hf
    · exact .inl (h3 f hf g' hg)
    · rw [List.mem_singleton.1 hf] at hg
      exact .inr ⟨hnb g' hg, all2_own ha nf (List.mem_append.2 (.inr (List.mem_singleton.2 rfl))) g' hg⟩
  have hok : ∀ p ∈ qs[k] ++ [(x, 0)], OkFr life p := fun p hp => by
    rcases List.mem_append.1 hp with hp | hp
    · exact h.ok _ (List.getElem_mem hkq) p hp
    · rw [List.mem_singleton.1 hp]
      exact ⟨hx.1, hx.2, ⟨Int.le_refl _, by have := h.lf; show (0 : Int) ≤ life; omega⟩⟩
  obtain ⟨F', h5, h6⟩ := h.turn (i := k) (l' := qs[k] ++ [(x, 0)]) hkv rfl fw hm (RX.of (h.q k hkv hkq) h.lt fw.size o5' ha (fun g hg => hm g hg) hfr (by rw [List.length_append]; simp; omega)) (fun b hb' => ⟨hb'.imp id (fun e => e.1), hb'.elim (fun e => Nat.lt_of_lt_of_le (h.lt b e) fw.size) (fun e => e.2)⟩) hok o5'
  exact ⟨F', ⟨_, _, h5⟩, h6⟩

set_option maxRecDepth 100000 in
set_option maxHeartbeats 4000000 in
theorem rsend (h : RG w F r st life lost most qs) (v : Value) (x : List Int) (hv : RdB w v x) (hx : x.length ≤ 1000 ∧ ∀ y ∈ x, 0 ≤ y ∧ y ≤ 255) (hlo : 0 ≤ lost ∧ lost ≤ 1000000000) (a b : Int) :
    Calls Try.prog 46 #[.pointer (some ⟨r, 0, none⟩), .int .i64 a, .int .i64 b, v] w fun e w' => e = .returned (.bool (sendP st most a b x (qs, lost)).1) ∧ ∃ F', RG w' F' r st life (sendP st most a b x (qs, lost)).2.2 most (sendP st most a b x (qs, lost)).2.1 ∧ Stp F F' w w' := by
  obtain ⟨lv, vs, h⟩ := h
  obtain ⟨va, vc, rfl⟩ := hv.len
  have HX := Lib.hid hv
  have HXB := Lib.hid hx
  have H := Lib.hid h
  have H1 := Lib.hid (rat h a b)
  have hwl : wrap64 (lost + 1) = lost + 1 := IntWalk.wrap64_in _ (by omega)
  obtain ⟨hl0, hl1⟩ := hlo
  clear hv hx
  unfold sendP
  cases hk : rix st a b with
  | none =>
    have hat : atV st a b = -1 := by unfold atV; rw [hk]
    rw [hat] at H1
    clear h hk hat
    go_enter Try.func46, Try.ntmps46
    go_wp2_with fail
    refine H1.out.mono ?_
    rintro e w' ⟨rfl, hw'⟩
    obtain rfl := hw'.symm
    clear hw'
    go_wp2_with fail
    go_ret
    exact ⟨rfl, F, ⟨lv, vs, H.out⟩, Stp.refl _ _⟩
  | some k =>
    obtain ⟨hkv, hkq, hat⟩ := h.at_ hk
    rw [hat] at H1
    obtain ⟨g, cap, hlv, hc1, hc2, y, zg⟩ := h.slot hkv
    obtain ⟨fl, h1, h2, h3⟩ := (h.q k hkv hkq).ex
    obtain ⟨la, lc, hvk, _⟩ := own_shape h1
    rw [hvk] at y
    subst hlv
    obtain ⟨_, k1, _, k3, k4⟩ := h.cells
    obtain ⟨N, hN⟩ : ∃ N, N = vs.length := ⟨_, rfl⟩
    rw [← hN] at k4 hkv H
    have hki : (k : Int) < (N : Int) := by omega
    have hk0 : decide ((k : Int) < 0) = false := decide_eq_false (by omega)
    have hrow : rowAt (qs, lost) k = qs[k] := getD_get hkq
    have hfl := forall_len h2
    obtain ⟨n, hn⟩ : ∃ n, n = fl.length := ⟨_, rfl⟩
    have hnq : n = qs[k].length := by rw [hn, hfl]
    rw [← hn] at y hvk
    have hn10 : n ≤ 10000 := by rw [hnq]; exact (h.q k (by rw [← hN]; exact hkv) hkq).len
    have HR := Lib.hid (And.intro h1 (And.intro h2 h3))
    have HVK := Lib.hid hvk
    have HNN := Lib.hid (And.intro hn hnq)
    have HNV := Lib.hid hN
    have hkl : Hid (k < vs.length) := by unfold Hid; omega
    have zr : w.frozen? ⟨r, 3, none⟩ = false := blk_free h.blk 3
    dsimp only
    rw [hrow, ← hnq]
    clear h hk hat h1 h2 h3 hvk hn hnq hfl hN hrow
    by_cases hf : (n : Int) < most
    · rw [if_pos hf]
      dsimp only
      have hd : decide (most ≤ (n : Int)) = false := decide_eq_false (by omega)
      have HF := Lib.hid hf
      obtain ⟨i0, hi0, hz0, hz1, hz2⟩ := info_parts infoRF
      clear hf
      go_enter Try.func46, Try.ntmps46
      go_wp2_with fail
      refine H1.out.mono ?_
      rintro e w' ⟨rfl, hw'⟩
      obtain rfl := hw'.symm
      clear hw'
      go_wp2_with fail
      go_quiet (fail)
      obtain ⟨wq, hwq⟩ : ∃ wq, wq = w.drewN nq := ⟨_, rfl⟩
      rw [← hwq]
      have HBQ : Hid (Below w.heap.size w wq.drew) := by unfold Hid; rw [hwq]; exact (below_drewN (Below.refl _ w) nq).drew
      have k4q := cellOn' k4 HBQ.out
      have yq := cellOn' y HBQ.out
      have zgq : wq.drew.frozen? ⟨g, k, none⟩ = false := (HBQ.out.frozen (World.block_lt_of_cell? _ _ y)).trans zg
      clear hwq
      have HN : Hid (RGi wq.drew F r st life lost most qs (.slice (some ⟨g, 0, none⟩) N cap) vs) := H.out.below (HBQ.out)
      have HXN : Hid (RdB wq.drew (.slice va x.length vc) x) := RdB.fr HX.out (HBQ.out)
      have j4 : wq.drew.cell? ⟨r, 4, none⟩ = some (.slice (some ⟨g, 0, none⟩) N cap) := k4q
      have jy : wq.drew.cell? ⟨g, k, none⟩ = some (.slice la n lc) := yq
      have jz : wq.drew.frozen? ⟨g, k, none⟩ = false := zgq
      have hO : Hid (wq.drew.ownsRow 0 85 2 (.slice la n lc) n (fl.flatMap enF)) := by
        have h9 := HR.out.1
        rw [HVK.out] at h9
        unfold Own at h9
        rw [← HNN.out.1] at h9
        exact own_of_block h9 (fun g' hg' => HBQ.out.block g' (own_lt h9 hg'))
      have hng : Hid (¬ (Value.slice la n lc).ownBlock = some g) := by
        have h9 := HR.out.1
        rw [HVK.out] at h9
        obtain ⟨cur, hc⟩ := own_type H.out.rows (g := g) rfl
        exact own_ne h9 hc (by decide)
      have hnr : Hid (¬ (Value.slice la n lc).ownBlock = some r) := by
        have h9 := HR.out.1
        rw [HVK.out] at h9
        exact own_ne h9 H.out.blk (by decide)
      clear k1 k3 zr
      have hlk : g ≠ r := fun e => own_ne H.out.rows H.out.blk (by decide) (by rw [e]; rfl)
      have HGR := Lib.hid hlk
      clear hlk
      go_upto_region 7 with fail
      have s0 : wq.drew.cell? ⟨r, 4, none⟩ = some (.slice (some ⟨g, 0, none⟩) N cap) := j4
      refine wp_region_held_drew (S := fun w' => w'.cell? ⟨r, 4, none⟩ = some (.slice (some ⟨g, 0, none⟩) N cap)) (by kernel_rfl) s0 (fun hHeld => ?_)
      refine wpAnyH_take (i := 0) (oi := ⟨some 36, _, _, _, _, _⟩) (v := .pointer (some ⟨r, 0, none⟩)) rfl (by kernel_rfl) (by kernel_rfl) (by kernel_rfl) (fun _ _ _ h => h) (Or.inl ⟨by rfl, ?_⟩) s0 ?_
      · intro w' hSw
        go_simp
      try simp only [Act.put, List.setIfInBounds_toArray, List.set_cons_zero, List.set_cons_succ]
      refine wpAnyH_take (i := 1) (oi := ⟨some 37, _, _, _, _, _⟩) (v := .pointer (some ⟨r, 0, none⟩)) rfl (by kernel_rfl) (by kernel_rfl) (by kernel_rfl) (fun _ _ _ h => h) (Or.inl ⟨by rfl, ?_⟩) s0 ?_
      · intro w' hSw
        go_simp
      try simp only [Act.put, List.setIfInBounds_toArray, List.set_cons_zero, List.set_cons_succ]
      refine wpAnyH_take (i := 2) (oi := ⟨some 38, _, _, _, _, _⟩) (v := .pointer (some ⟨r, 4, none⟩)) rfl (by kernel_rfl) (by kernel_rfl) (by kernel_rfl) (fun _ _ _ h => h) (Or.inl ⟨by rfl, ?_⟩) s0 ?_
      · intro w' hSw
        go_simp
      try simp only [Act.put, List.setIfInBounds_toArray, List.set_cons_zero, List.set_cons_succ]
      refine wpAnyH_take (i := 3) (oi := ⟨some 39, _, _, _, _, _⟩) (v := .slice (some ⟨g, 0, none⟩) N cap) rfl (by kernel_rfl) (by kernel_rfl) (by kernel_rfl) (fun _ _ _ h => h) (Or.inl ⟨by rfl, ?_⟩) s0 ?_
      · intro w' hSw
        have s0 := hSw
        go_simp
      try simp only [Act.put, List.setIfInBounds_toArray, List.set_cons_zero, List.set_cons_succ]
      refine wpAnyH_take (i := 4) (oi := ⟨some 40, _, _, _, _, _⟩) (v := .int .i64 (k : Int)) rfl (by kernel_rfl) (by kernel_rfl) (by kernel_rfl) (fun _ _ _ h => h) (Or.inl ⟨by rfl, ?_⟩) s0 ?_
      · intro w' hSw
        go_simp
      try simp only [Act.put, List.setIfInBounds_toArray, List.set_cons_zero, List.set_cons_succ]
      refine wpAnyH_take (i := 5) (oi := ⟨some 41, _, _, _, _, _⟩) (v := .pointer (some ⟨r, 0, none⟩)) rfl (by kernel_rfl) (by kernel_rfl) (by kernel_rfl) (fun _ _ _ h => h) (Or.inl ⟨by rfl, ?_⟩) s0 ?_
      · intro w' hSw
        go_simp
      try simp only [Act.put, List.setIfInBounds_toArray, List.set_cons_zero, List.set_cons_succ]
      refine wpAnyH_take (i := 6) (oi := ⟨some 42, _, _, _, _, _⟩) (v := .pointer (some ⟨r, 0, none⟩)) rfl (by kernel_rfl) (by kernel_rfl) (by kernel_rfl) (fun _ _ _ h => h) (Or.inl ⟨by rfl, ?_⟩) s0 ?_
      · intro w' hSw
        go_simp
      try simp only [Act.put, List.setIfInBounds_toArray, List.set_cons_zero, List.set_cons_succ]
      refine wpAnyH_take (i := 7) (oi := ⟨some 43, _, _, _, _, _⟩) (v := .pointer (some ⟨r, 4, none⟩)) rfl (by kernel_rfl) (by kernel_rfl) (by kernel_rfl) (fun _ _ _ h => h) (Or.inl ⟨by rfl, ?_⟩) s0 ?_
      · intro w' hSw
        go_simp
      try simp only [Act.put, List.setIfInBounds_toArray, List.set_cons_zero, List.set_cons_succ]
      refine wpAnyH_take (i := 8) (oi := ⟨some 44, _, _, _, _, _⟩) (v := .slice (some ⟨g, 0, none⟩) N cap) rfl (by kernel_rfl) (by kernel_rfl) (by kernel_rfl) (fun _ _ _ h => h) (Or.inl ⟨by rfl, ?_⟩) s0 ?_
      · intro w' hSw
        have s0 := hSw
        go_simp
      try simp only [Act.put, List.setIfInBounds_toArray, List.set_cons_zero, List.set_cons_succ]
      refine wpAnyH_take (i := 9) (oi := ⟨some 45, _, _, _, _, _⟩) (v := .int .i64 (k : Int)) rfl (by kernel_rfl) (by kernel_rfl) (by kernel_rfl) (fun _ _ _ h => h) (Or.inl ⟨by rfl, ?_⟩) s0 ?_
      · intro w' hSw
        go_simp
      try simp only [Act.put, List.setIfInBounds_toArray, List.set_cons_zero, List.set_cons_succ]
      refine wpAnyH_take (i := 10) (oi := ⟨some 46, _, _, _, _, _⟩) (v := .pointer (some ⟨g, k, none⟩)) rfl (by kernel_rfl) (by kernel_rfl) (by kernel_rfl) (fun _ _ _ h => h) (Or.inl ⟨by rfl, ?_⟩) s0 ?_
      · intro w' hSw
        go_simp
      try simp only [Act.put, List.setIfInBounds_toArray, List.set_cons_zero, List.set_cons_succ]
      refine wpAnyH_take (i := 12) (oi := ⟨some 48, _, _, _, _, _⟩) (v := .slice va x.length vc) rfl (by kernel_rfl) (by kernel_rfl) (by kernel_rfl) (fun _ _ _ h => h) (Or.inl ⟨by rfl, ?_⟩) s0 ?_
      · intro w' hSw
        go_simp
      try simp only [Act.put, List.setIfInBounds_toArray, List.set_cons_zero, List.set_cons_succ]
      refine wpAnyH_ready (rs := [11, 13]) (by kernel_rfl) (by simp) ?_
      refine AllReadyH.cons (i := 11) (o := ⟨some 47, _, _, _, _, _⟩) rfl (fun K hK => ?_) ?_
      · go_simp
        refine hK.out _ _ s0 (fun hHeld => ?_)
        clear hK
        try simp only [Act.put, List.setIfInBounds_toArray, List.set_cons_zero, List.set_cons_succ]
        refine wpAnyH_ready (rs := [13]) (by kernel_rfl) (by simp) ?_
        refine AllReadyH.cons (i := 13) (o := ⟨some 49, _, _, _, _, _⟩) rfl (fun K hK => ?_) ?_
        · go_simp
          go_at_call 60
          refine (copyB (.slice va x.length vc) x _ HXN.out (by have := HXB.out.1; omega)).mono ?_
          rintro e w2 ⟨v', rfl, o2, b2⟩
          have l4 := cellOn' j4 b2
          have ly := cellOn' jy b2
          have hr2 := World.block_lt_of_cell? w2 _ l4
          have hr3 := World.block_lt_of_cell? w2 _ ly
          dsimp only at hr2 hr3
          obtain ⟨ca, ck, hcv, _⟩ := own_shape o2
          have O2 := Lib.hid o2
          have B2 := Lib.hid b2
          clear o2 b2
          subst hcv
          have l4a : (w2.alloc (.cells #[.slice ca x.length ck, .int .i64 0] 85)).cell? ⟨r, 4, none⟩ = some (.slice (some ⟨g, 0, none⟩) N cap) := cellOn' l4 ((Below.refl _ w2).alloc (Nat.le_refl _) _)
          refine hK.out _ _ l4 (fun hHeld => ?_)
          clear hK
          try simp only [Act.put, List.setIfInBounds_toArray, List.set_cons_zero, List.set_cons_succ]
          refine wpAnyH_take (i := 14) (oi := ⟨some 50, _, _, _, _, _⟩) (v := .agg #[.slice ca x.length ck, .int .i64 0]) rfl (by kernel_rfl) (by kernel_rfl) (by kernel_rfl) (fun _ _ _ h => h) (Or.inl ⟨by rfl, ?_⟩) l4 ?_
          · intro w' hSw
            go_simp
          try simp only [Act.put, List.setIfInBounds_toArray, List.set_cons_zero, List.set_cons_succ]
          refine wpAnyH_ready (rs := [15]) (by kernel_rfl) (by simp) ?_
          refine AllReadyH.cons (i := 15) (o := ⟨some 51, _, _, _, _, _⟩) rfl (fun K hK => ?_) ?_
          · go_simp
            refine hK.out _ _ l4a (fun hHeld => ?_)
            clear hK
            try simp only [Act.put, List.setIfInBounds_toArray, List.set_cons_zero, List.set_cons_succ]
            refine wpAnyH_ready (rs := [16]) (by kernel_rfl) (by simp) ?_
            refine AllReadyH.cons (i := 16) (o := ⟨some 52, _, _, _, _, _⟩) rfl (fun K hK => ?_) ?_
            · refine step_app (B := 0) (v := .slice la n lc) (n := n) (m := 1) rfl (.tmp 47) (.tmp 51) 61 rfl 85 i0 _ 2 _ Try.underlying61 hi0 hz0 hz1 hz2 rfl (by decide) (Nat.zero_le _) rfl rfl (own_of_block hO.out (fun g' hg' => (B2.out.alloc B2.out.size (.cells #[.slice ca x.length ck, .int .i64 0] 85)).block g' (own_lt hO.out hg'))) (Rd.new (by simp) rfl) (enF_one ⟨ca, x.length, ck, 0⟩) (by unfold maxLen; omega) (by omega) ?_
              intro v5 w5 o5 f5 m5 n5 z5
              have fin := Lib.hid (rsend_fin (nf := ⟨ca, x.length, ck, 0⟩) (x := x) H.out hkl.out hkq HVK.out HNN.out.1 HR.out.1 HR.out.2.1 HR.out.2.2 (HBQ.out.trans ((B2.out.alloc B2.out.size (.cells #[.slice ca x.length ck, .int .i64 0] 85)).mono HBQ.out.size)) ⟨ownB_below (own_zero O2.out) ((Below.refl _ w2).alloc (Nat.le_refl _) _), rfl⟩ (fun g' hg' => Nat.le_trans HBQ.out.size (O2.out.lt g' hg').1) o5 f5 m5 (by rw [← HNN.out.2]; exact HF.out) HXB.out)
              have k4' := held_fr (w := (w2.alloc (.cells #[.slice ca x.length ck, .int .i64 0] 85))) (a := ⟨g, k, none⟩) (v := .slice la n lc) ⟨cellOn' ly ((Below.refl _ w2).alloc (Nat.le_refl _) _), (((Below.refl _ w2).alloc (Nat.le_refl _) (.cells #[.slice ca x.length ck, .int .i64 0] 85)).frozen hr3).trans ((B2.out.frozen (World.block_lt_of_cell? _ _ jy)).trans jz)⟩ f5 hng.out
              obtain ⟨k5, k6⟩ := k4'
              have k7 : w5.cell? ⟨r, 4, none⟩ = some (.slice (some ⟨g, 0, none⟩) N cap) := (f5.cell (World.block_lt_of_cell? _ _ l4a) hnr.out).trans l4a
              obtain ⟨a5, c5, hv5, _⟩ := own_shape o5
              subst hv5
              have k8 : (w5.setCell ⟨g, k, none⟩ (.slice a5 (n + 1) c5)).cell? ⟨r, 4, none⟩ = some (.slice (some ⟨g, 0, none⟩) N cap) := (((Fr.refl (fun b => b = g) w5).setCell (p := ⟨g, k, none⟩) (fun _ => rfl) (.slice a5 (n + 1) c5)).cell (World.block_lt_of_cell? _ _ k7) (fun e => HGR.out e.symm)).trans k7
              clear o5 f5 m5 n5 z5
              refine hK.out _ _ k7 (fun hHeld => ?_)
              clear hK
              try simp only [Act.put, List.setIfInBounds_toArray, List.set_cons_zero, List.set_cons_succ]
              refine wpAnyH_take (i := 17) (oi := ⟨some 53, _, _, _, _, _⟩) (v := .pointer (some ⟨g, k, none⟩)) rfl (by kernel_rfl) (by kernel_rfl) (by kernel_rfl) (fun _ _ _ h => h) (Or.inl ⟨by rfl, ?_⟩) k7 ?_
              · intro w' hSw
                go_simp
              try simp only [Act.put, List.setIfInBounds_toArray, List.set_cons_zero, List.set_cons_succ]
              refine wpAnyH_ready (rs := [18]) (by kernel_rfl) (by simp) ?_
              refine AllReadyH.cons (i := 18) (o := ⟨none, _, _, _, _, _⟩) rfl (fun K hK => ?_) ?_
              · go_simp
                refine hK.out _ _ k8 (fun hHeld => ?_)
                clear hK
                try simp only [Act.put, List.setIfInBounds_toArray, List.set_cons_zero, List.set_cons_succ]
                refine wpAnyH_done (by kernel_rfl) ?_ _
                clear k5 k6 k7 k8
                go_wp2_with fail
                go_ret
                exact ⟨rfl, fin.out⟩
              exact AllReadyH.nil
            exact AllReadyH.nil
          exact AllReadyH.nil
        exact AllReadyH.nil
      refine AllReadyH.cons (i := 13) (o := ⟨some 49, _, _, _, _, _⟩) rfl (fun K hK => ?_) ?_
      · go_simp
        go_at_call 60
        refine (copyB (.slice va x.length vc) x _ HXN.out (by have := HXB.out.1; omega)).mono ?_
        rintro e w2 ⟨v', rfl, o2, b2⟩
        have l4 := cellOn' j4 b2
        have ly := cellOn' jy b2
        have hr2 := World.block_lt_of_cell? w2 _ l4
        have hr3 := World.block_lt_of_cell? w2 _ ly
        dsimp only at hr2 hr3
        obtain ⟨ca, ck, hcv, _⟩ := own_shape o2
        have O2 := Lib.hid o2
        have B2 := Lib.hid b2
        clear o2 b2
        subst hcv
        have l4a : (w2.alloc (.cells #[.slice ca x.length ck, .int .i64 0] 85)).cell? ⟨r, 4, none⟩ = some (.slice (some ⟨g, 0, none⟩) N cap) := cellOn' l4 ((Below.refl _ w2).alloc (Nat.le_refl _) _)
        refine hK.out _ _ l4 (fun hHeld => ?_)
        clear hK
        try simp only [Act.put, List.setIfInBounds_toArray, List.set_cons_zero, List.set_cons_succ]
        refine wpAnyH_take (i := 14) (oi := ⟨some 50, _, _, _, _, _⟩) (v := .agg #[.slice ca x.length ck, .int .i64 0]) rfl (by kernel_rfl) (by kernel_rfl) (by kernel_rfl) (fun _ _ _ h => h) (Or.inl ⟨by rfl, ?_⟩) l4 ?_
        · intro w' hSw
          go_simp
        try simp only [Act.put, List.setIfInBounds_toArray, List.set_cons_zero, List.set_cons_succ]
        refine wpAnyH_ready (rs := [11, 15]) (by kernel_rfl) (by simp) ?_
        refine AllReadyH.cons (i := 11) (o := ⟨some 47, _, _, _, _, _⟩) rfl (fun K hK => ?_) ?_
        · go_simp
          refine hK.out _ _ l4 (fun hHeld => ?_)
          clear hK
          try simp only [Act.put, List.setIfInBounds_toArray, List.set_cons_zero, List.set_cons_succ]
          refine wpAnyH_ready (rs := [15]) (by kernel_rfl) (by simp) ?_
          refine AllReadyH.cons (i := 15) (o := ⟨some 51, _, _, _, _, _⟩) rfl (fun K hK => ?_) ?_
          · go_simp
            refine hK.out _ _ l4a (fun hHeld => ?_)
            clear hK
            try simp only [Act.put, List.setIfInBounds_toArray, List.set_cons_zero, List.set_cons_succ]
            refine wpAnyH_ready (rs := [16]) (by kernel_rfl) (by simp) ?_
            refine AllReadyH.cons (i := 16) (o := ⟨some 52, _, _, _, _, _⟩) rfl (fun K hK => ?_) ?_
            · refine step_app (B := 0) (v := .slice la n lc) (n := n) (m := 1) rfl (.tmp 47) (.tmp 51) 61 rfl 85 i0 _ 2 _ Try.underlying61 hi0 hz0 hz1 hz2 rfl (by decide) (Nat.zero_le _) rfl rfl (own_of_block hO.out (fun g' hg' => (B2.out.alloc B2.out.size (.cells #[.slice ca x.length ck, .int .i64 0] 85)).block g' (own_lt hO.out hg'))) (Rd.new (by simp) rfl) (enF_one ⟨ca, x.length, ck, 0⟩) (by unfold maxLen; omega) (by omega) ?_
              intro v5 w5 o5 f5 m5 n5 z5
              have fin := Lib.hid (rsend_fin (nf := ⟨ca, x.length, ck, 0⟩) (x := x) H.out hkl.out hkq HVK.out HNN.out.1 HR.out.1 HR.out.2.1 HR.out.2.2 (HBQ.out.trans ((B2.out.alloc B2.out.size (.cells #[.slice ca x.length ck, .int .i64 0] 85)).mono HBQ.out.size)) ⟨ownB_below (own_zero O2.out) ((Below.refl _ w2).alloc (Nat.le_refl _) _), rfl⟩ (fun g' hg' => Nat.le_trans HBQ.out.size (O2.out.lt g' hg').1) o5 f5 m5 (by rw [← HNN.out.2]; exact HF.out) HXB.out)
              have k4' := held_fr (w := (w2.alloc (.cells #[.slice ca x.length ck, .int .i64 0] 85))) (a := ⟨g, k, none⟩) (v := .slice la n lc) ⟨cellOn' ly ((Below.refl _ w2).alloc (Nat.le_refl _) _), (((Below.refl _ w2).alloc (Nat.le_refl _) (.cells #[.slice ca x.length ck, .int .i64 0] 85)).frozen hr3).trans ((B2.out.frozen (World.block_lt_of_cell? _ _ jy)).trans jz)⟩ f5 hng.out
              obtain ⟨k5, k6⟩ := k4'
              have k7 : w5.cell? ⟨r, 4, none⟩ = some (.slice (some ⟨g, 0, none⟩) N cap) := (f5.cell (World.block_lt_of_cell? _ _ l4a) hnr.out).trans l4a
              obtain ⟨a5, c5, hv5, _⟩ := own_shape o5
              subst hv5
              have k8 : (w5.setCell ⟨g, k, none⟩ (.slice a5 (n + 1) c5)).cell? ⟨r, 4, none⟩ = some (.slice (some ⟨g, 0, none⟩) N cap) := (((Fr.refl (fun b => b = g) w5).setCell (p := ⟨g, k, none⟩) (fun _ => rfl) (.slice a5 (n + 1) c5)).cell (World.block_lt_of_cell? _ _ k7) (fun e => HGR.out e.symm)).trans k7
              clear o5 f5 m5 n5 z5
              refine hK.out _ _ k7 (fun hHeld => ?_)
              clear hK
              try simp only [Act.put, List.setIfInBounds_toArray, List.set_cons_zero, List.set_cons_succ]
              refine wpAnyH_take (i := 17) (oi := ⟨some 53, _, _, _, _, _⟩) (v := .pointer (some ⟨g, k, none⟩)) rfl (by kernel_rfl) (by kernel_rfl) (by kernel_rfl) (fun _ _ _ h => h) (Or.inl ⟨by rfl, ?_⟩) k7 ?_
              · intro w' hSw
                go_simp
              try simp only [Act.put, List.setIfInBounds_toArray, List.set_cons_zero, List.set_cons_succ]
              refine wpAnyH_ready (rs := [18]) (by kernel_rfl) (by simp) ?_
              refine AllReadyH.cons (i := 18) (o := ⟨none, _, _, _, _, _⟩) rfl (fun K hK => ?_) ?_
              · go_simp
                refine hK.out _ _ k8 (fun hHeld => ?_)
                clear hK
                try simp only [Act.put, List.setIfInBounds_toArray, List.set_cons_zero, List.set_cons_succ]
                refine wpAnyH_done (by kernel_rfl) ?_ _
                clear k5 k6 k7 k8
                go_wp2_with fail
                go_ret
                exact ⟨rfl, fin.out⟩
              exact AllReadyH.nil
            exact AllReadyH.nil
          exact AllReadyH.nil
        refine AllReadyH.cons (i := 15) (o := ⟨some 51, _, _, _, _, _⟩) rfl (fun K hK => ?_) ?_
        · go_simp
          refine hK.out _ _ l4a (fun hHeld => ?_)
          clear hK
          try simp only [Act.put, List.setIfInBounds_toArray, List.set_cons_zero, List.set_cons_succ]
          refine wpAnyH_ready (rs := [11]) (by kernel_rfl) (by simp) ?_
          refine AllReadyH.cons (i := 11) (o := ⟨some 47, _, _, _, _, _⟩) rfl (fun K hK => ?_) ?_
          · go_simp
            refine hK.out _ _ l4a (fun hHeld => ?_)
            clear hK
            try simp only [Act.put, List.setIfInBounds_toArray, List.set_cons_zero, List.set_cons_succ]
            refine wpAnyH_ready (rs := [16]) (by kernel_rfl) (by simp) ?_
            refine AllReadyH.cons (i := 16) (o := ⟨some 52, _, _, _, _, _⟩) rfl (fun K hK => ?_) ?_
            · refine step_app (B := 0) (v := .slice la n lc) (n := n) (m := 1) rfl (.tmp 47) (.tmp 51) 61 rfl 85 i0 _ 2 _ Try.underlying61 hi0 hz0 hz1 hz2 rfl (by decide) (Nat.zero_le _) rfl rfl (own_of_block hO.out (fun g' hg' => (B2.out.alloc B2.out.size (.cells #[.slice ca x.length ck, .int .i64 0] 85)).block g' (own_lt hO.out hg'))) (Rd.new (by simp) rfl) (enF_one ⟨ca, x.length, ck, 0⟩) (by unfold maxLen; omega) (by omega) ?_
              intro v5 w5 o5 f5 m5 n5 z5
              have fin := Lib.hid (rsend_fin (nf := ⟨ca, x.length, ck, 0⟩) (x := x) H.out hkl.out hkq HVK.out HNN.out.1 HR.out.1 HR.out.2.1 HR.out.2.2 (HBQ.out.trans ((B2.out.alloc B2.out.size (.cells #[.slice ca x.length ck, .int .i64 0] 85)).mono HBQ.out.size)) ⟨ownB_below (own_zero O2.out) ((Below.refl _ w2).alloc (Nat.le_refl _) _), rfl⟩ (fun g' hg' => Nat.le_trans HBQ.out.size (O2.out.lt g' hg').1) o5 f5 m5 (by rw [← HNN.out.2]; exact HF.out) HXB.out)
              have k4' := held_fr (w := (w2.alloc (.cells #[.slice ca x.length ck, .int .i64 0] 85))) (a := ⟨g, k, none⟩) (v := .slice la n lc) ⟨cellOn' ly ((Below.refl _ w2).alloc (Nat.le_refl _) _), (((Below.refl _ w2).alloc (Nat.le_refl _) (.cells #[.slice ca x.length ck, .int .i64 0] 85)).frozen hr3).trans ((B2.out.frozen (World.block_lt_of_cell? _ _ jy)).trans jz)⟩ f5 hng.out
              obtain ⟨k5, k6⟩ := k4'
              have k7 : w5.cell? ⟨r, 4, none⟩ = some (.slice (some ⟨g, 0, none⟩) N cap) := (f5.cell (World.block_lt_of_cell? _ _ l4a) hnr.out).trans l4a
              obtain ⟨a5, c5, hv5, _⟩ := own_shape o5
              subst hv5
              have k8 : (w5.setCell ⟨g, k, none⟩ (.slice a5 (n + 1) c5)).cell? ⟨r, 4, none⟩ = some (.slice (some ⟨g, 0, none⟩) N cap) := (((Fr.refl (fun b => b = g) w5).setCell (p := ⟨g, k, none⟩) (fun _ => rfl) (.slice a5 (n + 1) c5)).cell (World.block_lt_of_cell? _ _ k7) (fun e => HGR.out e.symm)).trans k7
              clear o5 f5 m5 n5 z5
              refine hK.out _ _ k7 (fun hHeld => ?_)
              clear hK
              try simp only [Act.put, List.setIfInBounds_toArray, List.set_cons_zero, List.set_cons_succ]
              refine wpAnyH_take (i := 17) (oi := ⟨some 53, _, _, _, _, _⟩) (v := .pointer (some ⟨g, k, none⟩)) rfl (by kernel_rfl) (by kernel_rfl) (by kernel_rfl) (fun _ _ _ h => h) (Or.inl ⟨by rfl, ?_⟩) k7 ?_
              · intro w' hSw
                go_simp
              try simp only [Act.put, List.setIfInBounds_toArray, List.set_cons_zero, List.set_cons_succ]
              refine wpAnyH_ready (rs := [18]) (by kernel_rfl) (by simp) ?_
              refine AllReadyH.cons (i := 18) (o := ⟨none, _, _, _, _, _⟩) rfl (fun K hK => ?_) ?_
              · go_simp
                refine hK.out _ _ k8 (fun hHeld => ?_)
                clear hK
                try simp only [Act.put, List.setIfInBounds_toArray, List.set_cons_zero, List.set_cons_succ]
                refine wpAnyH_done (by kernel_rfl) ?_ _
                clear k5 k6 k7 k8
                go_wp2_with fail
                go_ret
                exact ⟨rfl, fin.out⟩
              exact AllReadyH.nil
            exact AllReadyH.nil
          exact AllReadyH.nil
        exact AllReadyH.nil
      exact AllReadyH.nil
    · rw [if_neg hf]
      dsimp only
      have hd : decide (most ≤ (n : Int)) = true := decide_eq_true (by omega)
      clear hf
      go_enter Try.func46, Try.ntmps46
      go_wp2_with fail
      refine H1.out.mono ?_
      rintro e w' ⟨rfl, hw'⟩
      obtain rfl := hw'.symm
      clear hw'
      go_wp2_with fail
      go_quiet (fail)
      have hbd := fun m => below_drewN (Below.refl _ w) m
      have zr' : ∀ m, (w.drewN m).frozen? ⟨r, 3, none⟩ = false := fun m => zr
      go_wp2_with fail
      go_ret
      have HD := fun m => (H.out.below (hbd m)).lose (lost + 1)
      exact ⟨rfl, F, ⟨_, vs, (HD _).1⟩, Stp.afterBelow (hbd _) (HD _).2⟩
end
end Go.Proofs.Yteihpaikdpdglaa
