/-
  The reference's line: a row set anew; NewLan; Pass; Drop.
-/
import Derived.Test.YteihpaikdpdglaaRlC
namespace Go.Proofs.Yteihpaikdpdglaa
open Go.RowKit
set_option linter.unusedVariables false


section
variable {w : World} {F : Nat → Prop} {r st : Nat} {life lost most : Int} {qs : List FlA} {lv : Value} {vs : List Value}
/-- A row is another one now: in memory of its own. -/
theorem RGi.put {w5 : World} {k g cap N : Nat} {v5 : Value} {fl' : List Fl} {l' : FlA} (h : RGi w F r st life lost most qs (.slice (some ⟨g, 0, none⟩) N cap) vs) (hkv : k < vs.length) (hb : Below w.heap.size w w5)
    (o5 : Own enF 85 2 w.heap.size w5 v5 fl') (ha : All2 (FlB w5) fl' l') (hfr : ∀ f ∈ fl', ∀ g, f.v.ownBlock = some g → F g ∨ w.heap.size ≤ g) (hok : ∀ p ∈ l', OkFr life p) (hlen : l'.length ≤ 10000) :
    ∃ F', RG (w5.setCell ⟨g, k, none⟩ v5) F' r st life lost most (qs.set k l') ∧ Stp F F' w (w5.setCell ⟨g, k, none⟩ v5) := by
  have hkq : k < qs.length := by rw [h.qlen, ← h.len]; exact hkv
  have hm : ∀ g', v5.ownBlock = some g' → vs[k].ownBlock = some g' ∨ w.heap.size ≤ g' := fun g' hg' => .inr (o5.lt g' hg').1
  have hq := h.q k hkv hkq
  obtain ⟨F', h5, h6⟩ := h.turn (i := k) (l' := l') hkv rfl (Fr.of_below hb _) hm (RX.of hq h.lt hb.size (own_zero o5) ha hm (fun f hf g' hg => (hfr f hf g' hg).imp id (fun e => ⟨e, all2_own ha f hf g' hg⟩)) hlen) (fun b hb' => ⟨hb'.imp id (fun e => e.1), hb'.elim (fun e => Nat.lt_of_lt_of_le (h.lt b e) hb.size) (fun e => e.2)⟩) hok (own_zero o5)
  exact ⟨F', ⟨_, _, h5⟩, h6⟩
theorem ownB_set {w5 : World} {v : Value} {b : List Int} {g : Nat} (o : OwnB 0 w v b) (hb : Below w.heap.size w w5) (hc : ∃ cur, w.heap[g]? = some (.cells cur 61 (0, 0))) (k : Nat) (u : Value) : OwnB 0 (w5.setCell ⟨g, k, none⟩ u) v b := by
  obtain ⟨cur, hc⟩ := hc
  have o5 := ownB_below o hb
  exact o5.fr ((Fr.refl (fun b => b = g) w5).setCell (p := ⟨g, k, none⟩) (fun _ => rfl) u) (fun g' hg' e => by
    have e : g' = g := e
    rw [e] at hg'
    exact own_ne o5 ((hb.block g (lt_of_block hc)).trans hc) (by decide) hg')
theorem all2_cons {w : World} {fl : List Fl} {p : List Int × Int} {l : FlA} (h : All2 (FlB w) fl (p :: l)) : ∃ f fl', fl = f :: fl' ∧ FlB w f p ∧ All2 (FlB w) fl' l := by
  match fl, h with
  | f :: fl', h => exact ⟨f, fl', rfl, h.1, h.2⟩

set_option maxRecDepth 100000 in
set_option maxHeartbeats 4000000 in
theorem rpass (h : RG w F r st life lost most qs) (a b : Int) :
    Calls Try.prog 48 #[.pointer (some ⟨r, 0, none⟩), .int .i64 a, .int .i64 b] w fun e w' => ∃ va vn vk, e = .returned (.tuple #[.slice va vn vk, .bool (passP st a b (qs, lost)).1.isSome]) ∧ RdB w' (.slice va vn vk) ((passP st a b (qs, lost)).1.getD []) ∧ ∃ F', RG w' F' r st life lost most (passP st a b (qs, lost)).2.1 ∧ Stp F F' w w' := by
  obtain ⟨lv, vs, h⟩ := h
  have H := Lib.hid h
  have H1 := Lib.hid (rat h a b)
  unfold passP
  cases hk : rix st a b with
  | none =>
    have hat : atV st a b = -1 := by unfold atV; rw [hk]
    rw [hat] at H1
    clear h hk hat
    go_enter Try.func48, Try.ntmps48
    go_wp2_with fail
    refine H1.out.mono ?_
    rintro e w' ⟨rfl, hw'⟩
    obtain rfl := hw'.symm
    clear hw'
    go_wp2_with fail
    go_ret2
    exact ⟨_, _, _, rfl, (Own.nil (α := Int) encB 0 1 0 _).rd, F, ⟨lv, vs, H.out⟩, Stp.refl _ _⟩
  | some k =>
    obtain ⟨hkv, hkq, hat⟩ := h.at_ hk
    rw [hat] at H1
    obtain ⟨g, cap, hlv, hc1, hc2, y, zg⟩ := h.slot hkv
    obtain ⟨fl, h1, h2, h3⟩ := (h.q k hkv hkq).ex
    obtain ⟨la, lc, hvk, hlc1, hlc2, _⟩ := own_shape h1
    rw [hvk] at y
    subst hlv
    obtain ⟨_, _, _, _, k4⟩ := h.cells
    obtain ⟨N, hN⟩ : ∃ N, N = vs.length := ⟨_, rfl⟩
    rw [← hN] at k4 hkv H
    have hki : (k : Int) < (N : Int) := by omega
    have hk0 : decide ((k : Int) < 0) = false := decide_eq_false (by omega)
    have hrow : rowAt (qs, lost) k = qs[k] := getD_get hkq
    have hql := (h.q k (by rw [← hN]; exact hkv) hkq).len
    have hok : ∀ p ∈ qs[k], OkFr life p := h.ok _ (List.getElem_mem hkq)
    have hkl : Hid (k < vs.length) := by unfold Hid; omega
    have HNV := Lib.hid hN
    dsimp only
    rw [hrow]
    obtain ⟨l, hl⟩ : ∃ l, l = qs[k] := ⟨_, rfl⟩
    rw [← hl] at h2 hql hok ⊢
    have HL := Lib.hid hl
    clear h hk hat hN hrow hl
    cases l with
    | nil =>
      obtain rfl : fl = [] := List.eq_nil_of_length_eq_zero (by rw [forall_len h2]; rfl)
      dsimp only
      rw [show ([] : List Fl).length = 0 from rfl] at y
      clear h1 h2 h3 hvk hlc1
      go_enter Try.func48, Try.ntmps48
      go_wp2_with fail
      refine H1.out.mono ?_
      rintro e w' ⟨rfl, hw'⟩
      obtain rfl := hw'.symm
      clear hw'
      go_wp2_with fail
      go_ret2
      exact ⟨_, _, _, rfl, (Own.nil (α := Int) encB 0 1 0 _).rd, F, ⟨_, vs, H.out⟩, Stp.refl _ _⟩
    | cons p l =>
      obtain ⟨f, fl', rfl, hfp, h2'⟩ := all2_cons h2
      dsimp only
      obtain ⟨q, rfl, hql2⟩ : ∃ q, la = some ⟨q, 0, none⟩ ∧ q < w.heap.size := by
        obtain ⟨q, cq, hq, hql, _⟩ := own_some h1 (by simp)
        rw [hvk] at hq
        simp at hq
        exact ⟨q, hq.1, hql⟩
      obtain ⟨fa, fn, fc, fg⟩ := f
      have hown : Own enF 85 2 0 w (.slice (some ⟨q, 0, none⟩) ((⟨fa, fn, fc, fg⟩ : Fl) :: fl').length lc) ((⟨fa, fn, fc, fg⟩ : Fl) :: fl') := by rw [← hvk]; exact h1
      have x0 : w.cell? ⟨q, 0, none⟩ = some (.slice fa fn fc) := hown.cell enF_len 0 0 (by simp) (by decide)
      have R2 := Lib.hid (Own.dropRd enF_len hown (i := 1) (by simp) hlc1)
      obtain ⟨n, hn⟩ : ∃ n, n = ((⟨fa, fn, fc, fg⟩ : Fl) :: fl').length := ⟨_, rfl⟩
      have hn1 : n = fl'.length + 1 := by rw [hn]; simp
      have hnl : n = (p :: l).length := by rw [hn]; exact forall_len h2
      rw [← hn] at y hlc1 R2 hown
      have HN1 := Lib.hid hn1
      have hn10 : n ≤ 10000 := by rw [hnl]; exact hql
      have hnpos : 1 ≤ n := by omega
      have hne0 : ((n : Int) == 0) = false := by rw [beq_eq_false_iff_ne]; omega
      have hne0n : (n == 0) = false := by rw [beq_eq_false_iff_ne]; omega
      have hn0i : (0 : Int) < (n : Int) := by omega
      have i1n : (1 : Int) ≤ (n : Int) := by omega
      have hlc3 : lc ≤ 9223372036854775807 := by unfold maxLen at hlc2; omega
      have inl : (n : Int) ≤ (lc : Int) := by omega
      have HR := Lib.hid (And.intro h2' (And.intro hfp h3))
      have HO := Lib.hid hown
      have HOK := Lib.hid (fun p' hp' => hok p' (List.mem_cons_of_mem _ hp'))
      have hlsm : l.length ≤ 10000 := by simp at hql; omega
      obtain ⟨i0, hi0, hz0, hz1, hz2⟩ := info_parts infoRF
      clear h1 h2 h2' h3 hvk hfp hn hn1 hnl hql hok hown
      go_enter Try.func48, Try.ntmps48
      go_wp2_with fail
      refine H1.out.mono ?_
      rintro e w' ⟨rfl, hw'⟩
      obtain rfl := hw'.symm
      clear hw'
      have hgr : g ≠ r := fun e => own_ne H.out.rows H.out.blk (by decide) (by rw [e]; rfl)
      have HGR := Lib.hid hgr
      have hgl : g < w.heap.size := World.block_lt_of_cell? _ _ y
      have s0 : w.drew.cell? ⟨r, 4, none⟩ = some (.slice (some ⟨g, 0, none⟩) N cap) := k4
      have s1 : (w.drew.alloc (.cells #[] 85)).cell? ⟨r, 4, none⟩ = some (.slice (some ⟨g, 0, none⟩) N cap) := cellOn' s0 ((Below.refl _ w.drew).alloc (Nat.le_refl _) _)
      clear hgr
      go_upto_region 5 with fail
      refine wp_region_held_drew (S := fun w' => w'.cell? ⟨r, 4, none⟩ = some (.slice (some ⟨g, 0, none⟩) N cap)) (by kernel_rfl) s0 (fun hHeld => ?_)
      refine wpAnyH_take (i := 0) (oi := ⟨some 37, _, _, _, _, _⟩) (v := .pointer (some ⟨r, 0, none⟩)) rfl (by kernel_rfl) (by kernel_rfl) (by kernel_rfl) (fun _ _ _ h => h) (Or.inl ⟨by rfl, ?_⟩) s0 ?_
      · intro w' hSw
        go_simp
      try simp only [Act.put, List.setIfInBounds_toArray, List.set_cons_zero, List.set_cons_succ]
      refine wpAnyH_take (i := 1) (oi := ⟨some 38, _, _, _, _, _⟩) (v := .pointer (some ⟨r, 0, none⟩)) rfl (by kernel_rfl) (by kernel_rfl) (by kernel_rfl) (fun _ _ _ h => h) (Or.inl ⟨by rfl, ?_⟩) s0 ?_
      · intro w' hSw
        go_simp
      try simp only [Act.put, List.setIfInBounds_toArray, List.set_cons_zero, List.set_cons_succ]
      refine wpAnyH_take (i := 2) (oi := ⟨some 39, _, _, _, _, _⟩) (v := .pointer (some ⟨r, 4, none⟩)) rfl (by kernel_rfl) (by kernel_rfl) (by kernel_rfl) (fun _ _ _ h => h) (Or.inl ⟨by rfl, ?_⟩) s0 ?_
      · intro w' hSw
        go_simp
      try simp only [Act.put, List.setIfInBounds_toArray, List.set_cons_zero, List.set_cons_succ]
      refine wpAnyH_take (i := 3) (oi := ⟨some 40, _, _, _, _, _⟩) (v := .slice (some ⟨g, 0, none⟩) N cap) rfl (by kernel_rfl) (by kernel_rfl) (by kernel_rfl) (fun _ _ _ h => h) (Or.inl ⟨by rfl, ?_⟩) s0 ?_
      · intro w' hSw
        have s0 := hSw
        go_simp
      try simp only [Act.put, List.setIfInBounds_toArray, List.set_cons_zero, List.set_cons_succ]
      refine wpAnyH_take (i := 4) (oi := ⟨some 41, _, _, _, _, _⟩) (v := .int .i64 (k : Int)) rfl (by kernel_rfl) (by kernel_rfl) (by kernel_rfl) (fun _ _ _ h => h) (Or.inl ⟨by rfl, ?_⟩) s0 ?_
      · intro w' hSw
        go_simp
      try simp only [Act.put, List.setIfInBounds_toArray, List.set_cons_zero, List.set_cons_succ]
      refine wpAnyH_take (i := 6) (oi := ⟨some 43, _, _, _, _, _⟩) (v := .pointer (some ⟨r, 0, none⟩)) rfl (by kernel_rfl) (by kernel_rfl) (by kernel_rfl) (fun _ _ _ h => h) (Or.inl ⟨by rfl, ?_⟩) s0 ?_
      · intro w' hSw
        go_simp
      try simp only [Act.put, List.setIfInBounds_toArray, List.set_cons_zero, List.set_cons_succ]
      refine wpAnyH_take (i := 7) (oi := ⟨some 44, _, _, _, _, _⟩) (v := .pointer (some ⟨r, 0, none⟩)) rfl (by kernel_rfl) (by kernel_rfl) (by kernel_rfl) (fun _ _ _ h => h) (Or.inl ⟨by rfl, ?_⟩) s0 ?_
      · intro w' hSw
        go_simp
      try simp only [Act.put, List.setIfInBounds_toArray, List.set_cons_zero, List.set_cons_succ]
      refine wpAnyH_take (i := 8) (oi := ⟨some 45, _, _, _, _, _⟩) (v := .pointer (some ⟨r, 4, none⟩)) rfl (by kernel_rfl) (by kernel_rfl) (by kernel_rfl) (fun _ _ _ h => h) (Or.inl ⟨by rfl, ?_⟩) s0 ?_
      · intro w' hSw
        go_simp
      try simp only [Act.put, List.setIfInBounds_toArray, List.set_cons_zero, List.set_cons_succ]
      refine wpAnyH_take (i := 9) (oi := ⟨some 46, _, _, _, _, _⟩) (v := .slice (some ⟨g, 0, none⟩) N cap) rfl (by kernel_rfl) (by kernel_rfl) (by kernel_rfl) (fun _ _ _ h => h) (Or.inl ⟨by rfl, ?_⟩) s0 ?_
      · intro w' hSw
        have s0 := hSw
        go_simp
      try simp only [Act.put, List.setIfInBounds_toArray, List.set_cons_zero, List.set_cons_succ]
      refine wpAnyH_take (i := 10) (oi := ⟨some 47, _, _, _, _, _⟩) (v := .int .i64 (k : Int)) rfl (by kernel_rfl) (by kernel_rfl) (by kernel_rfl) (fun _ _ _ h => h) (Or.inl ⟨by rfl, ?_⟩) s0 ?_
      · intro w' hSw
        go_simp
      try simp only [Act.put, List.setIfInBounds_toArray, List.set_cons_zero, List.set_cons_succ]
      refine wpAnyH_take (i := 11) (oi := ⟨some 48, _, _, _, _, _⟩) (v := .pointer (some ⟨g, k, none⟩)) rfl (by kernel_rfl) (by kernel_rfl) (by kernel_rfl) (fun _ _ _ h => h) (Or.inl ⟨by rfl, ?_⟩) s0 ?_
      · intro w' hSw
        go_simp
      try simp only [Act.put, List.setIfInBounds_toArray, List.set_cons_zero, List.set_cons_succ]
      refine wpAnyH_ready (rs := [5, 12]) (by kernel_rfl) (by simp) ?_
      refine AllReadyH.cons (i := 5) (o := ⟨some 42, _, _, _, _, _⟩) rfl (fun K hK => ?_) ?_
      · go_simp
        refine hK.out _ _ s1 (fun hHeld => ?_)
        clear hK
        try simp only [Act.put, List.setIfInBounds_toArray, List.set_cons_zero, List.set_cons_succ]
        refine wpAnyH_ready (rs := [12]) (by kernel_rfl) (by simp) ?_
        refine AllReadyH.cons (i := 12) (o := ⟨some 49, _, _, _, _, _⟩) rfl (fun K hK => ?_) ?_
        · go_simp
          refine hK.out _ _ s1 (fun hHeld => ?_)
          clear hK
          try simp only [Act.put, List.setIfInBounds_toArray, List.set_cons_zero, List.set_cons_succ]
          refine wpAnyH_ready (rs := [13]) (by kernel_rfl) (by simp) ?_
          refine AllReadyH.cons (i := 13) (o := ⟨some 50, _, _, _, _, _⟩) rfl (fun K hK => ?_) ?_
          · go_simp
            refine hK.out _ _ s1 (fun hHeld => ?_)
            clear hK
            try simp only [Act.put, List.setIfInBounds_toArray, List.set_cons_zero, List.set_cons_succ]
            refine wpAnyH_ready (rs := [14]) (by kernel_rfl) (by simp) ?_
            refine AllReadyH.cons (i := 14) (o := ⟨some 51, _, _, _, _, _⟩) rfl (fun K hK => ?_) ?_
            · refine step_app (B := w.heap.size) (v := .slice (some ⟨w.heap.size, 0, none⟩) 0 0) (n := 0) (m := n - 1) rfl (.tmp 42) (.tmp 50) 61 rfl 85 i0 _ 2 _ Try.underlying61 hi0 hz0 hz1 hz2 rfl (by decide) (by simp) rfl rfl (own_empty w.drew _ _ _ (Nat.le_refl _)) ((R2.out.drew).fr ((Fr.refl no _).alloc _) (fun _ _ e => e)) (enF_ones _) (by unfold maxLen; omega) (by omega) ?_
              intro v5 w5 o5 f5 m5 n5 z5
              rw [Nat.zero_add] at o5
              have b5 : Below w.heap.size w w5 := ((Below.refl _ w).drew.alloc (by simp) (.cells #[] 85)).trans (f5.below' (by simp) (fun k' hk' => by simp [Value.ownBlock] at hk'; omega))
              have o5' : Own enF 85 2 w.heap.size w5 v5 fl' := by have h9 := o5; rw [List.nil_append, show n - 1 = fl'.length by have := HN1.out; omega] at h9; exact h9
              have fin := Lib.hid (And.intro (H.out.put hkl.out b5 o5' (forall_imp HR.out.1 (fun f' p' e' => ⟨ownB_below e'.1 b5, e'.2⟩)) (fun f' hf' g' hg' => .inl (HR.out.2.2 f' (List.mem_cons_of_mem _ hf') g' hg')) HOK.out hlsm) (ownB_set HR.out.2.1.1 b5 (own_type H.out.rows (g := g) rfl) k v5))
              have k5 : w5.cell? ⟨g, k, none⟩ = some (.slice (some ⟨q, 0, none⟩) n lc) := cellOn' y b5
              have k6 : w5.frozen? ⟨g, k, none⟩ = false := (b5.frozen (World.block_lt_of_cell? _ _ y)).trans zg
              have k7 : w5.cell? ⟨r, 4, none⟩ = some (.slice (some ⟨g, 0, none⟩) N cap) := cellOn' k4 b5
              obtain ⟨a5, c5, hv5, _⟩ := own_shape o5
              have HGA := Lib.hid b5
              subst hv5
              have k8 : (w5.setCell ⟨g, k, none⟩ (.slice a5 (n - 1) c5)).cell? ⟨r, 4, none⟩ = some (.slice (some ⟨g, 0, none⟩) N cap) := (((Fr.refl (fun b => b = g) w5).setCell (p := ⟨g, k, none⟩) (fun _ => rfl) (.slice a5 (n - 1) c5)).cell (World.block_lt_of_cell? _ _ k7) (fun e => HGR.out e.symm)).trans k7
              clear o5 o5' f5 m5 n5 z5 b5
              refine hK.out _ _ k7 (fun hHeld => ?_)
              clear hK
              try simp only [Act.put, List.setIfInBounds_toArray, List.set_cons_zero, List.set_cons_succ]
              refine wpAnyH_take (i := 15) (oi := ⟨some 52, _, _, _, _, _⟩) (v := .pointer (some ⟨g, k, none⟩)) rfl (by kernel_rfl) (by kernel_rfl) (by kernel_rfl) (fun _ _ _ h => h) (Or.inl ⟨by rfl, ?_⟩) k7 ?_
              · intro w' hSw
                go_simp
              try simp only [Act.put, List.setIfInBounds_toArray, List.set_cons_zero, List.set_cons_succ]
              refine wpAnyH_ready (rs := [16]) (by kernel_rfl) (by simp) ?_
              refine AllReadyH.cons (i := 16) (o := ⟨none, _, _, _, _, _⟩) rfl (fun K hK => ?_) ?_
              · go_simp
                refine hK.out _ _ k8 (fun hHeld => ?_)
                clear hK
                try simp only [Act.put, List.setIfInBounds_toArray, List.set_cons_zero, List.set_cons_succ]
                refine wpAnyH_done (by kernel_rfl) ?_ _
                clear k5 k6 k7 k8
                go_wp2_with fail
                all_goals
                  go_ret2
                  obtain ⟨⟨F', hF, hS⟩, hB⟩ := fin.out
                  exact ⟨_, _, _, rfl, hB.rd, F', hF, hS⟩
              exact AllReadyH.nil
            exact AllReadyH.nil
          exact AllReadyH.nil
        exact AllReadyH.nil
      refine AllReadyH.cons (i := 12) (o := ⟨some 49, _, _, _, _, _⟩) rfl (fun K hK => ?_) ?_
      · go_simp
        refine hK.out _ _ s0 (fun hHeld => ?_)
        clear hK
        try simp only [Act.put, List.setIfInBounds_toArray, List.set_cons_zero, List.set_cons_succ]
        refine wpAnyH_ready (rs := [5, 13]) (by kernel_rfl) (by simp) ?_
        refine AllReadyH.cons (i := 5) (o := ⟨some 42, _, _, _, _, _⟩) rfl (fun K hK => ?_) ?_
        · go_simp
          refine hK.out _ _ s1 (fun hHeld => ?_)
          clear hK
          try simp only [Act.put, List.setIfInBounds_toArray, List.set_cons_zero, List.set_cons_succ]
          refine wpAnyH_ready (rs := [13]) (by kernel_rfl) (by simp) ?_
          refine AllReadyH.cons (i := 13) (o := ⟨some 50, _, _, _, _, _⟩) rfl (fun K hK => ?_) ?_
          · go_simp
            refine hK.out _ _ s1 (fun hHeld => ?_)
            clear hK
            try simp only [Act.put, List.setIfInBounds_toArray, List.set_cons_zero, List.set_cons_succ]
            refine wpAnyH_ready (rs := [14]) (by kernel_rfl) (by simp) ?_
            refine AllReadyH.cons (i := 14) (o := ⟨some 51, _, _, _, _, _⟩) rfl (fun K hK => ?_) ?_
            · refine step_app (B := w.heap.size) (v := .slice (some ⟨w.heap.size, 0, none⟩) 0 0) (n := 0) (m := n - 1) rfl (.tmp 42) (.tmp 50) 61 rfl 85 i0 _ 2 _ Try.underlying61 hi0 hz0 hz1 hz2 rfl (by decide) (by simp) rfl rfl (own_empty w.drew _ _ _ (Nat.le_refl _)) ((R2.out.drew).fr ((Fr.refl no _).alloc _) (fun _ _ e => e)) (enF_ones _) (by unfold maxLen; omega) (by omega) ?_
              intro v5 w5 o5 f5 m5 n5 z5
              rw [Nat.zero_add] at o5
              have b5 : Below w.heap.size w w5 := ((Below.refl _ w).drew.alloc (by simp) (.cells #[] 85)).trans (f5.below' (by simp) (fun k' hk' => by simp [Value.ownBlock] at hk'; omega))
              have o5' : Own enF 85 2 w.heap.size w5 v5 fl' := by have h9 := o5; rw [List.nil_append, show n - 1 = fl'.length by have := HN1.out; omega] at h9; exact h9
              have fin := Lib.hid (And.intro (H.out.put hkl.out b5 o5' (forall_imp HR.out.1 (fun f' p' e' => ⟨ownB_below e'.1 b5, e'.2⟩)) (fun f' hf' g' hg' => .inl (HR.out.2.2 f' (List.mem_cons_of_mem _ hf') g' hg')) HOK.out hlsm) (ownB_set HR.out.2.1.1 b5 (own_type H.out.rows (g := g) rfl) k v5))
              have k5 : w5.cell? ⟨g, k, none⟩ = some (.slice (some ⟨q, 0, none⟩) n lc) := cellOn' y b5
              have k6 : w5.frozen? ⟨g, k, none⟩ = false := (b5.frozen (World.block_lt_of_cell? _ _ y)).trans zg
              have k7 : w5.cell? ⟨r, 4, none⟩ = some (.slice (some ⟨g, 0, none⟩) N cap) := cellOn' k4 b5
              obtain ⟨a5, c5, hv5, _⟩ := own_shape o5
              have HGA := Lib.hid b5
              subst hv5
              have k8 : (w5.setCell ⟨g, k, none⟩ (.slice a5 (n - 1) c5)).cell? ⟨r, 4, none⟩ = some (.slice (some ⟨g, 0, none⟩) N cap) := (((Fr.refl (fun b => b = g) w5).setCell (p := ⟨g, k, none⟩) (fun _ => rfl) (.slice a5 (n - 1) c5)).cell (World.block_lt_of_cell? _ _ k7) (fun e => HGR.out e.symm)).trans k7
              clear o5 o5' f5 m5 n5 z5 b5
              refine hK.out _ _ k7 (fun hHeld => ?_)
              clear hK
              try simp only [Act.put, List.setIfInBounds_toArray, List.set_cons_zero, List.set_cons_succ]
              refine wpAnyH_take (i := 15) (oi := ⟨some 52, _, _, _, _, _⟩) (v := .pointer (some ⟨g, k, none⟩)) rfl (by kernel_rfl) (by kernel_rfl) (by kernel_rfl) (fun _ _ _ h => h) (Or.inl ⟨by rfl, ?_⟩) k7 ?_
              · intro w' hSw
                go_simp
              try simp only [Act.put, List.setIfInBounds_toArray, List.set_cons_zero, List.set_cons_succ]
              refine wpAnyH_ready (rs := [16]) (by kernel_rfl) (by simp) ?_
              refine AllReadyH.cons (i := 16) (o := ⟨none, _, _, _, _, _⟩) rfl (fun K hK => ?_) ?_
              · go_simp
                refine hK.out _ _ k8 (fun hHeld => ?_)
                clear hK
                try simp only [Act.put, List.setIfInBounds_toArray, List.set_cons_zero, List.set_cons_succ]
                refine wpAnyH_done (by kernel_rfl) ?_ _
                clear k5 k6 k7 k8
                go_wp2_with fail
                all_goals
                  go_ret2
                  obtain ⟨⟨F', hF, hS⟩, hB⟩ := fin.out
                  exact ⟨_, _, _, rfl, hB.rd, F', hF, hS⟩
              exact AllReadyH.nil
            exact AllReadyH.nil
          exact AllReadyH.nil
        refine AllReadyH.cons (i := 13) (o := ⟨some 50, _, _, _, _, _⟩) rfl (fun K hK => ?_) ?_
        · go_simp
          refine hK.out _ _ s0 (fun hHeld => ?_)
          clear hK
          try simp only [Act.put, List.setIfInBounds_toArray, List.set_cons_zero, List.set_cons_succ]
          refine wpAnyH_ready (rs := [5]) (by kernel_rfl) (by simp) ?_
          refine AllReadyH.cons (i := 5) (o := ⟨some 42, _, _, _, _, _⟩) rfl (fun K hK => ?_) ?_
          · go_simp
            refine hK.out _ _ s1 (fun hHeld => ?_)
            clear hK
            try simp only [Act.put, List.setIfInBounds_toArray, List.set_cons_zero, List.set_cons_succ]
            refine wpAnyH_ready (rs := [14]) (by kernel_rfl) (by simp) ?_
            refine AllReadyH.cons (i := 14) (o := ⟨some 51, _, _, _, _, _⟩) rfl (fun K hK => ?_) ?_
            · refine step_app (B := w.heap.size) (v := .slice (some ⟨w.heap.size, 0, none⟩) 0 0) (n := 0) (m := n - 1) rfl (.tmp 42) (.tmp 50) 61 rfl 85 i0 _ 2 _ Try.underlying61 hi0 hz0 hz1 hz2 rfl (by decide) (by simp) rfl rfl (own_empty w.drew _ _ _ (Nat.le_refl _)) ((R2.out.drew).fr ((Fr.refl no _).alloc _) (fun _ _ e => e)) (enF_ones _) (by unfold maxLen; omega) (by omega) ?_
              intro v5 w5 o5 f5 m5 n5 z5
              rw [Nat.zero_add] at o5
              have b5 : Below w.heap.size w w5 := ((Below.refl _ w).drew.alloc (by simp) (.cells #[] 85)).trans (f5.below' (by simp) (fun k' hk' => by simp [Value.ownBlock] at hk'; omega))
              have o5' : Own enF 85 2 w.heap.size w5 v5 fl' := by have h9 := o5; rw [List.nil_append, show n - 1 = fl'.length by have := HN1.out; omega] at h9; exact h9
              have fin := Lib.hid (And.intro (H.out.put hkl.out b5 o5' (forall_imp HR.out.1 (fun f' p' e' => ⟨ownB_below e'.1 b5, e'.2⟩)) (fun f' hf' g' hg' => .inl (HR.out.2.2 f' (List.mem_cons_of_mem _ hf') g' hg')) HOK.out hlsm) (ownB_set HR.out.2.1.1 b5 (own_type H.out.rows (g := g) rfl) k v5))
              have k5 : w5.cell? ⟨g, k, none⟩ = some (.slice (some ⟨q, 0, none⟩) n lc) := cellOn' y b5
              have k6 : w5.frozen? ⟨g, k, none⟩ = false := (b5.frozen (World.block_lt_of_cell? _ _ y)).trans zg
              have k7 : w5.cell? ⟨r, 4, none⟩ = some (.slice (some ⟨g, 0, none⟩) N cap) := cellOn' k4 b5
              obtain ⟨a5, c5, hv5, _⟩ := own_shape o5
              have HGA := Lib.hid b5
              subst hv5
              have k8 : (w5.setCell ⟨g, k, none⟩ (.slice a5 (n - 1) c5)).cell? ⟨r, 4, none⟩ = some (.slice (some ⟨g, 0, none⟩) N cap) := (((Fr.refl (fun b => b = g) w5).setCell (p := ⟨g, k, none⟩) (fun _ => rfl) (.slice a5 (n - 1) c5)).cell (World.block_lt_of_cell? _ _ k7) (fun e => HGR.out e.symm)).trans k7
              clear o5 o5' f5 m5 n5 z5 b5
              refine hK.out _ _ k7 (fun hHeld => ?_)
              clear hK
              try simp only [Act.put, List.setIfInBounds_toArray, List.set_cons_zero, List.set_cons_succ]
              refine wpAnyH_take (i := 15) (oi := ⟨some 52, _, _, _, _, _⟩) (v := .pointer (some ⟨g, k, none⟩)) rfl (by kernel_rfl) (by kernel_rfl) (by kernel_rfl) (fun _ _ _ h => h) (Or.inl ⟨by rfl, ?_⟩) k7 ?_
              · intro w' hSw
                go_simp
              try simp only [Act.put, List.setIfInBounds_toArray, List.set_cons_zero, List.set_cons_succ]
              refine wpAnyH_ready (rs := [16]) (by kernel_rfl) (by simp) ?_
              refine AllReadyH.cons (i := 16) (o := ⟨none, _, _, _, _, _⟩) rfl (fun K hK => ?_) ?_
              · go_simp
                refine hK.out _ _ k8 (fun hHeld => ?_)
                clear hK
                try simp only [Act.put, List.setIfInBounds_toArray, List.set_cons_zero, List.set_cons_succ]
                refine wpAnyH_done (by kernel_rfl) ?_ _
                clear k5 k6 k7 k8
                go_wp2_with fail
                all_goals
                  go_ret2
                  obtain ⟨⟨F', hF, hS⟩, hB⟩ := fin.out
                  exact ⟨_, _, _, rfl, hB.rd, F', hF, hS⟩
              exact AllReadyH.nil
            exact AllReadyH.nil
          exact AllReadyH.nil
        exact AllReadyH.nil
      exact AllReadyH.nil
theorem rdrop (h : RG w F r st life lost most qs) (hlo : 0 ≤ lost ∧ lost ≤ 1000000000) (a b : Int) :
    Calls Try.prog 49 #[.pointer (some ⟨r, 0, none⟩), .int .i64 a, .int .i64 b] w fun e w' => e = .returned (.bool (dropP st a b (qs, lost)).1) ∧ ∃ F', RG w' F' r st life (dropP st a b (qs, lost)).2.2 most (dropP st a b (qs, lost)).2.1 ∧ Stp F F' w w' := by
  obtain ⟨hl0, hl1⟩ := hlo
  have hwl : wrap64 (lost + 1) = lost + 1 := IntWalk.wrap64_in _ (by omega)
  have H1 := Lib.hid (rpass h a b)
  have H := Lib.hid h
  have h2 : (passP st a b (qs, lost)).1 = none → (passP st a b (qs, lost)).2 = (qs, lost) := by
    unfold passP
    cases rix st a b with
    | none => intro _; rfl
    | some k =>
      dsimp only
      cases rowAt (qs, lost) k with
      | nil => intro _; rfl
      | cons p l => intro e; cases e
  have h3 : (passP st a b (qs, lost)).2.2 = lost := by
    unfold passP
    cases rix st a b with
    | none => rfl
    | some k =>
      dsimp only
      cases rowAt (qs, lost) k with
      | nil => rfl
      | cons p l => rfl
  unfold dropP
  obtain ⟨R, hR⟩ : ∃ R, R = passP st a b (qs, lost) := ⟨_, rfl⟩
  rw [← hR] at h2 h3 H1 ⊢
  clear hR h
  obtain ⟨r1, r2⟩ := R
  cases r1 with
  | none =>
    dsimp only at h2 h3 H1 ⊢
    obtain rfl := h2 rfl
    have H1' := Lib.hid H1.out
    clear H1 h2 h3
    go_enter Try.func49, Try.ntmps49
    go_wp2_with fail
    refine H1'.out.mono ?_
    rintro e w1 ⟨va, vn, vk, rfl, _, F', h1, s1⟩
    have HH := Lib.hid (And.intro h1 s1)
    clear h1 s1
    dsimp only [Option.isSome]
    go_wp2_with fail
    go_ret
    exact ⟨rfl, F', HH.out.1, HH.out.2⟩
  | some x =>
    dsimp only at h2 h3 H1 ⊢
    clear h2
    go_enter Try.func49, Try.ntmps49
    go_wp2_with fail
    refine H1.out.mono ?_
    rintro e w1 ⟨va, vn, vk, rfl, _, F', ⟨lv, vs, h1⟩, s1⟩
    have k3 : w1.cell? ⟨r, 3, none⟩ = some (.int .i64 lost) := blk_cell h1.blk 3
    have z3 : w1.frozen? ⟨r, 3, none⟩ = false := blk_free h1.blk 3
    have HH := Lib.hid (And.intro h1 s1)
    clear h1 s1
    dsimp only [Option.isSome]
    have h3' := Lib.hid h3
    clear h3
    go_wp2_with fail
    go_ret
    rw [h3'.out]
    exact ⟨rfl, F', ⟨lv, vs, (HH.out.1.lose (lost + 1)).1⟩, HH.out.2.trans (HH.out.1.lose (lost + 1)).2⟩
end
end Go.Proofs.Yteihpaikdpdglaa
