/-
  Package lan: Row, at any row. (Printed by gE.py out of LanG.)
-/
import Derived.Test.YteihpaikdpdglaaGlD
import Derived.Sort.CutIn
namespace Go.Proofs.Yteihpaikdpdglaa
open Go.RowKit
set_option linter.unusedVariables false
attribute [local go_sem] Oper.semAt_some


set_option maxRecDepth 100000 in
set_option maxHeartbeats 4000000 in
theorem rowV {w : World} {t : Nat} {rfr rto : Int} {qv sv : Value} {fl : List Fl} {l : List (List Int × Int)} (ht : t < w.heap.size) (hrow : ∀ W, Below w.heap.size w W → Calls Try.prog 31 #[.pointer (some ⟨t, 0, none⟩), .int .i64 rfr, .int .i64 rto] W fun e w' => e = .returned qv ∧ Below W.heap.size W w') (h : EaF w qv sv fl) (h3 : All2 (FlB w) fl l) (hlen : ∀ p ∈ l, p.1.length ≤ 1000000) :
    Calls Try.prog 19 #[.pointer (some ⟨t, 0, none⟩), .int .i64 rfr, .int .i64 rto] w fun e w' => ∃ ov fo, e = .returned ov ∧ Own enF 39 2 w.heap.size w' ov fo ∧ All2 (FlB w') fo l ∧ Below w.heap.size w w' := by
  obtain ⟨qa, rfl⟩ := h.ptr
  obtain ⟨i0, hi0, hz0, hz1, hz2⟩ := info_parts infoF
  have hl := h.len
  have HR := Lib.hid hrow
  clear hrow
  obtain ⟨zk, hzk, hzl⟩ : ∃ zk : List (Cm w), zk.map (fun p => p.1.1) = fl.zipIdx ∧ zk.map cmO = l := by
    exact cm_of fl l 0 h3 hlen
  have HZL := Lib.hid hzl
  have HZK := Lib.hid hzk
  have H := Lib.hid h
  clear h h3 hlen hzk hzl
  refine (callsIn_wide (n := 2)).1 ?_
  refine callsIn_of_wp_marks Try.func19 rfl trivial ?_ rfl
  simp only [Try.ntmps19, List.size_toArray, List.length_cons, List.length_nil, Nat.reduceAdd, Nat.reduceSub, Array.replicate_succ, Array.replicate_zero, List.push_toArray, List.append_toArray, List.nil_append, List.cons_append]
  refine wpIn_wide.2 ?_
  go_wp2_with fail
  have hb0 : Below w.heap.size w (w.alloc (.cells #[.slice none 0 0] 36)) := (Below.refl _ w).alloc (Nat.le_refl _) _
  refine (HR.out _ hb0).mono ?_
  rintro e w1 ⟨rfl, b1⟩
  have B1 := Lib.hid (hb0.trans (b1.mono hb0.size))
  have ho1 := Lib.hid ((b1.block w.heap.size (by simp)).trans (heap_alloc_new' w (.cells #[.slice none 0 0] 36)))
  have hs1 : w.heap.size < w1.heap.size := by have := b1.size; simp at this; omega
  clear b1 hb0
  go_wp2_with fail
  refine (eachP (.pointer qa) _ ⟨_, rfl⟩).mono ?_
  rintro e w2 ⟨rfl, hbx, hbel, hsz⟩
  have B2 := Lib.hid (B1.out.trans (hbel.mono B1.out.size))
  have ho2 := (hbel.block _ hs1).trans ho1.out
  obtain ⟨E, hE⟩ : ∃ E, E = w1.heap.size := ⟨_, rfl⟩
  rw [← hE] at hbx hsz ⊢
  have hEs : w.heap.size < E := by omega
  clear hE hbel
  go_wp2_with fail
  have hq1 : EaF w2 (.pointer qa) sv fl := H.out.below B2.out
  have inv0 : RowI w w2.heap.size [] w2 := ⟨⟨_, [], ho2, Own.nil _ _ _ _ _, trivial⟩, B2.out, Nat.le_refl _⟩
  have Inv0 := Lib.hid inv0
  have Hseq := Lib.hid (each1P (fun p : Cm w => p.1.1) E (.pointer qa) sv zk fl HZK.out w2 [⟨w.heap.size, 0, none⟩] (fun a ha => by rw [List.mem_singleton.1 ha]; show w.heap.size < _; omega) (fun a ha cv hcv k hk => by
    rw [List.mem_singleton.1 ha, blk_cell ho2 0] at hcv
    simp at hcv
    subst hcv
    simp [Value.ownBlock] at hk) hbx hq1)
  have hs2 : w2.heap.size = E + 1 := hsz
  clear inv0 ho2 hbx hq1 hsz
  refine (wpIn_wide (n := 2)).1 ?_
  refine wp_rangeK (gf := 56) (lb := #[.pointer (some ⟨E, 0, none⟩)]) rfl (enters_of Try.func56 (by kernel_rfl) rfl) (Kp := Keep [⟨w.heap.size, 0, none⟩] w2.heap.size) keep_t (keep_b (fun a ha => by rw [List.mem_singleton.1 ha]; show w.heap.size < _; omega)) Hseq.out (fun _ => rfl)
    (fun pre W => RowI w w2.heap.size pre W) (fun _ _ _ => False) ?hI ?hIx Inv0.out
    (fun x a' W => ∃ q, w2.heap.size ≤ q ∧ W.heap[q]? = some (.cells #[.slice x.1.1.1.a x.1.1.1.n x.1.1.1.c, .int .i64 x.1.1.1.age] 39 (0, 0)) ∧ (∃ ov0, W.heap[w.heap.size]? = some (.cells #[ov0] 36 (0, 0)) ∧ ov0.ownBlock ≠ some q) ∧ a' = { tmps := #[.pointer (some ⟨t, 0, none⟩), .int .i64 rfr, .int .i64 rto, undef, undef, undef, .slice none 0 0, .pointer (some ⟨w.heap.size, 0, none⟩), undef, .pointer (some ⟨q, 0, none⟩), .pointer (some ⟨t, 0, none⟩), .int .i64 rfr, .int .i64 rto, .pointer qa, .func (.func 56) #[] #[.pointer (some ⟨E, 0, none⟩)], .int .i64 x.1.1.2, fV x.1.1.1, undef, undef, undef, undef, undef, undef, undef, undef, undef, undef], defers := [] })
    (fun x a' W W' ⟨q, h1, h2, ⟨ov0, h4, h5⟩, h3⟩ hf => ⟨q, h1, blk_stay h2 hf, ⟨ov0, blk_stay h4 hf, h5⟩, h3⟩) ?assign ?body ?done ?stop
  case hI => exact fun s W W' h hf => h.stay hf (by omega)
  case hIx => exact fun cd s W W' h hf => h
  case assign =>
    intro lp pre x W K hi hK
    dsimp only [encsF]
    gi_wp2
    have hb : Below W.heap.size W (W.alloc (.cells #[.slice x.1.1.1.a x.1.1.1.n x.1.1.1.c, .int .i64 x.1.1.1.age] 39)) := (Below.refl _ W).alloc (Nat.le_refl _) _
    refine hK _ _ (KeepsFrom.of_fr_no hb) (keep_fr (T := no) (Fr.of_below hb no) (fun _ e => e.elim) (fun a ha cv hcv k hk => .inl ⟨a, ha, cv, ?_, hk⟩)) (hi.below hb) ⟨W.heap.size, hi.ge, heap_alloc_new' W _, (by obtain ⟨ov, fo, h1, h2, h3⟩ := hi.out; exact ⟨ov, (hb.block _ (lt_of_block h1)).trans h1, fun e => by have := own_lt h2 e; omega⟩), rfl⟩
    rw [← hcv]
    exact (hb.cell (by rw [List.mem_singleton.1 ha]; have := hi.ge; show w.heap.size < _; omega)).symm
  case body =>
    rintro lp pre ⟨⟨⟨⟨fa, fn, fc, fg⟩, j⟩, b⟩, hxo, hxl⟩ a' W hlp ⟨r, hr⟩ hi ⟨q, hqg, hq, ⟨ov0, ho0, hnq⟩, rfl⟩ hlt
    dsimp only at hq hxo hxl ⊢
    obtain ⟨ov, fo, ho, hown, hall⟩ := hi.out
    obtain rfl : ov0 = ov := by rw [ho] at ho0; simpa using ho0.symm
    obtain ⟨oa, oc, hov, _⟩ := own_shape hown
    subst hov
    obtain ⟨m, hm⟩ : ∃ m, m = fo.length := ⟨_, rfl⟩
    have hfn : fn = b.length := by
      obtain ⟨a, k, hv, _⟩ := own_shape hxo
      simp at hv
      exact hv.2.1
    subst hfn
    rw [← hm] at ho hown hnq
    have HNQ := Lib.hid hnq
    clear hnq ho0
    have k1 : W.drew.cell? ⟨w.heap.size, 0, none⟩ = some (.slice oa m oc) := cell_of_one ho
    have y0 : W.drew.cell? ⟨q, 0, none⟩ = some (.slice fa b.length fc) := blk_cell hq 0
    have y1 : W.drew.cell? ⟨q, 1, none⟩ = some (.int .i64 fg) := blk_cell hq 1
    have hwq : ¬ w.heap.size = q := by omega
    have HI := Lib.hid hi
    have Ho := Lib.hid ho
    have Hown := Lib.hid hown
    have Hall := Lib.hid hall
    have Hxo := Lib.hid hxo
    have Hq := Lib.hid hq
    have Hm := Lib.hid hm
    generalize hX : (⟨(({ a := fa, n := b.length, c := fc, age := fg }, j), b), ⟨hxo, hxl⟩⟩ : Cm w) = X
    have Hcm := Lib.hid (show cmO X = (b, fg) by rw [← hX]; rfl)
    clear hX
    clear hi ho hown hr hq hall hxo hm
    gi_upto_region 4 with fail
    refine wpIn_region_round (S := fun w' => w'.cell? ⟨q, 0, none⟩ = some (.slice fa b.length fc) ∧ w'.cell? ⟨q, 1, none⟩ = some (.int .i64 fg)) (by kernel_rfl) (by kernel_rfl) (by rintro ⟨_, _, h⟩; exact h) ?_
    have hS0 : (fun w' : World => w'.cell? ⟨q, 0, none⟩ = some (.slice fa b.length fc) ∧ w'.cell? ⟨q, 1, none⟩ = some (.int .i64 fg)) W.drew := ⟨y0, y1⟩
    have hs2w : w.heap.size < w2.heap.size := by omega
    have hml : m ≤ 100000 := by have h1 := Hm.out; have h2 := forall_len Hall.out; rw [List.length_map] at h2; have h3 := congrArg List.length HZK.out; rw [List.length_map, List.length_zipIdx] at h3; omega
    refine wpAnyH_take (i := 1) (oi := ⟨some 18, _, _, _, _, _⟩) (v := .pointer (some ⟨q, 0, none⟩)) rfl (by kernel_rfl) (by kernel_rfl) (by kernel_rfl) (fun _ _ _ h => h) (Or.inl ⟨by rfl, ?_⟩) hS0 ?_
    · intro w' hSw
      go_simp
    try simp only [Act.put, List.setIfInBounds_toArray, List.set_cons_zero, List.set_cons_succ]
    refine wpAnyH_take (i := 2) (oi := ⟨some 19, _, _, _, _, _⟩) (v := .slice fa b.length fc) rfl (by kernel_rfl) (by kernel_rfl) (by kernel_rfl) (fun _ _ _ h => h) (Or.inl ⟨by rfl, ?_⟩) hS0 ?_
    · intro w' hSw
      obtain ⟨s0, s1⟩ := hSw
      go_simp
    try simp only [Act.put, List.setIfInBounds_toArray, List.set_cons_zero, List.set_cons_succ]
    refine wpAnyH_take (i := 4) (oi := ⟨some 21, _, _, _, _, _⟩) (v := .pointer (some ⟨q, 1, none⟩)) rfl (by kernel_rfl) (by kernel_rfl) (by kernel_rfl) (fun _ _ _ h => h) (Or.inl ⟨by rfl, ?_⟩) hS0 ?_
    · intro w' hSw
      go_simp
    try simp only [Act.put, List.setIfInBounds_toArray, List.set_cons_zero, List.set_cons_succ]
    refine wpAnyH_take (i := 5) (oi := ⟨some 22, _, _, _, _, _⟩) (v := .int .i64 fg) rfl (by kernel_rfl) (by kernel_rfl) (by kernel_rfl) (fun _ _ _ h => h) (Or.inl ⟨by rfl, ?_⟩) hS0 ?_
    · intro w' hSw
      obtain ⟨s0, s1⟩ := hSw
      go_simp
    try simp only [Act.put, List.setIfInBounds_toArray, List.set_cons_zero, List.set_cons_succ]
    refine wpAnyH_ready (rs := [0, 3]) (by kernel_rfl) (by simp) ?_
    refine AllReadyH.cons (i := 0) (o := ⟨some 17, _, _, _, _, _⟩) rfl (fun K hK => ?_) ?_
    · go_simp
      refine hK.out _ _ hS0 (fun hHeld => ?_)
      clear hK
      try simp only [Act.put, List.setIfInBounds_toArray, List.set_cons_zero, List.set_cons_succ]
      refine wpAnyH_ready (rs := [3]) (by kernel_rfl) (by simp) ?_
      refine AllReadyH.cons (i := 3) (o := ⟨some 20, _, _, _, _, _⟩) rfl (fun K hK => ?_) ?_
      · go_simp
        go_at_call 33
        refine (cloneB _ b W.drew (ownB_below Hxo.out (HI.out.bel.trans (Below.refl _ W).drew)).rd hxl).mono ?_
        rintro e w3 ⟨v3, rfl, o3, b3⟩
        obtain ⟨a3, c3, hv3, _⟩ := own_shape o3
        subst hv3
        have b3' : Below W.heap.size W w3 := ((Below.refl _ W).drew).trans b3
        have O3 := Lib.hid (show OwnB 0 w3 (.slice a3 b.length c3) b from own_zero o3)
        have B3 := Lib.hid b3'
        have k3 : w3.cell? ⟨w.heap.size, 0, none⟩ = some (.slice oa m oc) := (b3'.cell (lt_of_block Ho.out)).trans k1
        have hol : w.heap.size < w3.heap.size := Nat.lt_of_lt_of_le (lt_of_block Ho.out) b3'.size
        have hql : q < w3.heap.size := Nat.lt_of_lt_of_le (lt_of_block Hq.out) b3'.size
        have hq3 := (b3'.block q (lt_of_block Hq.out)).trans Hq.out
        have s3 : w3.cell? ⟨q, 0, none⟩ = some (.slice fa b.length fc) ∧ w3.cell? ⟨q, 1, none⟩ = some (.int .i64 fg) := ⟨blk_cell hq3 0, blk_cell hq3 1⟩
        have hA : Below W.heap.size W (w3.alloc (.cells #[.slice a3 b.length c3, .int .i64 fg] 39)) := b3'.alloc b3'.size _
        have hqA := (hA.block q (lt_of_block Hq.out)).trans Hq.out
        have sA : (w3.alloc (.cells #[.slice a3 b.length c3, .int .i64 fg] 39)).cell? ⟨q, 0, none⟩ = some (.slice fa b.length fc) ∧ (w3.alloc (.cells #[.slice a3 b.length c3, .int .i64 fg] 39)).cell? ⟨q, 1, none⟩ = some (.int .i64 fg) := ⟨blk_cell hqA 0, blk_cell hqA 1⟩
        have OA := Lib.hid (show (w3.alloc (.cells #[.slice a3 b.length c3, .int .i64 fg] 39)).ownsRow w2.heap.size 39 2 (.slice oa m oc) m (fo.flatMap enF) by have := (Hown.out.keep (fun g hg => hA.block g (own_lt Hown.out hg))); unfold Own at this; rw [← Hm.out] at this; exact this)
        have RA := Lib.hid (show Rd (w3.alloc (.cells #[.slice a3 b.length c3, .int .i64 fg] 39)) 2 (.slice (some ⟨w3.heap.size, 0, none⟩) 1 1) 1 (enF ⟨a3, b.length, c3, fg⟩) from Rd.new rfl rfl)
        have SZ : w2.heap.size ≤ (w3.alloc (.cells #[.slice a3 b.length c3, .int .i64 fg] 39)).heap.size := Nat.le_trans HI.out.ge hA.size
        clear o3 b3 b3' hq3 hqA hA
        refine hK.out _ _ s3 (fun hHeld => ?_)
        clear hK
        try simp only [Act.put, List.setIfInBounds_toArray, List.set_cons_zero, List.set_cons_succ]
        refine wpAnyH_take (i := 6) (oi := ⟨some 23, _, _, _, _, _⟩) (v := .agg #[.slice a3 b.length c3, .int .i64 fg]) rfl (by kernel_rfl) (by kernel_rfl) (by kernel_rfl) (fun _ _ _ h => h) (Or.inl ⟨by rfl, ?_⟩) s3 ?_
        · intro w' hSw
          go_simp
        try simp only [Act.put, List.setIfInBounds_toArray, List.set_cons_zero, List.set_cons_succ]
        refine wpAnyH_ready (rs := [7]) (by kernel_rfl) (by simp) ?_
        refine AllReadyH.cons (i := 7) (o := ⟨some 24, _, _, _, _, _⟩) rfl (fun K hK => ?_) ?_
        · go_simp
          refine hK.out _ _ sA (fun hHeld => ?_)
          clear hK
          try simp only [Act.put, List.setIfInBounds_toArray, List.set_cons_zero, List.set_cons_succ]
          refine wpAnyH_ready (rs := [8]) (by kernel_rfl) (by simp) ?_
          refine AllReadyH.cons (i := 8) (o := ⟨some 25, _, _, _, _, _⟩) rfl (fun K hK => ?_) ?_
          · refine step_app (B := w2.heap.size) (v := .slice oa m oc) (n := m) (m := 1) rfl (.tmp 17) (.tmp 24) 36 rfl 39 i0 _ 2 _ Try.underlying36 hi0 hz0 hz1 hz2 rfl (by decide) SZ rfl rfl OA.out RA.out (enF_one _) (by unfold maxLen; omega) (by omega) ?_
            intro v5 w5 o5 f5 m5 n5 z5
            have F5 := Lib.hid (row_fin hs2w HI.out Ho.out Hown.out Hall.out Hm.out Hcm.out B3.out O3.out o5 f5 m5)
            have k5 : w5.cell? ⟨w.heap.size, 0, none⟩ = some (.slice oa m oc) := cell_of_one F5.out.1
            have z5' : w5.frozen? ⟨w.heap.size, 0, none⟩ = false := free_of_one F5.out.1
            have hqA := ((B3.out.alloc B3.out.size (.cells #[.slice a3 b.length c3, .int .i64 fg] 39)).block q (lt_of_block Hq.out)).trans Hq.out
            have hq5 := f5.heap hqA HNQ.out
            have hq6 := ((Fr.refl (fun k => k = w.heap.size) w5).setCell (p := ⟨w.heap.size, 0, none⟩) (fun _ => rfl) v5).heap hq5 (fun e => hwq (by rw [e]))
            have s5 : w5.cell? ⟨q, 0, none⟩ = some (.slice fa b.length fc) ∧ w5.cell? ⟨q, 1, none⟩ = some (.int .i64 fg) := ⟨blk_cell hq5 0, blk_cell hq5 1⟩
            obtain ⟨a5, c5, hv5, _⟩ := own_shape o5
            subst hv5
            have s6 : (w5.setCell ⟨w.heap.size, 0, none⟩ (.slice a5 (m + 1) c5)).cell? ⟨q, 0, none⟩ = some (.slice fa b.length fc) ∧ (w5.setCell ⟨w.heap.size, 0, none⟩ (.slice a5 (m + 1) c5)).cell? ⟨q, 1, none⟩ = some (.int .i64 fg) := ⟨blk_cell hq6 0, blk_cell hq6 1⟩
            clear hq5 hq6 hqA o5 f5 m5 n5 z5
            try simp only [Act.put, List.setIfInBounds_toArray, List.set_cons_zero, List.set_cons_succ]
            refine hK.out _ _ s5 (fun hHeld => ?_)
            clear hK
            try simp only [Act.put, List.setIfInBounds_toArray, List.set_cons_zero, List.set_cons_succ]
            refine wpAnyH_ready (rs := [9]) (by kernel_rfl) (by simp) ?_
            refine AllReadyH.cons (i := 9) (o := ⟨none, _, _, _, _, _⟩) rfl (fun K hK => ?_) ?_
            · go_simp
              refine hK.out _ _ s6 (fun hHeld => ?_)
              clear hK
              try simp only [Act.put, List.setIfInBounds_toArray, List.set_cons_zero, List.set_cons_succ]
              refine wpAnyH_done (by kernel_rfl) ?_ _
              exact F5.out.2
            exact AllReadyH.nil
          exact AllReadyH.nil
        exact AllReadyH.nil
      exact AllReadyH.nil
    refine AllReadyH.cons (i := 3) (o := ⟨some 20, _, _, _, _, _⟩) rfl (fun K hK => ?_) ?_
    · go_simp
      go_at_call 33
      refine (cloneB _ b W.drew (ownB_below Hxo.out (HI.out.bel.trans (Below.refl _ W).drew)).rd hxl).mono ?_
      rintro e w3 ⟨v3, rfl, o3, b3⟩
      obtain ⟨a3, c3, hv3, _⟩ := own_shape o3
      subst hv3
      have b3' : Below W.heap.size W w3 := ((Below.refl _ W).drew).trans b3
      have O3 := Lib.hid (show OwnB 0 w3 (.slice a3 b.length c3) b from own_zero o3)
      have B3 := Lib.hid b3'
      have k3 : w3.cell? ⟨w.heap.size, 0, none⟩ = some (.slice oa m oc) := (b3'.cell (lt_of_block Ho.out)).trans k1
      have hol : w.heap.size < w3.heap.size := Nat.lt_of_lt_of_le (lt_of_block Ho.out) b3'.size
      have hql : q < w3.heap.size := Nat.lt_of_lt_of_le (lt_of_block Hq.out) b3'.size
      have hq3 := (b3'.block q (lt_of_block Hq.out)).trans Hq.out
      have s3 : w3.cell? ⟨q, 0, none⟩ = some (.slice fa b.length fc) ∧ w3.cell? ⟨q, 1, none⟩ = some (.int .i64 fg) := ⟨blk_cell hq3 0, blk_cell hq3 1⟩
      have hA : Below W.heap.size W (w3.alloc (.cells #[.slice a3 b.length c3, .int .i64 fg] 39)) := b3'.alloc b3'.size _
      have hqA := (hA.block q (lt_of_block Hq.out)).trans Hq.out
      have sA : (w3.alloc (.cells #[.slice a3 b.length c3, .int .i64 fg] 39)).cell? ⟨q, 0, none⟩ = some (.slice fa b.length fc) ∧ (w3.alloc (.cells #[.slice a3 b.length c3, .int .i64 fg] 39)).cell? ⟨q, 1, none⟩ = some (.int .i64 fg) := ⟨blk_cell hqA 0, blk_cell hqA 1⟩
      have OA := Lib.hid (show (w3.alloc (.cells #[.slice a3 b.length c3, .int .i64 fg] 39)).ownsRow w2.heap.size 39 2 (.slice oa m oc) m (fo.flatMap enF) by have := (Hown.out.keep (fun g hg => hA.block g (own_lt Hown.out hg))); unfold Own at this; rw [← Hm.out] at this; exact this)
      have RA := Lib.hid (show Rd (w3.alloc (.cells #[.slice a3 b.length c3, .int .i64 fg] 39)) 2 (.slice (some ⟨w3.heap.size, 0, none⟩) 1 1) 1 (enF ⟨a3, b.length, c3, fg⟩) from Rd.new rfl rfl)
      have SZ : w2.heap.size ≤ (w3.alloc (.cells #[.slice a3 b.length c3, .int .i64 fg] 39)).heap.size := Nat.le_trans HI.out.ge hA.size
      clear o3 b3 b3' hq3 hqA hA
      refine hK.out _ _ s3 (fun hHeld => ?_)
      clear hK
      try simp only [Act.put, List.setIfInBounds_toArray, List.set_cons_zero, List.set_cons_succ]
      refine wpAnyH_take (i := 6) (oi := ⟨some 23, _, _, _, _, _⟩) (v := .agg #[.slice a3 b.length c3, .int .i64 fg]) rfl (by kernel_rfl) (by kernel_rfl) (by kernel_rfl) (fun _ _ _ h => h) (Or.inl ⟨by rfl, ?_⟩) s3 ?_
      · intro w' hSw
        go_simp
      try simp only [Act.put, List.setIfInBounds_toArray, List.set_cons_zero, List.set_cons_succ]
      refine wpAnyH_ready (rs := [0, 7]) (by kernel_rfl) (by simp) ?_
      refine AllReadyH.cons (i := 0) (o := ⟨some 17, _, _, _, _, _⟩) rfl (fun K hK => ?_) ?_
      · go_simp
        refine hK.out _ _ s3 (fun hHeld => ?_)
        clear hK
        try simp only [Act.put, List.setIfInBounds_toArray, List.set_cons_zero, List.set_cons_succ]
        refine wpAnyH_ready (rs := [7]) (by kernel_rfl) (by simp) ?_
        refine AllReadyH.cons (i := 7) (o := ⟨some 24, _, _, _, _, _⟩) rfl (fun K hK => ?_) ?_
        · go_simp
          refine hK.out _ _ sA (fun hHeld => ?_)
          clear hK
          try simp only [Act.put, List.setIfInBounds_toArray, List.set_cons_zero, List.set_cons_succ]
          refine wpAnyH_ready (rs := [8]) (by kernel_rfl) (by simp) ?_
          refine AllReadyH.cons (i := 8) (o := ⟨some 25, _, _, _, _, _⟩) rfl (fun K hK => ?_) ?_
          · refine step_app (B := w2.heap.size) (v := .slice oa m oc) (n := m) (m := 1) rfl (.tmp 17) (.tmp 24) 36 rfl 39 i0 _ 2 _ Try.underlying36 hi0 hz0 hz1 hz2 rfl (by decide) SZ rfl rfl OA.out RA.out (enF_one _) (by unfold maxLen; omega) (by omega) ?_
            intro v5 w5 o5 f5 m5 n5 z5
            have F5 := Lib.hid (row_fin hs2w HI.out Ho.out Hown.out Hall.out Hm.out Hcm.out B3.out O3.out o5 f5 m5)
            have k5 : w5.cell? ⟨w.heap.size, 0, none⟩ = some (.slice oa m oc) := cell_of_one F5.out.1
            have z5' : w5.frozen? ⟨w.heap.size, 0, none⟩ = false := free_of_one F5.out.1
            have hqA := ((B3.out.alloc B3.out.size (.cells #[.slice a3 b.length c3, .int .i64 fg] 39)).block q (lt_of_block Hq.out)).trans Hq.out
            have hq5 := f5.heap hqA HNQ.out
            have hq6 := ((Fr.refl (fun k => k = w.heap.size) w5).setCell (p := ⟨w.heap.size, 0, none⟩) (fun _ => rfl) v5).heap hq5 (fun e => hwq (by rw [e]))
            have s5 : w5.cell? ⟨q, 0, none⟩ = some (.slice fa b.length fc) ∧ w5.cell? ⟨q, 1, none⟩ = some (.int .i64 fg) := ⟨blk_cell hq5 0, blk_cell hq5 1⟩
            obtain ⟨a5, c5, hv5, _⟩ := own_shape o5
            subst hv5
            have s6 : (w5.setCell ⟨w.heap.size, 0, none⟩ (.slice a5 (m + 1) c5)).cell? ⟨q, 0, none⟩ = some (.slice fa b.length fc) ∧ (w5.setCell ⟨w.heap.size, 0, none⟩ (.slice a5 (m + 1) c5)).cell? ⟨q, 1, none⟩ = some (.int .i64 fg) := ⟨blk_cell hq6 0, blk_cell hq6 1⟩
            clear hq5 hq6 hqA o5 f5 m5 n5 z5
            try simp only [Act.put, List.setIfInBounds_toArray, List.set_cons_zero, List.set_cons_succ]
            refine hK.out _ _ s5 (fun hHeld => ?_)
            clear hK
            try simp only [Act.put, List.setIfInBounds_toArray, List.set_cons_zero, List.set_cons_succ]
            refine wpAnyH_ready (rs := [9]) (by kernel_rfl) (by simp) ?_
            refine AllReadyH.cons (i := 9) (o := ⟨none, _, _, _, _, _⟩) rfl (fun K hK => ?_) ?_
            · go_simp
              refine hK.out _ _ s6 (fun hHeld => ?_)
              clear hK
              try simp only [Act.put, List.setIfInBounds_toArray, List.set_cons_zero, List.set_cons_succ]
              refine wpAnyH_done (by kernel_rfl) ?_ _
              exact F5.out.2
            exact AllReadyH.nil
          exact AllReadyH.nil
        exact AllReadyH.nil
      refine AllReadyH.cons (i := 7) (o := ⟨some 24, _, _, _, _, _⟩) rfl (fun K hK => ?_) ?_
      · go_simp
        refine hK.out _ _ sA (fun hHeld => ?_)
        clear hK
        try simp only [Act.put, List.setIfInBounds_toArray, List.set_cons_zero, List.set_cons_succ]
        refine wpAnyH_ready (rs := [0]) (by kernel_rfl) (by simp) ?_
        refine AllReadyH.cons (i := 0) (o := ⟨some 17, _, _, _, _, _⟩) rfl (fun K hK => ?_) ?_
        · go_simp
          refine hK.out _ _ sA (fun hHeld => ?_)
          clear hK
          try simp only [Act.put, List.setIfInBounds_toArray, List.set_cons_zero, List.set_cons_succ]
          refine wpAnyH_ready (rs := [8]) (by kernel_rfl) (by simp) ?_
          refine AllReadyH.cons (i := 8) (o := ⟨some 25, _, _, _, _, _⟩) rfl (fun K hK => ?_) ?_
          · refine step_app (B := w2.heap.size) (v := .slice oa m oc) (n := m) (m := 1) rfl (.tmp 17) (.tmp 24) 36 rfl 39 i0 _ 2 _ Try.underlying36 hi0 hz0 hz1 hz2 rfl (by decide) SZ rfl rfl OA.out RA.out (enF_one _) (by unfold maxLen; omega) (by omega) ?_
            intro v5 w5 o5 f5 m5 n5 z5
            have F5 := Lib.hid (row_fin hs2w HI.out Ho.out Hown.out Hall.out Hm.out Hcm.out B3.out O3.out o5 f5 m5)
            have k5 : w5.cell? ⟨w.heap.size, 0, none⟩ = some (.slice oa m oc) := cell_of_one F5.out.1
            have z5' : w5.frozen? ⟨w.heap.size, 0, none⟩ = false := free_of_one F5.out.1
            have hqA := ((B3.out.alloc B3.out.size (.cells #[.slice a3 b.length c3, .int .i64 fg] 39)).block q (lt_of_block Hq.out)).trans Hq.out
            have hq5 := f5.heap hqA HNQ.out
            have hq6 := ((Fr.refl (fun k => k = w.heap.size) w5).setCell (p := ⟨w.heap.size, 0, none⟩) (fun _ => rfl) v5).heap hq5 (fun e => hwq (by rw [e]))
            have s5 : w5.cell? ⟨q, 0, none⟩ = some (.slice fa b.length fc) ∧ w5.cell? ⟨q, 1, none⟩ = some (.int .i64 fg) := ⟨blk_cell hq5 0, blk_cell hq5 1⟩
            obtain ⟨a5, c5, hv5, _⟩ := own_shape o5
            subst hv5
            have s6 : (w5.setCell ⟨w.heap.size, 0, none⟩ (.slice a5 (m + 1) c5)).cell? ⟨q, 0, none⟩ = some (.slice fa b.length fc) ∧ (w5.setCell ⟨w.heap.size, 0, none⟩ (.slice a5 (m + 1) c5)).cell? ⟨q, 1, none⟩ = some (.int .i64 fg) := ⟨blk_cell hq6 0, blk_cell hq6 1⟩
            clear hq5 hq6 hqA o5 f5 m5 n5 z5
            try simp only [Act.put, List.setIfInBounds_toArray, List.set_cons_zero, List.set_cons_succ]
            refine hK.out _ _ s5 (fun hHeld => ?_)
            clear hK
            try simp only [Act.put, List.setIfInBounds_toArray, List.set_cons_zero, List.set_cons_succ]
            refine wpAnyH_ready (rs := [9]) (by kernel_rfl) (by simp) ?_
            refine AllReadyH.cons (i := 9) (o := ⟨none, _, _, _, _, _⟩) rfl (fun K hK => ?_) ?_
            · go_simp
              refine hK.out _ _ s6 (fun hHeld => ?_)
              clear hK
              try simp only [Act.put, List.setIfInBounds_toArray, List.set_cons_zero, List.set_cons_succ]
              refine wpAnyH_done (by kernel_rfl) ?_ _
              exact F5.out.2
            exact AllReadyH.nil
          exact AllReadyH.nil
        exact AllReadyH.nil
      exact AllReadyH.nil
    exact AllReadyH.nil
  case done =>
    rintro D ys W hD rfl hi hK
    obtain ⟨ov, fo, ho, hown, hall⟩ := hi.out
    have k1 := cell_of_one ho
    have HI := Lib.hid hi
    have Hown := Lib.hid hown
    have Hall := Lib.hid hall
    have HK := Lib.hid hK
    clear hi ho hown hK hall
    go_wp2_with fail
    refine ⟨by simp, .inl ⟨_, _, rfl, run_takeDeferred HK.out, ?_⟩⟩
    have hf := fr_putObj W D w2.heap.size (.deferred none) _ hD HK.out rfl
    refine ⟨_, results_tmp rfl _ _ _, ov, fo, rfl, ?_, ?_, ?_⟩
    · have h1 := Hown.out.stay hf
      exact own_base (own_zero h1) (fun g hg => by have := (h1.lt g hg).1; omega)
    · have := forall_imp Hall.out (R' := FlB (W.putObj D (.deferred none))) (fun f p e => ⟨Own.stay e.1 hf, e.2⟩)
      rw [HZL.out] at this
      exact this
    · exact below_stay HI.out.bel hf (by omega) (Nat.le_refl _)
  case stop =>
    rintro D cd pre W hD _ h hK
    exact h.elim
theorem rowG {w : World} {F : Nat → Prop} {t st : Nat} {life lost most : Int} {qs : List FlA} (h : LG w F t st life lost most qs) (a c : Int) :
    Calls Try.prog 19 #[.pointer (some ⟨t, 0, none⟩), .int .i64 a, .int .i64 c] w fun e w' => ∃ ov fo, e = .returned ov ∧ Own enF 39 2 w.heap.size w' ov fo ∧ All2 (FlB w') fo (rowP st a c (qs, lost)) ∧ Below w.heap.size w w' ∧ LG w' F t st life lost most qs := by
  obtain ⟨rv, ps, Fs, h⟩ := h
  unfold rowP
  have ht := lt_of_block h.blk
  cases hk : rix st a c with
  | none =>
    dsimp only
    refine (rowV (l := []) ht (fun W hW => (rowNone (h.below hW) hk).mono fun e w' ⟨h1, h2⟩ => ⟨h1, by rw [h2]; exact Below.refl _ _⟩) (EaF.nil w) trivial (fun p hp => by cases hp)).mono fun e w' ⟨ov, fo, h1, h2, h3, h4⟩ => ⟨ov, fo, h1, h2, h3, h4, rv, ps, Fs, h.below h4⟩
  | some k =>
    dsimp only [rowAt]
    obtain ⟨A, B, _, _, _, _, _, _, hlt⟩ := rix_lt hk
    have hi : k < ps.length := by rw [h.len]; exact hlt
    obtain ⟨sv, fl, h1, h2, h3, h4, h5⟩ := (h.row hi).ex
    exact (rowV ht (fun W hW => (rowSome (h.below hW) hk).mono fun e w' ⟨_, h1, h2⟩ => ⟨h1, h2⟩) (EaF.of h1) h2 (fun p hp => by have := (h.okAt hi p hp).len; omega)).mono fun e w' ⟨ov, fo, h1, h2, h3, h4⟩ => ⟨ov, fo, h1, h2, h3, h4, rv, ps, Fs, h.below h4⟩
end Go.Proofs.Yteihpaikdpdglaa
