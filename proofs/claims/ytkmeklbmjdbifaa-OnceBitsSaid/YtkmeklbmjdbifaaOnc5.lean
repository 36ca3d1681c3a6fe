/-
  Package once: Hear.
-/
import Derived.Test.YtkmeklbmjdbifaaOnc4
namespace Go.Proofs.Ytkmeklbmjdbifaa
open Go.RowKit
set_option linter.unusedVariables false


/-- Is it the answer? -/
def hearOk (near there : Int) (s : Sk) (p : Pd) : Bool := s.asks && mayP p && (p.fr == there) && (p.dt == near) && p.resp && (p.form == 2) && (p.kind == 8 + s.bit) && (p.poll == s.poll)

section
variable {w : World} {F : Nat → Prop} {o : Nat} {c : Cf} {near there : Int} {s : Sk}

set_option maxHeartbeats 4000000 in
set_option maxRecDepth 100000 in
theorem ohearNo (h : OnA w F o c near there s) (p : Pd) (pa : Option Addr) (k : Nat) (hk : hearOk near there s p = false) :
    Calls Try.prog 14 #[.pointer (some ⟨o, 0, none⟩), pdV p (.slice pa p.info.length k)] w fun e w' => e = .returned (resV false 0 (.slice none 0 0)) ∧ Below w.heap.size w w' := by
  have h' := h
  obtain ⟨q, v, h, hF⟩ := h
  have ho := lt_of_block h.blk
  obtain ⟨W2, hW2⟩ : ∃ W2, W2 = (w.alloc (.cells (pdCs p (.slice pa p.info.length k)) 33)).alloc (.cells res0 37) := ⟨_, rfl⟩
  have hal : Below w.heap.size w W2 := by rw [hW2]; exact ((Below.refl _ w).alloc (Nat.le_refl _) _).alloc (by simp) _
  obtain ⟨b0, hb0⟩ : ∃ b, b = w.heap.size := ⟨_, rfl⟩
  have hp := (hal.block o ho).trans h.blk
  have hp0 : W2.heap[b0]? = some (.cells (pdCs p (.slice pa p.info.length k)) 33 (0, 0)) := by
    rw [hW2, hb0]
    exact (heap_alloc_lt _ _ (by simp)).trans (heap_alloc_new' w _)
  have hp1 : W2.heap[b0 + 1]? = some (.cells res0 37 (0, 0)) := by
    rw [hW2, hb0]
    have := heap_alloc_new' (w.alloc (.cells (pdCs p (.slice pa p.info.length k)) 33)) (.cells res0 37)
    simpa using this
  have f3 : ∀ x : After W2, x.w'.cell? ⟨o, 3, none⟩ = some (.int .i64 near) := fun x => x.cell (blk_cell hp 3)
  have f4 : ∀ x : After W2, x.w'.cell? ⟨o, 4, none⟩ = some (.int .i64 there) := fun x => x.cell (blk_cell hp 4)
  have f6 : ∀ x : After W2, x.w'.cell? ⟨o, 6, none⟩ = some (.bool s.asks) := fun x => x.cell (blk_cell hp 6)
  have g0 : ∀ x : After W2, x.w'.cell? ⟨b0, 0, none⟩ = some (.int .i64 p.dt) := fun x => x.cell (blk_cell hp0 0)
  have g1 : ∀ x : After W2, x.w'.cell? ⟨b0, 1, none⟩ = some (.int .i64 p.fr) := fun x => x.cell (blk_cell hp0 1)
  have g2 : ∀ x : After W2, x.w'.cell? ⟨b0, 2, none⟩ = some (.bool p.resp) := fun x => x.cell (blk_cell hp0 2)
  have g3 : ∀ x : After W2, x.w'.cell? ⟨b0, 3, none⟩ = some (.int .i64 p.form) := fun x => x.cell (blk_cell hp0 3)
  have g4 : ∀ x : After W2, x.w'.cell? ⟨b0, 4, none⟩ = some (.int .i64 p.kind) := fun x => x.cell (blk_cell hp0 4)
  have g5 : ∀ x : After W2, x.w'.cell? ⟨b0, 5, none⟩ = some (.int .i64 p.ns) := fun x => x.cell (blk_cell hp0 5)
  have g6 : ∀ x : After W2, x.w'.cell? ⟨b0, 6, none⟩ = some (.int .i64 p.nr) := fun x => x.cell (blk_cell hp0 6)
  have g7 : ∀ x : After W2, x.w'.cell? ⟨b0, 7, none⟩ = some (.bool p.poll) := fun x => x.cell (blk_cell hp0 7)
  have g8 : ∀ x : After W2, x.w'.cell? ⟨b0, 8, none⟩ = some (.slice pa p.info.length k) := fun x => x.cell (blk_cell hp0 8)
  have HA := Lib.hid (h'.below hal)
  have HB := Lib.hid hal
  have P1 := Lib.hid hp1
  have Hb0 := Lib.hid hb0
  have hres : Try.f14.results = #[.cell 4 37] := by kernel_rfl
  have Hres := Lib.hid hres
  cases e0 : s.asks with
  | false =>
    as_aux_lemma =>
      have f6' : ∀ x : After W2, x.w'.cell? ⟨o, 6, none⟩ = some (.bool false) := fun x => by rw [f6 x, e0]
      clear f6 hres h' h hF hp hp0 hp1 hal hk
      go_enter Try.func14, Try.ntmps14
      go_upto_region 1 with fail
      rw [← hW2, ← hb0]
      clear hW2 hb0
      refine wp_region_after (by kernel_rfl) (by kernel_rfl) ?_
      repeat (go_big_quiet_step ((go_at_call 15; exact Calls.after_of ((obusy (HA.out.below (After.h _))).mono fun _ _ ⟨he, hw⟩ => ⟨by rw [he, e0], by rw [hw]; exact Below.refl _ _⟩))))
      refine wpQuiet_nil ?_
      rintro w1 ⟨⟨_, hb⟩, rfl⟩
      have p1 := (hb.block (b0 + 1) (lt_of_block P1.out)).trans P1.out
      have u0 : w1.cell? ⟨b0 + 1, 0, none⟩ = some (.bool false) := blk_cell p1 0
      have u1 : w1.cell? ⟨b0 + 1, 1, none⟩ = some (.int .i64 0) := blk_cell p1 1
      have u2 : w1.cell? ⟨b0 + 1, 2, none⟩ = some (.slice none 0 0) := blk_cell p1 2
      have uz : ∀ i, w1.frozen? ⟨b0 + 1, i, none⟩ = false := fun i => blk_free p1 i
      have hlt : b0 + 1 < w1.heap.size := lt_of_block p1
      have Bel : Hid (Below w.heap.size w w1) := HB.out.trans (hb.mono HB.out.size)
      clear p1 hb g0 g1 g2 g3 g4 g5 g6 g7 g8 f3 f4
      go_wp2_with fail
      refine bodyPost_ret (v := resV false 0 (.slice none 0 0)) ?_ rfl ?_
      · simp only [results, Hres.out]
        go_simp
      · exact ⟨rfl, below_set (below_set (below_set Bel.out (by have := Hb0.out; show w.heap.size ≤ b0 + 1; omega) _) (by have := Hb0.out; show w.heap.size ≤ b0 + 1; omega) _) (by have := Hb0.out; show w.heap.size ≤ b0 + 1; omega) _⟩
  | true =>
    have hq := h.asks e0
    subst hq
    have f6' : ∀ x : After W2, x.w'.cell? ⟨o, 6, none⟩ = some (.bool true) := fun x => by rw [f6 x, e0]
    have f11 : ∀ x : After W2, x.w'.cell? ⟨o, 11, none⟩ = some (.int .i64 (8 + s.bit)) := fun x => x.cell (blk_cell hp 11)
    have f14 : ∀ x : After W2, x.w'.cell? ⟨o, 14, none⟩ = some (.bool s.poll) := fun x => x.cell (blk_cell hp 14)
    unfold hearOk at hk
    rw [e0] at hk
    clear f6 hres h' h hF hp hp0 hp1 hal
    cases e1 : mayP p with
    | false =>
      as_aux_lemma =>
        have Hm : Hid (∀ W : World, Calls Try.prog 29 #[.agg #[.int .i64 p.dt, .int .i64 p.fr, .bool p.resp, .int .i64 p.form, .int .i64 p.kind, .int .i64 p.ns, .int .i64 p.nr, .bool p.poll, .slice pa p.info.length k]] W fun e w' => e = .returned (.bool false) ∧ Below W.heap.size W w') := fun W => by
          have h := pmay p pa k W
          rw [e1] at h
          exact h
        clear hk
        go_enter Try.func14, Try.ntmps14
        go_upto_region 1 with fail
        rw [← hW2, ← hb0]
        clear hW2 hb0
        refine wp_region_after (by kernel_rfl) (by kernel_rfl) ?_
        repeat (go_big_quiet_step ((first | (go_at_call 15; exact Calls.after_of ((obusy (HA.out.below (After.h _))).mono fun _ _ ⟨he, hw⟩ => ⟨by rw [he, e0], by rw [hw]; exact Below.refl _ _⟩)) | (go_at_call 29; exact Calls.after_of (Hm.out _)))))
        refine wpQuiet_nil ?_
        rintro w1 ⟨⟨_, hb⟩, rfl⟩
        have p1 := (hb.block (b0 + 1) (lt_of_block P1.out)).trans P1.out
        have u0 : w1.cell? ⟨b0 + 1, 0, none⟩ = some (.bool false) := blk_cell p1 0
        have u1 : w1.cell? ⟨b0 + 1, 1, none⟩ = some (.int .i64 0) := blk_cell p1 1
        have u2 : w1.cell? ⟨b0 + 1, 2, none⟩ = some (.slice none 0 0) := blk_cell p1 2
        have uz : ∀ i, w1.frozen? ⟨b0 + 1, i, none⟩ = false := fun i => blk_free p1 i
        have hlt : b0 + 1 < w1.heap.size := lt_of_block p1
        have Bel : Hid (Below w.heap.size w w1) := HB.out.trans (hb.mono HB.out.size)
        clear p1 hb g0 g1 g2 g3 g4 g5 g6 g7 g8 f3 f4 f11 f14
        go_wp2_with fail
        refine bodyPost_ret (v := resV false 0 (.slice none 0 0)) ?_ rfl ?_
        · simp only [results, Hres.out]
          go_simp
        · exact ⟨rfl, below_set (below_set (below_set Bel.out (by have := Hb0.out; show w.heap.size ≤ b0 + 1; omega) _) (by have := Hb0.out; show w.heap.size ≤ b0 + 1; omega) _) (by have := Hb0.out; show w.heap.size ≤ b0 + 1; omega) _⟩
    | true =>
      have Hm : Hid (∀ W : World, Calls Try.prog 29 #[.agg #[.int .i64 p.dt, .int .i64 p.fr, .bool p.resp, .int .i64 p.form, .int .i64 p.kind, .int .i64 p.ns, .int .i64 p.nr, .bool p.poll, .slice pa p.info.length k]] W fun e w' => e = .returned (.bool true) ∧ Below W.heap.size W w') := fun W => by
        have h := pmay p pa k W
        rw [e1] at h
        exact h
      cases e2 : (p.fr == there) with
      | false =>
        as_aux_lemma =>
          have d2 : (p.fr != there) = true := by rw [bne, e2]; rfl
          clear hk
          go_enter Try.func14, Try.ntmps14
          go_upto_region 1 with fail
          rw [← hW2, ← hb0]
          clear hW2 hb0
          refine wp_region_after (by kernel_rfl) (by kernel_rfl) ?_
          repeat (go_big_quiet_step ((first | (go_at_call 15; exact Calls.after_of ((obusy (HA.out.below (After.h _))).mono fun _ _ ⟨he, hw⟩ => ⟨by rw [he, e0], by rw [hw]; exact Below.refl _ _⟩)) | (go_at_call 29; exact Calls.after_of (Hm.out _)))))
          refine wpQuiet_nil ?_
          rintro w1 ⟨⟨_, hb⟩, rfl⟩
          have p1 := (hb.block (b0 + 1) (lt_of_block P1.out)).trans P1.out
          have u0 : w1.cell? ⟨b0 + 1, 0, none⟩ = some (.bool false) := blk_cell p1 0
          have u1 : w1.cell? ⟨b0 + 1, 1, none⟩ = some (.int .i64 0) := blk_cell p1 1
          have u2 : w1.cell? ⟨b0 + 1, 2, none⟩ = some (.slice none 0 0) := blk_cell p1 2
          have uz : ∀ i, w1.frozen? ⟨b0 + 1, i, none⟩ = false := fun i => blk_free p1 i
          have hlt : b0 + 1 < w1.heap.size := lt_of_block p1
          have Bel : Hid (Below w.heap.size w w1) := HB.out.trans (hb.mono HB.out.size)
          clear p1 hb g0 g1 g2 g3 g4 g5 g6 g7 g8 f3 f4 f11 f14
          go_wp2_with fail
          refine bodyPost_ret (v := resV false 0 (.slice none 0 0)) ?_ rfl ?_
          · simp only [results, Hres.out]
            go_simp
          · exact ⟨rfl, below_set (below_set (below_set Bel.out (by have := Hb0.out; show w.heap.size ≤ b0 + 1; omega) _) (by have := Hb0.out; show w.heap.size ≤ b0 + 1; omega) _) (by have := Hb0.out; show w.heap.size ≤ b0 + 1; omega) _⟩
      | true =>
        have d2 : (p.fr != there) = false := by rw [bne, e2]; rfl
        cases e3 : (p.dt == near) with
        | false =>
          as_aux_lemma =>
            have d3 : (p.dt != near) = true := by rw [bne, e3]; rfl
            clear hk
            go_enter Try.func14, Try.ntmps14
            go_upto_region 1 with fail
            rw [← hW2, ← hb0]
            clear hW2 hb0
            refine wp_region_after (by kernel_rfl) (by kernel_rfl) ?_
            repeat (go_big_quiet_step ((first | (go_at_call 15; exact Calls.after_of ((obusy (HA.out.below (After.h _))).mono fun _ _ ⟨he, hw⟩ => ⟨by rw [he, e0], by rw [hw]; exact Below.refl _ _⟩)) | (go_at_call 29; exact Calls.after_of (Hm.out _)))))
            refine wpQuiet_nil ?_
            rintro w1 ⟨⟨_, hb⟩, rfl⟩
            have p1 := (hb.block (b0 + 1) (lt_of_block P1.out)).trans P1.out
            have u0 : w1.cell? ⟨b0 + 1, 0, none⟩ = some (.bool false) := blk_cell p1 0
            have u1 : w1.cell? ⟨b0 + 1, 1, none⟩ = some (.int .i64 0) := blk_cell p1 1
            have u2 : w1.cell? ⟨b0 + 1, 2, none⟩ = some (.slice none 0 0) := blk_cell p1 2
            have uz : ∀ i, w1.frozen? ⟨b0 + 1, i, none⟩ = false := fun i => blk_free p1 i
            have hlt : b0 + 1 < w1.heap.size := lt_of_block p1
            have Bel : Hid (Below w.heap.size w w1) := HB.out.trans (hb.mono HB.out.size)
            clear p1 hb g0 g1 g2 g3 g4 g5 g6 g7 g8 f3 f4 f11 f14
            go_wp2_with fail
            refine bodyPost_ret (v := resV false 0 (.slice none 0 0)) ?_ rfl ?_
            · simp only [results, Hres.out]
              go_simp
            · exact ⟨rfl, below_set (below_set (below_set Bel.out (by have := Hb0.out; show w.heap.size ≤ b0 + 1; omega) _) (by have := Hb0.out; show w.heap.size ≤ b0 + 1; omega) _) (by have := Hb0.out; show w.heap.size ≤ b0 + 1; omega) _⟩
        | true =>
          have d3 : (p.dt != near) = false := by rw [bne, e3]; rfl
          cases e4 : p.resp with
          | false =>
            as_aux_lemma =>
              have Hm : Hid (∀ W : World, Calls Try.prog 29 #[.agg #[.int .i64 p.dt, .int .i64 p.fr, .bool false, .int .i64 p.form, .int .i64 p.kind, .int .i64 p.ns, .int .i64 p.nr, .bool p.poll, .slice pa p.info.length k]] W fun e w' => e = .returned (.bool true) ∧ Below W.heap.size W w') := fun W => by
                have h := pmay p pa k W
                rw [e1] at h
                change Calls Try.prog 29 #[.agg #[.int .i64 p.dt, .int .i64 p.fr, .bool p.resp, .int .i64 p.form, .int .i64 p.kind, .int .i64 p.ns, .int .i64 p.nr, .bool p.poll, .slice pa p.info.length k]] W _ at h
                rw [e4] at h
                exact h
              clear hk
              go_enter Try.func14, Try.ntmps14
              go_upto_region 1 with fail
              rw [← hW2, ← hb0]
              clear hW2 hb0
              refine wp_region_after (by kernel_rfl) (by kernel_rfl) ?_
              repeat (go_big_quiet_step ((first | (go_at_call 15; exact Calls.after_of ((obusy (HA.out.below (After.h _))).mono fun _ _ ⟨he, hw⟩ => ⟨by rw [he, e0], by rw [hw]; exact Below.refl _ _⟩)) | (go_at_call 29; exact Calls.after_of (Hm.out _)))))
              refine wpQuiet_nil ?_
              rintro w1 ⟨⟨_, hb⟩, rfl⟩
              have p1 := (hb.block (b0 + 1) (lt_of_block P1.out)).trans P1.out
              have u0 : w1.cell? ⟨b0 + 1, 0, none⟩ = some (.bool false) := blk_cell p1 0
              have u1 : w1.cell? ⟨b0 + 1, 1, none⟩ = some (.int .i64 0) := blk_cell p1 1
              have u2 : w1.cell? ⟨b0 + 1, 2, none⟩ = some (.slice none 0 0) := blk_cell p1 2
              have uz : ∀ i, w1.frozen? ⟨b0 + 1, i, none⟩ = false := fun i => blk_free p1 i
              have hlt : b0 + 1 < w1.heap.size := lt_of_block p1
              have Bel : Hid (Below w.heap.size w w1) := HB.out.trans (hb.mono HB.out.size)
              clear p1 hb g0 g1 g2 g3 g4 g5 g6 g7 g8 f3 f4 f11 f14
              go_wp2_with fail
              refine bodyPost_ret (v := resV false 0 (.slice none 0 0)) ?_ rfl ?_
              · simp only [results, Hres.out]
                go_simp
              · exact ⟨rfl, below_set (below_set (below_set Bel.out (by have := Hb0.out; show w.heap.size ≤ b0 + 1; omega) _) (by have := Hb0.out; show w.heap.size ≤ b0 + 1; omega) _) (by have := Hb0.out; show w.heap.size ≤ b0 + 1; omega) _⟩
          | true =>
            have Hm : Hid (∀ W : World, Calls Try.prog 29 #[.agg #[.int .i64 p.dt, .int .i64 p.fr, .bool true, .int .i64 p.form, .int .i64 p.kind, .int .i64 p.ns, .int .i64 p.nr, .bool p.poll, .slice pa p.info.length k]] W fun e w' => e = .returned (.bool true) ∧ Below W.heap.size W w') := fun W => by
              have h := pmay p pa k W
              rw [e1] at h
              change Calls Try.prog 29 #[.agg #[.int .i64 p.dt, .int .i64 p.fr, .bool p.resp, .int .i64 p.form, .int .i64 p.kind, .int .i64 p.ns, .int .i64 p.nr, .bool p.poll, .slice pa p.info.length k]] W _ at h
              rw [e4] at h
              exact h
            cases e5 : (p.form == 2) with
            | false =>
              as_aux_lemma =>
                have d5 : (p.form != 2) = true := by rw [bne, e5]; rfl
                clear hk
                go_enter Try.func14, Try.ntmps14
                go_upto_region 1 with fail
                rw [← hW2, ← hb0]
                clear hW2 hb0
                refine wp_region_after (by kernel_rfl) (by kernel_rfl) ?_
                repeat (go_big_quiet_step ((first | (go_at_call 15; exact Calls.after_of ((obusy (HA.out.below (After.h _))).mono fun _ _ ⟨he, hw⟩ => ⟨by rw [he, e0], by rw [hw]; exact Below.refl _ _⟩)) | (go_at_call 29; exact Calls.after_of (Hm.out _)))))
                refine wpQuiet_nil ?_
                rintro w1 ⟨⟨_, hb⟩, rfl⟩
                have p1 := (hb.block (b0 + 1) (lt_of_block P1.out)).trans P1.out
                have u0 : w1.cell? ⟨b0 + 1, 0, none⟩ = some (.bool false) := blk_cell p1 0
                have u1 : w1.cell? ⟨b0 + 1, 1, none⟩ = some (.int .i64 0) := blk_cell p1 1
                have u2 : w1.cell? ⟨b0 + 1, 2, none⟩ = some (.slice none 0 0) := blk_cell p1 2
                have uz : ∀ i, w1.frozen? ⟨b0 + 1, i, none⟩ = false := fun i => blk_free p1 i
                have hlt : b0 + 1 < w1.heap.size := lt_of_block p1
                have Bel : Hid (Below w.heap.size w w1) := HB.out.trans (hb.mono HB.out.size)
                clear p1 hb g0 g1 g2 g3 g4 g5 g6 g7 g8 f3 f4 f11 f14
                go_wp2_with fail
                refine bodyPost_ret (v := resV false 0 (.slice none 0 0)) ?_ rfl ?_
                · simp only [results, Hres.out]
                  go_simp
                · exact ⟨rfl, below_set (below_set (below_set Bel.out (by have := Hb0.out; show w.heap.size ≤ b0 + 1; omega) _) (by have := Hb0.out; show w.heap.size ≤ b0 + 1; omega) _) (by have := Hb0.out; show w.heap.size ≤ b0 + 1; omega) _⟩
            | true =>
              have d5 : (p.form != 2) = false := by rw [bne, e5]; rfl
              cases e6 : (p.kind == 8 + s.bit) with
              | false =>
                as_aux_lemma =>
                  have d6 : (p.kind != 8 + s.bit) = true := by rw [bne, e6]; rfl
                  clear hk
                  go_enter Try.func14, Try.ntmps14
                  go_upto_region 1 with fail
                  rw [← hW2, ← hb0]
                  clear hW2 hb0
                  refine wp_region_after (by kernel_rfl) (by kernel_rfl) ?_
                  repeat (go_big_quiet_step ((first | (go_at_call 15; exact Calls.after_of ((obusy (HA.out.below (After.h _))).mono fun _ _ ⟨he, hw⟩ => ⟨by rw [he, e0], by rw [hw]; exact Below.refl _ _⟩)) | (go_at_call 29; exact Calls.after_of (Hm.out _)))))
                  refine wpQuiet_nil ?_
                  rintro w1 ⟨⟨_, hb⟩, rfl⟩
                  have p1 := (hb.block (b0 + 1) (lt_of_block P1.out)).trans P1.out
                  have u0 : w1.cell? ⟨b0 + 1, 0, none⟩ = some (.bool false) := blk_cell p1 0
                  have u1 : w1.cell? ⟨b0 + 1, 1, none⟩ = some (.int .i64 0) := blk_cell p1 1
                  have u2 : w1.cell? ⟨b0 + 1, 2, none⟩ = some (.slice none 0 0) := blk_cell p1 2
                  have uz : ∀ i, w1.frozen? ⟨b0 + 1, i, none⟩ = false := fun i => blk_free p1 i
                  have hlt : b0 + 1 < w1.heap.size := lt_of_block p1
                  have Bel : Hid (Below w.heap.size w w1) := HB.out.trans (hb.mono HB.out.size)
                  clear p1 hb g0 g1 g2 g3 g4 g5 g6 g7 g8 f3 f4 f11 f14
                  go_wp2_with fail
                  refine bodyPost_ret (v := resV false 0 (.slice none 0 0)) ?_ rfl ?_
                  · simp only [results, Hres.out]
                    go_simp
                  · exact ⟨rfl, below_set (below_set (below_set Bel.out (by have := Hb0.out; show w.heap.size ≤ b0 + 1; omega) _) (by have := Hb0.out; show w.heap.size ≤ b0 + 1; omega) _) (by have := Hb0.out; show w.heap.size ≤ b0 + 1; omega) _⟩
              | true =>
                have d6 : (p.kind != 8 + s.bit) = false := by rw [bne, e6]; rfl
                cases e7 : (p.poll == s.poll) with
                | false =>
                  as_aux_lemma =>
                    have d7 : (p.poll != s.poll) = true := by rw [bne, e7]; rfl
                    clear hk
                    go_enter Try.func14, Try.ntmps14
                    go_upto_region 1 with fail
                    rw [← hW2, ← hb0]
                    clear hW2 hb0
                    refine wp_region_after (by kernel_rfl) (by kernel_rfl) ?_
                    repeat (go_big_quiet_step ((first | (go_at_call 15; exact Calls.after_of ((obusy (HA.out.below (After.h _))).mono fun _ _ ⟨he, hw⟩ => ⟨by rw [he, e0], by rw [hw]; exact Below.refl _ _⟩)) | (go_at_call 29; exact Calls.after_of (Hm.out _)))))
                    refine wpQuiet_nil ?_
                    rintro w1 ⟨⟨_, hb⟩, rfl⟩
                    have p1 := (hb.block (b0 + 1) (lt_of_block P1.out)).trans P1.out
                    have u0 : w1.cell? ⟨b0 + 1, 0, none⟩ = some (.bool false) := blk_cell p1 0
                    have u1 : w1.cell? ⟨b0 + 1, 1, none⟩ = some (.int .i64 0) := blk_cell p1 1
                    have u2 : w1.cell? ⟨b0 + 1, 2, none⟩ = some (.slice none 0 0) := blk_cell p1 2
                    have uz : ∀ i, w1.frozen? ⟨b0 + 1, i, none⟩ = false := fun i => blk_free p1 i
                    have hlt : b0 + 1 < w1.heap.size := lt_of_block p1
                    have Bel : Hid (Below w.heap.size w w1) := HB.out.trans (hb.mono HB.out.size)
                    clear p1 hb g0 g1 g2 g3 g4 g5 g6 g7 g8 f3 f4 f11 f14
                    go_wp2_with fail
                    refine bodyPost_ret (v := resV false 0 (.slice none 0 0)) ?_ rfl ?_
                    · simp only [results, Hres.out]
                      go_simp
                    · exact ⟨rfl, below_set (below_set (below_set Bel.out (by have := Hb0.out; show w.heap.size ≤ b0 + 1; omega) _) (by have := Hb0.out; show w.heap.size ≤ b0 + 1; omega) _) (by have := Hb0.out; show w.heap.size ≤ b0 + 1; omega) _⟩
                | true =>
                  have d7 : (p.poll != s.poll) = false := by rw [bne, e7]; rfl
                  exact absurd hk (by simp [e1, e2, e3, e4, e5, e6, e7])
end
end Go.Proofs.Ytkmeklbmjdbifaa
