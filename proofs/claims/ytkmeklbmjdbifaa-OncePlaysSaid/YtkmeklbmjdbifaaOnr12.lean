/-
  The reference's Hear, where it is the answer.
-/
import Derived.Test.YtkmeklbmjdbifaaOnr10
import Derived.Test.YtkmeklbmjdbifaaOnc6
namespace Go.Proofs.Ytkmeklbmjdbifaa
open Go.RowKit
set_option linter.unusedVariables false


section
variable {w : World} {F : Nat → Prop} {m : Nat} {c : Cf} {near there : Int} {s : Sk}

theorem Ts.stay {w W : World} {o : Nat} {cs : Array Value} (h : w.heap[o]? = some (.cells cs 55 (0, 0))) (hb : Below w.heap.size w W) : Ts w W o cs := ⟨(hb.block o (lt_of_block h)).trans h, Fr.of_below hb _⟩

set_option maxHeartbeats 4000000 in
set_option maxRecDepth 100000 in
theorem rhearShort (h : RnA w F m c near there s) (ns nr : Int) (pa : Option Addr) (k : Nat) (ha : s.asks = true) (hm : mayP ⟨near, there, true, 2, 8 + s.bit, ns, nr, s.poll, []⟩ = true) :
    Calls Try.prog 21 #[.pointer (some ⟨m, 0, none⟩), pdV ⟨near, there, true, 2, 8 + s.bit, ns, nr, s.poll, []⟩ (.slice pa 0 k)] w fun e w' => e = .returned (resV false 0 (.slice none 0 0)) ∧ Below w.heap.size w w' := by
  have h' := h
  obtain ⟨v, h, hF⟩ := h
  have ho := lt_of_block h.blk
  obtain ⟨W2, hW2⟩ : ∃ W2, W2 = (w.alloc (.cells #[.int .i64 near, .int .i64 there, .bool true, .int .i64 2, .int .i64 (8 + s.bit), .int .i64 ns, .int .i64 nr, .bool s.poll, .slice pa 0 k] 33)).alloc (.cells res0 56) := ⟨_, rfl⟩
  have hal : Below w.heap.size w W2 := by rw [hW2]; exact ((Below.refl _ w).alloc (Nat.le_refl _) _).alloc (by simp) _
  obtain ⟨b0, hb0⟩ : ∃ b, b = w.heap.size := ⟨_, rfl⟩
  have hp := (hal.block m ho).trans h.blk
  have hp0 : W2.heap[b0]? = some (.cells #[.int .i64 near, .int .i64 there, .bool true, .int .i64 2, .int .i64 (8 + s.bit), .int .i64 ns, .int .i64 nr, .bool s.poll, .slice pa 0 k] 33 (0, 0)) := by
    rw [hW2, hb0]
    exact (heap_alloc_lt _ _ (by simp)).trans (heap_alloc_new' w _)
  have hp1 : W2.heap[b0 + 1]? = some (.cells res0 56 (0, 0)) := by
    rw [hW2, hb0]
    have := heap_alloc_new' (w.alloc (.cells #[.int .i64 near, .int .i64 there, .bool true, .int .i64 2, .int .i64 (8 + s.bit), .int .i64 ns, .int .i64 nr, .bool s.poll, .slice pa 0 k] 33)) (.cells res0 56)
    simpa using this
  have f9 : ∀ x : After W2, x.w'.cell? ⟨m, 9, none⟩ = some (.bool true) := fun x => by rw [← ha]; exact x.cell (blk_cell hp 9)
  have f3 : ∀ x : After W2, x.w'.cell? ⟨m, 3, none⟩ = some (.int .i64 near) := fun x => x.cell (blk_cell hp 3)
  have f4 : ∀ x : After W2, x.w'.cell? ⟨m, 4, none⟩ = some (.int .i64 there) := fun x => x.cell (blk_cell hp 4)
  have f5 : ∀ x : After W2, x.w'.cell? ⟨m, 5, none⟩ = some (.int .i64 s.bit) := fun x => x.cell (blk_cell hp 5)
  have f10 : ∀ x : After W2, x.w'.cell? ⟨m, 10, none⟩ = some (.bool s.poll) := fun x => x.cell (blk_cell hp 10)
  have g0 : ∀ x : After W2, x.w'.cell? ⟨b0, 0, none⟩ = some (.int .i64 near) := fun x => x.cell (blk_cell hp0 0)
  have g1 : ∀ x : After W2, x.w'.cell? ⟨b0, 1, none⟩ = some (.int .i64 there) := fun x => x.cell (blk_cell hp0 1)
  have g2 : ∀ x : After W2, x.w'.cell? ⟨b0, 2, none⟩ = some (.bool true) := fun x => x.cell (blk_cell hp0 2)
  have g3 : ∀ x : After W2, x.w'.cell? ⟨b0, 3, none⟩ = some (.int .i64 2) := fun x => x.cell (blk_cell hp0 3)
  have g4 : ∀ x : After W2, x.w'.cell? ⟨b0, 4, none⟩ = some (.int .i64 (8 + s.bit)) := fun x => x.cell (blk_cell hp0 4)
  have g5 : ∀ x : After W2, x.w'.cell? ⟨b0, 5, none⟩ = some (.int .i64 ns) := fun x => x.cell (blk_cell hp0 5)
  have g6 : ∀ x : After W2, x.w'.cell? ⟨b0, 6, none⟩ = some (.int .i64 nr) := fun x => x.cell (blk_cell hp0 6)
  have g7 : ∀ x : After W2, x.w'.cell? ⟨b0, 7, none⟩ = some (.bool s.poll) := fun x => x.cell (blk_cell hp0 7)
  have g8 : ∀ x : After W2, x.w'.cell? ⟨b0, 8, none⟩ = some (.slice pa 0 k) := fun x => x.cell (blk_cell hp0 8)
  have HB := Lib.hid hal
  have P0 := Lib.hid hp0
  have P1 := Lib.hid hp1
  have Hb0 := Lib.hid hb0
  have hres : Try.f21.results = #[.cell 4 56] := by kernel_rfl
  have Hres := Lib.hid hres
  have Hm : Hid (∀ W : World, Calls Try.prog 24 #[.agg #[.int .i64 near, .int .i64 there, .bool true, .int .i64 2, .int .i64 (8 + s.bit), .int .i64 ns, .int .i64 nr, .bool s.poll, .slice pa 0 k]] W fun e w' => e = .returned (.bool true) ∧ Below W.heap.size W w') := fun W => by
    have h := rmay ⟨near, there, true, 2, 8 + s.bit, ns, nr, s.poll, []⟩ pa k W
    rw [hm] at h
    exact h
  have d2 : (there != there) = false := by simp
  have d3 : (near != near) = false := by simp
  have d6 : (8 + s.bit != 8 + s.bit) = false := by simp
  have d7 : (s.poll != s.poll) = false := by simp
  have hwb : IntKind.i64.wrap (8 + s.bit) = 8 + s.bit := IntWalk.i64_in _ (by have := h.s.1; omega)
  clear hres h' h hF hp hp0 hp1 hal ha hm
  show Calls Try.prog 21 #[.pointer (some ⟨m, 0, none⟩), .agg #[.int .i64 near, .int .i64 there, .bool true, .int .i64 2, .int .i64 (8 + s.bit), .int .i64 ns, .int .i64 nr, .bool s.poll, .slice pa 0 k]] w _
  go_enter Try.func21, Try.ntmps21
  go_upto_region 1 with fail
  rw [← hW2, ← hb0]
  clear hW2 hb0
  refine wp_region_after (by kernel_rfl) (by kernel_rfl) ?_
  repeat (go_big_quiet_step ((go_at_call 24; exact Calls.after_of (Hm.out _))))
  refine wpQuiet_nil ?_
  rintro w1 ⟨⟨_, hb⟩, rfl⟩
  have p0 := (hb.block b0 (lt_of_block P0.out)).trans P0.out
  have t8 : w1.cell? ⟨b0, 8, none⟩ = some (.slice pa 0 k) := blk_cell p0 8
  have p1 := (hb.block (b0 + 1) (lt_of_block P1.out)).trans P1.out
  have u0 : w1.cell? ⟨b0 + 1, 0, none⟩ = some (.bool false) := blk_cell p1 0
  have u1 : w1.cell? ⟨b0 + 1, 1, none⟩ = some (.int .i64 0) := blk_cell p1 1
  have u2 : w1.cell? ⟨b0 + 1, 2, none⟩ = some (.slice none 0 0) := blk_cell p1 2
  have uz : ∀ i, w1.frozen? ⟨b0 + 1, i, none⟩ = false := fun i => blk_free p1 i
  have hlt : b0 + 1 < w1.heap.size := lt_of_block p1
  have Bel : Hid (Below w.heap.size w w1) := HB.out.trans (hb.mono HB.out.size)
  clear p1 hb p0 g0 g1 g2 g3 g4 g5 g6 g7 g8 f3 f4 f5 f10 f9 d2 d3 d6 d7
  go_wp2_with fail
  refine (rgetstNo' pa k w1).mono ?_
  rintro e w2 ⟨rfl, rfl⟩
  go_wp2_with fail
  refine bodyPost_ret (v := resV false 0 (.slice none 0 0)) ?_ rfl ?_
  · simp only [results, Hres.out]
    go_simp
  · exact ⟨rfl, below_set (below_set (below_set Bel.out (by have := Hb0.out; show w.heap.size ≤ b0 + 1; omega) _) (by have := Hb0.out; show w.heap.size ≤ b0 + 1; omega) _) (by have := Hb0.out; show w.heap.size ≤ b0 + 1; omega) _⟩

set_option maxHeartbeats 4000000 in
set_option maxRecDepth 100000 in
theorem rhearYesF (h : RnA w F m c near there s) (ns nr : Int) (g oo k : Nat) (x : Int) (l : List Int) (ha : s.asks = true) (hpl : s.poll = false) (hm : mayP ⟨near, there, true, 2, 8 + s.bit, ns, nr, false, x :: l⟩ = true) (hx : 0 ≤ x ∧ x ≤ 255)
    (hr : RdB w (.slice (some ⟨g, oo, none⟩) (l.length + 1) k) (x :: l)) (hkl : l.length + 1 ≤ k) (hkm : k ≤ 9223372036854775807) :
    Calls Try.prog 21 #[.pointer (some ⟨m, 0, none⟩), pdV ⟨near, there, true, 2, 8 + s.bit, ns, nr, false, x :: l⟩ (.slice (some ⟨g, oo, none⟩) (l.length + 1) k)] w fun e w' => ∃ v', e = .returned (resV true x v') ∧ OwnB w.heap.size w' v' ([] : List Int) ∧ RnA w' F m c near there { s with asks := false, bit := 1 - s.bit } ∧ Fr (fun b => b = m) w w' := by
  have h' := h
  obtain ⟨v, h, hF⟩ := h
  have ho := lt_of_block h.blk
  obtain ⟨W2, hW2⟩ : ∃ W2, W2 = (w.alloc (.cells #[.int .i64 near, .int .i64 there, .bool true, .int .i64 2, .int .i64 (8 + s.bit), .int .i64 ns, .int .i64 nr, .bool false, .slice (some ⟨g, oo, none⟩) (l.length + 1) k] 33)).alloc (.cells res0 56) := ⟨_, rfl⟩
  have hal : Below w.heap.size w W2 := by rw [hW2]; exact ((Below.refl _ w).alloc (Nat.le_refl _) _).alloc (by simp) _
  obtain ⟨b0, hb0⟩ : ∃ b, b = w.heap.size := ⟨_, rfl⟩
  have hp := (hal.block m ho).trans h.blk
  have hp0 : W2.heap[b0]? = some (.cells #[.int .i64 near, .int .i64 there, .bool true, .int .i64 2, .int .i64 (8 + s.bit), .int .i64 ns, .int .i64 nr, .bool false, .slice (some ⟨g, oo, none⟩) (l.length + 1) k] 33 (0, 0)) := by
    rw [hW2, hb0]
    exact (heap_alloc_lt _ _ (by simp)).trans (heap_alloc_new' w _)
  have hp1 : W2.heap[b0 + 1]? = some (.cells res0 56 (0, 0)) := by
    rw [hW2, hb0]
    have := heap_alloc_new' (w.alloc (.cells #[.int .i64 near, .int .i64 there, .bool true, .int .i64 2, .int .i64 (8 + s.bit), .int .i64 ns, .int .i64 nr, .bool false, .slice (some ⟨g, oo, none⟩) (l.length + 1) k] 33)) (.cells res0 56)
    simpa using this
  have f9 : ∀ x : After W2, x.w'.cell? ⟨m, 9, none⟩ = some (.bool true) := fun x => by rw [← ha]; exact x.cell (blk_cell hp 9)
  have f3 : ∀ x : After W2, x.w'.cell? ⟨m, 3, none⟩ = some (.int .i64 near) := fun x => x.cell (blk_cell hp 3)
  have f4 : ∀ x : After W2, x.w'.cell? ⟨m, 4, none⟩ = some (.int .i64 there) := fun x => x.cell (blk_cell hp 4)
  have f5 : ∀ x : After W2, x.w'.cell? ⟨m, 5, none⟩ = some (.int .i64 s.bit) := fun x => x.cell (blk_cell hp 5)
  have f10 : ∀ x : After W2, x.w'.cell? ⟨m, 10, none⟩ = some (.bool false) := fun x => by rw [← hpl]; exact x.cell (blk_cell hp 10)
  have g0 : ∀ x : After W2, x.w'.cell? ⟨b0, 0, none⟩ = some (.int .i64 near) := fun x => x.cell (blk_cell hp0 0)
  have g1 : ∀ x : After W2, x.w'.cell? ⟨b0, 1, none⟩ = some (.int .i64 there) := fun x => x.cell (blk_cell hp0 1)
  have g2 : ∀ x : After W2, x.w'.cell? ⟨b0, 2, none⟩ = some (.bool true) := fun x => x.cell (blk_cell hp0 2)
  have g3 : ∀ x : After W2, x.w'.cell? ⟨b0, 3, none⟩ = some (.int .i64 2) := fun x => x.cell (blk_cell hp0 3)
  have g4 : ∀ x : After W2, x.w'.cell? ⟨b0, 4, none⟩ = some (.int .i64 (8 + s.bit)) := fun x => x.cell (blk_cell hp0 4)
  have g5 : ∀ x : After W2, x.w'.cell? ⟨b0, 5, none⟩ = some (.int .i64 ns) := fun x => x.cell (blk_cell hp0 5)
  have g6 : ∀ x : After W2, x.w'.cell? ⟨b0, 6, none⟩ = some (.int .i64 nr) := fun x => x.cell (blk_cell hp0 6)
  have g7 : ∀ x : After W2, x.w'.cell? ⟨b0, 7, none⟩ = some (.bool false) := fun x => x.cell (blk_cell hp0 7)
  have g8 : ∀ x : After W2, x.w'.cell? ⟨b0, 8, none⟩ = some (.slice (some ⟨g, oo, none⟩) (l.length + 1) k) := fun x => x.cell (blk_cell hp0 8)
  have HB := Lib.hid hal
  have P0 := Lib.hid hp0
  have P1 := Lib.hid hp1
  have Hb0 := Lib.hid hb0
  have hres : Try.f21.results = #[.cell 4 56] := by kernel_rfl
  have Hres := Lib.hid hres
  have Hm : Hid (∀ W : World, Calls Try.prog 24 #[.agg #[.int .i64 near, .int .i64 there, .bool true, .int .i64 2, .int .i64 (8 + s.bit), .int .i64 ns, .int .i64 nr, .bool false, .slice (some ⟨g, oo, none⟩) (l.length + 1) k]] W fun e w' => e = .returned (.bool true) ∧ Below W.heap.size W w') := fun W => by
    have h := rmay ⟨near, there, true, 2, 8 + s.bit, ns, nr, false, x :: l⟩ (some ⟨g, oo, none⟩) k W
    rw [hm] at h
    exact h
  have d2 : (there != there) = false := by simp
  have d3 : (near != near) = false := by simp
  have d6 : (8 + s.bit != 8 + s.bit) = false := by simp
  have d7 : (false != false) = false := by simp
  have hwb : IntKind.i64.wrap (8 + s.bit) = 8 + s.bit := IntWalk.i64_in _ (by have := h.s.1; omega)
  have hlen : l.length ≤ 1040 := by have := mayP_len hm; simp at this; omega
  have H := Lib.hid h
  have HF := Lib.hid hF
  have Hr := Lib.hid hr
  have Hx := Lib.hid hx
  have Hk := Lib.hid (And.intro hkl hkm)
  have Hlen := Lib.hid hlen
  have hwb2 : IntKind.i64.wrap (1 - s.bit) = 1 - s.bit := IntWalk.i64_in _ (by have := h.s.1; omega)
  have Hpl := Lib.hid hpl
  clear hres h' h hF hp hp0 hp1 hal ha hm hr hx hkl hkm hlen hpl
  show Calls Try.prog 21 #[.pointer (some ⟨m, 0, none⟩), .agg #[.int .i64 near, .int .i64 there, .bool true, .int .i64 2, .int .i64 (8 + s.bit), .int .i64 ns, .int .i64 nr, .bool false, .slice (some ⟨g, oo, none⟩) (l.length + 1) k]] w _
  go_enter Try.func21, Try.ntmps21
  go_upto_region 1 with fail
  rw [← hW2, ← hb0]
  clear hW2 hb0
  refine wp_region_after (by kernel_rfl) (by kernel_rfl) ?_
  repeat (go_big_quiet_step ((go_at_call 24; exact Calls.after_of (Hm.out _))))
  refine wpQuiet_nil ?_
  rintro w1 ⟨⟨_, hb⟩, rfl⟩
  have hb1 : Below w.heap.size w w1 := HB.out.trans (hb.mono HB.out.size)
  have p0 := (hb.block b0 (lt_of_block P0.out)).trans P0.out
  have t8 : w1.cell? ⟨b0, 8, none⟩ = some (.slice (some ⟨g, oo, none⟩) (l.length + 1) k) := blk_cell p0 8
  have P11 := Lib.hid ((hb.block (b0 + 1) (lt_of_block P1.out)).trans P1.out)
  have Bel := Lib.hid hb1
  clear p0 hb hb1 g0 g1 g2 g3 g4 g5 g6 g7 g8 f3 f4 f5 f10 f9 d2 d3 d6 d7
  go_wp2_with fail
  refine (rgetstYes g oo k x l w1 (Hr.out.fr Bel.out) Hk.out.1 Hx.out (by have := Hlen.out; omega) Hk.out.2).mono ?_
  rintro e w2 ⟨v', rfl, o2, b2⟩
  obtain ⟨xa, xc, hv', _⟩ := own_shape o2
  subst hv'
  have p1 := (b2.block (b0 + 1) (lt_of_block P11.out)).trans P11.out
  have hb2 : Below w.heap.size w w2 := Bel.out.trans (b2.mono Bel.out.size)
  have po := (hb2.block m (lt_of_block H.out.blk)).trans H.out.blk
  have c5 : w2.cell? ⟨m, 5, none⟩ = some (.int .i64 s.bit) := blk_cell po 5
  have c9 : w2.cell? ⟨m, 9, none⟩ = some (.bool s.asks) := blk_cell po 9
  have c10 : w2.cell? ⟨m, 10, none⟩ = some (.bool false) := by rw [← Hpl.out]; exact blk_cell po 10
  have oz : ∀ i, w2.frozen? ⟨m, i, none⟩ = false := fun i => blk_free po i
  have u0 : w2.cell? ⟨b0 + 1, 0, none⟩ = some (.bool false) := blk_cell p1 0
  have u1 : w2.cell? ⟨b0 + 1, 1, none⟩ = some (.int .i64 0) := blk_cell p1 1
  have u2 : w2.cell? ⟨b0 + 1, 2, none⟩ = some (.slice none 0 0) := blk_cell p1 2
  have uz : ∀ i, w2.frozen? ⟨b0 + 1, i, none⟩ = false := fun i => blk_free p1 i
  have hlt : b0 + 1 < w2.heap.size := lt_of_block p1
  have how : m < w2.heap.size := lt_of_block po
  have hob : m < b0 := by have := Hb0.out; omega
  have O2 := Lib.hid o2
  have B2 := Lib.hid hb2
  have H12 : Hid (b0 + 1 < w1.heap.size) := lt_of_block P11.out
  clear p1 po b2 o2 hb2 t8
  have fin : ∀ (W : World), Ts w W m #[.int .i64 c.tries, .int .i64 c.ack, .int .i64 c.quiet, .int .i64 near, .int .i64 there, .int .i64 (1 - s.bit), .int .i64 s.sent, .int .i64 s.left, .int .i64 s.wait, .bool false, .bool s.poll, v] → Fr (fun b => b = m ∨ b = b0 + 1) w2 W →
      OwnB w.heap.size W (.slice xa l.length xc) l ∧ RnA W F m c near there { s with asks := false, bit := 1 - s.bit } ∧ Fr (fun b => b = m) w W := fun W hW hf => by
    have hno : ¬ v.ownBlock = some m := fun e => own_ne H.out.own H.out.blk (by decide) e
    have hb0 := Hb0.out
    have h12 := H12.out
    have ho := lt_of_block H.out.blk
    refine ⟨own_base (own_zero (Own.fr O2.out hf (fun g' hg e => ?_))) (fun g' hg => ?_), ⟨v, ⟨hW.blk, H.out.own.fr hW.fr (fun g' hg (e : g' = m) => hno (by rw [← e]; exact hg)), H.out.c, ?_⟩, HF.out⟩, hW.fr⟩
    · have := (O2.out.lt g' hg).1
      omega
    · have := (O2.out.lt g' hg).1
      omega
    · obtain ⟨h1, h2, h3, h4, h5⟩ := H.out.s
      exact ⟨by rcases h1 with h1 | h1 <;> (show (1 - s.bit = 0 ∨ 1 - s.bit = 1)) <;> omega, h2, h3, h4, h5⟩
  have Fin := Lib.hid fin
  clear fin
  go_wp2_with fail
  refine bodyPost_ret (v := resV true x (.slice none 0 0)) ?_ rfl ?_
  · simp only [results, Hres.out]
    go_simp
  · have tr := Ts.cast (((((((Ts.stay H.out.blk B2.out).set 9 (.bool false)).set 5 (.int .i64 (1 - s.bit)))).far (lt_of_block H.out.blk) (b0 + 1) 0 (by have := Hb0.out; omega) (.bool true)).far (lt_of_block H.out.blk) (b0 + 1) 1 (by have := Hb0.out; omega) (.int .i64 x)).far (lt_of_block H.out.blk) (b0 + 1) 2 (by have := Hb0.out; omega) (.slice none 0 0)) (show _ = #[.int .i64 c.tries, .int .i64 c.ack, .int .i64 c.quiet, .int .i64 near, .int .i64 there, .int .i64 (1 - s.bit), .int .i64 s.sent, .int .i64 s.left, .int .i64 s.wait, .bool false, .bool s.poll, v] by simp)
    obtain ⟨r1, r2, r3⟩ := Fin.out _ tr ((((((Fr.refl (fun b => b = m ∨ b = b0 + 1) w2).setCell (p := ⟨m, 9, none⟩) (fun _ => .inl rfl) _).setCell (p := ⟨m, 5, none⟩) (fun _ => .inl rfl) _).setCell (p := ⟨b0 + 1, 0, none⟩) (fun _ => .inr rfl) _).setCell (p := ⟨b0 + 1, 1, none⟩) (fun _ => .inr rfl) _).setCell (p := ⟨b0 + 1, 2, none⟩) (fun _ => .inr rfl) _)
    exact ⟨_, rfl, Own.nil _ _ _ _ _, r2, r3⟩

set_option maxHeartbeats 4000000 in
set_option maxRecDepth 100000 in
theorem rhearYesT (h : RnA w F m c near there s) (ns nr : Int) (g oo k : Nat) (x : Int) (l : List Int) (ha : s.asks = true) (hpl : s.poll = true) (hm : mayP ⟨near, there, true, 2, 8 + s.bit, ns, nr, true, x :: l⟩ = true) (hx : 0 ≤ x ∧ x ≤ 255)
    (hr : RdB w (.slice (some ⟨g, oo, none⟩) (l.length + 1) k) (x :: l)) (hkl : l.length + 1 ≤ k) (hkm : k ≤ 9223372036854775807) :
    Calls Try.prog 21 #[.pointer (some ⟨m, 0, none⟩), pdV ⟨near, there, true, 2, 8 + s.bit, ns, nr, true, x :: l⟩ (.slice (some ⟨g, oo, none⟩) (l.length + 1) k)] w fun e w' => ∃ v', e = .returned (resV true x v') ∧ OwnB w.heap.size w' v' l ∧ RnA w' F m c near there { s with asks := false, bit := 1 - s.bit } ∧ Fr (fun b => b = m) w w' := by
  have h' := h
  obtain ⟨v, h, hF⟩ := h
  have ho := lt_of_block h.blk
  obtain ⟨W2, hW2⟩ : ∃ W2, W2 = (w.alloc (.cells #[.int .i64 near, .int .i64 there, .bool true, .int .i64 2, .int .i64 (8 + s.bit), .int .i64 ns, .int .i64 nr, .bool true, .slice (some ⟨g, oo, none⟩) (l.length + 1) k] 33)).alloc (.cells res0 56) := ⟨_, rfl⟩
  have hal : Below w.heap.size w W2 := by rw [hW2]; exact ((Below.refl _ w).alloc (Nat.le_refl _) _).alloc (by simp) _
  obtain ⟨b0, hb0⟩ : ∃ b, b = w.heap.size := ⟨_, rfl⟩
  have hp := (hal.block m ho).trans h.blk
  have hp0 : W2.heap[b0]? = some (.cells #[.int .i64 near, .int .i64 there, .bool true, .int .i64 2, .int .i64 (8 + s.bit), .int .i64 ns, .int .i64 nr, .bool true, .slice (some ⟨g, oo, none⟩) (l.length + 1) k] 33 (0, 0)) := by
    rw [hW2, hb0]
    exact (heap_alloc_lt _ _ (by simp)).trans (heap_alloc_new' w _)
  have hp1 : W2.heap[b0 + 1]? = some (.cells res0 56 (0, 0)) := by
    rw [hW2, hb0]
    have := heap_alloc_new' (w.alloc (.cells #[.int .i64 near, .int .i64 there, .bool true, .int .i64 2, .int .i64 (8 + s.bit), .int .i64 ns, .int .i64 nr, .bool true, .slice (some ⟨g, oo, none⟩) (l.length + 1) k] 33)) (.cells res0 56)
    simpa using this
  have f9 : ∀ x : After W2, x.w'.cell? ⟨m, 9, none⟩ = some (.bool true) := fun x => by rw [← ha]; exact x.cell (blk_cell hp 9)
  have f3 : ∀ x : After W2, x.w'.cell? ⟨m, 3, none⟩ = some (.int .i64 near) := fun x => x.cell (blk_cell hp 3)
  have f4 : ∀ x : After W2, x.w'.cell? ⟨m, 4, none⟩ = some (.int .i64 there) := fun x => x.cell (blk_cell hp 4)
  have f5 : ∀ x : After W2, x.w'.cell? ⟨m, 5, none⟩ = some (.int .i64 s.bit) := fun x => x.cell (blk_cell hp 5)
  have f10 : ∀ x : After W2, x.w'.cell? ⟨m, 10, none⟩ = some (.bool true) := fun x => by rw [← hpl]; exact x.cell (blk_cell hp 10)
  have g0 : ∀ x : After W2, x.w'.cell? ⟨b0, 0, none⟩ = some (.int .i64 near) := fun x => x.cell (blk_cell hp0 0)
  have g1 : ∀ x : After W2, x.w'.cell? ⟨b0, 1, none⟩ = some (.int .i64 there) := fun x => x.cell (blk_cell hp0 1)
  have g2 : ∀ x : After W2, x.w'.cell? ⟨b0, 2, none⟩ = some (.bool true) := fun x => x.cell (blk_cell hp0 2)
  have g3 : ∀ x : After W2, x.w'.cell? ⟨b0, 3, none⟩ = some (.int .i64 2) := fun x => x.cell (blk_cell hp0 3)
  have g4 : ∀ x : After W2, x.w'.cell? ⟨b0, 4, none⟩ = some (.int .i64 (8 + s.bit)) := fun x => x.cell (blk_cell hp0 4)
  have g5 : ∀ x : After W2, x.w'.cell? ⟨b0, 5, none⟩ = some (.int .i64 ns) := fun x => x.cell (blk_cell hp0 5)
  have g6 : ∀ x : After W2, x.w'.cell? ⟨b0, 6, none⟩ = some (.int .i64 nr) := fun x => x.cell (blk_cell hp0 6)
  have g7 : ∀ x : After W2, x.w'.cell? ⟨b0, 7, none⟩ = some (.bool true) := fun x => x.cell (blk_cell hp0 7)
  have g8 : ∀ x : After W2, x.w'.cell? ⟨b0, 8, none⟩ = some (.slice (some ⟨g, oo, none⟩) (l.length + 1) k) := fun x => x.cell (blk_cell hp0 8)
  have HB := Lib.hid hal
  have P0 := Lib.hid hp0
  have P1 := Lib.hid hp1
  have Hb0 := Lib.hid hb0
  have hres : Try.f21.results = #[.cell 4 56] := by kernel_rfl
  have Hres := Lib.hid hres
  have Hm : Hid (∀ W : World, Calls Try.prog 24 #[.agg #[.int .i64 near, .int .i64 there, .bool true, .int .i64 2, .int .i64 (8 + s.bit), .int .i64 ns, .int .i64 nr, .bool true, .slice (some ⟨g, oo, none⟩) (l.length + 1) k]] W fun e w' => e = .returned (.bool true) ∧ Below W.heap.size W w') := fun W => by
    have h := rmay ⟨near, there, true, 2, 8 + s.bit, ns, nr, true, x :: l⟩ (some ⟨g, oo, none⟩) k W
    rw [hm] at h
    exact h
  have d2 : (there != there) = false := by simp
  have d3 : (near != near) = false := by simp
  have d6 : (8 + s.bit != 8 + s.bit) = false := by simp
  have d7 : (true != true) = false := by simp
  have hwb : IntKind.i64.wrap (8 + s.bit) = 8 + s.bit := IntWalk.i64_in _ (by have := h.s.1; omega)
  have hlen : l.length ≤ 1040 := by have := mayP_len hm; simp at this; omega
  have H := Lib.hid h
  have HF := Lib.hid hF
  have Hr := Lib.hid hr
  have Hx := Lib.hid hx
  have Hk := Lib.hid (And.intro hkl hkm)
  have Hlen := Lib.hid hlen
  have hwb2 : IntKind.i64.wrap (1 - s.bit) = 1 - s.bit := IntWalk.i64_in _ (by have := h.s.1; omega)
  have Hpl := Lib.hid hpl
  clear hres h' h hF hp hp0 hp1 hal ha hm hr hx hkl hkm hlen hpl
  show Calls Try.prog 21 #[.pointer (some ⟨m, 0, none⟩), .agg #[.int .i64 near, .int .i64 there, .bool true, .int .i64 2, .int .i64 (8 + s.bit), .int .i64 ns, .int .i64 nr, .bool true, .slice (some ⟨g, oo, none⟩) (l.length + 1) k]] w _
  go_enter Try.func21, Try.ntmps21
  go_upto_region 1 with fail
  rw [← hW2, ← hb0]
  clear hW2 hb0
  refine wp_region_after (by kernel_rfl) (by kernel_rfl) ?_
  repeat (go_big_quiet_step ((go_at_call 24; exact Calls.after_of (Hm.out _))))
  refine wpQuiet_nil ?_
  rintro w1 ⟨⟨_, hb⟩, rfl⟩
  have hb1 : Below w.heap.size w w1 := HB.out.trans (hb.mono HB.out.size)
  have p0 := (hb.block b0 (lt_of_block P0.out)).trans P0.out
  have t8 : w1.cell? ⟨b0, 8, none⟩ = some (.slice (some ⟨g, oo, none⟩) (l.length + 1) k) := blk_cell p0 8
  have P11 := Lib.hid ((hb.block (b0 + 1) (lt_of_block P1.out)).trans P1.out)
  have Bel := Lib.hid hb1
  clear p0 hb hb1 g0 g1 g2 g3 g4 g5 g6 g7 g8 f3 f4 f5 f10 f9 d2 d3 d6 d7
  go_wp2_with fail
  refine (rgetstYes g oo k x l w1 (Hr.out.fr Bel.out) Hk.out.1 Hx.out (by have := Hlen.out; omega) Hk.out.2).mono ?_
  rintro e w2 ⟨v', rfl, o2, b2⟩
  obtain ⟨xa, xc, hv', _⟩ := own_shape o2
  subst hv'
  have p1 := (b2.block (b0 + 1) (lt_of_block P11.out)).trans P11.out
  have hb2 : Below w.heap.size w w2 := Bel.out.trans (b2.mono Bel.out.size)
  have po := (hb2.block m (lt_of_block H.out.blk)).trans H.out.blk
  have c5 : w2.cell? ⟨m, 5, none⟩ = some (.int .i64 s.bit) := blk_cell po 5
  have c9 : w2.cell? ⟨m, 9, none⟩ = some (.bool s.asks) := blk_cell po 9
  have c10 : w2.cell? ⟨m, 10, none⟩ = some (.bool true) := by rw [← Hpl.out]; exact blk_cell po 10
  have oz : ∀ i, w2.frozen? ⟨m, i, none⟩ = false := fun i => blk_free po i
  have u0 : w2.cell? ⟨b0 + 1, 0, none⟩ = some (.bool false) := blk_cell p1 0
  have u1 : w2.cell? ⟨b0 + 1, 1, none⟩ = some (.int .i64 0) := blk_cell p1 1
  have u2 : w2.cell? ⟨b0 + 1, 2, none⟩ = some (.slice none 0 0) := blk_cell p1 2
  have uz : ∀ i, w2.frozen? ⟨b0 + 1, i, none⟩ = false := fun i => blk_free p1 i
  have hlt : b0 + 1 < w2.heap.size := lt_of_block p1
  have how : m < w2.heap.size := lt_of_block po
  have hob : m < b0 := by have := Hb0.out; omega
  have O2 := Lib.hid o2
  have B2 := Lib.hid hb2
  have H12 : Hid (b0 + 1 < w1.heap.size) := lt_of_block P11.out
  clear p1 po b2 o2 hb2 t8
  have fin : ∀ (W : World), Ts w W m #[.int .i64 c.tries, .int .i64 c.ack, .int .i64 c.quiet, .int .i64 near, .int .i64 there, .int .i64 (1 - s.bit), .int .i64 s.sent, .int .i64 s.left, .int .i64 s.wait, .bool false, .bool s.poll, v] → Fr (fun b => b = m ∨ b = b0 + 1) w2 W →
      OwnB w.heap.size W (.slice xa l.length xc) l ∧ RnA W F m c near there { s with asks := false, bit := 1 - s.bit } ∧ Fr (fun b => b = m) w W := fun W hW hf => by
    have hno : ¬ v.ownBlock = some m := fun e => own_ne H.out.own H.out.blk (by decide) e
    have hb0 := Hb0.out
    have h12 := H12.out
    have ho := lt_of_block H.out.blk
    refine ⟨own_base (own_zero (Own.fr O2.out hf (fun g' hg e => ?_))) (fun g' hg => ?_), ⟨v, ⟨hW.blk, H.out.own.fr hW.fr (fun g' hg (e : g' = m) => hno (by rw [← e]; exact hg)), H.out.c, ?_⟩, HF.out⟩, hW.fr⟩
    · have := (O2.out.lt g' hg).1
      omega
    · have := (O2.out.lt g' hg).1
      omega
    · obtain ⟨h1, h2, h3, h4, h5⟩ := H.out.s
      exact ⟨by rcases h1 with h1 | h1 <;> (show (1 - s.bit = 0 ∨ 1 - s.bit = 1)) <;> omega, h2, h3, h4, h5⟩
  have Fin := Lib.hid fin
  clear fin
  go_wp2_with fail
  refine bodyPost_ret (v := resV true x (.slice xa l.length xc)) ?_ rfl ?_
  · simp only [results, Hres.out]
    go_simp
  · have tr := Ts.cast (((((((Ts.stay H.out.blk B2.out).set 9 (.bool false)).set 5 (.int .i64 (1 - s.bit)))).far (lt_of_block H.out.blk) (b0 + 1) 0 (by have := Hb0.out; omega) (.bool true)).far (lt_of_block H.out.blk) (b0 + 1) 1 (by have := Hb0.out; omega) (.int .i64 x)).far (lt_of_block H.out.blk) (b0 + 1) 2 (by have := Hb0.out; omega) (.slice xa l.length xc)) (show _ = #[.int .i64 c.tries, .int .i64 c.ack, .int .i64 c.quiet, .int .i64 near, .int .i64 there, .int .i64 (1 - s.bit), .int .i64 s.sent, .int .i64 s.left, .int .i64 s.wait, .bool false, .bool s.poll, v] by simp)
    obtain ⟨r1, r2, r3⟩ := Fin.out _ tr ((((((Fr.refl (fun b => b = m ∨ b = b0 + 1) w2).setCell (p := ⟨m, 9, none⟩) (fun _ => .inl rfl) _).setCell (p := ⟨m, 5, none⟩) (fun _ => .inl rfl) _).setCell (p := ⟨b0 + 1, 0, none⟩) (fun _ => .inr rfl) _).setCell (p := ⟨b0 + 1, 1, none⟩) (fun _ => .inr rfl) _).setCell (p := ⟨b0 + 1, 2, none⟩) (fun _ => .inr rfl) _)
    exact ⟨_, rfl, r1, r2, r3⟩
end
end Go.Proofs.Ytkmeklbmjdbifaa
