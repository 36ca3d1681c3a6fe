/-
  The reference's once: Tick, where the tries are over.
-/
import Derived.Test.YtkmeklbmjdbifaaOnr4
namespace Go.Proofs.Ytkmeklbmjdbifaa
open Go.RowKit
set_option linter.unusedVariables false


/-- What has come of w: the block o holds cs, nothing else that was there has turned. -/
structure Ts (w W : World) (o : Nat) (cs : Array Value) : Prop where
  blk : W.heap[o]? = some (.cells cs 55 (0, 0))
  fr : Fr (fun b => b = o) w W
theorem Ts.start {w : World} {o : Nat} {cs : Array Value} (h : w.heap[o]? = some (.cells cs 55 (0, 0))) : Ts w w o cs := ⟨h, Fr.refl _ _⟩
theorem Ts.set {w W : World} {o : Nat} {cs : Array Value} (h : Ts w W o cs) (i : Nat) (u : Value) : Ts w (W.setCell ⟨o, i, none⟩ u) o (cs.setIfInBounds i u) := ⟨heap_setCell_same h.blk u, h.fr.setCell (p := ⟨o, i, none⟩) (fun _ => rfl) u⟩
theorem Ts.new {w W : World} {o : Nat} {cs : Array Value} (h : Ts w W o cs) (x : Obj) : Ts w (W.alloc x) o cs := ⟨(heap_alloc_lt W x (lt_of_block h.blk)).trans h.blk, h.fr.alloc x⟩
theorem Ts.drewN {w W : World} {o : Nat} {cs : Array Value} (h : Ts w W o cs) (n : Nat) : Ts w (W.drewN n) o cs := ⟨h.blk, h.fr.drewN n⟩
theorem Ts.far {w W : World} {o : Nat} {cs : Array Value} (h : Ts w W o cs) (ho : o < w.heap.size) (b i : Nat) (hb : w.heap.size ≤ b) (u : Value) : Ts w (W.setCell ⟨b, i, none⟩ u) o cs :=
  ⟨(heap_setCell_ne (p := ⟨b, i, none⟩) (by show o ≠ b; omega) u).trans h.blk, h.fr.setCell (p := ⟨b, i, none⟩) (fun (e : b < w.heap.size) => by omega) u⟩
theorem Ts.cast {w W : World} {o : Nat} {cs cs' : Array Value} (h : Ts w W o cs) (e : cs = cs') : Ts w W o cs' := e ▸ h

section
variable {w : World} {F : Nat → Prop} {m : Nat} {c : Cf} {near there : Int} {s : Sk}

set_option maxHeartbeats 2000000 in
theorem rtickOver (h : RnA w F m c near there s) (ha : s.asks = true) (hl : s.left = 1) (ht : c.tries ≤ s.sent) :
    Calls Try.prog 22 #[.pointer (some ⟨m, 0, none⟩)] w fun e w' => e = .returned (.tuple #[pdV zeroPd (.slice none 0 0), .bool false, resV true 1 (.slice none 0 0)]) ∧ RnA w' F m c near there { s with asks := false, wait := c.quiet, bit := 0, left := 0 } ∧ Fr (fun b => b = m) w w' := by
  obtain ⟨v, h, hF⟩ := h
  have c0 : w.cell? ⟨m, 0, none⟩ = some (.int .i64 c.tries) := blk_cell h.blk 0
  have c2 : w.cell? ⟨m, 2, none⟩ = some (.int .i64 c.quiet) := blk_cell h.blk 2
  have c5 : w.cell? ⟨m, 5, none⟩ = some (.int .i64 s.bit) := blk_cell h.blk 5
  have c6 : w.cell? ⟨m, 6, none⟩ = some (.int .i64 s.sent) := blk_cell h.blk 6
  have c7 : w.cell? ⟨m, 7, none⟩ = some (.int .i64 1) := by rw [← hl]; exact blk_cell h.blk 7
  have c8 : w.cell? ⟨m, 8, none⟩ = some (.int .i64 s.wait) := blk_cell h.blk 8
  have c9 : w.cell? ⟨m, 9, none⟩ = some (.bool true) := by rw [← ha]; exact blk_cell h.blk 9
  have z : ∀ i, w.frozen? ⟨m, i, none⟩ = false := fun i => blk_free h.blk i
  have ho := lt_of_block h.blk
  have hd : decide (c.tries ≤ s.sent) = true := by simpa using ht
  have hres : Try.f22.results = #[.cell 2 33, .tmp 3, .cell 4 56] := by kernel_rfl
  have Hres := Lib.hid hres
  have H := Lib.hid h
  have HF := Lib.hid hF
  clear h hF hres ha hl ht
  go_enter Try.func22, Try.ntmps22
  go_wp2_with fail
  go_quiet (fail)
  go_wp2_with fail
  refine bodyPost_ret (v := .tuple #[pdV zeroPd (.slice none 0 0), .bool false, resV true 1 (.slice none 0 0)]) ?_ rfl ?_
  · simp only [results, Hres.out]
    go_simp
  · have fin : ∀ W, Ts w W m #[.int .i64 c.tries, .int .i64 c.ack, .int .i64 c.quiet, .int .i64 near, .int .i64 there, .int .i64 0, .int .i64 s.sent, .int .i64 0, .int .i64 c.quiet, .bool false, .bool s.poll, v] → RnA W F m c near there { s with asks := false, wait := c.quiet, bit := 0, left := 0 } ∧ Fr (fun b => b = m) w W := fun W hW => by
      have hno : ¬ v.ownBlock = some m := fun e => own_ne H.out.own H.out.blk (by decide) e
      refine ⟨⟨v, ⟨hW.blk, H.out.own.fr hW.fr (fun g hg (e : g = m) => hno (by rw [← e]; exact hg)), H.out.c, ?_⟩, HF.out⟩, hW.fr⟩
      obtain ⟨h1, h2, h3, h4, h5⟩ := H.out.s
      have hc := H.out.c.2.2
      exact ⟨.inl rfl, h2, ⟨by show (0 : Int) ≤ 0; decide, by show (0 : Int) ≤ 10000; decide⟩, hc, h5⟩
    refine ⟨rfl, fin _ ?_⟩
    exact Ts.cast ((((((((((((((((((((Ts.start H.out.blk).set 7 _).new _).new _).drewN _).set 9 _).set 5 _).set 8 _).far ho w.heap.size 0 (Nat.le_refl _) _).far ho w.heap.size 1 (Nat.le_refl _) _).far ho w.heap.size 2 (Nat.le_refl _) _).far ho w.heap.size 3 (Nat.le_refl _) _).far ho w.heap.size 4 (Nat.le_refl _) _).far ho w.heap.size 5 (Nat.le_refl _) _).far ho w.heap.size 6 (Nat.le_refl _) _).far ho w.heap.size 7 (Nat.le_refl _) _).far ho w.heap.size 8 (Nat.le_refl _) _).far ho (w.heap.size + 1) 0 (Nat.le_succ _) _).far ho (w.heap.size + 1) 1 (Nat.le_succ _) _).far ho (w.heap.size + 1) 2 (Nat.le_succ _) _) (by simp)
variable {o : Nat}
set_option maxHeartbeats 4000000 in
theorem rtickSend (h : RnA w F o c near there s) (ha : s.asks = true) (hl : s.left = 1) (ht : s.sent < c.tries) :
    Calls Try.prog 22 #[.pointer (some ⟨o, 0, none⟩)] w fun e w' => ∃ v', e = .returned (.tuple #[pdV (onP near there s) v', .bool true, resV false 0 (.slice none 0 0)]) ∧ OwnB w.heap.size w' v' s.b ∧ RnA w' F o c near there { s with sent := s.sent + 1, left := c.ack } ∧ Fr (fun b => b = o) w w' := by
  obtain ⟨v, h, hF⟩ := h
  have c0 : w.cell? ⟨o, 0, none⟩ = some (.int .i64 c.tries) := blk_cell h.blk 0
  have c9 : w.cell? ⟨o, 9, none⟩ = some (.bool true) := by rw [← ha]; exact blk_cell h.blk 9
  have c6 : w.cell? ⟨o, 6, none⟩ = some (.int .i64 s.sent) := blk_cell h.blk 6
  have c7 : w.cell? ⟨o, 7, none⟩ = some (.int .i64 1) := by rw [← hl]; exact blk_cell h.blk 7
  have z : ∀ i, w.frozen? ⟨o, i, none⟩ = false := fun i => blk_free h.blk i
  have ho := lt_of_block h.blk
  have hd : decide (c.tries ≤ s.sent) = false := by simp; omega
  have hres : Try.f22.results = #[.cell 2 33, .tmp 3, .cell 4 56] := by kernel_rfl
  have Hres := Lib.hid hres
  have H := Lib.hid h
  have HF := Lib.hid hF
  have Ha := Lib.hid ha
  have Hsent : Hid (s.sent ≤ 999) := by unfold Hid; have := h.c.1; omega
  clear h hF hres ha hl ht
  go_enter Try.func22, Try.ntmps22
  go_wp2_with fail
  go_quiet (fail)
  go_wp2_with fail
  obtain ⟨W1, hW1⟩ : ∃ W1, W1 = (((w.setCell ⟨o, 7, none⟩ (.int .i64 0)).alloc (.cells pd0 33)).alloc (.cells res0 56)).drewN nq := ⟨_, rfl⟩
  rw [← hW1]
  have tr : Ts w W1 o #[.int .i64 c.tries, .int .i64 c.ack, .int .i64 c.quiet, .int .i64 near, .int .i64 there, .int .i64 s.bit, .int .i64 s.sent, .int .i64 0, .int .i64 s.wait, .bool s.asks, .bool s.poll, v] := by
    rw [hW1]
    exact Ts.cast (((((Ts.start H.out.blk).set 7 _).new _).new _).drewN _) (by simp)
  have a1 : RnA W1 F o c near there { s with left := 0 } := by
    have hno : ¬ v.ownBlock = some o := fun e => own_ne H.out.own H.out.blk (by decide) e
    refine ⟨v, ⟨tr.blk, H.out.own.fr tr.fr (fun g hg (e : g = o) => hno (by rw [← e]; exact hg)), H.out.c, ?_⟩, HF.out⟩
    obtain ⟨h1, h2, h3, h4, h5⟩ := H.out.s
    exact ⟨h1, h2, ⟨by show (0 : Int) ≤ 0; decide, by show (0 : Int) ≤ 10000; decide⟩, h4, h5⟩
  obtain ⟨b0, hb0⟩ : ∃ b, b = w.heap.size := ⟨_, rfl⟩
  have p0 : W1.heap[b0]? = some (.cells pd0 33 (0, 0)) ∧ W1.heap[b0 + 1]? = some (.cells res0 56 (0, 0)) := by
    rw [hW1, hb0]
    constructor
    · exact (heap_alloc_lt _ _ (by simp)).trans (by have := heap_alloc_new' (w.setCell ⟨o, 7, none⟩ (.int .i64 0)) (.cells pd0 33); simpa using this)
    · have := heap_alloc_new' ((w.setCell ⟨o, 7, none⟩ (.int .i64 0)).alloc (.cells pd0 33)) (.cells res0 56)
      simpa using this
  rw [← hb0]
  have A1 := Lib.hid a1
  have F1 := Lib.hid tr.fr
  have P0 := Lib.hid p0
  have Hb0 := Lib.hid hb0
  clear tr a1 p0 hb0 hW1 c0 c6 c7 c9 z
  refine (rpdu A1.out Hsent.out).mono ?_
  rintro e w4 ⟨v', rfl, o4, a4, f4⟩
  have hbo : o < b0 := by rw [Hb0.out]; exact ho
  have p4 := f4.heap P0.out.1 (show ¬ b0 = o by omega)
  have p5 := f4.heap P0.out.2 (show ¬ b0 + 1 = o by omega)
  obtain ⟨xa, xc, hx, _⟩ := own_shape o4
  have A4 : Hid (RnA w4 F o c near there { s with sent := s.sent + 1, left := c.ack }) := a4
  have O4 := Lib.hid o4
  have F4 := Lib.hid (F1.out.trans f4)
  have q0 : ∀ i, w4.frozen? ⟨b0, i, none⟩ = false := fun i => blk_free p4 i
  have q1 : ∀ i, w4.frozen? ⟨b0 + 1, i, none⟩ = false := fun i => blk_free p5 i
  have r0 : w4.cell? ⟨b0, 0, none⟩ = some (.int .i64 0) := blk_cell p4 0
  have r1 : w4.cell? ⟨b0, 1, none⟩ = some (.int .i64 0) := blk_cell p4 1
  have r2 : w4.cell? ⟨b0, 2, none⟩ = some (.bool false) := blk_cell p4 2
  have r3 : w4.cell? ⟨b0, 3, none⟩ = some (.int .i64 0) := blk_cell p4 3
  have r4 : w4.cell? ⟨b0, 4, none⟩ = some (.int .i64 0) := blk_cell p4 4
  have r5 : w4.cell? ⟨b0, 5, none⟩ = some (.int .i64 0) := blk_cell p4 5
  have r6 : w4.cell? ⟨b0, 6, none⟩ = some (.int .i64 0) := blk_cell p4 6
  have r7 : w4.cell? ⟨b0, 7, none⟩ = some (.bool false) := blk_cell p4 7
  have r8 : w4.cell? ⟨b0, 8, none⟩ = some (.slice none 0 0) := blk_cell p4 8
  have u0 : w4.cell? ⟨b0 + 1, 0, none⟩ = some (.bool false) := blk_cell p5 0
  have u1 : w4.cell? ⟨b0 + 1, 1, none⟩ = some (.int .i64 0) := blk_cell p5 1
  have u2 : w4.cell? ⟨b0 + 1, 2, none⟩ = some (.slice none 0 0) := blk_cell p5 2
  have hlt4 : b0 + 1 < w4.heap.size := lt_of_block p5
  have Hlt1 : Hid (b0 + 1 < W1.heap.size) := lt_of_block P0.out.2
  change v' = .slice xa s.b.length xc at hx
  subst hx
  clear p4 p5 o4 a4 f4
  go_wp2_with fail
  refine bodyPost_ret (v := .tuple #[pdV (onP near there s) (.slice xa s.b.length xc), .bool true, resV false 0 (.slice none 0 0)]) ?_ rfl ?_
  · simp only [results, Hres.out]
    go_simp
    exact ⟨rfl, rfl, rfl, rfl, rfl, rfl, rfl, rfl⟩
  · clear r0 r1 r2 r3 r4 r5 r6 r7 r8 u0 u1 u2 q0 q1
    have fin : ∀ W, Fr (fun b => b = b0 ∨ b = b0 + 1) w4 W → OwnB w.heap.size W (.slice xa s.b.length xc) s.b ∧ RnA W F o c near there { s with sent := s.sent + 1, left := c.ack } ∧ Fr (fun b => b = o) w W := fun W hW => by
      have hb0 := Hb0.out
      have hl1 := Hlt1.out
      refine ⟨own_base (own_zero (Own.fr O4.out hW (fun g hg e => ?_))) (fun g hg => ?_), A4.out.keep (fun x hx => hW.blk x (A4.out.lt x hx) (fun e => ?_)), F4.out.trans' hW (fun _ _ e => e) (fun x hx e => ?_)⟩
      · have := (O4.out.lt g hg).1
        omega
      · have := (O4.out.lt g hg).1
        omega
      · have hFw : ∀ x, F x → x < w.heap.size := fun x hx => by
          rcases (HF.out x).1 hx with rfl | e
          · exact ho
          · exact own_lt H.out.own e
        have := hFw x hx
        omega
      · omega
    exact ⟨_, rfl, fin _ (((((((((((((Fr.refl (fun b => b = b0 ∨ b = b0 + 1) w4).setCell (p := ⟨b0, 0, none⟩) (fun _ => .inl rfl) _).setCell (p := ⟨b0, 1, none⟩) (fun _ => .inl rfl) _).setCell (p := ⟨b0, 2, none⟩) (fun _ => .inl rfl) _).setCell (p := ⟨b0, 3, none⟩) (fun _ => .inl rfl) _).setCell (p := ⟨b0, 4, none⟩) (fun _ => .inl rfl) _).setCell (p := ⟨b0, 5, none⟩) (fun _ => .inl rfl) _).setCell (p := ⟨b0, 6, none⟩) (fun _ => .inl rfl) _).setCell (p := ⟨b0, 7, none⟩) (fun _ => .inl rfl) _).setCell (p := ⟨b0, 8, none⟩) (fun _ => .inl rfl) _).setCell (p := ⟨b0 + 1, 0, none⟩) (fun _ => .inr rfl) _).setCell (p := ⟨b0 + 1, 1, none⟩) (fun _ => .inr rfl) _).setCell (p := ⟨b0 + 1, 2, none⟩) (fun _ => .inr rfl) _)⟩
end
end Go.Proofs.Ytkmeklbmjdbifaa
