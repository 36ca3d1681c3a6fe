/-
  Package once: Tick.
-/
import Derived.Test.YtkmeklbmjdbifaaOnc2
namespace Go.Proofs.Ytkmeklbmjdbifaa
open Go.RowKit
set_option linter.unusedVariables false


/-- A result. -/
abbrev resV (over : Bool) (st : Int) (v : Value) : Value := .agg #[.bool over, .int .i64 st, v]
abbrev res0 : Array Value := #[.bool false, .int .i64 0, .slice none 0 0]

/-- What has come of w: the block o holds cs, nothing else that was there has turned. -/
structure Tr (w W : World) (o : Nat) (cs : Array Value) : Prop where
  blk : W.heap[o]? = some (.cells cs 70 (0, 0))
  fr : Fr (fun b => b = o) w W
theorem Tr.start {w : World} {o : Nat} {cs : Array Value} (h : w.heap[o]? = some (.cells cs 70 (0, 0))) : Tr w w o cs := ⟨h, Fr.refl _ _⟩
theorem Tr.set {w W : World} {o : Nat} {cs : Array Value} (h : Tr w W o cs) (i : Nat) (u : Value) : Tr w (W.setCell ⟨o, i, none⟩ u) o (cs.setIfInBounds i u) := ⟨heap_setCell_same h.blk u, h.fr.setCell (p := ⟨o, i, none⟩) (fun _ => rfl) u⟩
theorem Tr.new {w W : World} {o : Nat} {cs : Array Value} (h : Tr w W o cs) (x : Obj) : Tr w (W.alloc x) o cs := ⟨(heap_alloc_lt W x (lt_of_block h.blk)).trans h.blk, h.fr.alloc x⟩
theorem Tr.drewN {w W : World} {o : Nat} {cs : Array Value} (h : Tr w W o cs) (n : Nat) : Tr w (W.drewN n) o cs := ⟨h.blk, h.fr.drewN n⟩
theorem Tr.far {w W : World} {o : Nat} {cs : Array Value} (h : Tr w W o cs) (ho : o < w.heap.size) (b i : Nat) (hb : w.heap.size ≤ b) (u : Value) : Tr w (W.setCell ⟨b, i, none⟩ u) o cs :=
  ⟨(heap_setCell_ne (p := ⟨b, i, none⟩) (by show o ≠ b; omega) u).trans h.blk, h.fr.setCell (p := ⟨b, i, none⟩) (fun (e : b < w.heap.size) => by omega) u⟩

theorem Tr.cast {w W : World} {o : Nat} {cs cs' : Array Value} (h : Tr w W o cs) (e : cs = cs') : Tr w W o cs' := e ▸ h

section
variable {w : World} {F : Nat → Prop} {o : Nat} {c : Cf} {near there : Int} {s : Sk}

set_option maxHeartbeats 2000000 in
theorem otickIdle (h : OnA w F o c near there s) (ha : s.asks = false) :
    Calls Try.prog 12 #[.pointer (some ⟨o, 0, none⟩)] w fun e w' => e = .returned (.tuple #[pdV zeroPd (.slice none 0 0), .bool false, resV false 0 (.slice none 0 0)]) ∧ OnA w' F o c near there { s with wait := max (s.wait - 1) 0 } ∧ Fr (fun b => b = o) w w' := by
  obtain ⟨q, v, h, hF⟩ := h
  have c6 : w.cell? ⟨o, 6, none⟩ = some (.bool false) := by rw [← ha]; exact blk_cell h.blk 6
  have c18 : w.cell? ⟨o, 18, none⟩ = some (.int .i64 s.wait) := blk_cell h.blk 18
  have z18 : w.frozen? ⟨o, 18, none⟩ = false := blk_free h.blk 18
  have ho := lt_of_block h.blk
  have hw : IntKind.i64.wrap (s.wait - 1) = s.wait - 1 := IntWalk.i64_in _ (by have := h.s.2.2.2.1; omega)
  have hres : Try.f12.results = #[.cell 2 33, .tmp 3, .cell 4 37] := by kernel_rfl
  have fin : ∀ (m : Int) x y, m = max (s.wait - 1) 0 → Hid (OnA (((w.setCell ⟨o, 18, none⟩ (.int .i64 m)).alloc x).alloc y) F o c near there { s with wait := max (s.wait - 1) 0 } ∧ Fr (fun b => b = o) w (((w.setCell ⟨o, 18, none⟩ (.int .i64 m)).alloc x).alloc y)) := fun m x y hm => by
    rw [← hm]
    have hf1 : Fr (fun b => b = o) w (w.setCell ⟨o, 18, none⟩ (.int .i64 m)) := (Fr.refl (fun b => b = o) w).setCell (p := ⟨o, 18, none⟩) (fun _ => rfl) _
    have hno : ¬ v.ownBlock = some o := fun e => own_ne h.own h.blk (by decide) e
    refine ⟨OnA.below ⟨q, v, ⟨?_, h.own.fr hf1 (fun g hg (e : g = o) => hno (by rw [← e]; exact hg)), fun e => ?_, h.c, ?_, h.len⟩, hF⟩ (((Below.refl _ _).alloc (Nat.le_refl _) x).alloc (by simp) y), (hf1.alloc x).alloc y⟩
    · have e1 := heap_setCell_same h.blk (i := 18) (.int .i64 m)
      simpa using e1
    · have e2 : s.asks = true := e
      rw [ha] at e2
      cases e2
    · obtain ⟨h1, h2, h3, h4, h5⟩ := h.s
      exact ⟨h1, h2, h3, ⟨by show 0 ≤ m; omega, by show m ≤ 10000; omega⟩, h5⟩
  have Fin := Lib.hid fin
  have Hres := Lib.hid hres
  clear h hF fin hres ha
  go_enter Try.func12, Try.ntmps12
  go_wp2_with fail
  all_goals
    refine bodyPost_ret (v := .tuple #[pdV zeroPd (.slice none 0 0), .bool false, resV false 0 (.slice none 0 0)]) ?_ rfl ?_
    · simp only [results, Hres.out]
      go_simp
    · exact ⟨rfl, (Fin.out _ _ _ (by omega)).out⟩

set_option maxHeartbeats 2000000 in
theorem otickWait (h : OnA w F o c near there s) (ha : s.asks = true) (hl : 2 ≤ s.left) :
    Calls Try.prog 12 #[.pointer (some ⟨o, 0, none⟩)] w fun e w' => e = .returned (.tuple #[pdV zeroPd (.slice none 0 0), .bool false, resV false 0 (.slice none 0 0)]) ∧ OnA w' F o c near there { s with left := s.left - 1 } ∧ Fr (fun b => b = o) w w' := by
  obtain ⟨q, v, h, hF⟩ := h
  have c6 : w.cell? ⟨o, 6, none⟩ = some (.bool true) := by rw [← ha]; exact blk_cell h.blk 6
  have c17 : w.cell? ⟨o, 17, none⟩ = some (.int .i64 s.left) := blk_cell h.blk 17
  have z17 : w.frozen? ⟨o, 17, none⟩ = false := blk_free h.blk 17
  have ho := lt_of_block h.blk
  have hw : IntKind.i64.wrap (s.left - 1) = s.left - 1 := IntWalk.i64_in _ (by have := h.s.2.2.1; omega)
  have hd : decide (0 < s.left - 1) = true := by simp; omega
  have hd2 : decide (1 < s.left) = true := by simp; omega
  have hres : Try.f12.results = #[.cell 2 33, .tmp 3, .cell 4 37] := by kernel_rfl
  have fin : ∀ x y, Hid (OnA (((w.setCell ⟨o, 17, none⟩ (.int .i64 (s.left - 1))).alloc x).alloc y) F o c near there { s with left := s.left - 1 } ∧ Fr (fun b => b = o) w (((w.setCell ⟨o, 17, none⟩ (.int .i64 (s.left - 1))).alloc x).alloc y)) := fun x y => by
    have hf1 : Fr (fun b => b = o) w (w.setCell ⟨o, 17, none⟩ (.int .i64 (s.left - 1))) := (Fr.refl (fun b => b = o) w).setCell (p := ⟨o, 17, none⟩) (fun _ => rfl) _
    have hno : ¬ v.ownBlock = some o := fun e => own_ne h.own h.blk (by decide) e
    refine ⟨OnA.below ⟨q, v, ⟨?_, h.own.fr hf1 (fun g hg (e : g = o) => hno (by rw [← e]; exact hg)), fun e => h.asks e, h.c, ?_, h.len⟩, hF⟩ (((Below.refl _ _).alloc (Nat.le_refl _) x).alloc (by simp) y), (hf1.alloc x).alloc y⟩
    · have e1 := heap_setCell_same h.blk (i := 17) (.int .i64 (s.left - 1))
      simpa using e1
    · obtain ⟨h1, h2, h3, h4, h5⟩ := h.s
      exact ⟨h1, h2, ⟨by show 0 ≤ s.left - 1; omega, by show s.left - 1 ≤ 10000; omega⟩, h4, h5⟩
  have Fin := Lib.hid fin
  have Hres := Lib.hid hres
  clear h hF fin hres ha hl
  go_enter Try.func12, Try.ntmps12
  go_wp2_with fail
  refine bodyPost_ret (v := .tuple #[pdV zeroPd (.slice none 0 0), .bool false, resV false 0 (.slice none 0 0)]) ?_ rfl ?_
  · simp only [results, Hres.out]
    go_simp
  · exact ⟨rfl, (Fin.out _ _).out⟩

set_option maxHeartbeats 2000000 in
theorem otickOver (h : OnA w F o c near there s) (ha : s.asks = true) (hl : s.left = 1) (ht : c.tries ≤ s.sent) :
    Calls Try.prog 12 #[.pointer (some ⟨o, 0, none⟩)] w fun e w' => e = .returned (.tuple #[pdV zeroPd (.slice none 0 0), .bool false, resV true 1 (.slice none 0 0)]) ∧ OnA w' F o c near there { s with asks := false, wait := c.quiet, bit := 0, left := 0 } ∧ Fr (fun b => b = o) w w' := by
  obtain ⟨q, v, h, hF⟩ := h
  have c0 : w.cell? ⟨o, 0, none⟩ = some (.int .i64 c.tries) := blk_cell h.blk 0
  have c2 : w.cell? ⟨o, 2, none⟩ = some (.int .i64 c.quiet) := blk_cell h.blk 2
  have c5 : w.cell? ⟨o, 5, none⟩ = some (.int .i64 s.bit) := blk_cell h.blk 5
  have c6 : w.cell? ⟨o, 6, none⟩ = some (.bool true) := by rw [← ha]; exact blk_cell h.blk 6
  have c16 : w.cell? ⟨o, 16, none⟩ = some (.int .i64 s.sent) := blk_cell h.blk 16
  have c17 : w.cell? ⟨o, 17, none⟩ = some (.int .i64 1) := by rw [← hl]; exact blk_cell h.blk 17
  have c18 : w.cell? ⟨o, 18, none⟩ = some (.int .i64 s.wait) := blk_cell h.blk 18
  have z : ∀ i, w.frozen? ⟨o, i, none⟩ = false := fun i => blk_free h.blk i
  have ho := lt_of_block h.blk
  have hd : decide (c.tries ≤ s.sent) = true := by simpa using ht
  have hres : Try.f12.results = #[.cell 2 33, .tmp 3, .cell 4 37] := by kernel_rfl
  have Hres := Lib.hid hres
  have H := Lib.hid h
  have HF := Lib.hid hF
  clear h hF hres ha hl ht
  go_enter Try.func12, Try.ntmps12
  go_wp2_with fail
  go_quiet (fail)
  go_wp2_with fail
  refine bodyPost_ret (v := .tuple #[pdV zeroPd (.slice none 0 0), .bool false, resV true 1 (.slice none 0 0)]) ?_ rfl ?_
  · simp only [results, Hres.out]
    go_simp
  · have fin : ∀ W, Tr w W o #[.int .i64 c.tries, .int .i64 c.ack, .int .i64 c.quiet, .int .i64 near, .int .i64 there, .int .i64 0, .bool false, .int .i64 q.dt, .int .i64 q.fr, .bool q.resp, .int .i64 q.form, .int .i64 q.kind, .int .i64 q.ns, .int .i64 q.nr, .bool q.poll, v, .int .i64 s.sent, .int .i64 0, .int .i64 c.quiet] → OnA W F o c near there { s with asks := false, wait := c.quiet, bit := 0, left := 0 } ∧ Fr (fun b => b = o) w W := fun W hW => by
      have hno : ¬ v.ownBlock = some o := fun e => own_ne H.out.own H.out.blk (by decide) e
      refine ⟨⟨q, v, ⟨hW.blk, H.out.own.fr hW.fr (fun g hg (e : g = o) => hno (by rw [← e]; exact hg)), fun e => (by cases e), H.out.c, ?_, H.out.len⟩, HF.out⟩, hW.fr⟩
      obtain ⟨h1, h2, h3, h4, h5⟩ := H.out.s
      have hc := H.out.c.2.2
      exact ⟨.inl rfl, h2, ⟨by show (0 : Int) ≤ 0; decide, by show (0 : Int) ≤ 10000; decide⟩, hc, h5⟩
    refine ⟨rfl, fin _ ?_⟩
    exact Tr.cast ((((((((((((((((((((Tr.start H.out.blk).set 17 _).new _).new _).drewN _).set 6 _).set 18 _).set 5 _).far ho w.heap.size 0 (Nat.le_refl _) _).far ho w.heap.size 1 (Nat.le_refl _) _).far ho w.heap.size 2 (Nat.le_refl _) _).far ho w.heap.size 3 (Nat.le_refl _) _).far ho w.heap.size 4 (Nat.le_refl _) _).far ho w.heap.size 5 (Nat.le_refl _) _).far ho w.heap.size 6 (Nat.le_refl _) _).far ho w.heap.size 7 (Nat.le_refl _) _).far ho w.heap.size 8 (Nat.le_refl _) _).far ho (w.heap.size + 1) 0 (Nat.le_succ _) _).far ho (w.heap.size + 1) 1 (Nat.le_succ _) _).far ho (w.heap.size + 1) 2 (Nat.le_succ _) _) (by simp)

set_option maxHeartbeats 4000000 in
theorem otickSend (h : OnA w F o c near there s) (ha : s.asks = true) (hl : s.left = 1) (ht : s.sent < c.tries) :
    Calls Try.prog 12 #[.pointer (some ⟨o, 0, none⟩)] w fun e w' => ∃ v', e = .returned (.tuple #[pdV (onP near there s) v', .bool true, resV false 0 (.slice none 0 0)]) ∧ OwnB w.heap.size w' v' s.b ∧ OnA w' F o c near there { s with sent := s.sent + 1, left := c.ack } ∧ Fr (fun b => b = o) w w' := by
  obtain ⟨q, v, h, hF⟩ := h
  have c0 : w.cell? ⟨o, 0, none⟩ = some (.int .i64 c.tries) := blk_cell h.blk 0
  have c6 : w.cell? ⟨o, 6, none⟩ = some (.bool true) := by rw [← ha]; exact blk_cell h.blk 6
  have c16 : w.cell? ⟨o, 16, none⟩ = some (.int .i64 s.sent) := blk_cell h.blk 16
  have c17 : w.cell? ⟨o, 17, none⟩ = some (.int .i64 1) := by rw [← hl]; exact blk_cell h.blk 17
  have z : ∀ i, w.frozen? ⟨o, i, none⟩ = false := fun i => blk_free h.blk i
  have ho := lt_of_block h.blk
  have hd : decide (c.tries ≤ s.sent) = false := by simp; omega
  have hres : Try.f12.results = #[.cell 2 33, .tmp 3, .cell 4 37] := by kernel_rfl
  have Hres := Lib.hid hres
  have H := Lib.hid h
  have HF := Lib.hid hF
  have Ha := Lib.hid ha
  have Hsent : Hid (s.sent ≤ 999) := by unfold Hid; have := h.c.1; omega
  clear h hF hres ha hl ht
  go_enter Try.func12, Try.ntmps12
  go_wp2_with fail
  go_quiet (fail)
  go_wp2_with fail
  obtain ⟨W1, hW1⟩ : ∃ W1, W1 = (((w.setCell ⟨o, 17, none⟩ (.int .i64 0)).alloc (.cells pd0 33)).alloc (.cells res0 37)).drewN nq := ⟨_, rfl⟩
  rw [← hW1]
  have tr : Tr w W1 o #[.int .i64 c.tries, .int .i64 c.ack, .int .i64 c.quiet, .int .i64 near, .int .i64 there, .int .i64 s.bit, .bool s.asks, .int .i64 q.dt, .int .i64 q.fr, .bool q.resp, .int .i64 q.form, .int .i64 q.kind, .int .i64 q.ns, .int .i64 q.nr, .bool q.poll, v, .int .i64 s.sent, .int .i64 0, .int .i64 s.wait] := by
    rw [hW1]
    exact Tr.cast (((((Tr.start H.out.blk).set 17 _).new _).new _).drewN _) (by simp)
  have a1 : OnA W1 F o c near there { s with left := 0 } := by
    have hno : ¬ v.ownBlock = some o := fun e => own_ne H.out.own H.out.blk (by decide) e
    refine ⟨q, v, ⟨tr.blk, H.out.own.fr tr.fr (fun g hg (e : g = o) => hno (by rw [← e]; exact hg)), fun e => H.out.asks e, H.out.c, ?_, H.out.len⟩, HF.out⟩
    obtain ⟨h1, h2, h3, h4, h5⟩ := H.out.s
    exact ⟨h1, h2, ⟨by show (0 : Int) ≤ 0; decide, by show (0 : Int) ≤ 10000; decide⟩, h4, h5⟩
  obtain ⟨b0, hb0⟩ : ∃ b, b = w.heap.size := ⟨_, rfl⟩
  have p0 : W1.heap[b0]? = some (.cells pd0 33 (0, 0)) ∧ W1.heap[b0 + 1]? = some (.cells res0 37 (0, 0)) := by
    rw [hW1, hb0]
    constructor
    · exact (heap_alloc_lt _ _ (by simp)).trans (by have := heap_alloc_new' (w.setCell ⟨o, 17, none⟩ (.int .i64 0)) (.cells pd0 33); simpa using this)
    · have := heap_alloc_new' ((w.setCell ⟨o, 17, none⟩ (.int .i64 0)).alloc (.cells pd0 33)) (.cells res0 37)
      simpa using this
  rw [← hb0]
  have A1 := Lib.hid a1
  have F1 := Lib.hid tr.fr
  have P0 := Lib.hid p0
  have Hb0 := Lib.hid hb0
  clear tr a1 p0 hb0 hW1 c0 c6 c16 c17 z
  refine (osend A1.out Ha.out Hsent.out).mono ?_
  rintro e w4 ⟨v', rfl, o4, a4, f4⟩
  have hbo : o < b0 := by rw [Hb0.out]; exact ho
  have p4 := f4.heap P0.out.1 (show ¬ b0 = o by omega)
  have p5 := f4.heap P0.out.2 (show ¬ b0 + 1 = o by omega)
  obtain ⟨xa, xc, hx, _⟩ := own_shape o4
  have A4 : Hid (OnA w4 F o c near there { s with sent := s.sent + 1, left := c.ack }) := a4
  have O4 := Lib.hid o4
  have F4 := Lib.hid (F1.out.trans f4)
  have q0 : ∀ i, w4.frozen? ⟨b0, i, none⟩ = false := fun i => blk_free p4 i
  have q1 : ∀ i, w4.frozen? ⟨b0 + 1, i, none⟩ = false := fun i => blk_free p5 i
  have r0 : w4.cell? ⟨b0, 0, none⟩ = some (.int .i64 0) := blk_cell p4 0
  have r1 : w4.cell? ⟨b0, 1, none⟩ = some (.int .i64 0) := blk_cell p4 1
  have r2 : w4.cell? ⟨b0, 2, none⟩ = some (.bool false) := blk_cell p4 2
  have r3 : w4.cell? ⟨b0, 3, none⟩ = some (.int .i64 0) := blk_cell p4 3
  have r4 : w4.cell? ⟨b0, 4, none⟩ = some (.int .i64 0) := blk_cell p4 4
  have r5 : w4.cell? ⟨b0, 5, none⟩ = some (.int .i64 0) := blk_cell p4 5
  have r6 : w4.cell? ⟨b0, 6, none⟩ = some (.int .i64 0) := blk_cell p4 6
  have r7 : w4.cell? ⟨b0, 7, none⟩ = some (.bool false) := blk_cell p4 7
  have r8 : w4.cell? ⟨b0, 8, none⟩ = some (.slice none 0 0) := blk_cell p4 8
  have u0 : w4.cell? ⟨b0 + 1, 0, none⟩ = some (.bool false) := blk_cell p5 0
  have u1 : w4.cell? ⟨b0 + 1, 1, none⟩ = some (.int .i64 0) := blk_cell p5 1
  have u2 : w4.cell? ⟨b0 + 1, 2, none⟩ = some (.slice none 0 0) := blk_cell p5 2
  have hlt4 : b0 + 1 < w4.heap.size := lt_of_block p5
  have Hlt1 : Hid (b0 + 1 < W1.heap.size) := lt_of_block P0.out.2
  change v' = .slice xa s.b.length xc at hx
  subst hx
  clear p4 p5 o4 a4 f4
  go_wp2_with fail
  refine bodyPost_ret (v := .tuple #[pdV (onP near there s) (.slice xa s.b.length xc), .bool true, resV false 0 (.slice none 0 0)]) ?_ rfl ?_
  · simp only [results, Hres.out]
    go_simp
    exact ⟨rfl, rfl, rfl, rfl, rfl, rfl, rfl, rfl⟩
  · clear r0 r1 r2 r3 r4 r5 r6 r7 r8 u0 u1 u2 q0 q1
    have fin : ∀ W, Fr (fun b => b = b0 ∨ b = b0 + 1) w4 W → OwnB w.heap.size W (.slice xa s.b.length xc) s.b ∧ OnA W F o c near there { s with sent := s.sent + 1, left := c.ack } ∧ Fr (fun b => b = o) w W := fun W hW => by
      have hb0 := Hb0.out
      have hl1 := Hlt1.out
      refine ⟨own_base (own_zero (Own.fr O4.out hW (fun g hg e => ?_))) (fun g hg => ?_), A4.out.keep (fun x hx => hW.blk x (A4.out.lt x hx) (fun e => ?_)), F4.out.trans' hW (fun _ _ e => e) (fun x hx e => ?_)⟩
      · have := (O4.out.lt g hg).1
        omega
      · have := (O4.out.lt g hg).1
        omega
      · have hFw : ∀ x, F x → x < w.heap.size := fun x hx => by
          rcases (HF.out x).1 hx with rfl | e
          · exact ho
          · exact own_lt H.out.own e
        have := hFw x hx
        omega
      · omega
    exact ⟨_, rfl, fin _ (((((((((((((Fr.refl (fun b => b = b0 ∨ b = b0 + 1) w4).setCell (p := ⟨b0, 0, none⟩) (fun _ => .inl rfl) _).setCell (p := ⟨b0, 1, none⟩) (fun _ => .inl rfl) _).setCell (p := ⟨b0, 2, none⟩) (fun _ => .inl rfl) _).setCell (p := ⟨b0, 3, none⟩) (fun _ => .inl rfl) _).setCell (p := ⟨b0, 4, none⟩) (fun _ => .inl rfl) _).setCell (p := ⟨b0, 5, none⟩) (fun _ => .inl rfl) _).setCell (p := ⟨b0, 6, none⟩) (fun _ => .inl rfl) _).setCell (p := ⟨b0, 7, none⟩) (fun _ => .inl rfl) _).setCell (p := ⟨b0, 8, none⟩) (fun _ => .inl rfl) _).setCell (p := ⟨b0 + 1, 0, none⟩) (fun _ => .inr rfl) _).setCell (p := ⟨b0 + 1, 1, none⟩) (fun _ => .inr rfl) _).setCell (p := ⟨b0 + 1, 2, none⟩) (fun _ => .inr rfl) _)⟩
end
end Go.Proofs.Ytkmeklbmjdbifaa
