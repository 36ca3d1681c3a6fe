/-
  Package once: what asks one SAP, in memory; kind, sap, Busy, Wait, send.
-/
import Derived.Test.YtkmeklbmjdbifaaPdu
import Derived.Test.YtkmeklbmjdbifaaFoot
namespace Go.Proofs.Ytkmeklbmjdbifaa
open Go.RowKit
set_option linter.unusedVariables false


/-- How often, how long, how long it rests. -/
structure Cf where
  tries : Int
  ack : Int
  quiet : Int
/-- What it asks. -/
structure Sk where
  asks : Bool
  bit : Int
  sent : Int
  left : Int
  wait : Int
  poll : Bool
  b : List Int
def Cf.ok (c : Cf) : Prop := (1 ≤ c.tries ∧ c.tries ≤ 100) ∧ (1 ≤ c.ack ∧ c.ack ≤ 10000) ∧ (0 ≤ c.quiet ∧ c.quiet ≤ 10000)
def Sk.ok (s : Sk) : Prop := (s.bit = 0 ∨ s.bit = 1) ∧ (0 ≤ s.sent ∧ s.sent ≤ 1000) ∧ (0 ≤ s.left ∧ s.left ≤ 10000) ∧ (0 ≤ s.wait ∧ s.wait ≤ 10000) ∧ s.b.length ≤ 1024
/-- The command. -/
def onP (near there : Int) (s : Sk) : Pd := ⟨there, near, false, 2, 8 + s.bit, 0, 0, s.poll, s.b⟩

/-- It lies at o; q is its PDU, whose bytes are v. -/
structure OnI (w : World) (o : Nat) (c : Cf) (near there : Int) (s : Sk) (q : Pd) (v : Value) : Prop where
  blk : w.heap[o]? = some (.cells #[.int .i64 c.tries, .int .i64 c.ack, .int .i64 c.quiet, .int .i64 near, .int .i64 there, .int .i64 s.bit, .bool s.asks, .int .i64 q.dt, .int .i64 q.fr, .bool q.resp, .int .i64 q.form, .int .i64 q.kind, .int .i64 q.ns, .int .i64 q.nr, .bool q.poll, v, .int .i64 s.sent, .int .i64 s.left, .int .i64 s.wait] 70 (0, 0))
  own : OwnB 0 w v q.info
  asks : s.asks = true → q = onP near there s
  c : c.ok
  s : s.ok
  len : q.info.length ≤ 1024
/-- The same; F are the blocks that it holds. -/
def OnA (w : World) (F : Nat → Prop) (o : Nat) (c : Cf) (near there : Int) (s : Sk) : Prop := ∃ q v, OnI w o c near there s q v ∧ ∀ x, F x ↔ (x = o ∨ v.ownBlock = some x)

section
variable {w w' : World} {F : Nat → Prop} {o : Nat} {c : Cf} {near there : Int} {s : Sk} {q : Pd} {v : Value}
theorem OnI.keep (h : OnI w o c near there s q v) (h1 : w'.heap[o]? = w.heap[o]?) (h2 : ∀ g, v.ownBlock = some g → w'.heap[g]? = w.heap[g]?) : OnI w' o c near there s q v := ⟨h1.trans h.blk, h.own.keep h2, h.asks, h.c, h.s, h.len⟩
theorem OnI.below (h : OnI w o c near there s q v) (hb : Below w.heap.size w w') : OnI w' o c near there s q v := h.keep (hb.block o (lt_of_block h.blk)) (fun g hg => hb.block g (own_lt h.own hg))
theorem OnA.keep (h : OnA w F o c near there s) (hk : ∀ x, F x → w'.heap[x]? = w.heap[x]?) : OnA w' F o c near there s := by
  obtain ⟨q, v, h, hF⟩ := h
  exact ⟨q, v, h.keep (hk o ((hF o).2 (.inl rfl))) (fun g hg => hk g ((hF g).2 (.inr hg))), hF⟩
theorem OnA.below (h : OnA w F o c near there s) (hb : Below w.heap.size w w') : OnA w' F o c near there s := by
  obtain ⟨q, v, h, hF⟩ := h
  exact ⟨q, v, h.below hb, hF⟩
theorem OnA.lt (h : OnA w F o c near there s) : ∀ x, F x → x < w.heap.size := by
  obtain ⟨q, v, h, hF⟩ := h
  intro x hx
  rcases (hF x).1 hx with rfl | e
  · exact lt_of_block h.blk
  · exact own_lt h.own e
theorem OnA.ok (h : OnA w F o c near there s) : c.ok ∧ s.ok := by obtain ⟨q, v, h, _⟩ := h; exact ⟨h.c, h.s⟩
theorem OnA.mem (h : OnA w F o c near there s) : F o := by obtain ⟨q, v, _, hF⟩ := h; exact (hF o).2 (.inl rfl)
end

theorem okind (x : Int) (hx : 0 ≤ x ∧ x ≤ 1000) (w : World) : Calls Try.prog 26 #[.int .i64 x] w fun e w' => e = .returned (.int .i64 (8 + x)) ∧ w' = w := by
  have hw : IntKind.i64.wrap (8 + x) = 8 + x := IntWalk.i64_in _ (by omega)
  go_enter Try.func26, Try.ntmps26
  go_wp2_with fail
  go_ret
  exact ⟨rfl, rfl⟩

theorem obusy {w : World} {F : Nat → Prop} {o : Nat} {c : Cf} {near there : Int} {s : Sk} (h : OnA w F o c near there s) : Calls Try.prog 15 #[.pointer (some ⟨o, 0, none⟩)] w fun e w' => e = .returned (.bool s.asks) ∧ w' = w := by
  obtain ⟨q, v, h, _⟩ := h
  have c6 : w.cell? ⟨o, 6, none⟩ = some (.bool s.asks) := blk_cell h.blk 6
  clear h
  go_enter Try.func15, Try.ntmps15
  go_wp2_with fail
  all_goals
    first
    | (go_quiet (fail); go_wp2_with fail)
    | skip
  all_goals
    go_ret
    exact ⟨rfl, rfl⟩

theorem owait {w : World} {F : Nat → Prop} {o : Nat} {c : Cf} {near there : Int} {s : Sk} (h : OnA w F o c near there s) : Calls Try.prog 23 #[.pointer (some ⟨o, 0, none⟩)] w fun e w' => e = .returned (.int .i64 s.wait) ∧ w' = w := by
  obtain ⟨q, v, h, _⟩ := h
  have c18 : w.cell? ⟨o, 18, none⟩ = some (.int .i64 s.wait) := blk_cell h.blk 18
  clear h
  go_enter Try.func23, Try.ntmps23
  go_wp2_with fail
  go_ret
  exact ⟨rfl, rfl⟩

set_option maxHeartbeats 2000000 in
/-- The command, sent once more: its bytes lie in memory of their own. -/
theorem osend {w : World} {F : Nat → Prop} {o : Nat} {c : Cf} {near there : Int} {s : Sk} (h : OnA w F o c near there s) (ha : s.asks = true) (hs : s.sent ≤ 999) :
    Calls Try.prog 28 #[.pointer (some ⟨o, 0, none⟩)] w fun e w' => ∃ v', e = .returned (pdV (onP near there s) v') ∧ OwnB w.heap.size w' v' s.b ∧ OnA w' F o c near there { s with sent := s.sent + 1, left := c.ack } ∧ Fr (fun b => b = o) w w' := by
  obtain ⟨q, v, h, hF⟩ := h
  have hq := h.asks ha
  have hlen := h.len
  subst hq
  obtain ⟨va, vc, hv, _⟩ := own_shape h.own
  subst hv
  have H := Lib.hid h
  have HF := Lib.hid hF
  have hw : IntKind.i64.wrap (s.sent + 1) = s.sent + 1 := IntWalk.i64_in _ (by have := h.s.2.1; omega)
  have Hs := Lib.hid hs
  have Ha := Lib.hid ha
  have c1 : w.cell? ⟨o, 1, none⟩ = some (.int .i64 c.ack) := blk_cell h.blk 1
  have c7 : w.cell? ⟨o, 7, none⟩ = some (.int .i64 there) := blk_cell h.blk 7
  have c8 : w.cell? ⟨o, 8, none⟩ = some (.int .i64 near) := blk_cell h.blk 8
  have c9 : w.cell? ⟨o, 9, none⟩ = some (.bool false) := blk_cell h.blk 9
  have c10 : w.cell? ⟨o, 10, none⟩ = some (.int .i64 2) := blk_cell h.blk 10
  have c11 : w.cell? ⟨o, 11, none⟩ = some (.int .i64 (8 + s.bit)) := blk_cell h.blk 11
  have c12 : w.cell? ⟨o, 12, none⟩ = some (.int .i64 0) := blk_cell h.blk 12
  have c13 : w.cell? ⟨o, 13, none⟩ = some (.int .i64 0) := blk_cell h.blk 13
  have c14 : w.cell? ⟨o, 14, none⟩ = some (.bool s.poll) := blk_cell h.blk 14
  have c15 : w.cell? ⟨o, 15, none⟩ = some (.slice va (onP near there s).info.length vc) := blk_cell h.blk 15
  have c16 : w.cell? ⟨o, 16, none⟩ = some (.int .i64 s.sent) := blk_cell h.blk 16
  have c17 : w.cell? ⟨o, 17, none⟩ = some (.int .i64 s.left) := blk_cell h.blk 17
  have z16 : w.frozen? ⟨o, 16, none⟩ = false := blk_free h.blk 16
  have z17 : w.frozen? ⟨o, 17, none⟩ = false := blk_free h.blk 17
  have ho := lt_of_block h.blk
  obtain ⟨n, hn⟩ : ∃ n, n = (onP near there s).info.length := ⟨_, rfl⟩
  rw [← hn] at c15 hlen H HF
  have Hn := Lib.hid hn
  clear h hF hs ha hn
  go_enter Try.func28, Try.ntmps28
  go_wp2_with fail
  obtain ⟨S1, hS1⟩ : ∃ S1, S1 = (w.setCell ⟨o, 16, none⟩ (.int .i64 (s.sent + 1))).setCell ⟨o, 17, none⟩ (.int .i64 c.ack) := ⟨_, rfl⟩
  have hsz : w.heap.size = S1.heap.size := by rw [hS1]; simp
  have hf1 : Fr (fun b => b = o) w S1 := by rw [hS1]; exact ((Fr.refl (fun b => b = o) w).setCell (p := ⟨o, 16, none⟩) (fun _ => rfl) _).setCell (p := ⟨o, 17, none⟩) (fun _ => rfl) _
  have hno : ¬ (Value.slice va n vc).ownBlock = some o := fun e => own_ne H.out.own H.out.blk (by decide) e
  have ha1 : OnI S1 o c near there { s with sent := s.sent + 1, left := c.ack } (onP near there s) (.slice va n vc) := by
    refine ⟨?_, H.out.own.fr hf1 (fun g hg (e : g = o) => hno (by rw [← e]; exact hg)), fun _ => rfl, H.out.c, ?_, H.out.len⟩
    · rw [hS1]
      have e1 := heap_setCell_same H.out.blk (i := 16) (.int .i64 (s.sent + 1))
      have e2 := heap_setCell_same e1 (i := 17) (.int .i64 c.ack)
      simpa using e2
    · obtain ⟨h1, h2, h3, h4, h5⟩ := H.out.s
      have := Hs.out
      have := H.out.c
      unfold Cf.ok at this
      exact ⟨h1, ⟨by show 0 ≤ s.sent + 1; omega, by show s.sent + 1 ≤ 1000; omega⟩, ⟨by show 0 ≤ c.ack; omega, by show c.ack ≤ 10000; omega⟩, h4, h5⟩
  rw [← hS1]
  have HA1 := Lib.hid ha1
  have HF1 := Lib.hid hf1
  obtain ⟨b0, hb0⟩ : ∃ b, b = w.heap.size := ⟨_, rfl⟩
  have hb0' : b0 = S1.heap.size := hb0.trans hsz
  rw [← hb0]
  have Hb0 := Lib.hid hb0
  have bel0 : ∀ x y, Below S1.heap.size S1 ((S1.alloc x).alloc y) := fun x y => ((Below.refl _ S1).alloc (Nat.le_refl _) x).alloc (by simp) y
  have hall : ∀ x y (W : World), Below ((S1.alloc x).alloc y).heap.size ((S1.alloc x).alloc y) W → W.heap[b0]? = some x ∧ W.heap[b0 + 1]? = some y := fun x y W hb => by
    refine ⟨(hb.block b0 (by simp; omega)).trans ?_, (hb.block (b0 + 1) (by simp; omega)).trans ?_⟩
    · exact (heap_alloc_lt _ _ (by simp; omega)).trans (by rw [hb0']; exact heap_alloc_new' S1 x)
    · have := heap_alloc_new' (S1.alloc x) y
      rw [show (S1.alloc x).heap.size = b0 + 1 by simp; omega] at this
      exact this
  have Hall := Lib.hid hall
  have Bel0 := Lib.hid bel0
  clear hS1 hsz hf1 ha1 hb0 hall bel0 c1 c7 c8 c9 c10 c11 c12 c13 c14 c15 c16 c17 z16 z17 hno
  refine (cloneB (.slice va n vc) s.b _ (Own.rd (OnI.own (HA1.out.below (Bel0.out _ _)))) (by have := HA1.out.len; show s.b.length ≤ _; have e : (onP near there s).info = s.b := rfl; rw [e] at this; omega)).mono ?_
  rintro e w4 ⟨v', rfl, o4, b4⟩
  obtain ⟨p0, p1⟩ := Hall.out _ _ w4 b4
  obtain ⟨ua, uc, hu, _⟩ := own_shape o4
  have fin : ∀ W, Fr (fun b => b = b0 ∨ b = b0 + 1) w4 W → Hid (OwnB w.heap.size W v' s.b ∧ OnA W F o c near there { s with sent := s.sent + 1, left := c.ack } ∧ Fr (fun b => b = o) w W) := fun W hW => by
    have hbel : Below S1.heap.size S1 w4 := (Bel0.out _ _).trans (b4.mono (by simp; omega))
    have hbW : Below S1.heap.size S1 W := hbel.trans (hW.below' hbel.size (fun k hk => by rcases hk with hk | hk <;> omega))
    have hsz : w.heap.size = S1.heap.size := by rw [← Hb0.out, hb0']
    refine ⟨own_base (own_zero (Own.fr o4 hW (fun g hg e => ?_))) (fun g hg => ?_), ⟨_, _, HA1.out.below hbW, HF.out⟩, HF1.out.trans' (Fr.of_below hbW no) (fun _ _ e => e) (fun _ _ e => e.elim)⟩
    · have := (o4.lt g hg).1
      simp at this
      omega
    · have := (o4.lt g hg).1
      simp at this
      omega
  have Fin := Lib.hid fin
  have q0 : ∀ i, w4.frozen? ⟨b0, i, none⟩ = false := fun i => blk_free p0 i
  have q1 : w4.frozen? ⟨b0 + 1, 8, none⟩ = false := blk_free p1 8
  have r0 : w4.cell? ⟨b0, 0, none⟩ = some (.int .i64 0) := blk_cell p0 0
  have r1 : w4.cell? ⟨b0, 1, none⟩ = some (.int .i64 0) := blk_cell p0 1
  have r2 : w4.cell? ⟨b0, 2, none⟩ = some (.bool false) := blk_cell p0 2
  have r3 : w4.cell? ⟨b0, 3, none⟩ = some (.int .i64 0) := blk_cell p0 3
  have r4 : w4.cell? ⟨b0, 4, none⟩ = some (.int .i64 0) := blk_cell p0 4
  have r5 : w4.cell? ⟨b0, 5, none⟩ = some (.int .i64 0) := blk_cell p0 5
  have r6 : w4.cell? ⟨b0, 6, none⟩ = some (.int .i64 0) := blk_cell p0 6
  have r7 : w4.cell? ⟨b0, 7, none⟩ = some (.bool false) := blk_cell p0 7
  have r8 : w4.cell? ⟨b0, 8, none⟩ = some (.slice none 0 0) := blk_cell p0 8
  have t0 : w4.cell? ⟨b0 + 1, 0, none⟩ = some (.int .i64 there) := blk_cell p1 0
  have t1 : w4.cell? ⟨b0 + 1, 1, none⟩ = some (.int .i64 near) := blk_cell p1 1
  have t2 : w4.cell? ⟨b0 + 1, 2, none⟩ = some (.bool false) := blk_cell p1 2
  have t3 : w4.cell? ⟨b0 + 1, 3, none⟩ = some (.int .i64 2) := blk_cell p1 3
  have t4 : w4.cell? ⟨b0 + 1, 4, none⟩ = some (.int .i64 (8 + s.bit)) := blk_cell p1 4
  have t5 : w4.cell? ⟨b0 + 1, 5, none⟩ = some (.int .i64 0) := blk_cell p1 5
  have t6 : w4.cell? ⟨b0 + 1, 6, none⟩ = some (.int .i64 0) := blk_cell p1 6
  have t7 : w4.cell? ⟨b0 + 1, 7, none⟩ = some (.bool s.poll) := blk_cell p1 7
  have t8 : w4.cell? ⟨b0 + 1, 8, none⟩ = some (.slice va n vc) := blk_cell p1 8
  have hbb : b0 + 1 < w4.heap.size := lt_of_block p1
  clear p0 p1 fin b4 o4 hb0'
  subst hu
  go_wp2_with fail
  have hres : Try.f28.results = #[.cell 2 33] := by kernel_rfl
  refine bodyPost_ret (v := pdV (onP near there s) (.slice ua s.b.length uc)) ?_ rfl ?_
  · simp only [results, hres]
    go_simp
    exact ⟨rfl, rfl, rfl, rfl, rfl, rfl, rfl, rfl⟩
  clear r0 r1 r2 r3 r4 r5 r6 r7 r8 t0 t1 t2 t3 t4 t5 t6 t7 t8 q0 q1
  refine ⟨_, rfl, Hid.out (Fin.out _ ?_)⟩
  exact ((((((((((Fr.refl (fun b => b = b0 ∨ b = b0 + 1) w4).setCell (p := ⟨b0 + 1, 8, none⟩) (fun _ => .inr rfl) _).setCell (p := ⟨b0, 0, none⟩) (fun _ => .inl rfl) _).setCell (p := ⟨b0, 1, none⟩) (fun _ => .inl rfl) _).setCell (p := ⟨b0, 2, none⟩) (fun _ => .inl rfl) _).setCell (p := ⟨b0, 3, none⟩) (fun _ => .inl rfl) _).setCell (p := ⟨b0, 4, none⟩) (fun _ => .inl rfl) _).setCell (p := ⟨b0, 5, none⟩) (fun _ => .inl rfl) _).setCell (p := ⟨b0, 6, none⟩) (fun _ => .inl rfl) _).setCell (p := ⟨b0, 7, none⟩) (fun _ => .inl rfl) _).setCell (p := ⟨b0, 8, none⟩) (fun _ => .inl rfl) _
end Go.Proofs.Ytkmeklbmjdbifaa
