/-
  The program's Once and the reference's side by side, and blocks that the law keeps beside them.
-/
import Derived.Test.YtkmeklbmjdbifaaOnX
import Derived.Test.YtkmeklbmjdbifaaOnr13
namespace Go.Proofs.Ytkmeklbmjdbifaa
open Go.RowKit
set_option linter.unusedVariables false


abbrev un (F G : Nat → Prop) : Nat → Prop := fun x => F x ∨ G x
theorem stp_l {F F' G : Nat → Prop} {w w' : World} (h : Stp F F' w w') : Stp (un F G) (un F' G) w w' := ⟨h.fr.mono (fun _ _ e => .inl e), fun b e => e.elim (fun e => (h.new b e).imp .inl id) (fun e => .inl (.inr e))⟩
theorem stp_r {F G G' : Nat → Prop} {w w' : World} (h : Stp G G' w w') : Stp (un F G) (un F G') w w' := ⟨h.fr.mono (fun _ _ e => .inr e), fun b e => e.elim (fun e => .inl (.inl e)) (fun e => (h.new b e).imp .inr id)⟩

structure OpX (w0 w : World) (o m : Nat) (c : Cf) (s t : Sk) (kb : List (Nat × Obj)) : Prop where
  ex : ∃ F G, OnA w F o c 4 8 s ∧ RnA w G m c 4 8 t ∧ (∀ x, F x → G x → False) ∧ (∀ x, un F G x → w0.heap.size ≤ x) ∧ Below w0.heap.size w0 w ∧ Kept w (un F G) kb

section
variable {w0 w w' : World} {o m : Nat} {c : Cf} {s t : Sk} {kb : List (Nat × Obj)}
theorem RnA.mem {F : Nat → Prop} {near there : Int} (h : RnA w F m c near there s) : F m := by obtain ⟨v, _, hF⟩ := h; exact (hF m).2 (.inl rfl)
theorem OpX.bel (h : OpX w0 w o m c s t kb) : Below w0.heap.size w0 w := by obtain ⟨F, G, _, _, _, _, h, _⟩ := h.ex; exact h
theorem OpX.geo (h : OpX w0 w o m c s t kb) : w0.heap.size ≤ o := by obtain ⟨F, G, h1, _, _, h4, _⟩ := h.ex; exact h4 o (.inl h1.mem)
theorem OpX.gem (h : OpX w0 w o m c s t kb) : w0.heap.size ≤ m := by obtain ⟨F, G, _, h2, _, h4, _⟩ := h.ex; exact h4 m (.inr h2.mem)
theorem OpX.kept (h : OpX w0 w o m c s t kb) {b : Nat} {x : Obj} (hq : (b, x) ∈ kb) : w.heap[b]? = some x := by obtain ⟨F, G, _, _, _, _, _, k⟩ := h.ex; exact (k _ hq).1
theorem OpX.mblk (h : OpX w0 w o m c s t kb) : ∃ v, w.heap[m]? = some (.cells #[.int .i64 c.tries, .int .i64 c.ack, .int .i64 c.quiet, .int .i64 4, .int .i64 8, .int .i64 t.bit, .int .i64 t.sent, .int .i64 t.left, .int .i64 t.wait, .bool t.asks, .bool t.poll, v] 55 (0, 0)) ∧ t.ok := by
  obtain ⟨F, G, _, h2, _⟩ := h.ex
  obtain ⟨v, h2, _⟩ := h2
  exact ⟨v, h2.blk, h2.s⟩
theorem OpX.below (h : OpX w0 w o m c s t kb) (hb : Below w.heap.size w w') : OpX w0 w' o m c s t kb := by
  obtain ⟨F, G, h1, h2, h3, h4, h5, h6⟩ := h.ex
  exact ⟨F, G, h1.below hb, h2.below hb, h3, h4, h5.trans (hb.mono h5.size), h6.below hb⟩
theorem OpX.alloc (h : OpX w0 w o m c s t kb) (x : Obj) : OpX w0 (w.alloc x) o m c s t ((w.heap.size, x) :: kb) := by
  obtain ⟨F, G, h1, h2, h3, h4, h5, h6⟩ := h.ex
  have hb := (Below.refl w.heap.size w).alloc (Nat.le_refl _) x
  exact ⟨F, G, h1.below hb, h2.below hb, h3, h4, h5.trans (hb.mono h5.size), (h6.below hb).cons (heap_alloc_new' w x) (fun e => e.elim (fun e => by have := h1.lt _ e; omega) (fun e => by have := h2.lt _ e; omega))⟩
theorem OpX.sub {kb' : List (Nat × Obj)} (h : OpX w0 w o m c s t kb) (hs : ∀ q ∈ kb', q ∈ kb) : OpX w0 w o m c s t kb' := by
  obtain ⟨F, G, h1, h2, h3, h4, h5, h6⟩ := h.ex
  exact ⟨F, G, h1, h2, h3, h4, h5, h6.sub hs⟩
theorem OpX.set {b : Nat} {cs : Array Value} {ty : TypeId} {fr : Nat × Nat} (h : OpX w0 w o m c s t ((b, .cells cs ty fr) :: kb)) (i : Nat) (u : Value) (hb : w0.heap.size ≤ b) (hd : ∀ q ∈ kb, q.1 ≠ b) : OpX w0 (w.setCell ⟨b, i, none⟩ u) o m c s t ((b, .cells (cs.setIfInBounds i u) ty fr) :: kb) := by
  obtain ⟨F, G, h1, h2, h3, h4, h5, h6⟩ := h.ex
  have hn := (h6 _ (List.mem_cons_self ..)).2
  have hf : Fr (fun x => x = b) w (w.setCell ⟨b, i, none⟩ u) := (Fr.refl (fun x => x = b) w).setCell (p := ⟨b, i, none⟩) (fun _ => rfl) u
  refine ⟨F, G, h1.keep (fun x hx => hf.blk x (h1.lt x hx) (fun e => hn (.inl (by rw [← e]; exact hx)))), h2.keep (fun x hx => hf.blk x (h2.lt x hx) (fun e => hn (.inr (by rw [← e]; exact hx)))), h3, h4, h5.trans (hf.below' h5.size (fun x e => by rw [e]; exact hb)), fun q hq => ?_⟩
  rcases List.mem_cons.1 hq with rfl | hq
  · exact ⟨set_heap_same (h6 _ (List.mem_cons_self ..)).1 u, hn⟩
  · obtain ⟨e1, e2⟩ := h6 q (List.mem_cons_of_mem _ hq)
    exact ⟨(heap_setCell_ne (p := ⟨b, i, none⟩) (hd q hq) u).trans e1, e2⟩
theorem OpX.set9 {b : Nat} {x0 x1 x2 x3 x4 x5 x6 x7 x8 : Value} {ty : TypeId} (h : OpX w0 w o m c s t ((b, .cells #[x0, x1, x2, x3, x4, x5, x6, x7, x8] ty (0, 0)) :: kb)) (u0 u1 u2 u3 u4 u5 u6 u7 u8 : Value) (hb : w0.heap.size ≤ b) (hd : ∀ q ∈ kb, q.1 ≠ b) :
    OpX w0 (((((((((w.setCell ⟨b, 0, none⟩ u0).setCell ⟨b, 1, none⟩ u1).setCell ⟨b, 2, none⟩ u2).setCell ⟨b, 3, none⟩ u3).setCell ⟨b, 4, none⟩ u4).setCell ⟨b, 5, none⟩ u5).setCell ⟨b, 6, none⟩ u6).setCell ⟨b, 7, none⟩ u7).setCell ⟨b, 8, none⟩ u8) o m c s t ((b, .cells #[u0, u1, u2, u3, u4, u5, u6, u7, u8] ty (0, 0)) :: kb) := by
  have := ((((((((h.set 0 u0 hb hd).set 1 u1 hb hd).set 2 u2 hb hd).set 3 u3 hb hd).set 4 u4 hb hd).set 5 u5 hb hd).set 6 u6 hb hd).set 7 u7 hb hd).set 8 u8 hb hd
  simpa using this

/-- A step of the program's, its answer's row v. -/
theorem OpX.pstep {F F' G : Nat → Prop} {s' : Sk} {v : Value} {l : List Int} (h2 : RnA w G m c 4 8 t) (h3 : ∀ x, F x → G x → False) (h4 : ∀ x, un F G x → w0.heap.size ≤ x) (h5 : Below w0.heap.size w0 w) (h6 : Kept w (un F G) kb)
    (g1 : OwnB w.heap.size w' v l) (g2 : OnA w' F' o c 4 8 s') (g3 : Stp F F' w w') (g4 : ∀ g, v.ownBlock = some g → ¬ F' g) : OpX w0 w' o m c s' t (rowOf w' v ++ kb) := by
  have o1 := g3.other h2.lt (fun x e e' => h3 x e e')
  have u := stp_l (G := G) g3
  exact ⟨F', G, g2, h2.keep o1.1, fun x e e' => o1.2 x e e', u.ge h5.size h4, h5.trans (u.below h5.size h4), (Kept.row (fun g hg e => e.elim (g4 g hg) (fun e => by have := (g1.lt g hg).1; have := h2.lt g e; omega))).app (h6.stp u)⟩
theorem OpX.qstep {F G G' : Nat → Prop} {t' : Sk} {v : Value} {l : List Int} (h1 : OnA w F o c 4 8 s) (h3 : ∀ x, F x → G x → False) (h4 : ∀ x, un F G x → w0.heap.size ≤ x) (h5 : Below w0.heap.size w0 w) (h6 : Kept w (un F G) kb)
    (g1 : OwnB w.heap.size w' v l) (g2 : RnA w' G' m c 4 8 t') (g3 : Stp G G' w w') (g4 : ∀ g, v.ownBlock = some g → ¬ G' g) : OpX w0 w' o m c s t' (rowOf w' v ++ kb) := by
  have o1 := g3.other h1.lt (fun x e e' => h3 x e' e)
  have u := stp_r (F := F) g3
  exact ⟨F, G', h1.keep o1.1, g2, fun x e e' => o1.2 x e' e, u.ge h5.size h4, h5.trans (u.below h5.size h4), (Kept.row (fun g hg e => e.elim (fun e => by have := (g1.lt g hg).1; have := h1.lt g e; omega) (g4 g hg))).app (h6.stp u)⟩

theorem pask (h : OpX w0 w o m c s t kb) (bv : Value) (b : List Int) (hs : ∀ W', Fr (fun x => x = o) w W' → RdB W' bv b) (poll : Bool) {P : Pd} {E : Int} {s' : Sk} (hr : askR c 4 8 s b poll = (P, E, s')) :
    Calls Try.prog 11 #[.pointer (some ⟨o, 0, none⟩), bv, .bool poll] w fun e w' => ∃ a k ex, e = .returned (.tuple #[pdV P (.slice a P.info.length k), .int .i64 E]) ∧ OpX w0 w' o m c s' t (ex ++ kb) ∧ ∀ W, (∀ q ∈ ex, W.heap[q.1]? = some q.2) → OwnB 0 W (.slice a P.info.length k) P.info := by
  obtain ⟨F, G, h1, h2, h3, h4, h5, h6⟩ := h.ex
  refine (oask h1 bv b hs poll hr).mono ?_
  rintro e w' ⟨a, k, F', rfl, g1, g2, g3, g4⟩
  exact ⟨a, k, _, rfl, OpX.pstep h2 h3 h4 h5 h6 g1 g2 g3 g4, fun W hW => own_zero (rowOf_rd g1 hW)⟩
theorem qask (h : OpX w0 w o m c s t kb) (bv : Value) (b : List Int) (hs : ∀ W', Fr (fun x => x = m) w W' → RdB W' bv b) (poll : Bool) {P : Pd} {E : Int} {s' : Sk} (hr : askR c 4 8 t b poll = (P, E, s')) :
    Calls Try.prog 17 #[.pointer (some ⟨m, 0, none⟩), bv, .bool poll] w fun e w' => ∃ a k ex, e = .returned (.tuple #[pdV P (.slice a P.info.length k), .int .i64 E]) ∧ OpX w0 w' o m c s s' (ex ++ kb) ∧ ∀ W, (∀ q ∈ ex, W.heap[q.1]? = some q.2) → OwnB 0 W (.slice a P.info.length k) P.info := by
  obtain ⟨F, G, h1, h2, h3, h4, h5, h6⟩ := h.ex
  refine (rask h2 bv b hs poll hr).mono ?_
  rintro e w' ⟨a, k, F', rfl, g1, g2, g3, g4⟩
  exact ⟨a, k, _, rfl, OpX.qstep h1 h3 h4 h5 h6 g1 g2 g3 g4, fun W hW => own_zero (rowOf_rd g1 hW)⟩
theorem ptick (h : OpX w0 w o m c s t kb) (hl : s.live) {P : Pd} {sent ov : Bool} {st : Int} {s' : Sk} (hr : tickR c 4 8 s = (P, sent, (ov, st), s')) :
    Calls Try.prog 12 #[.pointer (some ⟨o, 0, none⟩)] w fun e w' => ∃ a k ex, e = .returned (.tuple #[pdV P (.slice a P.info.length k), .bool sent, resV ov st (.slice none 0 0)]) ∧ OpX w0 w' o m c s' t (ex ++ kb) ∧ ∀ W, (∀ q ∈ ex, W.heap[q.1]? = some q.2) → OwnB 0 W (.slice a P.info.length k) P.info := by
  obtain ⟨F, G, h1, h2, h3, h4, h5, h6⟩ := h.ex
  refine (otick h1 hl hr).mono ?_
  rintro e w' ⟨a, k, rfl, g1, g2, g3⟩
  exact ⟨a, k, _, rfl, OpX.pstep h2 h3 h4 h5 h6 g1 g2 (fr_stp h1.mem g3) (fun g hg e => by have := (g1.lt g hg).1; have := h1.lt g e; omega), fun W hW => own_zero (rowOf_rd g1 hW)⟩
theorem qtick (h : OpX w0 w o m c s t kb) (hl : t.live) {P : Pd} {sent ov : Bool} {st : Int} {s' : Sk} (hr : tickR c 4 8 t = (P, sent, (ov, st), s')) :
    Calls Try.prog 22 #[.pointer (some ⟨m, 0, none⟩)] w fun e w' => ∃ a k ex, e = .returned (.tuple #[pdV P (.slice a P.info.length k), .bool sent, resV ov st (.slice none 0 0)]) ∧ OpX w0 w' o m c s s' (ex ++ kb) ∧ ∀ W, (∀ q ∈ ex, W.heap[q.1]? = some q.2) → OwnB 0 W (.slice a P.info.length k) P.info := by
  obtain ⟨F, G, h1, h2, h3, h4, h5, h6⟩ := h.ex
  refine (rtick h2 hl hr).mono ?_
  rintro e w' ⟨a, k, rfl, g1, g2, g3⟩
  exact ⟨a, k, _, rfl, OpX.qstep h1 h3 h4 h5 h6 g1 g2 (fr_stp h2.mem g3) (fun g hg e => by have := (g1.lt g hg).1; have := h2.lt g e; omega), fun W hW => own_zero (rowOf_rd g1 hW)⟩
theorem phear (h : OpX w0 w o m c s t kb) (p : Pd) (pa : Option Addr) (k : Nat) (hr : RdB w (.slice pa p.info.length k) p.info) (hby : ∀ y ∈ p.info, 0 ≤ y ∧ y ≤ 255) (hkl : p.info.length ≤ k) (hkm : k ≤ 9223372036854775807) {ov : Bool} {st : Int} {B : List Int} {s' : Sk} (hh : hearR 4 8 s p = ((ov, st, B), s')) :
    Calls Try.prog 14 #[.pointer (some ⟨o, 0, none⟩), pdV p (.slice pa p.info.length k)] w fun e w' => ∃ a k' ex, e = .returned (resV ov st (.slice a B.length k')) ∧ OpX w0 w' o m c s' t (ex ++ kb) ∧ ∀ W, (∀ q ∈ ex, W.heap[q.1]? = some q.2) → OwnB 0 W (.slice a B.length k') B := by
  obtain ⟨F, G, h1, h2, h3, h4, h5, h6⟩ := h.ex
  refine (ohear h1 p pa k hr hby hkl hkm hh).mono ?_
  rintro e w' ⟨a, k', rfl, g1, g2, g3⟩
  exact ⟨a, k', _, rfl, OpX.pstep h2 h3 h4 h5 h6 g1 g2 (fr_stp h1.mem g3) (fun g hg e => by have := (g1.lt g hg).1; have := h1.lt g e; omega), fun W hW => own_zero (rowOf_rd g1 hW)⟩
theorem rowOf_own {w : World} {v : Value} {q : Nat × Obj} (hq : q ∈ rowOf w v) : v.ownBlock = some q.1 := by
  unfold rowOf at hq
  split at hq
  · rename_i g hg
    split at hq
    · simp at hq
      subst hq
      exact hg
    · cases hq
  · cases hq
theorem OpX.rows (h : OpX w0 w o m c s t kb) (hb : Below w.heap.size w w') {v : Value} (hv : ∀ g, v.ownBlock = some g → w.heap.size ≤ g) : OpX w0 w' o m c s t (rowOf w' v ++ kb) := by
  obtain ⟨F, G, h1, h2, h3, h4, h5, h6⟩ := h.ex
  exact ⟨F, G, h1.below hb, h2.below hb, h3, h4, h5.trans (hb.mono h5.size), (Kept.row (fun g hg e => e.elim (fun e => by have := h1.lt _ e; have := hv g hg; omega) (fun e => by have := h2.lt _ e; have := hv g hg; omega))).app (h6.below hb)⟩
theorem OpX.mlt (h : OpX w0 w o m c s t kb) : m < w.heap.size := by obtain ⟨F, G, _, h2, _⟩ := h.ex; exact h2.lt m h2.mem
theorem ask_len {near there : Int} {b : List Int} {poll : Bool} {P : Pd} {E : Int} {s' : Sk} (hr : askR c near there s b poll = (P, E, s')) : P.info.length ≤ 1024 := by
  unfold askR at hr
  split at hr
  · rename_i he
    simp only [Prod.mk.injEq] at hr
    obtain ⟨rfl, rfl, rfl⟩ := hr
    show b.length ≤ 1024
    unfold askE at he
    split at he
    · omega
    · split at he
      · omega
      · split at he <;> omega
  · simp only [Prod.mk.injEq] at hr
    obtain ⟨rfl, rfl, rfl⟩ := hr
    decide
theorem tick_len {near there : Int} {P : Pd} {sent : Bool} {r : Bool × Int} {s' : Sk} (hs : s.ok) (hr : tickR c near there s = (P, sent, r, s')) : P.info.length ≤ 1024 := by
  unfold tickR at hr
  split at hr
  · simp only [Prod.mk.injEq] at hr; obtain ⟨rfl, _⟩ := hr; decide
  · split at hr
    · simp only [Prod.mk.injEq] at hr; obtain ⟨rfl, _⟩ := hr; decide
    · split at hr
      · simp only [Prod.mk.injEq] at hr; obtain ⟨rfl, _⟩ := hr; decide
      · simp only [Prod.mk.injEq] at hr; obtain ⟨rfl, _⟩ := hr; exact hs.2.2.2.2
theorem hear_len {near there : Int} {p : Pd} {ov : Bool} {st : Int} {B : List Int} {s' : Sk} (hr : hearR near there s p = ((ov, st, B), s')) : B.length ≤ 1040 := by
  unfold hearR at hr
  split at hr
  · rename_i hk
    have hm : mayP p = true := by unfold hearOk at hk; simp only [Bool.and_eq_true] at hk; exact hk.1.1.1.1.1.1.2
    have := mayP_len hm
    split at hr
    · simp only [Prod.mk.injEq] at hr; obtain ⟨⟨_, _, rfl⟩, _⟩ := hr; simp
    · rename_i x l hi
      simp only [Prod.mk.injEq] at hr
      obtain ⟨⟨_, _, rfl⟩, _⟩ := hr
      rw [hi] at this
      simp at this
      split
      · omega
      · simp
  · simp only [Prod.mk.injEq] at hr; obtain ⟨⟨_, _, rfl⟩, _⟩ := hr; simp
theorem qhear (h : OpX w0 w o m c s t kb) (p : Pd) (pa : Option Addr) (k : Nat) (hr : RdB w (.slice pa p.info.length k) p.info) (hby : ∀ y ∈ p.info, 0 ≤ y ∧ y ≤ 255) (hkl : p.info.length ≤ k) (hkm : k ≤ 9223372036854775807) {ov : Bool} {st : Int} {B : List Int} {s' : Sk} (hh : hearR 4 8 t p = ((ov, st, B), s')) :
    Calls Try.prog 21 #[.pointer (some ⟨m, 0, none⟩), pdV p (.slice pa p.info.length k)] w fun e w' => ∃ a k' ex, e = .returned (resV ov st (.slice a B.length k')) ∧ OpX w0 w' o m c s s' (ex ++ kb) ∧ ∀ W, (∀ q ∈ ex, W.heap[q.1]? = some q.2) → OwnB 0 W (.slice a B.length k') B := by
  obtain ⟨F, G, h1, h2, h3, h4, h5, h6⟩ := h.ex
  refine (rhear h2 p pa k hr hby hkl hkm hh).mono ?_
  rintro e w' ⟨a, k', rfl, g1, g2, g3⟩
  exact ⟨a, k', _, rfl, OpX.qstep h1 h3 h4 h5 h6 g1 g2 (fr_stp h2.mem g3) (fun g hg e => by have := (g1.lt g hg).1; have := h2.lt g e; omega), fun W hW => own_zero (rowOf_rd g1 hW)⟩
theorem pbusy (h : OpX w0 w o m c s t kb) : Calls Try.prog 15 #[.pointer (some ⟨o, 0, none⟩)] w fun e w' => e = .returned (.bool s.asks) ∧ w' = w := by
  obtain ⟨F, G, h1, _⟩ := h.ex
  exact obusy h1
theorem pwait (h : OpX w0 w o m c s t kb) : Calls Try.prog 23 #[.pointer (some ⟨o, 0, none⟩)] w fun e w' => e = .returned (.int .i64 s.wait) ∧ w' = w := by
  obtain ⟨F, G, h1, _⟩ := h.ex
  exact owait h1
end
end Go.Proofs.Ytkmeklbmjdbifaa
