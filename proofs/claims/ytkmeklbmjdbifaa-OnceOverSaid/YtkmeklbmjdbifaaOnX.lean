/-
  The Once in a law's walk: what asks, blocks that the law keeps beside it; one contract a function.
-/
import Derived.Test.YtkmeklbmjdbifaaOnc7
import Derived.Test.YtkmeklbmjdbifaaR21R
namespace Go.Proofs.Ytkmeklbmjdbifaa
open Go.RowKit
set_option linter.unusedVariables false


theorem argB_nil (w : World) : ArgB w (.slice none 0 0) [] := ⟨⟨rfl, none, 0, rfl, fun _ => ⟨rfl, rfl⟩, fun _ e => by cases e⟩, by simp, none, 0, rfl, by decide, by decide⟩
/-- Blocks that are kept: none of F, each as it was laid. -/
def Kept (w : World) (F : Nat → Prop) (kb : List (Nat × Obj)) : Prop := ∀ q ∈ kb, w.heap[q.1]? = some q.2 ∧ ¬ F q.1
theorem Kept.nil (w : World) (F : Nat → Prop) : Kept w F [] := fun q h => by cases h
theorem Kept.stp {w w' : World} {F F' : Nat → Prop} {kb : List (Nat × Obj)} (h : Kept w F kb) (s : Stp F F' w w') : Kept w' F' kb := fun q hq => by
  obtain ⟨h1, h2⟩ := h q hq
  have hlt := lt_of_block h1
  exact ⟨(s.fr.blk _ hlt h2).trans h1, fun e => (s.new _ e).elim h2 (fun x => by omega)⟩
theorem Kept.below {w w' : World} {F : Nat → Prop} {kb : List (Nat × Obj)} (h : Kept w F kb) (hb : Below w.heap.size w w') : Kept w' F kb := h.stp (Stp.of_below F hb)
theorem Kept.cons {w : World} {F : Nat → Prop} {kb : List (Nat × Obj)} {b : Nat} {o : Obj} (h : Kept w F kb) (hb : w.heap[b]? = some o) (hn : ¬ F b) : Kept w F ((b, o) :: kb) := fun q hq => by
  rcases List.mem_cons.1 hq with rfl | hq
  · exact ⟨hb, hn⟩
  · exact h q hq
theorem Kept.sub {w : World} {F : Nat → Prop} {kb kb' : List (Nat × Obj)} (h : Kept w F kb) (hs : ∀ q ∈ kb', q ∈ kb) : Kept w F kb' := fun q hq => h q (hs q hq)
theorem Kept.app {w : World} {F : Nat → Prop} {kb kb' : List (Nat × Obj)} (h : Kept w F kb) (h' : Kept w F kb') : Kept w F (kb ++ kb') := fun q hq => (List.mem_append.1 hq).elim (h q) (h' q)
/-- A slice that owns its row, as a kept block. -/
def rowOf (w : World) (v : Value) : List (Nat × Obj) := match v.ownBlock with | some g => (match w.heap[g]? with | some o => [(g, o)] | none => []) | none => []
theorem Kept.row {w : World} {F : Nat → Prop} {v : Value} (hn : ∀ g, v.ownBlock = some g → ¬ F g) : Kept w F (rowOf w v) := fun q hq => by
  unfold rowOf at hq
  split at hq
  · rename_i g hg
    split at hq
    · rename_i o ho
      simp at hq
      subst hq
      exact ⟨ho, hn g hg⟩
    · cases hq
  · cases hq
theorem rowOf_rd {w W : World} {B : Nat} {v : Value} {l : List Int} (h : OwnB B w v l) (hk : ∀ q ∈ rowOf w v, W.heap[q.1]? = some q.2) : OwnB B W v l := own_of_block h (fun g hg => by
  obtain ⟨cur, hc⟩ := own_type h hg
  rw [hc]
  refine hk (g, _) ?_
  unfold rowOf
  rw [hg]
  simp only [hc]
  exact List.mem_singleton.2 rfl)
theorem set_heap_same {w : World} {b i : Nat} {cs : Array Value} {t : TypeId} {fr : Nat × Nat} (h : w.heap[b]? = some (.cells cs t fr)) (u : Value) : (w.setCell ⟨b, i, none⟩ u).heap[b]? = some (.cells (cs.setIfInBounds i u) t fr) := by
  simp only [World.setCell, Array.getElem?_modify]
  rw [if_pos trivial, h]
  rfl

theorem sub_ac {α : Type} (a b c : α) (ex : List α) : ∀ q ∈ [a, c], q ∈ ex ++ [a, b, c] := by intro q hq; simp at hq ⊢; rcases hq with rfl | rfl <;> simp
theorem sub_xac {α : Type} (x a b c : α) (ex : List α) : ∀ q ∈ [a, c], q ∈ x :: (ex ++ [a, b, c]) := by intro q hq; simp at hq ⊢; rcases hq with rfl | rfl <;> simp
theorem sub_exac {α : Type} (x a b c : α) (ex : List α) : ∀ q ∈ [a, c], q ∈ ex ++ [x, a, b, c] := by intro q hq; simp at hq ⊢; rcases hq with rfl | rfl <;> simp
structure OnX (w0 w : World) (o : Nat) (c : Cf) (s : Sk) (kb : List (Nat × Obj)) : Prop where
  ex : ∃ F, OnA w F o c 4 8 s ∧ (∀ x, F x → w0.heap.size ≤ x) ∧ Below w0.heap.size w0 w ∧ Kept w F kb

section
variable {w0 w w' : World} {o : Nat} {c : Cf} {s : Sk} {kb : List (Nat × Obj)}
theorem OnX.bel (h : OnX w0 w o c s kb) : Below w0.heap.size w0 w := by obtain ⟨F, _, _, h, _⟩ := h.ex; exact h
theorem OnX.ge (h : OnX w0 w o c s kb) : w0.heap.size ≤ o := by obtain ⟨F, h1, h2, _⟩ := h.ex; exact h2 o h1.mem
theorem OnX.ok (h : OnX w0 w o c s kb) : c.ok ∧ s.ok := by obtain ⟨F, h1, h2, _⟩ := h.ex; exact h1.ok
theorem OnX.olt (h : OnX w0 w o c s kb) : o < w.heap.size := by obtain ⟨F, h1, h2, _⟩ := h.ex; exact h1.lt o h1.mem
theorem OnX.kept (h : OnX w0 w o c s kb) {b : Nat} {x : Obj} (hq : (b, x) ∈ kb) : w.heap[b]? = some x := by obtain ⟨F, _, _, _, k⟩ := h.ex; exact (k _ hq).1
theorem OnX.below (h : OnX w0 w o c s kb) (hb : Below w.heap.size w w') : OnX w0 w' o c s kb := by
  obtain ⟨F, h1, h2, h3, h4⟩ := h.ex
  exact ⟨F, h1.below hb, h2, h3.trans (hb.mono h3.size), h4.below hb⟩
theorem OnX.alloc (h : OnX w0 w o c s kb) (x : Obj) : OnX w0 (w.alloc x) o c s ((w.heap.size, x) :: kb) := by
  obtain ⟨F, h1, h2, h3, h4⟩ := h.ex
  have hb := (Below.refl w.heap.size w).alloc (Nat.le_refl _) x
  exact ⟨F, h1.below hb, h2, h3.trans (hb.mono h3.size), (h4.below hb).cons (heap_alloc_new' w x) (fun e => by have := h1.lt _ e; omega)⟩
theorem OnX.drew (h : OnX w0 w o c s kb) : OnX w0 w.drew o c s kb := h.below (Below.refl _ w).drew
theorem OnX.drewN (h : OnX w0 w o c s kb) (n : Nat) : OnX w0 (w.drewN n) o c s kb := h.below (below_drewN (Below.refl _ w) n)
theorem OnX.sub {kb' : List (Nat × Obj)} (h : OnX w0 w o c s kb) (hs : ∀ q ∈ kb', q ∈ kb) : OnX w0 w o c s kb' := by
  obtain ⟨F, h1, h2, h3, h4⟩ := h.ex
  exact ⟨F, h1, h2, h3, h4.sub hs⟩
theorem OnX.tail {q : Nat × Obj} (h : OnX w0 w o c s (q :: kb)) : OnX w0 w o c s kb := h.sub (fun x hx => List.mem_cons_of_mem _ hx)
/-- A kept block's cell is turned. -/
theorem OnX.set {b : Nat} {cs : Array Value} {t : TypeId} {fr : Nat × Nat} (h : OnX w0 w o c s ((b, .cells cs t fr) :: kb)) (i : Nat) (u : Value) (hb : w0.heap.size ≤ b) (hd : ∀ q ∈ kb, q.1 ≠ b) : OnX w0 (w.setCell ⟨b, i, none⟩ u) o c s ((b, .cells (cs.setIfInBounds i u) t fr) :: kb) := by
  obtain ⟨F, h1, h2, h3, h4⟩ := h.ex
  have hn := (h4 _ (List.mem_cons_self ..)).2
  have hf : Fr (fun x => x = b) w (w.setCell ⟨b, i, none⟩ u) := (Fr.refl (fun x => x = b) w).setCell (p := ⟨b, i, none⟩) (fun _ => rfl) u
  refine ⟨F, h1.keep (fun x hx => hf.blk x (h1.lt x hx) (fun e => hn (by rw [← e]; exact hx))), h2, h3.trans (hf.below' h3.size (fun x e => by rw [e]; exact hb)), fun q hq => ?_⟩
  rcases List.mem_cons.1 hq with rfl | hq
  · exact ⟨set_heap_same (h4 _ (List.mem_cons_self ..)).1 u, hn⟩
  · obtain ⟨e1, e2⟩ := h4 q (List.mem_cons_of_mem _ hq)
    exact ⟨(heap_setCell_ne (p := ⟨b, i, none⟩) (hd q hq) u).trans e1, e2⟩

theorem xask (h : OnX w0 w o c s kb) (bv : Value) (b : List Int) (hs : ∀ W', Fr (fun x => x = o) w W' → RdB W' bv b) (poll : Bool) {P : Pd} {E : Int} {s' : Sk} (hr : askR c 4 8 s b poll = (P, E, s')) :
    Calls Try.prog 11 #[.pointer (some ⟨o, 0, none⟩), bv, .bool poll] w fun e w' => ∃ a k ex, e = .returned (.tuple #[pdV P (.slice a P.info.length k), .int .i64 E]) ∧ OnX w0 w' o c s' (ex ++ kb) ∧ ∀ W, (∀ q ∈ ex, W.heap[q.1]? = some q.2) → OwnB 0 W (.slice a P.info.length k) P.info := by
  obtain ⟨F, h1, h2, h3, h4⟩ := h.ex
  refine (oask h1 bv b hs poll hr).mono ?_
  rintro e w' ⟨a, k, F', rfl, g1, g2, g3, g4⟩
  exact ⟨a, k, rowOf w' (.slice a P.info.length k), rfl, ⟨F', g2, g3.ge h3.size h2, h3.trans (g3.below h3.size h2), (Kept.row g4).app (h4.stp g3)⟩, fun W hW => own_zero (rowOf_rd g1 hW)⟩
theorem fr_stp {F : Nat → Prop} {o : Nat} (hF : F o) (h : Fr (fun b => b = o) w w') : Stp F F w w' := ⟨h.mono (fun i _ (e : i = o) => by rw [e]; exact hF), fun b e => .inl e⟩
theorem xtick (h : OnX w0 w o c s kb) (hl : s.live) {P : Pd} {sent ov : Bool} {st : Int} {s' : Sk} (hr : tickR c 4 8 s = (P, sent, (ov, st), s')) :
    Calls Try.prog 12 #[.pointer (some ⟨o, 0, none⟩)] w fun e w' => ∃ a k ex, e = .returned (.tuple #[pdV P (.slice a P.info.length k), .bool sent, resV ov st (.slice none 0 0)]) ∧ OnX w0 w' o c s' (ex ++ kb) ∧ ∀ W, (∀ q ∈ ex, W.heap[q.1]? = some q.2) → OwnB 0 W (.slice a P.info.length k) P.info := by
  obtain ⟨F, h1, h2, h3, h4⟩ := h.ex
  refine (otick h1 hl hr).mono ?_
  rintro e w' ⟨a, k, rfl, g1, g2, g3⟩
  have g3 := fr_stp h1.mem g3
  exact ⟨a, k, rowOf w' (.slice a P.info.length k), rfl, ⟨F, g2, h2, h3.trans (g3.below h3.size h2), (Kept.row (fun g hg e => by have := (g1.lt g hg).1; have := h1.lt g e; omega)).app (h4.stp g3)⟩, fun W hW => own_zero (rowOf_rd g1 hW)⟩
theorem xhear (h : OnX w0 w o c s kb) (p : Pd) (pa : Option Addr) (k : Nat) (hr : RdB w (.slice pa p.info.length k) p.info) (hby : ∀ y ∈ p.info, 0 ≤ y ∧ y ≤ 255) (hkl : p.info.length ≤ k) (hkm : k ≤ 9223372036854775807) {ov : Bool} {st : Int} {B : List Int} {s' : Sk} (hh : hearR 4 8 s p = ((ov, st, B), s')) :
    Calls Try.prog 14 #[.pointer (some ⟨o, 0, none⟩), pdV p (.slice pa p.info.length k)] w fun e w' => ∃ a k' ex, e = .returned (resV ov st (.slice a B.length k')) ∧ OnX w0 w' o c s' (ex ++ kb) ∧ ∀ W, (∀ q ∈ ex, W.heap[q.1]? = some q.2) → OwnB 0 W (.slice a B.length k') B := by
  obtain ⟨F, h1, h2, h3, h4⟩ := h.ex
  refine (ohear h1 p pa k hr hby hkl hkm hh).mono ?_
  rintro e w' ⟨a, k', rfl, g1, g2, g3⟩
  have g3 := fr_stp h1.mem g3
  exact ⟨a, k', rowOf w' (.slice a B.length k'), rfl, ⟨F, g2, h2, h3.trans (g3.below h3.size h2), (Kept.row (fun g hg e => by have := (g1.lt g hg).1; have := h1.lt g e; omega)).app (h4.stp g3)⟩, fun W hW => own_zero (rowOf_rd g1 hW)⟩
theorem xbusy (h : OnX w0 w o c s kb) : Calls Try.prog 15 #[.pointer (some ⟨o, 0, none⟩)] w fun e w' => e = .returned (.bool s.asks) ∧ w' = w := by
  obtain ⟨F, h1, h2, h3, h4⟩ := h.ex
  exact obusy h1
theorem xwait (h : OnX w0 w o c s kb) : Calls Try.prog 23 #[.pointer (some ⟨o, 0, none⟩)] w fun e w' => e = .returned (.int .i64 s.wait) ∧ w' = w := by
  obtain ⟨F, h1, h2, h3, h4⟩ := h.ex
  exact owait h1
theorem OnX.set9 {b : Nat} {x0 x1 x2 x3 x4 x5 x6 x7 x8 : Value} {t : TypeId} (h : OnX w0 w o c s ((b, .cells #[x0, x1, x2, x3, x4, x5, x6, x7, x8] t (0, 0)) :: kb)) (u0 u1 u2 u3 u4 u5 u6 u7 u8 : Value) (hb : w0.heap.size ≤ b) (hd : ∀ q ∈ kb, q.1 ≠ b) :
    OnX w0 (((((((((w.setCell ⟨b, 0, none⟩ u0).setCell ⟨b, 1, none⟩ u1).setCell ⟨b, 2, none⟩ u2).setCell ⟨b, 3, none⟩ u3).setCell ⟨b, 4, none⟩ u4).setCell ⟨b, 5, none⟩ u5).setCell ⟨b, 6, none⟩ u6).setCell ⟨b, 7, none⟩ u7).setCell ⟨b, 8, none⟩ u8) o c s ((b, .cells #[u0, u1, u2, u3, u4, u5, u6, u7, u8] t (0, 0)) :: kb) := by
  have := ((((((((h.set 0 u0 hb hd).set 1 u1 hb hd).set 2 u2 hb hd).set 3 u3 hb hd).set 4 u4 hb hd).set 5 u5 hb hd).set 6 u6 hb hd).set 7 u7 hb hd).set 8 u8 hb hd
  simpa using this
/-- The three cells of a result that is kept are laid anew. -/
theorem OnX.set13 {b : Nat} {x0 x1 x2 x3 x4 x5 x6 x7 x8 x9 x10 x11 x12 : Value} {t : TypeId} (h : OnX w0 w o c s ((b, .cells #[x0, x1, x2, x3, x4, x5, x6, x7, x8, x9, x10, x11, x12] t (0, 0)) :: kb)) (u0 u1 u2 u3 u4 u5 u6 u7 u8 u9 u10 u11 u12 : Value) (hb : w0.heap.size ≤ b) (hd : ∀ q ∈ kb, q.1 ≠ b) :
    OnX w0 (((((((((((((w.setCell ⟨b, 0, none⟩ u0).setCell ⟨b, 1, none⟩ u1).setCell ⟨b, 2, none⟩ u2).setCell ⟨b, 3, none⟩ u3).setCell ⟨b, 4, none⟩ u4).setCell ⟨b, 5, none⟩ u5).setCell ⟨b, 6, none⟩ u6).setCell ⟨b, 7, none⟩ u7).setCell ⟨b, 8, none⟩ u8).setCell ⟨b, 9, none⟩ u9).setCell ⟨b, 10, none⟩ u10).setCell ⟨b, 11, none⟩ u11).setCell ⟨b, 12, none⟩ u12) o c s ((b, .cells #[u0, u1, u2, u3, u4, u5, u6, u7, u8, u9, u10, u11, u12] t (0, 0)) :: kb) := by
  have := ((((((((((((h.set 0 u0 hb hd).set 1 u1 hb hd).set 2 u2 hb hd).set 3 u3 hb hd).set 4 u4 hb hd).set 5 u5 hb hd).set 6 u6 hb hd).set 7 u7 hb hd).set 8 u8 hb hd).set 9 u9 hb hd).set 10 u10 hb hd).set 11 u11 hb hd).set 12 u12 hb hd
  simpa using this
theorem OnX.set3 {b : Nat} {x0 x1 x2 : Value} {t : TypeId} (h : OnX w0 w o c s ((b, .cells #[x0, x1, x2] t (0, 0)) :: kb)) (u0 u1 u2 : Value) (hb : w0.heap.size ≤ b) (hd : ∀ q ∈ kb, q.1 ≠ b) :
    OnX w0 (((w.setCell ⟨b, 0, none⟩ u0).setCell ⟨b, 1, none⟩ u1).setCell ⟨b, 2, none⟩ u2) o c s ((b, .cells #[u0, u1, u2] t (0, 0)) :: kb) := by
  have := ((h.set 0 u0 hb hd).set 1 u1 hb hd).set 2 u2 hb hd
  simpa using this
end
end Go.Proofs.Ytkmeklbmjdbifaa
