/-
  Footprints: what a step may turn, and what it holds behind.
-/
import Derived.Test.YteihpaikdpdglaaSub
namespace Go.Proofs.Yteihpaikdpdglaa
open Go.RowKit
set_option linter.unusedVariables false

/-- A step that turns the blocks of F alone, and holds F' behind: what was held, or is new. -/
structure Stp (F F' : Nat → Prop) (w w' : World) : Prop where
  fr : Fr F w w'
  new : ∀ b, F' b → F b ∨ w.heap.size ≤ b

theorem Stp.refl (F : Nat → Prop) (w : World) : Stp F F w w := ⟨Fr.refl _ _, fun _ h => .inl h⟩
theorem Stp.trans {F F' F'' : Nat → Prop} {a b c : World} (h : Stp F F' a b) (k : Stp F' F'' b c) : Stp F F'' a c :=
  ⟨h.fr.trans' k.fr (fun _ _ e => e) (fun i hi e => (h.new i e).elim id (fun q => absurd q (by omega))),
   fun i hi => (k.new i hi).elim (fun e => h.new i e) (fun q => .inr (Nat.le_trans h.fr.size q))⟩
theorem Stp.of_below (F : Nat → Prop) {w w' : World} (h : Below w.heap.size w w') : Stp F F w w' := ⟨Fr.of_below h F, fun _ e => .inl e⟩
theorem Stp.thenBelow {F F' : Nat → Prop} {a b c : World} (h : Stp F F' a b) (k : Below b.heap.size b c) : Stp F F' a c := h.trans (Stp.of_below F' k)
theorem Stp.afterBelow {F F' : Nat → Prop} {a b c : World} (h : Below a.heap.size a b) (k : Stp F F' b c) : Stp F F' a c := (Stp.of_below F h).trans k
theorem Stp.size {F F' : Nat → Prop} {w w' : World} (h : Stp F F' w w') : w.heap.size ≤ w'.heap.size := h.fr.size
/-- All that is held lies behind B. -/
theorem Stp.below {F F' : Nat → Prop} {w w' : World} {B : Nat} (h : Stp F F' w w') (hB : B ≤ w.heap.size) (hF : ∀ b, F b → B ≤ b) : Below B w w' := h.fr.below' hB hF
theorem Stp.ge {F F' : Nat → Prop} {w w' : World} {B : Nat} (h : Stp F F' w w') (hB : B ≤ w.heap.size) (hF : ∀ b, F b → B ≤ b) : ∀ b, F' b → B ≤ b :=
  fun b e => (h.new b e).elim (hF b) (fun q => Nat.le_trans hB q)
/-- What another one holds is as it was. -/
theorem Stp.other {F F' G : Nat → Prop} {w w' : World} (h : Stp F F' w w') (hG : ∀ b, G b → b < w.heap.size) (hd : ∀ b, F b → G b → False) : (∀ b, G b → w'.heap[b]? = w.heap[b]?) ∧ ∀ b, F' b → G b → False :=
  ⟨fun b hb => h.fr.blk b (hG b hb) (fun e => hd b e hb), fun b e hb => (h.new b e).elim (fun q => hd b q hb) (fun q => by have := hG b hb; omega)⟩
theorem below_keep {G : Nat → Prop} {w w' : World} (h : Below w.heap.size w w') (hG : ∀ b, G b → b < w.heap.size) : ∀ b, G b → w'.heap[b]? = w.heap[b]? := fun b hb => h.block b (hG b hb)
theorem Fr.heldIn {F : Nat → Prop} {w w' : World} (h : Fr F w w') {G : Nat → Prop} (hG : ∀ b, G b → b < w.heap.size) (hd : ∀ b, F b → G b → False) : ∀ b, G b → w'.heap[b]? = w.heap[b]? :=
  fun b hb => h.blk b (hG b hb) (fun e => hd b e hb)
theorem Own.keep {α : Type} {enc : α → List Value} {e k B : Nat} {w w' : World} {v : Value} {l : List α} (h : Own enc e k B w v l) (hk : ∀ g, v.ownBlock = some g → w'.heap[g]? = w.heap[g]?) : Own enc e k B w' v l := own_of_block h hk
theorem cellOn' {w w' : World} {a : Addr} {v : Value} (hc : w.cell? a = some v) (hb : Below w.heap.size w w') : w'.cell? a = some v := (hb.cell (World.block_lt_of_cell? w _ hc)).trans hc
end Go.Proofs.Yteihpaikdpdglaa
