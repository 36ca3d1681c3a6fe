/-
  Parts of an owned row that are read; append as a step of a region that draws its order.
-/
import Derived.Test.YteihpaikdpdglaaLib
import Derived.Deep.RegionHeld3
namespace Go.Proofs.Yteihpaikdpdglaa
open Go.RowKit
set_option linter.unusedVariables false

theorem below_drewN {w w' : World} (h : Below w.heap.size w w') (n : Nat) : Below w.heap.size w (w'.drewN n) := ((Fr.of_below h no).drewN n).below

/-- l[:i] of an owned row. -/
theorem Own.takeRd {α : Type} {enc : α → List Value} {e k B : Nat} (hk : ∀ x, (enc x).length = k) {w : World} {g n cap : Nat} {l : List α} (h : Own enc e k B w (.slice (some ⟨g, 0, none⟩) n cap) l) {i : Nat} (hi : i ≤ l.length) (c : Nat) :
    Rd w k (.slice (some ⟨g, 0, none⟩) i c) i ((l.take i).flatMap enc) := by
  refine ⟨by rw [flat_len enc k hk, List.length_take, Nat.min_eq_left hi], _, _, rfl, fun e => (by cases e), fun ad e j u hu => ?_⟩
  cases e
  rw [← flat_take enc k hk] at hu
  rw [List.getElem?_take] at hu
  split at hu
  · exact h.cells (g := g) rfl _ _ hu
  · cases hu
/-- l[i:] of an owned row, as a slice's value lies. -/
theorem Own.dropRd {α : Type} {enc : α → List Value} {e k B : Nat} (hk : ∀ x, (enc x).length = k) {w : World} {g n cap : Nat} {l : List α} (h : Own enc e k B w (.slice (some ⟨g, 0, none⟩) n cap) l) {i : Nat} (hi : i ≤ l.length) (hc : l.length ≤ cap) :
    Rd w k (.slice (if cap = i then some ⟨g, 0, none⟩ else some ⟨g, i * k, none⟩) (l.length - i) (cap - i)) (l.length - i) ((l.drop i).flatMap enc) := by
  refine ⟨by rw [flat_len enc k hk]; simp, _, _, rfl, fun e => (by split at e <;> cases e), fun ad e j u hu => ?_⟩
  split at e <;> cases e
  · have : (l.drop i) = [] := List.drop_eq_nil_of_le (by omega)
    rw [this] at hu
    simp at hu
  · rw [Addr.add_lit]
    rw [← flat_drop enc k hk, List.getElem?_drop] at hu
    have := h.cells (g := g) rfl _ _ hu
    rwa [Addr.add_lit, Nat.zero_add] at this

/-- A slice that was made empty. -/
theorem own_empty (w : World) (B e k : Nat) (hB : B ≤ w.heap.size) : (w.alloc (.cells #[] e)).ownsRow B e k (.slice (some ⟨w.heap.size, 0, none⟩) 0 0) 0 [] := by
  have := own_new w B e k hB [] #[] 0 0 (by simp) (Nat.le_refl _) (Nat.zero_le _) (by simp)
  simpa using this

/-- append, as one step of a region that draws. -/
theorem step_app {P : Program} {w : World} {a : Act} {o : Oper} {Q : Exit → Act → World → Prop} {ops : Array Oper} {K : Act → World → Prop} {E : Prop} (hgd : o.guard = none) (s x : Operand) (t : TypeId) (ho : o.op = .call { callee := .builtin .append, args := #[s, x], argTypes := #[t, t] })
    (e : TypeId) (i : TypeInfo) (z : Value) (k bytes : Nat) (ht : P.underlying t = some (.slice e)) (hi : P.info? e = some i) (hz : i.zero = some z)
    (hk : i.size = k) (hby : i.bytes = bytes) (hzs : z.cells.size = k) (hk0 : 0 < k)
    {B : Nat} (hB : B ≤ w.heap.size) {v xv : Value} {n m : Nat} {xs news : List Value} (hs : a.eval s = v) (hx : a.eval x = xv) (hown : w.ownsRow B e k v n xs) (hrd : Rd w k xv m news) (h1 : ∀ u ∈ news, u.oneCell' = true)
    (h63 : n + m ≤ maxLen) (hb : (n + m) * bytes ≤ 140737488355328)
    (h : ∀ v' w', w'.ownsRow B e k v' (n + m) (xs ++ news) → Fr (fun b => v.ownBlock = some b) w w' → (v'.ownBlock = v.ownBlock ∨ v'.ownBlock = some w.heap.size) →
      (v' = .slice none 0 0 ↔ v = .slice none 0 0 ∧ m = 0) → w'.heap.size ≤ w.heap.size + 1 → K (a.put o.dst v') w') :
    if Region.wanted o (yielded ops a.tmps) = true then Oper.wp P o a w K Q else E := by
  have hw : Region.wanted o (yielded ops a.tmps) = true := by simp [Region.wanted, hgd]
  rw [if_pos hw]
  exact op_app s x t ho e i z k bytes ht hi hz hk hby hzs hk0 hB hs hx hown hrd h1 h63 hb h

/-- A cell and that it may be written, behind what leaves it alone. -/
theorem held_alloc {w : World} {a : Addr} {v : Value} {o : Obj} (h : w.cell? a = some v ∧ w.frozen? a = false) : (w.alloc o).drew.cell? a = some v ∧ (w.alloc o).drew.frozen? a = false := by
  have hlt := World.block_lt_of_cell? w a h.1
  have hb : (w.alloc o).drew.heap[a.block]? = w.heap[a.block]? := heap_alloc_lt w o hlt
  exact ⟨(World.cell?_of_block hb).trans h.1, (World.frozen?_of_block hb).trans h.2⟩
theorem held_fr {w w' : World} {a : Addr} {v : Value} {S : Nat → Prop} (h : w.cell? a = some v ∧ w.frozen? a = false) (hf : Fr S w w') (hn : ¬ S a.block) : w'.cell? a = some v ∧ w'.frozen? a = false := by
  have hlt := World.block_lt_of_cell? w a h.1
  have hb := hf.blk a.block hlt hn
  exact ⟨(World.cell?_of_block hb).trans h.1, (World.frozen?_of_block hb).trans h.2⟩
/-- What a cell holds. -/
@[irreducible] def cv (w : World) (p : Addr) : Value := (w.cell? p).getD (.bool false)
theorem cv_of {w : World} {p : Addr} {v : Value} (h : w.cell? p = some v) : cv w p = v := by unfold cv; rw [h]; rfl
theorem heldv {w : World} {p : Addr} {v : Value} (h : w.cell? p = some v ∧ w.frozen? p = false) : w.cell? p = some (cv w p) ∧ w.frozen? p = false := ⟨by rw [cv_of h.1]; exact h.1, h.2⟩
theorem heldv_set {w : World} {b i : Nat} {v : Value} (h : w.cell? ⟨b, i, none⟩ = some v ∧ w.frozen? ⟨b, i, none⟩ = false) (u : Value) : (w.setCell ⟨b, i, none⟩ u).cell? ⟨b, i, none⟩ = some (cv (w.setCell ⟨b, i, none⟩ u) ⟨b, i, none⟩) ∧ (w.setCell ⟨b, i, none⟩ u).frozen? ⟨b, i, none⟩ = false := by
  refine heldv (v := u) ⟨?_, ?_⟩
  · exact World.cell?_setCell_same _ _ _ h.1
  · have := h.2; simpa using this

/-- Three cells, and that the world has gone on: behind a call that turns nothing. -/
theorem keep3 {w0 w1 w2 : World} {a b c : Addr} {x y z : Value} (h : w1.cell? a = some x ∧ w1.cell? b = some y ∧ w1.cell? c = some z ∧ Below w0.heap.size w0 w1) (hb : Below w1.heap.size w1 w2) :
    w2.cell? a = some x ∧ w2.cell? b = some y ∧ w2.cell? c = some z ∧ Below w0.heap.size w0 w2 :=
  ⟨(hb.cell (World.block_lt_of_cell? w1 _ h.1)).trans h.1, (hb.cell (World.block_lt_of_cell? w1 _ h.2.1)).trans h.2.1, (hb.cell (World.block_lt_of_cell? w1 _ h.2.2.1)).trans h.2.2.1, h.2.2.2.trans (hb.mono h.2.2.2.size)⟩
theorem bel4 {A B C D : Prop} (h : A ∧ B ∧ C ∧ D) : D := h.2.2.2
end Go.Proofs.Yteihpaikdpdglaa
