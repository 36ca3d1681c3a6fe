/-
  The reference's back and inbox alike: a struct (most, a cell, the rows); what it holds of the heap.
-/
import Derived.Test.YtfibajfhaadnfaaItb
import Derived.Test.YtfibajfhaadnfaaQue3B
namespace Go.Proofs.Ytfibajfhaadnfaa
open Go.RowKit
set_option linter.unusedVariables false


def ftRf (r : Nat) (lv : Value) (l : List Value) : Nat → Prop := fun x => x = r ∨ lv.ownBlock = some x ∨ ∃ v ∈ l, v.ownBlock = some x
/-- With all that it is made of. -/
structure IsRf (w : World) (r : Nat) (c0 c1 lv : Value) (l : List Value) (bs : List (List Int)) : Prop where
  blk : w.heap[r]? = some (.cells #[c0, c1, lv] 45 (0, 0))
  own : Own enQ 29 1 0 w lv l
  it : ItemsB w l bs
/-- The reference's struct at r. -/
def RfA (w : World) (G : Nat → Prop) (r : Nat) (c0 c1 : Value) (bs : List (List Int)) : Prop := ∃ lv l, IsRf w r c0 c1 lv l bs ∧ ∀ x, G x ↔ ftRf r lv l x

section
variable {w w' : World} {G : Nat → Prop} {r : Nat} {c0 c1 lv : Value} {l : List Value} {bs : List (List Int)}
theorem IsRf.lt (h : IsRf w r c0 c1 lv l bs) {x : Nat} (e : ftRf r lv l x) : x < w.heap.size := by
  rcases e with rfl | e | ⟨v, hv, e⟩
  · exact lt_of_block h.blk
  · exact own_lt h.own e
  · exact h.it.lt hv e
theorem IsRf.keep (h : IsRf w r c0 c1 lv l bs) (hk : ∀ x, ftRf r lv l x → w'.heap[x]? = w.heap[x]?) : IsRf w' r c0 c1 lv l bs :=
  ⟨(hk r (.inl rfl)).trans h.blk, Own.keep h.own (fun g hg => hk g (.inr (.inl hg))), h.it.keep (fun v hv g hg => hk g (.inr (.inr ⟨v, hv, hg⟩)))⟩
theorem IsRf.below (h : IsRf w r c0 c1 lv l bs) (hb : Below w.heap.size w w') : IsRf w' r c0 c1 lv l bs := h.keep (fun x e => hb.block x (h.lt e))
theorem IsRf.ne (h : IsRf w r c0 c1 lv l bs) : ¬ lv.ownBlock = some r := own_ne h.own h.blk (by decide)
theorem IsRf.apart (h : IsRf w r c0 c1 lv l bs) {v : Value} (hv : v ∈ l) {g : Nat} (hg : v.ownBlock = some g) : ¬ (g = r ∨ lv.ownBlock = some g) := fun e => by
  obtain ⟨x, ox⟩ := h.it.type hv hg
  rcases e with rfl | e
  · exact own_ne ox h.blk (by decide) hg
  · exact own_sep ox h.own (by decide) hg e
theorem IsRf.cell0 (h : IsRf w r c0 c1 lv l bs) : w.cell? ⟨r, 0, none⟩ = some c0 := blk_cell h.blk 0
theorem IsRf.cell1 (h : IsRf w r c0 c1 lv l bs) : w.cell? ⟨r, 1, none⟩ = some c1 := blk_cell h.blk 1
theorem IsRf.cell2 (h : IsRf w r c0 c1 lv l bs) : w.cell? ⟨r, 2, none⟩ = some lv := blk_cell h.blk 2
theorem RfA.lt (h : RfA w G r c0 c1 bs) : ∀ x, G x → x < w.heap.size := fun x e => by
  obtain ⟨lv, l, h1, h2⟩ := h
  exact h1.lt ((h2 x).1 e)
theorem RfA.keep (h : RfA w G r c0 c1 bs) (hk : ∀ x, G x → w'.heap[x]? = w.heap[x]?) : RfA w' G r c0 c1 bs := by
  obtain ⟨lv, l, h1, h2⟩ := h
  exact ⟨lv, l, h1.keep (fun x e => hk x ((h2 x).2 e)), h2⟩
theorem RfA.below (h : RfA w G r c0 c1 bs) (hb : Below w.heap.size w w') : RfA w' G r c0 c1 bs := h.keep (below_keep hb h.lt)
/-- The second cell is set. -/
theorem IsRf.set1 (h : IsRf w r c0 c1 lv l bs) (c : Value) : IsRf (w.setCell ⟨r, 1, none⟩ c) r c0 c lv l bs := by
  have f : Fr (fun x => x = r) w (w.setCell ⟨r, 1, none⟩ c) := (Fr.refl (fun x => x = r) _).setCell (p := ⟨r, 1, none⟩) (fun _ => rfl) _
  exact ⟨by simpa using heap_setCell_same h.blk (i := 1) c, h.own.fr f (fun g hg e => h.ne (by rw [hg, e])), h.it.keep (fun v hv g hg => f.blk g (h.it.lt hv hg) (fun e => h.apart hv hg (.inl e)))⟩
theorem RfA.set1 (h : RfA w G r c0 c1 bs) (c : Value) : RfA (w.setCell ⟨r, 1, none⟩ c) G r c0 c bs ∧ Stp G G w (w.setCell ⟨r, 1, none⟩ c) := by
  obtain ⟨lv, l, h1, h2⟩ := h
  exact ⟨⟨lv, l, h1.set1 c, h2⟩, (Fr.refl G w).setCell (p := ⟨r, 1, none⟩) (fun _ => (h2 r).2 (.inl rfl)) _, fun _ e => .inl e⟩
/-- The rows are set: a new row. -/
theorem IsRf.set2 (h : IsRf w r c0 c1 lv l bs) {lv' : Value} {l' : List Value} {bs' : List (List Int)} (o : Own enQ 29 1 0 w' lv' l') (hr : w'.heap[r]? = w.heap[r]?) (it : ItemsB w' l' bs') : IsRf (w'.setCell ⟨r, 2, none⟩ lv') r c0 c1 lv' l' bs' := by
  have hblk := hr.trans h.blk
  have f : Fr (fun x => x = r) w' (w'.setCell ⟨r, 2, none⟩ lv') := (Fr.refl (fun x => x = r) _).setCell (p := ⟨r, 2, none⟩) (fun _ => rfl) _
  have hne : ¬ lv'.ownBlock = some r := own_ne o hblk (by decide)
  exact ⟨by simpa using heap_setCell_same hblk (i := 2) lv', o.fr f (fun g hg e => hne (by rw [hg, e])), it.keep (fun v hv g hg => f.blk g (it.lt hv hg) (fun e => by
    obtain ⟨x, ox⟩ := it.type hv hg
    subst e
    exact own_ne ox hblk (by decide) hg))⟩
end

/-- What a row that is read holds, at its i-th place. -/
theorem own_at {w : World} {g n cap : Nat} {l : List Value} (h : Own enQ 29 1 0 w (.slice (some ⟨g, 0, none⟩) n cap) l) {i : Nat} (hi : i < l.length) : w.cell? ⟨g, i, none⟩ = some l[i] := by
  have := h.cell enQ_len i 0 hi (by decide)
  simpa using this
/-- A row more. -/
theorem IsRf.put {w W3 w5 : World} {G : Nat → Prop} {r : Nat} {c0 c1 lv : Value} {l : List Value} {bs : List (List Int)} (h : IsRf w r c0 c1 lv l bs) (h2 : ∀ x, G x ↔ ftRf r lv l x) (b2 : Below w.heap.size w W3) {v' : Value} {x : List Int} {B : Nat} (hB : w.heap.size ≤ B) (o2 : OwnB B W3 v' x)
    (f5 : Fr (fun b => lv.ownBlock = some b) W3 w5) {v5 : Value} (m5 : v5.ownBlock = lv.ownBlock ∨ v5.ownBlock = some W3.heap.size) (o5 : w5.ownsRow 0 29 1 v5 (l.length + 1) (l.flatMap enQ ++ [v'])) :
    ∃ G', (RfA (w5.setCell ⟨r, 2, none⟩ v5) G' r c0 c1 (bs ++ [x]) ∧ IsRf (w5.setCell ⟨r, 2, none⟩ v5) r c0 c1 v5 (l ++ [v']) (bs ++ [x]) ∧ ∀ y, G' y ↔ ftRf r v5 (l ++ [v']) y) ∧ Stp G G' w (w5.setCell ⟨r, 2, none⟩ v5) := by
  have h3 := h.below b2
  have h4 : IsRf (w5.setCell ⟨r, 2, none⟩ v5) r c0 c1 v5 (l ++ [v']) (bs ++ [x]) := by
    refine h3.set2 (Own.snoc o5 rfl) (f5.blk r (lt_of_block h3.blk) h3.ne) (ItemsB.snoc (h3.it.keep (fun v hv g hg => f5.blk g (h3.it.lt hv hg) (fun e => h3.apart hv hg (.inr e)))) (own_zero (o2.fr f5 (fun g hg e => ?_))))
    exact own_sep o2 h3.own (by decide) hg e
  refine ⟨_, ⟨⟨v5, _, h4, fun _ => Iff.rfl⟩, h4, fun _ => Iff.rfl⟩, ?_, fun y e => ?_⟩
  · exact (((Fr.of_below b2 G).trans' f5 (fun _ _ e => e) (fun i _ e => (h2 i).2 (.inr (.inl e))))).setCell (p := ⟨r, 2, none⟩) (fun _ => (h2 r).2 (.inl rfl)) _
  · rcases e with rfl | e | ⟨v, hv, e⟩
    · exact .inl ((h2 _).2 (.inl rfl))
    · rcases m5 with m5 | m5
      · exact .inl ((h2 _).2 (.inr (.inl (by rw [← m5]; exact e))))
      · rw [m5] at e; injection e with e; exact .inr (by rw [← e]; exact b2.size)
    · rcases List.mem_append.1 hv with hv | hv
      · exact .inl ((h2 _).2 (.inr (.inr ⟨v, hv, e⟩)))
      · rw [List.mem_singleton.1 hv] at e
        exact .inr (Nat.le_trans hB (o2.lt y e).1)
/-- Other rows: those from the k-th on, in a new row. -/
theorem IsRf.cut {w w5 : World} {G : Nat → Prop} {r : Nat} {c0 c1 lv : Value} {l : List Value} {bs : List (List Int)} (h : IsRf w r c0 c1 lv l bs) (h2 : ∀ x, G x ↔ ftRf r lv l x) (b5 : Below w.heap.size w w5) {v5 : Value} (k : Nat) {B : Nat} (hB : w.heap.size ≤ B) (o5 : Own enQ 29 1 B w5 v5 (l.drop k)) :
    ∃ G', (RfA (w5.setCell ⟨r, 2, none⟩ v5) G' r c0 c1 (bs.drop k) ∧ IsRf (w5.setCell ⟨r, 2, none⟩ v5) r c0 c1 v5 (l.drop k) (bs.drop k) ∧ ∀ x, G' x ↔ ftRf r v5 (l.drop k) x) ∧ Stp G G' w (w5.setCell ⟨r, 2, none⟩ v5) := by
  have h3 := h.below b5
  have h4 : IsRf (w5.setCell ⟨r, 2, none⟩ v5) r c0 c1 v5 (l.drop k) (bs.drop k) := by
    refine h3.set2 (own_zero o5) rfl ⟨by rw [List.length_drop, List.length_drop, h3.it.1], fun j v x hv hx => h3.it.2 (k + j) v x (by rw [List.getElem?_drop] at hv; exact hv) (by rw [List.getElem?_drop] at hx; exact hx)⟩
  refine ⟨_, ⟨⟨v5, _, h4, fun _ => Iff.rfl⟩, h4, fun _ => Iff.rfl⟩, ?_, fun y e => ?_⟩
  · exact (Fr.of_below b5 G).setCell (p := ⟨r, 2, none⟩) (fun _ => (h2 r).2 (.inl rfl)) _
  · rcases e with rfl | e | ⟨v, hv, e⟩
    · exact .inl ((h2 _).2 (.inl rfl))
    · exact .inr (Nat.le_trans hB (o5.lt y e).1)
    · exact .inl ((h2 _).2 (.inr (.inr ⟨v, List.mem_of_mem_drop hv, e⟩)))
/-- No rows. -/
theorem IsRf.clear {w : World} {G : Nat → Prop} {r : Nat} {c0 c1 lv : Value} {l : List Value} {bs : List (List Int)} (h : IsRf w r c0 c1 lv l bs) (h2 : ∀ x, G x ↔ ftRf r lv l x) :
    IsRf (w.setCell ⟨r, 2, none⟩ (.slice none 0 0)) r c0 c1 (.slice none 0 0) [] [] ∧ Stp G (ftRf r (.slice none 0 0) []) w (w.setCell ⟨r, 2, none⟩ (.slice none 0 0)) := by
  refine ⟨h.set2 (Own.nil _ _ _ _ _) rfl (ItemsB.nil _), (Fr.refl G w).setCell (p := ⟨r, 2, none⟩) (fun _ => (h2 r).2 (.inl rfl)) _, fun y e => ?_⟩
  rcases e with rfl | e | ⟨v, hv, e⟩
  · exact .inl ((h2 _).2 (.inl rfl))
  · simp [Value.ownBlock] at e
  · simp at hv
end Go.Proofs.Ytfibajfhaadnfaa
