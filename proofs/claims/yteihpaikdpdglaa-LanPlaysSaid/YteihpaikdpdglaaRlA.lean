/-
  The reference's line in memory: its rows, each frame's bytes.
-/
import Derived.Test.YteihpaikdpdglaaGlH
namespace Go.Proofs.Yteihpaikdpdglaa
open Go.RowKit
set_option linter.unusedVariables false


abbrev enV (v : Value) : List Value := [v]
theorem enV_len (v : Value) : (enV v).length = 1 := rfl
theorem flat_enV (l : List Value) : l.flatMap enV = l := by
  induction l with
  | nil => rfl
  | cons x l ih => rw [List.flatMap_cons, ih]; rfl
theorem own_setV {w : World} {B g n cap : Nat} {l : List Value} {e : Nat} (h : Own enV e 1 B w (.slice (some ⟨g, 0, none⟩) n cap) l) (i : Nat) (y : Value) : Own enV e 1 B (w.setCell ⟨g, i, none⟩ y) (.slice (some ⟨g, 0, none⟩) n cap) (l.set i y) := by
  rcases h.2 with ⟨h0, _⟩ | ⟨g', cap', cur, h0, hBg, hg, hnc, hcm, hcs, htake⟩
  · simp at h0
  · simp at h0
    obtain ⟨rfl, rfl, rfl⟩ := h0
    refine ⟨by rw [flat_len enV 1 enV_len], .inr ⟨g, cap, cur.setIfInBounds i y, by simp, hBg, heap_setCell_same hg _, by simpa using hnc, hcm, by simp [hcs], ?_⟩⟩
    rw [Array.toList_setIfInBounds, List.take_set, List.length_set, htake, flat_enV, flat_enV]
/-- A row of the reference: its frames with their bytes. -/
structure RX (w : World) (F : Nat → Prop) (v : Value) (l : FlA) : Prop where
  ex : ∃ fl, Own enF 85 2 0 w v fl ∧ All2 (FlB w) fl l ∧ (∀ f ∈ fl, ∀ g, f.v.ownBlock = some g → F g)
  own : ∀ g, v.ownBlock = some g → F g
  len : l.length ≤ 10000
theorem RX.keep {w w' : World} {F F' : Nat → Prop} {v : Value} {l : FlA} (h : RX w F v l) (hF : ∀ b, F b → F' b) (hk : ∀ b, F b → w'.heap[b]? = w.heap[b]?) : RX w' F' v l := by
  obtain ⟨fl, h1, h2, h3⟩ := h.ex
  exact ⟨⟨fl, h1.keep (fun g hg => hk g (h.own g hg)), all2_mem h2 (fun f p hf e => ⟨e.1.keep (fun g hg => hk g (h3 f hf g hg)), e.2⟩), fun f hf g hg => hF g (h3 f hf g hg)⟩, fun g hg => hF g (h.own g hg), h.len⟩
/-- Blocks other than a row's are kept, but for one that is no row of bytes. -/
theorem RX.other {w w' : World} {F F' : Nat → Prop} {v : Value} {l : FlA} {S : Nat → Prop} (h : RX w F v l) (hF : ∀ b, F b → F' b) (f : Fr S w w') (hv : ∀ g, v.ownBlock = some g → ¬ S g) (hS : ∀ g, S g → ∀ v b, OwnB 0 w v b → v.ownBlock ≠ some g) : RX w' F' v l := by
  obtain ⟨fl, h1, h2, h3⟩ := h.ex
  exact ⟨⟨fl, h1.fr f hv, all2_mem h2 (fun f' p hf e => ⟨e.1.fr f (fun g hg hs => hS g hs _ _ e.1 hg), e.2⟩), fun f hf g hg => hF g (h3 f hf g hg)⟩, fun g hg => hF g (h.own g hg), h.len⟩
theorem RX.nil (w : World) (F : Nat → Prop) : RX w F (.slice none 0 0) [] := ⟨⟨[], Own.nil _ _ _ _ _, trivial, fun f hf => by cases hf⟩, fun g hg => by simp [Value.ownBlock] at hg, by simp⟩
structure RGi (w : World) (F : Nat → Prop) (r st : Nat) (life lost most : Int) (qs : List FlA) (lv : Value) (vs : List Value) : Prop where
  blk : w.heap[r]? = some (.cells #[.int .i64 st, .int .i64 most, .int .i64 life, .int .i64 lost, lv] 65 (0, 0))
  rows : Own enV 61 1 0 w lv vs
  sts : 1 ≤ st ∧ st ≤ 16
  len : vs.length = st * st
  qlen : qs.length = st * st
  m : 0 ≤ most ∧ most ≤ 10000
  lf : 1 ≤ life ∧ life ≤ 10000
  ok : ∀ l ∈ qs, ∀ p ∈ l, OkFr life p
  q : ∀ i (h : i < vs.length) (h' : i < qs.length), RX w F vs[i] qs[i]
  dj : ∀ i j (h : i < vs.length) (h' : j < vs.length) g, vs[i].ownBlock = some g → vs[j].ownBlock = some g → i = j
  ft : F r
  flv : ∀ g, lv.ownBlock = some g → F g
  lt : ∀ b, F b → b < w.heap.size
def RG (w : World) (F : Nat → Prop) (r st : Nat) (life lost most : Int) (qs : List FlA) : Prop := ∃ lv vs, RGi w F r st life lost most qs lv vs
section
variable {w w' : World} {F : Nat → Prop} {r st : Nat} {life lost most : Int} {qs : List FlA} {lv : Value} {vs : List Value}
theorem RGi.keep (h : RGi w F r st life lost most qs lv vs) (hs : w.heap.size ≤ w'.heap.size) (hk : ∀ b, F b → w'.heap[b]? = w.heap[b]?) : RGi w' F r st life lost most qs lv vs :=
  ⟨(hk r h.ft).trans h.blk, h.rows.keep (fun g hg => hk g (h.flv g hg)), h.sts, h.len, h.qlen, h.m, h.lf, h.ok, fun i h1 h2 => (h.q i h1 h2).keep (fun _ e => e) hk, h.dj, h.ft, h.flv, fun b hb => Nat.lt_of_lt_of_le (h.lt b hb) hs⟩
theorem RGi.below (h : RGi w F r st life lost most qs lv vs) (hb : Below w.heap.size w w') : RGi w' F r st life lost most qs lv vs := h.keep hb.size (fun b hF => hb.block b (h.lt b hF))
theorem RG.keep (h : RG w F r st life lost most qs) (hs : w.heap.size ≤ w'.heap.size) (hk : ∀ b, F b → w'.heap[b]? = w.heap[b]?) : RG w' F r st life lost most qs := by
  obtain ⟨lv, vs, h⟩ := h
  exact ⟨lv, vs, h.keep hs hk⟩
theorem RG.below (h : RG w F r st life lost most qs) (hb : Below w.heap.size w w') : RG w' F r st life lost most qs := by
  obtain ⟨lv, vs, h⟩ := h
  exact ⟨lv, vs, h.below hb⟩
theorem RG.lt (h : RG w F r st life lost most qs) : ∀ b, F b → b < w.heap.size := by
  obtain ⟨lv, vs, h⟩ := h
  exact h.lt
/-- A row's value is another one now: what was held, or is new. -/
theorem RGi.turn {i g n cap : Nat} {fl : List Fl} {v' : Value} {l' : FlA} {F1 : Nat → Prop} {w1 : World} (h : RGi w F r st life lost most qs lv vs) (hi : i < vs.length) (hlv : lv = .slice (some ⟨g, 0, none⟩) n cap)
    (f : Fr (fun b => vs[i].ownBlock = some b) w w1) (hm : Mv w vs[i] v') (q : RX w1 F1 v' l') (hF1 : ∀ b, F1 b → (F b ∨ w.heap.size ≤ b) ∧ b < w1.heap.size) (hok : ∀ p ∈ l', OkFr life p) (ho : Own enF 85 2 0 w1 v' fl) :
    ∃ F', RGi (w1.setCell ⟨g, i, none⟩ v') F' r st life lost most (qs.set i l') lv (vs.set i v') ∧ Stp F F' w (w1.setCell ⟨g, i, none⟩ v') := by
  subst hlv
  have hgF : F g := h.flv g rfl
  have hgl : g < w.heap.size := h.lt g hgF
  have hq : i < qs.length := by rw [h.qlen, ← h.len]; exact hi
  obtain ⟨fl0, h01, h02, h03⟩ := (h.q i hi hq).ex
  have hvF := (h.q i hi hq).own
  obtain ⟨curg, hcg⟩ := own_type h.rows (g := g) rfl
  have hvg : ¬ vs[i].ownBlock = some g := fun e => own_ne h01 hcg (by decide) e
  have hg1 := f.heap hcg hvg
  have hv'g : ¬ v'.ownBlock = some g := fun e => own_ne ho hg1 (by decide) e
  have fs : Fr (fun b => b = g) w1 (w1.setCell ⟨g, i, none⟩ v') := (Fr.refl (fun b => b = g) w1).setCell (p := ⟨g, i, none⟩) (fun _ => rfl) _
  have fa : Fr (fun b => vs[i].ownBlock = some b ∨ b = g) w (w1.setCell ⟨g, i, none⟩ v') := f.trans' fs (fun _ _ e => .inl e) (fun _ _ e => .inr e)
  have hrv : ¬ vs[i].ownBlock = some r := fun e => own_ne h01 h.blk (by decide) e
  have hrg : r ≠ g := fun e => own_ne h.rows h.blk (by decide) (by rw [e]; rfl)
  refine ⟨fun b => F b ∨ F1 b, ⟨fa.heap h.blk (fun e => e.elim hrv hrg), own_setV (h.rows.fr f (fun g' hg' e => hvg (by simp [Value.ownBlock] at hg'; rw [hg']; exact e))) i v', h.sts, by rw [List.length_set]; exact h.len, by rw [List.length_set]; exact h.qlen, h.m, h.lf, fun l hl p hp => ?_, fun j h1 h2 => ?_, fun j k h1 h2 g' e1 e2 => ?_, .inl h.ft, fun g' hg => .inl (h.flv g' hg), fun b hb => ?_⟩, ⟨fa.mono (fun b _ e => e.elim (fun e => hvF b e) (fun e => by rw [e]; exact hgF)), fun b hb => ?_⟩⟩
  · rcases List.mem_or_eq_of_mem_set hl with e | e
    · exact h.ok l e p hp
    · rw [e] at hp; exact hok p hp
  · have h1' : j < vs.length := by simpa using h1
    have h2' : j < qs.length := by simpa using h2
    by_cases e : j = i
    · subst e
      rw [List.getElem_set_self, List.getElem_set_self]
      exact q.other (fun _ e => .inr e) fs (fun g' hg' e' => hv'g (by rw [hg', show g' = g from e'])) (fun g' e' v b o => by rw [show g' = g from e']; exact own_ne o hg1 (by decide))
    · rw [List.getElem_set_ne (by omega), List.getElem_set_ne (by omega)]
      refine (h.q j h1' h2').other (fun _ e => .inl e) fa (fun g' hg' e' => ?_) (fun g' e' v b o => ?_)
      · rcases e' with e' | e'
        · exact e (h.dj j i h1' hi g' hg' e')
        · obtain ⟨flj, hj1, _⟩ := (h.q j h1' h2').ex
          rw [e'] at hg'
          exact own_ne hj1 hcg (by decide) hg'
      · rcases e' with e' | e'
        · obtain ⟨cur, hc⟩ := own_type h01 e'
          exact own_ne o hc (by decide)
        · rw [e']; exact own_ne o hcg (by decide)
  · have h1' : j < vs.length := by simpa using h1
    have h2' : k < vs.length := by simpa using h2
    have key : ∀ j (h1' : j < vs.length), j ≠ i → vs[j].ownBlock = some g' → v'.ownBlock = some g' → False := fun j h1' e e1 e2 => by
      rcases hm g' e2 with h3 | h3
      · exact e (h.dj j i h1' hi g' e1 h3)
      · have := h.lt g' ((h.q j h1' (by rw [h.qlen, ← h.len]; exact h1')).own g' e1); omega
    by_cases e : j = i
    · by_cases e' : k = i
      · rw [e, e']
      · subst e
        rw [List.getElem_set_self] at e1
        rw [List.getElem_set_ne (by omega)] at e2
        exact (key k h2' e' e2 e1).elim
    · rw [List.getElem_set_ne (by omega)] at e1
      by_cases e' : k = i
      · subst e'
        rw [List.getElem_set_self] at e2
        exact (key j h1' e e1 e2).elim
      · rw [List.getElem_set_ne (by omega)] at e2
        exact h.dj j k h1' h2' g' e1 e2
  · rcases hb with hb | hb
    · exact Nat.lt_of_lt_of_le (h.lt b hb) fa.size
    · exact Nat.lt_of_lt_of_le (hF1 b hb).2 fs.size
  · rcases hb with hb | hb
    · exact .inl hb
    · exact (hF1 b hb).1
theorem RGi.lose (h : RGi w F r st life lost most qs lv vs) (lost' : Int) : RGi (w.setCell ⟨r, 3, none⟩ (.int .i64 lost')) F r st life lost' most qs lv vs ∧ Stp F F w (w.setCell ⟨r, 3, none⟩ (.int .i64 lost')) := by
  have f : Fr (fun b => b = r) w (w.setCell ⟨r, 3, none⟩ (.int .i64 lost')) := (Fr.refl (fun b => b = r) w).setCell (p := ⟨r, 3, none⟩) (fun _ => rfl) _
  refine ⟨⟨by have := set_heap_same h.blk (i := 3) (.int .i64 lost'); simpa using this, h.rows.fr f (fun g hg (e : g = r) => by subst e; exact own_ne h.rows h.blk (by decide) hg), h.sts, h.len, h.qlen, h.m, h.lf, h.ok, fun i h1 h2 => (h.q i h1 h2).other (fun _ e => e) f (fun g hg (e : g = r) => ?_) (fun g (e : g = r) v b o => ?_), h.dj, h.ft, h.flv, fun b hb => Nat.lt_of_lt_of_le (h.lt b hb) f.size⟩, ⟨f.mono (fun b _ (e : b = r) => by rw [e]; exact h.ft), fun b hb => .inl hb⟩⟩
  · obtain ⟨fl, hf, _⟩ := (h.q i h1 h2).ex
    rw [e] at hg
    exact own_ne hf h.blk (by decide) hg
  · rw [e]; exact own_ne o h.blk (by decide)
end
end Go.Proofs.Yteihpaikdpdglaa
