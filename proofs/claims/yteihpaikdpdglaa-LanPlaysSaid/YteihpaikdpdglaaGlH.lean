/-
  Package lan: a row in place of another one; what a line's ages are, in plain words.
-/
import Derived.Test.YteihpaikdpdglaaGlG
namespace Go.Proofs.Yteihpaikdpdglaa
open Go.RowKit
set_option linter.unusedVariables false


theorem flat_enP (l : List Nat) : l.flatMap enP = l.map (fun n => Value.pointer (some ⟨n, 0, none⟩)) := by
  induction l with
  | nil => rfl
  | cons x l ih => rw [List.flatMap_cons, ih]; rfl
theorem own_setP {w : World} {B g n cap : Nat} {l : List Nat} {e : Nat} (h : Own enP e 1 B w (.slice (some ⟨g, 0, none⟩) n cap) l) (i : Nat) (y : Nat) : Own enP e 1 B (w.setCell ⟨g, i, none⟩ (.pointer (some ⟨y, 0, none⟩))) (.slice (some ⟨g, 0, none⟩) n cap) (l.set i y) := by
  rcases h.2 with ⟨h0, _⟩ | ⟨g', cap', cur, h0, hBg, hg, hnc, hcm, hcs, htake⟩
  · simp at h0
  · simp at h0
    obtain ⟨rfl, rfl, rfl⟩ := h0
    refine ⟨by rw [flat_len enP 1 enP_len], .inr ⟨g, cap, cur.setIfInBounds i (.pointer (some ⟨y, 0, none⟩)), by simp, hBg, heap_setCell_same hg _, by simpa using hnc, hcm, by simp [hcs], ?_⟩⟩
    rw [Array.toList_setIfInBounds, List.take_set, List.length_set, htake, flat_enP, flat_enP, List.map_set]
section
variable {w w1 : World} {F : Nat → Prop} {t st : Nat} {life lost most : Int} {qs : List FlA} {rv : Value} {ps : List Nat} {Fs : Nat → Nat → Prop}
/-- Another queue stands in a row's place. -/
theorem LGi.swap {i c' g cap n : Nat} {l' : FlA} {Fi' : Nat → Prop} (h : LGi w F t st life lost most qs rv ps Fs) (hi : i < ps.length) (hrv : rv = .slice (some ⟨g, 0, none⟩) n cap) (hb : Below w.heap.size w w1) (q : QX w1 Fi' c' most l') (hnew : ∀ b, Fi' b → Fs i b ∨ w.heap.size ≤ b) (hok : ∀ p ∈ l', OkFr life p) :
    ∃ F' Fs', LGi (w1.setCell ⟨g, i, none⟩ (.pointer (some ⟨c', 0, none⟩))) F' t st life lost most (qs.set i l') rv (ps.set i c') Fs' ∧ Stp F F' w (w1.setCell ⟨g, i, none⟩ (.pointer (some ⟨c', 0, none⟩))) ∧ (∀ b, F b → F' b) := by
  subst hrv
  have hgF : F g := h.frv g rfl
  have hgl : g < w.heap.size := h.lt g hgF
  have f : Fr (fun b => b = g) w (w1.setCell ⟨g, i, none⟩ (.pointer (some ⟨c', 0, none⟩))) := (Fr.of_below hb (fun b => b = g)).setCell (p := ⟨g, i, none⟩) (fun _ => rfl) _
  have f1 : Fr (fun b => b = g) w1 (w1.setCell ⟨g, i, none⟩ (.pointer (some ⟨c', 0, none⟩))) := (Fr.refl (fun b => b = g) w1).setCell (p := ⟨g, i, none⟩) (fun _ => rfl) _
  have hsz := f.size
  have hgn : ∀ j, ¬ Fs j g := fun j => h.nrv j g rfl
  have hFi : ¬ Fi' g := fun e => (hnew g e).elim (hgn i) (fun e => by omega)
  have htg : t ≠ g := fun e => own_ne h.rows h.blk (by decide) (by rw [e]; rfl)
  refine ⟨fun b => F b ∨ Fi' b, fun j => if j = i then Fi' else Fs j, ⟨f.heap h.blk htg, own_setP ((h.below hb).rows) i c', h.sts, by rw [List.length_set]; exact h.len, by rw [List.length_set]; exact h.qlen, h.m, h.lf, fun l hl p hp => ?_, fun j h1 h2 => ?_, fun j k b => ?_, fun j b => ?_, .inl h.ft, fun g hg => .inl (h.frv g hg), fun j => ?_, fun j g' hg => ?_, fun b hb => ?_⟩, ⟨f.mono (fun b _ (e : b = g) => by rw [e]; exact hgF), fun b hb => ?_⟩, fun b hb => .inl hb⟩
  · rcases List.mem_or_eq_of_mem_set hl with e | e
    · exact h.ok l e p hp
    · rw [e] at hp; exact hok p hp
  · have h1' : j < ps.length := by simpa using h1
    have h2' : j < qs.length := by simpa using h2
    try dsimp only
    by_cases e : j = i
    · subst e
      rw [if_pos rfl, List.getElem_set_self, List.getElem_set_self]
      exact q.keep f1.size (fun b hb => f1.blk b (q.lt b hb) (fun e => hFi (by rw [← show b = g from e]; exact hb)))
    · rw [if_neg e, List.getElem_set_ne (by omega), List.getElem_set_ne (by omega)]
      exact (h.q j h1' h2').keep hsz (fun b hb => f.blk b ((h.q j h1' h2').lt b hb) (fun (e' : b = g) => hgn j (by rw [← e']; exact hb)))
  · try dsimp only
    by_cases e : j = i
    · by_cases e' : k = i
      · intro _ _; rw [e, e']
      · rw [if_pos e, if_neg e']
        intro h1 h2
        rcases hnew b h1 with h3 | h3
        · exact absurd (h.dj k i b h2 h3) e'
        · have := h.lt b (h.sub k b h2); omega
    · by_cases e' : k = i
      · rw [if_neg e, if_pos e']
        intro h1 h2
        rcases hnew b h2 with h3 | h3
        · exact absurd (h.dj j i b h1 h3) e
        · have := h.lt b (h.sub j b h1); omega
      · rw [if_neg e, if_neg e']
        exact h.dj j k b
  · try dsimp only
    by_cases e : j = i
    · rw [if_pos e]; exact fun h => .inr h
    · rw [if_neg e]; exact fun hb => .inl (h.sub j b hb)
  · try dsimp only
    by_cases e : j = i
    · rw [if_pos e]
      intro e'
      rcases hnew _ e' with h3 | h3
      · exact h.nt i h3
      · have := h.lt t h.ft; omega
    · rw [if_neg e]; exact h.nt j
  · try dsimp only
    by_cases e : j = i
    · rw [if_pos e]
      intro e'
      rcases hnew _ e' with h3 | h3
      · exact h.nrv i g' hg h3
      · have := h.lt g' (h.frv g' hg); omega
    · rw [if_neg e]; exact h.nrv j g' hg
  · rcases hb with hb | hb
    · exact Nat.lt_of_lt_of_le (h.lt b hb) hsz
    · exact Nat.lt_of_lt_of_le (q.lt b hb) f1.size
  · rcases hb with hb | hb
    · exact .inl hb
    · exact (hnew b hb).imp (h.sub i b) id
end

/-- A row a tick later. -/
def agedP (life : Int) (l : FlA) : FlA := (l.map (fun p => (p.1, p.2 + 1))).filter (fun p => decide (p.2 ≤ life))
theorem agedP_le (life : Int) (l : FlA) : (agedP life l).length ≤ l.length := by
  unfold agedP
  have := List.length_filter_le (fun p : List Int × Int => decide (p.2 ≤ life)) (l.map (fun p => (p.1, p.2 + 1)))
  simpa using this
theorem agedP_ok {life : Int} {l : FlA} (h : ∀ p ∈ l, OkFr life p) : ∀ p ∈ agedP life l, OkFr life p := by
  intro p hp
  unfold agedP at hp
  obtain ⟨h1, h2⟩ := List.mem_filter.1 hp
  obtain ⟨q, hq, rfl⟩ := List.mem_map.1 h1
  have ho := h q hq
  exact ⟨ho.len, ho.byte, ⟨by have := ho.age; show 0 ≤ q.2 + 1; omega, by simpa using h2⟩⟩
/-- How many are too old. -/
def gonesP (life : Int) : List FlA → Int
  | [] => 0
  | l :: qs => ((l.length : Int) - ((agedP life l).length : Int)) + gonesP life qs
theorem gonesP_snoc (life : Int) : ∀ (qs : List FlA) (l : FlA), gonesP life (qs ++ [l]) = gonesP life qs + ((l.length : Int) - ((agedP life l).length : Int))
  | [], l => by simp [gonesP]
  | a :: qs, l => by rw [List.cons_append]; unfold gonesP; rw [gonesP_snoc life qs l]; omega
theorem gonesP_range (life most : Int) : ∀ (qs : List FlA), (∀ l ∈ qs, (l.length : Int) ≤ most) → 0 ≤ gonesP life qs ∧ gonesP life qs ≤ most * qs.length
  | [], _ => by simp [gonesP]
  | l :: qs, h => by
    have h1 := gonesP_range life most qs (fun x hx => h x (List.mem_cons_of_mem _ hx))
    have h2 := h l (List.mem_cons_self ..)
    have h3 := agedP_le life l
    unfold gonesP
    rw [List.length_cons]
    have h4 : most * ((qs.length + 1 : Nat) : Int) = most * (qs.length : Int) + most := by rw [Int.natCast_add, Int.mul_add]; simp
    omega
def oldP (life : Int) (S : LS) : Int × LS := (gonesP life S.1, (S.1.map (agedP life), S.2 + gonesP life S.1))
theorem map_set_step {α : Type} (f : α → α) (l : List α) (i : Nat) (hi : i < l.length) : ((l.take i).map f ++ l.drop i).set i (f l[i]) = (l.take (i + 1)).map f ++ l.drop (i + 1) := by
  have h1 : ((l.take i).map f).length = i := by simp; omega
  rw [List.set_append_right _ _ (by omega), h1, Nat.sub_self, List.drop_eq_getElem_cons hi, List.set_cons_zero, List.take_succ_eq_append_getElem hi, List.map_append, List.append_assoc]
  rfl
theorem map_at_step {α : Type} (f : α → α) (l : List α) (i : Nat) (hi : i < l.length) (d : α) : ((l.take i).map f ++ l.drop i).getD i d = l[i] := by
  have h1 : ((l.take i).map f).length = i := by simp; omega
  rw [List.getD_eq_getElem?_getD, List.getElem?_append_right (by omega), h1, Nat.sub_self, List.getElem?_drop, Nat.add_zero, List.getElem?_eq_getElem hi]
  rfl
end Go.Proofs.Yteihpaikdpdglaa
