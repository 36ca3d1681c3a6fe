/-
  Layer 5: what is on its way, in plain words: nothing comes from nowhere.
-/
import Derived.Test.YteihpaikdpdglaaL5E
namespace Go.Proofs.Yteihpaikdpdglaa
open Go.RowKit
set_option linter.unusedVariables false

def totL : List FlA → Int
  | [] => 0
  | l :: qs => (l.length : Int) + totL qs
theorem totL_nn : ∀ qs, 0 ≤ totL qs
  | [] => Int.le_refl _
  | l :: qs => by have := totL_nn qs; unfold totL; omega
theorem totL_set : ∀ (qs : List FlA) (k : Nat) (v : FlA), k < qs.length → totL (qs.set k v) = totL qs - ((qs.getD k []).length : Int) + (v.length : Int)
  | [], _, _, h => by simp at h
  | l :: qs, 0, v, _ => by
    show ((v.length : Int) + totL qs) = ((l.length : Int) + totL qs) - (l.length : Int) + (v.length : Int)
    omega
  | l :: qs, k + 1, v, h => by
    have ih := totL_set qs k v (by simpa using h)
    rw [List.set_cons_succ]
    show (l.length : Int) + totL (qs.set k v) = ((l.length : Int) + totL qs) - ((qs.getD k []).length : Int) + (v.length : Int)
    omega
theorem totL_aged (life : Int) : ∀ qs, totL (qs.map (agedP life)) = totL qs - gonesP life qs
  | [] => rfl
  | l :: qs => by
    have ih := totL_aged life qs
    rw [List.map_cons]
    show ((agedP life l).length : Int) + totL (qs.map (agedP life)) = ((l.length : Int) + totL qs) - (((l.length : Int) - ((agedP life l).length : Int)) + gonesP life qs)
    omega
theorem getD_map_aged (life : Int) (qs : List FlA) (k : Nat) : (qs.map (agedP life)).getD k [] = agedP life (qs.getD k []) := by
  rw [List.getD_eq_getElem?_getD, List.getD_eq_getElem?_getD, List.getElem?_map]
  cases qs[k]? with
  | none => rfl
  | some l => rfl
/-- No row goes from a station to itself. -/
def dgP (st : Nat) (qs : List FlA) : Prop := ∀ a, a < st → qs.getD (a * st + a) [] = []
theorem rix_ne {st : Nat} {a b : Int} {k : Nat} (h : rix st a b = some k) : ∀ c, c < st → k ≠ c * st + c := by
  obtain ⟨A, B, _, _, hA, hB, hne, hk, _⟩ := rix_lt h
  intro c hc e
  rw [hk] at e
  rcases Nat.lt_trichotomy A c with h | h | h
  · have : (A + 1) * st ≤ c * st := Nat.mul_le_mul_right _ h
    rw [Nat.add_mul] at this
    omega
  · subst h; omega
  · have : (c + 1) * st ≤ A * st := Nat.mul_le_mul_right _ h
    rw [Nat.add_mul] at this
    omega
theorem dg_set {st : Nat} {qs : List FlA} {a b : Int} {k : Nat} (h : rix st a b = some k) (hd : dgP st qs) (v : FlA) : dgP st (qs.set k v) := by
  intro c hc
  rw [getD_set', if_neg (fun e => rix_ne h c hc e.1.symm)]
  exact hd c hc
structure CI (inn out : Int) (S : LS) : Prop where
  eq : inn = out + totL S.1 + S.2
  dg : dgP 3 S.1
  len : S.1.length = 9
  out : 0 ≤ out
  lost : 0 ≤ S.2
section
variable {inn out : Int} {S : LS}
theorem CI.bound (h : CI inn out S) : S.2 ≤ inn := by have := h.eq; have := totL_nn S.1; have := h.out; omega
theorem ci_send (h : CI inn out S) (a b : Int) (x : List Int) : CI (inn + if ((sendP 3 4 a b x S).1 || decide (S.2 < (sendP 3 4 a b x S).2.2)) = true then 1 else 0) out (sendP 3 4 a b x S).2 := by
  generalize hR : sendP 3 4 a b x S = R
  unfold sendP at hR
  cases hk : rix 3 a b with
  | none =>
    rw [hk] at hR
    dsimp only at hR
    subst hR
    dsimp only
    rw [if_neg (by simp), Int.add_zero]
    exact h
  | some k =>
    obtain ⟨_, _, _, _, _, _, _, _, hlt⟩ := rix_lt hk
    have hkl : k < S.1.length := by rw [h.len]; exact hlt
    rw [hk] at hR
    dsimp only at hR
    by_cases hc : ((rowAt S k).length : Int) < 4
    · rw [if_pos hc] at hR
      subst hR
      dsimp only
      rw [if_pos (by simp)]
      refine ⟨?_, dg_set hk h.dg _, by rw [List.length_set]; exact h.len, h.out, h.lost⟩
      have := totL_set S.1 k (rowAt S k ++ [(x, 0)]) hkl
      rw [List.length_append] at this
      have h2 := h.eq
      show inn + 1 = out + totL (S.1.set k (rowAt S k ++ [(x, 0)])) + S.2
      rw [this]
      simp only [List.length_cons, List.length_nil]
      have : (rowAt S k) = S.1.getD k [] := rfl
      rw [this]
      omega
    · rw [if_neg hc] at hR
      subst hR
      dsimp only
      rw [if_pos (by simp; omega)]
      exact ⟨by have := h.eq; show inn + 1 = out + totL S.1 + (S.2 + 1); omega, h.dg, h.len, h.out, by have := h.lost; show 0 ≤ S.2 + 1; omega⟩
theorem ci_pass (h : CI inn out S) (a b : Int) : CI inn (out + if (passP 3 a b S).1.isSome = true then 1 else 0) (passP 3 a b S).2 := by
  generalize hR : passP 3 a b S = R
  unfold passP at hR
  cases hk : rix 3 a b with
  | none => rw [hk] at hR; dsimp only at hR; subst hR; dsimp only; rw [if_neg (by simp), Int.add_zero]; exact h
  | some k =>
    obtain ⟨_, _, _, _, _, _, _, _, hlt⟩ := rix_lt hk
    have hkl : k < S.1.length := by rw [h.len]; exact hlt
    rw [hk] at hR
    dsimp only at hR
    cases hr : rowAt S k with
    | nil => rw [hr] at hR; dsimp only at hR; subst hR; dsimp only; rw [if_neg (by simp), Int.add_zero]; exact h
    | cons p l =>
      rw [hr] at hR
      dsimp only at hR
      subst hR
      dsimp only
      rw [if_pos (by simp)]
      refine ⟨?_, dg_set hk h.dg _, by rw [List.length_set]; exact h.len, by have := h.out; omega, h.lost⟩
      have h1 := totL_set S.1 k l hkl
      rw [show S.1.getD k [] = p :: l from hr, List.length_cons] at h1
      have h2 := h.eq
      show inn = out + 1 + totL (S.1.set k l) + S.2
      omega
theorem ci_drop (h : CI inn out S) (a b : Int) : CI inn out (dropP 3 a b S).2 := by
  have h1 := ci_pass h a b
  have h2 : (passP 3 a b S).1 = none → (passP 3 a b S).2 = S := by
    unfold passP
    cases rix 3 a b with
    | none => intro _; rfl
    | some k =>
      dsimp only
      cases rowAt S k with
      | nil => intro _; rfl
      | cons p l => intro e; cases e
  unfold dropP
  generalize passP 3 a b S = r at h1 h2
  obtain ⟨r1, r2⟩ := r
  cases r1 with
  | none => dsimp only at h2 ⊢; exact h
  | some x =>
    dsimp only at h1 ⊢
    rw [if_pos (by simp)] at h1
    have ho := h.out
    exact ⟨by have := h1.eq; show inn = out + totL r2.1 + (r2.2 + 1); omega, h1.dg, h1.len, ho, by have := h1.lost; show 0 ≤ r2.2 + 1; omega⟩
theorem ci_twice (h : CI inn out S) (a b : Int) : CI (inn + if (twiceP 3 4 a b S).1 = true then 1 else 0) out (twiceP 3 4 a b S).2 := by
  generalize hR : twiceP 3 4 a b S = R
  unfold twiceP at hR
  cases hk : rix 3 a b with
  | none => rw [hk] at hR; dsimp only at hR; subst hR; dsimp only; rw [if_neg (by simp), Int.add_zero]; exact h
  | some k =>
    obtain ⟨_, _, _, _, _, _, _, _, hlt⟩ := rix_lt hk
    have hkl : k < S.1.length := by rw [h.len]; exact hlt
    rw [hk] at hR
    dsimp only at hR
    cases hr : rowAt S k with
    | nil => rw [hr] at hR; dsimp only at hR; subst hR; dsimp only; rw [if_neg (by simp), Int.add_zero]; exact h
    | cons p l =>
      rw [hr] at hR
      dsimp only at hR
      by_cases hc : ((p :: l).length : Int) < 4
      · rw [if_pos hc] at hR
        subst hR
        dsimp only
        rw [if_pos rfl]
        refine ⟨?_, dg_set hk h.dg _, by rw [List.length_set]; exact h.len, h.out, h.lost⟩
        have h1 := totL_set S.1 k (p :: p :: l) hkl
        rw [show S.1.getD k [] = p :: l from hr, List.length_cons, List.length_cons, List.length_cons] at h1
        have h2 := h.eq
        show inn + 1 = out + totL (S.1.set k (p :: p :: l)) + S.2
        omega
      · rw [if_neg hc] at hR
        subst hR
        dsimp only
        rw [if_neg (by simp), Int.add_zero]
        exact h
theorem gones_nn (life : Int) (qs : List FlA) : 0 ≤ gonesP life qs := by
  induction qs with
  | nil => exact Int.le_refl _
  | cons l qs ih => have := agedP_le life l; unfold gonesP; omega
theorem ci_old (h : CI inn out S) (life : Int) : CI inn out (oldP life S).2 := by
  refine ⟨?_, fun c hc => ?_, by show (S.1.map (agedP life)).length = 9; rw [List.length_map]; exact h.len, h.out, by have := gones_nn life S.1; have := h.lost; show 0 ≤ S.2 + gonesP life S.1; omega⟩
  · have := totL_aged life S.1
    have h2 := h.eq
    show inn = out + totL (S.1.map (agedP life)) + (S.2 + gonesP life S.1)
    omega
  · show (S.1.map (agedP life)).getD (c * 3 + c) [] = []
    rw [getD_map_aged, h.dg c hc]
    rfl
theorem cutAt_tot {qs : List FlA} (hl : qs.length = 9) (hd : dgP 3 qs) (a b : Int) : totL (cutAt 3 a b qs).2 = totL qs - (cutAt 3 a b qs).1 ∧ (cutAt 3 a b qs).2.length = 9 ∧ dgP 3 (cutAt 3 a b qs).2 ∧ 0 ≤ (cutAt 3 a b qs).1 := by
  unfold cutAt
  cases hk : rix 3 a b with
  | none => dsimp only; exact ⟨by omega, hl, hd, Int.le_refl _⟩
  | some k =>
    obtain ⟨_, _, _, _, _, _, _, _, hlt⟩ := rix_lt hk
    dsimp only
    refine ⟨?_, by rw [List.length_set]; exact hl, dg_set hk hd _, by omega⟩
    rw [totL_set qs k [] (by rw [hl]; exact hlt)]
    simp
theorem cutsP_tot {qs : List FlA} (hl : qs.length = 9) (hd : dgP 3 qs) (s : Int) : ∀ i, totL (cutsP 3 s qs i).2 = totL qs - (cutsP 3 s qs i).1 ∧ (cutsP 3 s qs i).2.length = 9 ∧ dgP 3 (cutsP 3 s qs i).2 ∧ 0 ≤ (cutsP 3 s qs i).1
  | 0 => ⟨by show totL qs = totL qs - 0; omega, hl, hd, Int.le_refl _⟩
  | i + 1 => by
    obtain ⟨h1, h2, h3, h4⟩ := cutsP_tot hl hd s i
    obtain ⟨a1, a2, a3, a4⟩ := cutAt_tot h2 h3 s i
    obtain ⟨b1, b2, b3, b4⟩ := cutAt_tot a2 a3 i s
    refine ⟨?_, b2, b3, ?_⟩
    · show totL (cutAt 3 i s (cutAt 3 s i (cutsP 3 s qs i).2).2).2 = totL qs - ((cutsP 3 s qs i).1 + (cutAt 3 s i (cutsP 3 s qs i).2).1 + (cutAt 3 i s (cutAt 3 s i (cutsP 3 s qs i).2).2).1)
      omega
    · show 0 ≤ (cutsP 3 s qs i).1 + (cutAt 3 s i (cutsP 3 s qs i).2).1 + (cutAt 3 i s (cutAt 3 s i (cutsP 3 s qs i).2).2).1
      omega
theorem ci_cut (h : CI inn out S) (s : Int) : CI inn out (cutP 3 s S).2 := by
  unfold cutP
  by_cases hs : 0 ≤ s ∧ s < ((3 : Nat) : Int)
  · rw [if_pos hs]
    obtain ⟨h1, h2, h3, h4⟩ := cutsP_tot h.len h.dg s 3
    refine ⟨?_, h3, h2, h.out, by have := h.lost; show 0 ≤ S.2 + (cutsP 3 s S.1 3).1; omega⟩
    have := h.eq
    show inn = out + totL (cutsP 3 s S.1 3).2 + (S.2 + (cutsP 3 s S.1 3).1)
    omega
  · rw [if_neg hs]; exact h
end
/-- The first m rows. -/
def firstL (qs : List FlA) : Nat → Int
  | 0 => 0
  | m + 1 => firstL qs m + ((qs.getD m []).length : Int)
theorem firstL_cons (l : FlA) (qs : List FlA) : ∀ m, firstL (l :: qs) (m + 1) = (l.length : Int) + firstL qs m
  | 0 => by show (0 : Int) + (l.length : Int) = (l.length : Int) + 0; omega
  | m + 1 => by
    have ih := firstL_cons l qs m
    show firstL (l :: qs) (m + 1) + (((l :: qs).getD (m + 1) []).length : Int) = (l.length : Int) + (firstL qs m + ((qs.getD m []).length : Int))
    rw [ih, List.getD_cons_succ]
    omega
theorem firstL_all : ∀ qs : List FlA, firstL qs qs.length = totL qs
  | [] => rfl
  | l :: qs => by rw [List.length_cons, firstL_cons, firstL_all qs]; rfl
theorem row_len {S : LS} (hd : dgP 3 S.1) {a b : Nat} (ha : a < 3) (hb : b < 3) : (rowP 3 a b S).length = (S.1.getD (a * 3 + b) []).length := by
  by_cases h : a = b
  · subst h
    unfold rowP
    rw [rix_same, hd a ha]
  · unfold rowP
    rw [rix_nat ha hb h]
theorem ci_init : CI 0 0 (List.replicate (3 * 3) [], 0) := ⟨by simp [totL], fun a ha => by
  match a, ha with
  | 0, _ => rfl
  | 1, _ => rfl
  | 2, _ => rfl, rfl, Int.le_refl _, Int.le_refl _⟩
end Go.Proofs.Yteihpaikdpdglaa
