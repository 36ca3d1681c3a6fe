/-
  Layer 5: what a line does with a frame that is put into an empty line, in plain words.
-/
import Derived.Test.YteihpaikdpdglaaL5G
namespace Go.Proofs.Yteihpaikdpdglaa
open Go.RowKit
set_option linter.unusedVariables false

theorem getD_set' (l : List FlA) (k m : Nat) (v : FlA) : (l.set k v).getD m [] = if m = k ∧ k < l.length then v else l.getD m [] := by
  rw [List.getD_eq_getElem?_getD, List.getD_eq_getElem?_getD, List.getElem?_set]
  by_cases h : k = m
  · subst h
    by_cases h2 : k < l.length
    · simp [h2]
    · simp [h2]
  · rw [if_neg h, if_neg (fun e => h e.1.symm)]
theorem rix_nat {st A j : Nat} (hA : A < st) (hj : j < st) (hne : A ≠ j) : rix st A j = some (A * st + j) := by
  unfold rix
  rw [if_pos ⟨by omega, by omega, by omega, by omega, by omega⟩]
  simp
theorem rix_same (st : Nat) (a : Int) : rix st a a = none := by
  unfold rix
  rw [if_neg (fun e => e.2.2.2.2 rfl)]
theorem rix_bound {st A j : Nat} (hA : A < st) (hj : j < st) : A * st + j < st * st := by
  have : (A + 1) * st ≤ st * st := Nat.mul_le_mul_right _ (by omega)
  rw [Nat.add_mul] at this
  omega
/-- Who hears what is put. -/
def hears (st : Nat) (fr tg : Int) (i : Nat) : Bool := decide ((i : Int) ≠ fr) && decide (tg ≠ fr) && (decide (tg = (i : Int)) || decide (tg < 0) || decide ((st : Int) ≤ tg))
theorem hears_iff (st : Nat) (fr tg : Int) (i : Nat) (hne : tg ≠ fr) : hears st fr tg i = true ↔ ((i : Int) ≠ fr ∧ ((i : Int) = tg ∨ ¬ (0 ≤ tg ∧ tg < (st : Int)))) := by
  unfold hears
  simp only [Bool.and_eq_true, Bool.or_eq_true, decide_eq_true_eq]
  constructor
  · rintro ⟨⟨h1, h2⟩, h3⟩
    exact ⟨h1, by omega⟩
  · rintro ⟨h1, h2⟩
    exact ⟨⟨h1, hne⟩, by omega⟩
def cntH (st : Nat) (fr tg : Int) : Nat → Nat
  | 0 => 0
  | i + 1 => cntH st fr tg i + if hears st fr tg i = true then 1 else 0
theorem cntH_succ (st : Nat) (fr tg : Int) (i : Nat) : cntH st fr tg (i + 1) = cntH st fr tg i + if hears st fr tg i = true then 1 else 0 := rfl
theorem cntH_le (st : Nat) (fr tg : Int) : ∀ i, cntH st fr tg i ≤ i
  | 0 => Nat.le_refl _
  | i + 1 => by have := cntH_le st fr tg i; rw [cntH_succ]; split <;> omega
abbrev empty0 (st : Nat) : LS := (List.replicate (st * st) [], 0)
/-- All that there is behind the put. -/
structure FanI (st A : Nat) (tg : Int) (x : List Int) (i : Nat) (r : Int × LS) : Prop where
  n : r.1 = cntH st A tg i
  lost : r.2.2 = 0
  len : r.2.1.length = st * st
  row : ∀ j, j < st → rowP st A j r.2 = if j < i ∧ hears st A tg j = true then [(x, 0)] else []
theorem row_empty (st A j : Nat) : rowP st A j (empty0 st) = [] := by
  unfold rowP
  cases rix st A j with
  | none => rfl
  | some k => dsimp only [rowAt]; rw [List.getD_eq_getElem?_getD, List.getElem?_replicate]; split <;> rfl
theorem fan_step {st A : Nat} {tg : Int} {x : List Int} (hA : A < st) (hne : tg ≠ (A : Int)) : ∀ i, i ≤ st → FanI st A tg x i (putsP st 3 A x tg (empty0 st) i)
  | 0, _ => ⟨rfl, rfl, by simp [putsP], fun j hj => by rw [if_neg (fun e => by omega)]; exact row_empty st A j⟩
  | i + 1, hi => by
    have ih := fan_step (x := x) hA hne i (by omega)
    unfold putsP
    have hiff := hears_iff st A tg i hne
    generalize hR : putsP st 3 (A : Int) x tg (empty0 st) i = R at ih
    by_cases hc : (i : Int) ≠ (A : Int) ∧ ((i : Int) = tg ∨ ¬ (0 ≤ tg ∧ tg < (st : Int)))
    · rw [if_pos hc]
      have hh : hears st A tg i = true := hiff.2 hc
      have hAi : A ≠ i := by have := hc.1; omega
      have hk := rix_nat (st := st) hA (show i < st by omega) hAi
      have h0 := ih.row i (by omega)
      rw [if_neg (fun e => by omega)] at h0
      unfold rowP at h0
      rw [hk] at h0
      dsimp only at h0
      have hs : sendP st 3 A i x R.2 = (true, (R.2.1.set (A * st + i) [(x, 0)], R.2.2)) := by
        unfold sendP
        rw [hk]
        dsimp only
        rw [h0]
        rfl
      rw [hs]
      show FanI st A tg x (i + 1) (R.1 + (if (true = true) then 1 else 0), (R.2.1.set (A * st + i) [(x, 0)], R.2.2))
      rw [if_pos rfl]
      refine ⟨?_, ih.lost, ?_, fun j hj => ?_⟩
      · show R.1 + 1 = _
        rw [ih.n, cntH_succ, if_pos hh]
        simp
      · show (R.2.1.set (A * st + i) [(x, 0)]).length = _
        rw [List.length_set]; exact ih.len
      · by_cases hAj : A = j
        · subst hAj
          have hnh : hears st A tg A = false := by unfold hears; simp
          rw [if_neg (fun e => by rw [hnh] at e; exact absurd e.2 (by decide))]
          unfold rowP
          rw [rix_same]
        · have hkj := rix_nat (st := st) hA hj hAj
          have hold := ih.row j hj
          unfold rowP at hold ⊢
          rw [hkj] at hold ⊢
          dsimp only [rowAt] at hold ⊢
          rw [getD_set', ih.len, hold]
          have hbd := rix_bound (st := st) hA (show i < st by omega)
          by_cases hji : j = i
          · subst hji
            rw [if_pos ⟨rfl, hbd⟩, if_pos ⟨by omega, hh⟩]
          · rw [if_neg (fun e => hji (by omega))]
            by_cases hx : j < i ∧ hears st A tg j = true
            · rw [if_pos hx, if_pos ⟨by omega, hx.2⟩]
            · rw [if_neg hx, if_neg (fun e => hx ⟨by omega, e.2⟩)]
    · rw [if_neg hc]
      have hh : hears st A tg i = false := by
        cases h : hears st A tg i with
        | true => exact absurd (hiff.1 h) hc
        | false => rfl
      refine ⟨?_, ih.lost, ih.len, fun j hj => ?_⟩
      · rw [ih.n, cntH_succ, hh]; simp
      · rw [ih.row j hj]
        by_cases hx : j < i ∧ hears st A tg j = true
        · rw [if_pos hx, if_pos ⟨by omega, hx.2⟩]
        · rw [if_neg hx, if_neg (fun e => hx ⟨by rcases Nat.lt_or_ge j i with h | h
                                                 · exact h
                                                 · exfalso
                                                   have : j = i := by omega
                                                   subst this
                                                   rw [hh] at e
                                                   exact absurd e.2 (by decide), e.2⟩)]
/-- What comes of a put into an empty line. -/
theorem fan_put {st A : Nat} {x : List Int} (hA : A < st) (h6 : 6 ≤ x.length) : FanI st A (numA (adOf x)) x st (putP st 3 A x (empty0 st)) := by
  unfold putP
  rw [if_pos ⟨by omega, by omega, h6⟩]
  by_cases h : numA (adOf x) = (A : Int)
  · rw [if_pos h]
    have hn : ∀ j, hears st A (numA (adOf x)) j = false := fun j => by unfold hears; simp [h]
    have hc : ∀ i, cntH st A (numA (adOf x)) i = 0 := fun i => by
      induction i with
      | zero => rfl
      | succ i ih => rw [cntH_succ, ih, hn]; simp
    refine ⟨by rw [hc]; rfl, rfl, by simp, fun j hj => ?_⟩
    rw [if_neg (fun e => by rw [hn] at e; exact absurd e.2 (by decide))]
    exact row_empty st A j
  · rw [if_neg h]
    exact fan_step hA h st (Nat.le_refl _)
end Go.Proofs.Yteihpaikdpdglaa
