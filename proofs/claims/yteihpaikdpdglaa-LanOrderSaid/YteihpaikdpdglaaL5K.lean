/-
  Layer 5: a line keeps its order, in plain words.
-/
import Derived.Test.YteihpaikdpdglaaL5I
namespace Go.Proofs.Yteihpaikdpdglaa
open Go.RowKit
set_option linter.unusedVariables false

abbrev numF (p : List Int × Int) : Int := p.1.getD 1 0
/-- What goes from the first to the second one. -/
abbrev r01 (S : LS) : FlA := S.1.getD 1 []
theorem rix301 : rix 3 0 1 = some 1 := by decide
structure OkN (n last : Int) (p : List Int × Int) : Prop where
  len : p.1.length = 8
  hi : p.1.getD 0 0 = 0
  nn : 0 ≤ numF p
  lt : numF p < n
  ge : last ≤ numF p
structure OI (n last : Int) (S : LS) : Prop where
  ok : ∀ p ∈ r01 S, OkN n last p
  ord : ((r01 S).map numF).Pairwise (· ≤ ·)
  ll : last < n
theorem OkN.mono {n n' last : Int} {p : List Int × Int} (h : OkN n last p) (hn : n ≤ n') : OkN n' last p := ⟨h.len, h.hi, h.nn, by have := h.lt; omega, h.ge⟩
theorem OI.mono {n n' last : Int} {S : LS} (h : OI n last S) (hn : n ≤ n') : OI n' last S := ⟨fun p hp => (h.ok p hp).mono hn, h.ord, by have := h.ll; omega⟩
/-- Another line whose row is the same, or a part of it. -/
theorem OI.sub {n last : Int} {S S' : LS} (h : OI n last S) (hs : (r01 S').Sublist (r01 S)) : OI n last S' :=
  ⟨fun p hp => h.ok p (hs.subset hp), List.Pairwise.sublist (hs.map numF) h.ord, h.ll⟩
theorem o_send1 {n last : Int} {S : LS} (h : OI n last S) (hl : S.1.length = 9) (hn : 0 ≤ n) : OI (n + 1) last (sendP 3 8 0 1 [0, n, 7, 7, 7, 7, 7, 7] S).2 := by
  have hm := h.mono (n' := n + 1) (by omega)
  unfold sendP
  rw [rix301]
  dsimp only
  by_cases hc : ((rowAt S 1).length : Int) < 8
  · rw [if_pos hc]
    have hr : r01 (S.1.set 1 (rowAt S 1 ++ [([0, n, 7, 7, 7, 7, 7, 7], 0)]), S.2) = r01 S ++ [([0, n, 7, 7, 7, 7, 7, 7], 0)] := by
      show (S.1.set 1 _).getD 1 [] = _
      rw [getD_set', if_pos ⟨rfl, by omega⟩]
    have hx : OkN (n + 1) last ([0, n, 7, 7, 7, 7, 7, 7], 0) := ⟨rfl, rfl, hn, by show n < n + 1; omega, by have := h.ll; show last ≤ n; omega⟩
    refine ⟨fun p hp => ?_, ?_, hm.ll⟩
    · rw [hr] at hp
      rcases List.mem_append.1 hp with hp | hp
      · exact hm.ok p hp
      · rw [List.mem_singleton.1 hp]; exact hx
    · rw [hr, List.map_append, List.pairwise_append]
      refine ⟨h.ord, List.pairwise_singleton _ _, fun a ha b hb => ?_⟩
      obtain ⟨p, hp, rfl⟩ := List.mem_map.1 ha
      rw [List.map_cons, List.map_nil, List.mem_singleton] at hb
      rw [hb]
      have h8 := (h.ok p hp).lt
      have h9 : numF (([0, n, 7, 7, 7, 7, 7, 7] : List Int), (0 : Int)) = n := rfl
      rw [h9]
      omega
  · rw [if_neg hc]
    exact ⟨hm.ok, hm.ord, hm.ll⟩
theorem rix_k1 {a b : Int} {k : Nat} (h : rix 3 a b = some k) (hb : b ≠ 1) : k ≠ 1 := by
  obtain ⟨A, B, rfl, rfl, hA, hB, hne, hk, _⟩ := rix_lt h
  omega
theorem o_send2 {n last : Int} {S : LS} (h : OI n last S) (a b : Int) (x : List Int) (hb : b ≠ 1) : OI n last (sendP 3 8 a b x S).2 := by
  refine h.sub ?_
  unfold sendP
  cases hk : rix 3 a b with
  | none => exact List.Sublist.refl _
  | some k =>
    dsimp only
    split
    · show List.Sublist ((S.1.set k _).getD 1 []) _
      rw [getD_set', if_neg (fun e => rix_k1 hk hb e.1.symm)]
      exact List.Sublist.refl _
    · exact List.Sublist.refl _
/-- What comes out. -/
theorem o_pass {n last : Int} {S : LS} (h : OI n last S) (hl : S.1.length = 9) : (∀ x, (passP 3 0 1 S).1 = some x → ∃ a, OkN n last (x, a) ∧ OI n (numF (x, a)) (passP 3 0 1 S).2) ∧ OI n last (passP 3 0 1 S).2 := by
  unfold passP
  rw [rix301]
  dsimp only
  cases hr : rowAt S 1 with
  | nil => exact ⟨fun x e => (by cases e), h⟩
  | cons p l =>
    dsimp only
    have hr' : r01 S = p :: l := hr
    have hs : r01 (S.1.set 1 l, S.2) = l := by
      show (S.1.set 1 l).getD 1 [] = l
      rw [getD_set', if_pos ⟨rfl, by omega⟩]
    have hord := h.ord
    rw [hr', List.map_cons, List.pairwise_cons] at hord
    refine ⟨fun x e => ?_, h.sub (by rw [hs, hr']; exact List.sublist_cons_self p l)⟩
    injection e with e
    subst e
    have hp := h.ok p (by rw [hr']; exact List.mem_cons_self ..)
    refine ⟨p.2, hp, fun q hq => ?_, ?_, hp.lt⟩
    · rw [hs] at hq
      have h1 := h.ok q (by rw [hr']; exact List.mem_cons_of_mem _ hq)
      exact ⟨h1.len, h1.hi, h1.nn, h1.lt, hord.1 _ (List.mem_map.2 ⟨q, hq, rfl⟩)⟩
    · rw [hs]; exact hord.2
theorem o_drop {n last : Int} {S : LS} (h : OI n last S) (hl : S.1.length = 9) : OI n last (dropP 3 0 1 S).2 := by
  have h1 := (o_pass h hl).2
  have h2 : (passP 3 0 1 S).1 = none → (passP 3 0 1 S).2 = S := by
    unfold passP
    rw [rix301]
    dsimp only
    cases rowAt S 1 with
    | nil => intro _; rfl
    | cons p l => intro e; cases e
  unfold dropP
  generalize passP 3 0 1 S = r at h1 h2
  obtain ⟨r1, r2⟩ := r
  cases r1 with
  | none => exact h
  | some x => exact ⟨h1.ok, h1.ord, h1.ll⟩
theorem o_twice {n last : Int} {S : LS} (h : OI n last S) (hl : S.1.length = 9) : OI n last (twiceP 3 8 0 1 S).2 := by
  unfold twiceP
  rw [rix301]
  dsimp only
  cases hr : rowAt S 1 with
  | nil => exact h
  | cons p l =>
    dsimp only
    split
    · have hr' : r01 S = p :: l := hr
      have hs : r01 (S.1.set 1 (p :: p :: l), S.2) = p :: p :: l := by
        show (S.1.set 1 (p :: p :: l)).getD 1 [] = _
        rw [getD_set', if_pos ⟨rfl, by omega⟩]
      have hord := h.ord
      rw [hr', List.map_cons, List.pairwise_cons] at hord
      refine ⟨fun q hq => ?_, ?_, h.ll⟩
      · rw [hs] at hq
        refine h.ok q ?_
        rw [hr']
        rcases List.mem_cons.1 hq with rfl | hq
        · exact List.mem_cons_self ..
        · exact hq
      · rw [hs, List.map_cons, List.map_cons, List.pairwise_cons]
        refine ⟨fun a ha => ?_, List.pairwise_cons.2 hord⟩
        rcases List.mem_cons.1 ha with rfl | ha
        · exact Int.le_refl _
        · exact hord.1 a ha
    · exact h
theorem kOf8 (bit : Int) (h : 16 ≤ bit ∧ bit ≤ 47) : kOf bit 8 = bit.toNat := by
  have h1 : bit.tmod (8 * ((8 : Nat) : Int)) = bit := by rw [Int.tmod_eq_emod_of_nonneg (by omega)]; exact Int.emod_eq_of_lt (by omega) (by omega)
  have h2 : wrap64 (bit + 8 * ((8 : Nat) : Int)) = bit + 64 := IntWalk.wrap64_in _ (by omega)
  have h3 : (bit + 64).tmod (8 * ((8 : Nat) : Int)) = bit := by rw [Int.tmod_eq_emod_of_nonneg (by omega)]; omega
  unfold kOf
  rw [h1, h2, h3]
theorem o_spoil {n last : Int} {S : LS} (h : OI n last S) (hl : S.1.length = 9) (bit : Int) (hb : 16 ≤ bit ∧ bit ≤ 47) : OI n last (spoilP 3 0 1 bit S).2 := by
  unfold spoilP
  rw [rix301]
  dsimp only
  cases hr : rowAt S 1 with
  | nil => exact h
  | cons p l =>
    dsimp only
    have hr' : r01 S = p :: l := hr
    have hp := h.ok p (by rw [hr']; exact List.mem_cons_self ..)
    rw [if_neg (by rw [hp.len]; decide)]
    have hs : r01 (S.1.set 1 ((flipAt p.1 (kOf bit p.1.length), p.2) :: l), S.2) = (flipAt p.1 (kOf bit p.1.length), p.2) :: l := by
      show (S.1.set 1 _).getD 1 [] = _
      rw [getD_set', if_pos ⟨rfl, by omega⟩]
    have hk : 2 ≤ kOf bit p.1.length / 8 := by rw [hp.len, kOf8 bit hb]; omega
    have hg : ∀ j, j < 2 → (flipAt p.1 (kOf bit p.1.length)).getD j 0 = p.1.getD j 0 := fun j hj => by
      unfold flipAt
      rw [List.getD_eq_getElem?_getD, List.getElem?_set_ne (by omega), ← List.getD_eq_getElem?_getD]
    have hn : numF (flipAt p.1 (kOf bit p.1.length), p.2) = numF p := hg 1 (by decide)
    refine ⟨fun q hq => ?_, ?_, h.ll⟩
    · rw [hs] at hq
      rcases List.mem_cons.1 hq with rfl | hq
      · exact ⟨by rw [← hp.len]; exact flipAt_len _ _, (hg 0 (by decide)).trans hp.hi, by rw [hn]; exact hp.nn, by rw [hn]; exact hp.lt, by rw [hn]; exact hp.ge⟩
      · exact h.ok q (by rw [hr']; exact List.mem_cons_of_mem _ hq)
    · have hord := h.ord
      rw [hr', List.map_cons] at hord
      rw [hs, List.map_cons, hn]
      exact hord
theorem o_old {n last : Int} {S : LS} (h : OI n last S) (life : Int) : OI n last (oldP life S).2 := by
  have hr : r01 (oldP life S).2 = agedP life (r01 S) := getD_map_aged life S.1 1
  have hsub : ∀ p ∈ agedP life (r01 S), ∃ q ∈ r01 S, p = (q.1, q.2 + 1) := fun p hp => by
    unfold agedP at hp
    obtain ⟨q, hq, rfl⟩ := List.mem_map.1 (List.mem_filter.1 hp).1
    exact ⟨q, hq, rfl⟩
  refine ⟨fun p hp => ?_, ?_, h.ll⟩
  · rw [hr] at hp
    obtain ⟨q, hq, rfl⟩ := hsub p hp
    have := h.ok q hq
    exact ⟨this.len, this.hi, this.nn, this.lt, this.ge⟩
  · rw [hr]
    unfold agedP
    have h1 : ((r01 S).map (fun p : List Int × Int => (p.1, p.2 + 1))).map numF = (r01 S).map numF := by rw [List.map_map]; rfl
    refine List.Pairwise.sublist (((List.filter_sublist (l := (r01 S).map (fun p : List Int × Int => (p.1, p.2 + 1)))).map numF)) ?_
    rw [h1]
    exact h.ord
theorem o_init : OI 0 (-1) (List.replicate (3 * 3) [], 0) := ⟨fun p hp => (by cases hp), List.Pairwise.nil, by decide⟩
/-- A step loses few. -/
theorem lost_send (st : Nat) (most a b : Int) (x : List Int) (S : LS) : S.2 ≤ (sendP st most a b x S).2.2 ∧ (sendP st most a b x S).2.2 ≤ S.2 + 1 := sendP_lost st most a b x S
theorem lost_pass (st : Nat) (a b : Int) (S : LS) : (passP st a b S).2.2 = S.2 := by
  unfold passP
  cases rix st a b with
  | none => rfl
  | some k =>
    dsimp only
    cases rowAt S k with
    | nil => rfl
    | cons p l => rfl
theorem lost_drop (st : Nat) (a b : Int) (S : LS) : S.2 ≤ (dropP st a b S).2.2 ∧ (dropP st a b S).2.2 ≤ S.2 + 1 := by
  have h := lost_pass st a b S
  unfold dropP
  generalize passP st a b S = r at h
  obtain ⟨r1, r2⟩ := r
  dsimp only at h
  cases r1 with
  | none => dsimp only; omega
  | some x => dsimp only; omega
theorem lost_twice (st : Nat) (most a b : Int) (S : LS) : (twiceP st most a b S).2.2 = S.2 := by
  unfold twiceP
  cases rix st a b with
  | none => rfl
  | some k =>
    dsimp only
    cases rowAt S k with
    | nil => rfl
    | cons p l => dsimp only; split <;> rfl
theorem lost_spoil (st : Nat) (a b bit : Int) (S : LS) : (spoilP st a b bit S).2.2 = S.2 := by
  unfold spoilP
  cases rix st a b with
  | none => rfl
  | some k =>
    dsimp only
    cases rowAt S k with
    | nil => rfl
    | cons p l => dsimp only; split <;> rfl
theorem GX.gones {w0 w : World} {kb : List (Nat × Obj)} {t st : Nat} {life most : Int} {S : LS} (h : GX w0 w kb t st life most S) : 0 ≤ gonesP life S.1 ∧ gonesP life S.1 ≤ most * ((st * st : Nat) : Int) := by
  have := gonesP_range life most S.1 (fun l hl => by
    obtain ⟨i, hi, rfl⟩ := List.mem_iff_getElem.1 hl
    exact (h.le hi).1)
  rw [h.qlen] at this
  exact this
end Go.Proofs.Yteihpaikdpdglaa
