/-
  Package queue at lan.Flying: Cut of all; package lan: Cut, at any line.
-/
import Derived.Test.YteihpaikdpdglaaGlI
namespace Go.Proofs.Yteihpaikdpdglaa
open Go.RowKit
set_option linter.unusedVariables false


theorem cutZeroF {c : Nat} {most : Int} {sv : Value} {l : List Fl} (w : World) (h : IsF w c most sv l) (hl : l = []) :
    Calls Try.prog 44 #[.pointer (some ⟨c, 0, none⟩), .int .i64 0] w fun e w' => e = .returned (.int .i64 0) ∧ w' = w := by
  subst hl
  have H := Lib.hid h
  clear h
  go_enter Try.func44, Try.ntmps44
  go_wp2_with fail
  refine (lenF w H.out).mono ?_
  rintro e w' ⟨rfl, rfl⟩
  go_wp2_with fail
  go_ret
  exact ⟨rfl, rfl⟩
/-- Cut of all that there is. -/
theorem cutAllF {c : Nat} {most : Int} {sv : Value} {l : List Fl} {m : Nat} (w : World) (h : IsF w c most sv l) (hm : m = l.length) (hm1 : 1 ≤ m) :
    Calls Try.prog 44 #[.pointer (some ⟨c, 0, none⟩), .int .i64 m] w fun e w' => e = .returned (.int .i64 m) ∧ ∃ sv', IsF w' c most sv' [] ∧ Mv w sv sv' ∧ Fr (fun b => b = c) w w' := by
  have hln := h.len
  obtain ⟨g, cap, rfl, hg, hc1, hc2⟩ := own_some h.own (by omega)
  have hc3 : cap ≤ 9223372036854775807 := by unfold maxLen at hc2; omega
  have hrd := Own.dropRd enF_len h.own (i := l.length) (Nat.le_refl _) hc1
  rw [List.drop_of_length_le (Nat.le_refl _), Nat.sub_self] at hrd
  rw [← hm] at hrd hc1 hln
  have H := Lib.hid h
  have c1 := h.cell1
  rw [← hm] at c1
  have hlt := lt_of_block h.blk
  have tail : ∀ (w2 : World) (v' : Value), Own enF 39 2 w.heap.size w2 v' [] → Below w.heap.size w w2 →
      w2.cell? ⟨c, 1, none⟩ = some (.slice (some ⟨g, 0, none⟩) m cap) ∧ w2.frozen? ⟨c, 1, none⟩ = false ∧ (∃ a n k, v' = .slice a n k) ∧
      Hid (IsF (w2.setCell ⟨c, 1, none⟩ v') c most v' [] ∧ Mv w (.slice (some ⟨g, 0, none⟩) l.length cap) v' ∧ Fr (fun b => b = c) w (w2.setCell ⟨c, 1, none⟩ v')) := fun w2 v' ho hb => by
    have hblk := (hb.block c hlt).trans H.out.blk
    have hne : ¬ v'.ownBlock = some c := fun e => by have := (ho.lt c e).1; omega
    obtain ⟨a, k, hv, _⟩ := own_shape ho
    refine ⟨by rw [hm]; exact blk_cell hblk 1, blk_free hblk 1, ⟨a, _, k, hv⟩, ⟨by simpa using heap_setCell_same hblk (i := 1) v', ?_, H.out.m0, ?_⟩, ?_, ?_⟩
    · exact Own.fr (S := fun b => b = c) (own_zero ho) ((Fr.refl (fun b => b = c) _).setCell (fun _ => rfl) _) (fun g' hg' e => hne (by rw [hg', e]))
    · have := H.out.m0; simp; omega
    · exact fun g' hg' => .inr (ho.lt g' hg').1
    · exact (Fr.of_below hb (fun b => b = c)).setCell (p := ⟨c, 1, none⟩) (fun _ => rfl) _
  have Tail := Lib.hid tail
  have Hm := Lib.hid hm
  have hd1 : decide ((0 : Int) < (m : Int)) = true := decide_eq_true (by omega)
  have hd2 : decide (0 < m) = true := decide_eq_true (by omega)
  have hmm : min (max (m : Int) 0) (m : Int) = (m : Int) := by omega
  have i3 : (m : Int) ≤ (cap : Int) := by omega
  clear h tail hm
  by_cases hcap : cap = m
  · rw [if_pos hcap] at hrd
    subst hcap
    rw [Nat.sub_self] at hrd
    have Hrd := Lib.hid hrd
    clear hrd
    go_enter Try.func44, Try.ntmps44
    go_wp2_with fail
    refine (lenF w H.out).mono ?_
    rintro e w' ⟨rfl, rfl⟩
    rw [← Hm.out]
    go_wp2_with fail
    refine (cloneF _ _ _ [] (by simp) _ Hrd.out (by simp)).mono ?_
    rintro e w2 ⟨v', rfl, ho, hb⟩
    obtain ⟨q1, q2, ⟨a, n', k, hv⟩, fin⟩ := Tail.out w2 v' ho hb
    subst hv
    clear ho hb
    go_wp2_with fail
    go_ret
    exact ⟨rfl, _, fin.out⟩
  · rw [if_neg hcap] at hrd
    have Hrd := Lib.hid hrd
    have hcm : ¬ m = cap := fun e => hcap e.symm
    clear hrd
    go_enter Try.func44, Try.ntmps44
    go_wp2_with fail
    refine (lenF w H.out).mono ?_
    rintro e w' ⟨rfl, rfl⟩
    rw [← Hm.out]
    go_wp2_with fail
    refine (cloneF _ _ _ [] (by simp) _ Hrd.out (by simp)).mono ?_
    rintro e w2 ⟨v', rfl, ho, hb⟩
    obtain ⟨q1, q2, ⟨a, n', k, hv⟩, fin⟩ := Tail.out w2 v' ho hb
    subst hv
    clear ho hb
    go_wp2_with fail
    go_ret
    exact ⟨rfl, _, fin.out⟩

/-- A row is cut: how many, and the rows behind it. -/
def cutAt (st : Nat) (a b : Int) (qs : List FlA) : Int × List FlA :=
  match rix st a b with
  | none => (0, qs)
  | some k => (((qs.getD k []).length : Int), qs.set k [])
/-- The rows from and to the first i stations are cut. -/
def cutsP (st : Nat) (s : Int) (qs : List FlA) : Nat → Int × List FlA
  | 0 => (0, qs)
  | i + 1 => ((cutsP st s qs i).1 + (cutAt st s i (cutsP st s qs i).2).1 + (cutAt st i s (cutAt st s i (cutsP st s qs i).2).2).1, (cutAt st i s (cutAt st s i (cutsP st s qs i).2).2).2)
def cutP (st : Nat) (s : Int) (S : LS) : Int × LS :=
  if 0 ≤ s ∧ s < (st : Int) then ((cutsP st s S.1 st).1, ((cutsP st s S.1 st).2, S.2 + (cutsP st s S.1 st).1)) else (0, S)
/-- Where a row lies. -/
def rowPtr (ps : List Nat) (st : Nat) (a b : Int) : Value :=
  match rix st a b with
  | none => .pointer none
  | some k => .pointer (some ⟨ps.getD k 0, 0, none⟩)
section
variable {w : World} {F : Nat → Prop} {t st : Nat} {life lost most : Int} {qs : List FlA} {rv : Value} {ps : List Nat} {Fs : Nat → Nat → Prop}
theorem getD_ps {k : Nat} (h : k < ps.length) : ps.getD k 0 = ps[k] := by rw [List.getD_eq_getElem?_getD, List.getElem?_eq_getElem h]; rfl
theorem rowPtr_one (ps : List Nat) (st : Nat) (a b : Int) : (rowPtr ps st a b).oneCell' = true := by unfold rowPtr; split <;> rfl
theorem rowPtr_ptr (ps : List Nat) (st : Nat) (a b : Int) : ∃ p, rowPtr ps st a b = .pointer p := by unfold rowPtr; split <;> exact ⟨_, rfl⟩
theorem rowAny (h : LGi w F t st life lost most qs rv ps Fs) (a b : Int) :
    Calls Try.prog 31 #[.pointer (some ⟨t, 0, none⟩), .int .i64 a, .int .i64 b] w fun e w' => e = .returned (rowPtr ps st a b) ∧ Below w.heap.size w w' := by
  unfold rowPtr
  cases hk : rix st a b with
  | none => exact (rowNone h hk).mono fun e w' ⟨h1, h2⟩ => ⟨h1, by rw [h2]; exact Below.refl _ _⟩
  | some k => exact (rowSome h hk).mono fun e w' ⟨hi, h1, h2⟩ => ⟨by rw [h1]; dsimp only; rw [getD_ps hi], h2⟩
theorem lenRow (h : LGi w F t st life lost most qs rv ps Fs) (a b : Int) :
    Calls Try.prog 45 #[rowPtr ps st a b] w fun e w' => e = .returned (.int .i64 (cutAt st a b qs).1) ∧ w' = w := by
  unfold rowPtr cutAt
  cases hk : rix st a b with
  | none => exact lenNil w
  | some k =>
    obtain ⟨_, _, _, _, _, _, _, _, hlt⟩ := rix_lt hk
    have hi : k < ps.length := by rw [h.len]; exact hlt
    obtain ⟨sv, fl, h1, h2, h3, h4, h5⟩ := (h.row hi).ex
    dsimp only
    rw [getD_ps hi, ← forall_len h2]
    exact lenF w h1
theorem cutRow (h : LGi w F t st life lost most qs rv ps Fs) (a b : Int) :
    Calls Try.prog 44 #[rowPtr ps st a b, .int .i64 (cutAt st a b qs).1] w fun e w' => e = .returned (.int .i64 (cutAt st a b qs).1) ∧ ∃ F' Fs', LGi w' F' t st life lost most (cutAt st a b qs).2 rv ps Fs' ∧ Stp F F' w w' := by
  unfold rowPtr cutAt
  cases hk : rix st a b with
  | none => exact (cutNil 0 w (.inl rfl)).mono fun e w' ⟨h1, h2⟩ => ⟨h1, F, Fs, by rw [h2]; exact h, by rw [h2]; exact Stp.refl _ _⟩
  | some k =>
    obtain ⟨_, _, _, _, _, _, _, _, hlt⟩ := rix_lt hk
    have hi : k < ps.length := by rw [h.len]; exact hlt
    obtain ⟨sv, fl, h1, h2, h3, h4, h5⟩ := (h.row hi).ex
    have hc := (h.row hi).c
    have hlt := (h.row hi).lt
    dsimp only
    rw [getD_ps hi, ← forall_len h2]
    by_cases hz : fl.length = 0
    · have hfl : fl = [] := List.eq_nil_of_length_eq_zero hz
      have hql : qs.getD k [] = [] := List.eq_nil_of_length_eq_zero (by rw [← forall_len h2]; exact hz)
      have hset : qs.set k [] = qs := by
        have hq : k < qs.length := by rw [h.qlen, ← h.len]; exact hi
        rw [getD_get hq] at hql
        have := @List.set_getElem_self _ qs k hq
        rw [hql] at this
        exact this
      rw [hz]
      exact (cutZeroF w h1 hfl).mono fun e w' ⟨h1, h2⟩ => ⟨h1, F, Fs, by rw [h2, hset]; exact h, by rw [h2]; exact Stp.refl _ _⟩
    · refine (cutAllF w h1 rfl (by omega)).mono ?_
      rintro e w' ⟨e1, sv', q2, m2, f2⟩
      obtain ⟨F1, qx, s, _⟩ := QX.of_q (l' := []) h1 hc h4 hlt (Below.refl _ w) q2 (fun g hg => m2 g hg) (f2.mono (fun _ _ e => .inl e)) trivial List.Pairwise.nil (fun u hu => by cases hu)
      obtain ⟨F2, Fs2, hL, hS, _⟩ := h.turn hi s qx (fun p hp => by cases hp)
      exact ⟨e1, F2, Fs2, hL, hS⟩
end
end Go.Proofs.Yteihpaikdpdglaa
