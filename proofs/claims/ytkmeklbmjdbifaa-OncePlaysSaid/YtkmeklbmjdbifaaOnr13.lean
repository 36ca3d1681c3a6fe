/-
  The reference's once: one contract a function.
-/
import Derived.Test.YtkmeklbmjdbifaaOnr11
import Derived.Test.YtkmeklbmjdbifaaOnr12
import Derived.Test.YtkmeklbmjdbifaaOnc7
namespace Go.Proofs.Ytkmeklbmjdbifaa
open Go.RowKit
set_option linter.unusedVariables false


section
variable {w : World} {F : Nat → Prop} {o : Nat} {c : Cf} {near there : Int} {s : Sk}
theorem rask (h : RnA w F o c near there s) (bv : Value) (b : List Int) (hs : ∀ W', Fr (fun x => x = o) w W' → RdB W' bv b) (poll : Bool) {P : Pd} {E : Int} {s' : Sk} (hr : askR c near there s b poll = (P, E, s')) :
    Calls Try.prog 17 #[.pointer (some ⟨o, 0, none⟩), bv, .bool poll] w fun e w' => ∃ a k F', e = .returned (.tuple #[pdV P (.slice a P.info.length k), .int .i64 E]) ∧ OwnB w.heap.size w' (.slice a P.info.length k) P.info ∧ RnA w' F' o c near there s' ∧ Stp F F' w w' ∧ ∀ g, (Value.slice a P.info.length k).ownBlock = some g → ¬ F' g := by
  unfold askR at hr
  by_cases he : askE s b.length = 0
  · rw [if_pos he] at hr
    simp only [Prod.mk.injEq] at hr
    obtain ⟨rfl, rfl, rfl⟩ := hr
    refine (raskYes h bv b hs poll he).mono ?_
    rintro e w' ⟨v, F', rfl, h1, h2, h3, h4⟩
    obtain ⟨a, k, rfl, _⟩ := own_shape h3
    exact ⟨a, k, F', rfl, h3, h1, h2, h4⟩
  · rw [if_neg he] at hr
    simp only [Prod.mk.injEq] at hr
    obtain ⟨rfl, rfl, rfl⟩ := hr
    obtain ⟨ba, bk, rfl⟩ := (hs w (Fr.refl _ _)).len
    refine (raskNo h ba b.length bk poll he).mono ?_
    rintro e w' ⟨rfl, hb⟩
    exact ⟨none, 0, F, rfl, Own.nil _ _ _ _ _, h.below hb, Stp.of_below F hb, fun g hg => by simp [Value.ownBlock] at hg⟩

theorem rtick (h : RnA w F o c near there s) (hl : s.live) {P : Pd} {sent ov : Bool} {st : Int} {s' : Sk} (hr : tickR c near there s = (P, sent, (ov, st), s')) :
    Calls Try.prog 22 #[.pointer (some ⟨o, 0, none⟩)] w fun e w' => ∃ a k, e = .returned (.tuple #[pdV P (.slice a P.info.length k), .bool sent, resV ov st (.slice none 0 0)]) ∧ OwnB w.heap.size w' (.slice a P.info.length k) P.info ∧ RnA w' F o c near there s' ∧ Fr (fun b => b = o) w w' := by
  unfold tickR at hr
  cases ha : s.asks with
  | false =>
    rw [if_pos ha] at hr
    simp only [Prod.mk.injEq] at hr
    obtain ⟨rfl, rfl, ⟨rfl, rfl⟩, rfl⟩ := hr
    refine (rtickIdle h ha).mono ?_
    rintro e w' ⟨rfl, h1, h2⟩
    exact ⟨none, 0, rfl, Own.nil _ _ _ _ _, h1, h2⟩
  | true =>
    rw [if_neg (by simp [ha])] at hr
    by_cases h2 : 2 ≤ s.left
    · rw [if_pos h2] at hr
      simp only [Prod.mk.injEq] at hr
      obtain ⟨rfl, rfl, ⟨rfl, rfl⟩, rfl⟩ := hr
      refine (rtickWait h ha h2).mono ?_
      rintro e w' ⟨rfl, h1, h2⟩
      exact ⟨none, 0, rfl, Own.nil _ _ _ _ _, h1, h2⟩
    · have h1 : s.left = 1 := by have := hl ha; omega
      rw [if_neg h2] at hr
      by_cases ht : c.tries ≤ s.sent
      · rw [if_pos ht] at hr
        simp only [Prod.mk.injEq] at hr
        obtain ⟨rfl, rfl, ⟨rfl, rfl⟩, rfl⟩ := hr
        refine (rtickOver h ha h1 ht).mono ?_
        rintro e w' ⟨rfl, h1, h2⟩
        exact ⟨none, 0, rfl, Own.nil _ _ _ _ _, h1, h2⟩
      · rw [if_neg ht] at hr
        simp only [Prod.mk.injEq] at hr
        obtain ⟨rfl, rfl, ⟨rfl, rfl⟩, rfl⟩ := hr
        refine (rtickSend h ha h1 (by omega)).mono ?_
        rintro e w' ⟨v, rfl, h3, h1, h2⟩
        obtain ⟨a, k, rfl, _⟩ := own_shape h3
        exact ⟨a, k, rfl, h3, h1, h2⟩

theorem rhear (h : RnA w F o c near there s) (p : Pd) (pa : Option Addr) (k : Nat) (hr : RdB w (.slice pa p.info.length k) p.info) (hby : ∀ y ∈ p.info, 0 ≤ y ∧ y ≤ 255) (hkl : p.info.length ≤ k) (hkm : k ≤ 9223372036854775807) {ov : Bool} {st : Int} {B : List Int} {s' : Sk} (hh : hearR near there s p = ((ov, st, B), s')) :
    Calls Try.prog 21 #[.pointer (some ⟨o, 0, none⟩), pdV p (.slice pa p.info.length k)] w fun e w' => ∃ a k', e = .returned (resV ov st (.slice a B.length k')) ∧ OwnB w.heap.size w' (.slice a B.length k') B ∧ RnA w' F o c near there s' ∧ Fr (fun b => b = o) w w' := by
  unfold hearR at hh
  cases hk : hearOk near there s p with
  | false =>
    rw [if_neg (by simp [hk])] at hh
    simp only [Prod.mk.injEq] at hh
    obtain ⟨⟨rfl, rfl, rfl⟩, rfl⟩ := hh
    refine (rhearNo h p pa k hk).mono ?_
    rintro e w' ⟨rfl, hb⟩
    exact ⟨none, 0, rfl, Own.nil _ _ _ _ _, h.below hb, Fr.of_below hb _⟩
  | true =>
    rw [if_pos hk] at hh
    obtain ⟨dt, fr, resp, form, kind, ns, nr, poll, info⟩ := p
    unfold hearOk at hk
    simp only [Bool.and_eq_true, beq_iff_eq] at hk
    obtain ⟨⟨⟨⟨⟨⟨⟨e0, e1⟩, e2⟩, e3⟩, e4⟩, e5⟩, e6⟩, e7⟩ := hk
    subst e2 e3 e4 e5 e6 e7
    cases info with
    | nil =>
      simp only [Prod.mk.injEq] at hh
      obtain ⟨⟨rfl, rfl, rfl⟩, rfl⟩ := hh
      refine (rhearShort h ns nr pa k e0 e1).mono ?_
      rintro e w' ⟨rfl, hb⟩
      exact ⟨none, 0, rfl, Own.nil _ _ _ _ _, h.below hb, Fr.of_below hb _⟩
    | cons x l =>
      simp only [Prod.mk.injEq] at hh
      obtain ⟨⟨rfl, rfl, hB⟩, rfl⟩ := hh
      obtain ⟨g, oo, k', hv, _, _⟩ := Rd.some hr (by simp) (by decide)
      simp at hv
      obtain ⟨rfl, rfl⟩ := hv
      cases hpl : s.poll with
      | false =>
        rw [hpl] at e1 hB
        refine (rhearYesF h ns nr g oo k x l e0 hpl e1 (hby x (by simp)) hr hkl hkm).mono ?_
        rintro e w' ⟨v, rfl, h3, h1, h2⟩
        rw [if_neg (by simp)] at hB
        rw [hB] at h3
        obtain ⟨a, k', rfl, _⟩ := own_shape h3
        rw [hpl] at h1
        exact ⟨a, k', rfl, h3, h1, h2⟩
      | true =>
        rw [hpl] at e1 hB
        refine (rhearYesT h ns nr g oo k x l e0 hpl e1 (hby x (by simp)) hr hkl hkm).mono ?_
        rintro e w' ⟨v, rfl, h3, h1, h2⟩
        rw [if_pos rfl] at hB
        rw [hB] at h3
        obtain ⟨a, k', rfl, _⟩ := own_shape h3
        rw [hpl] at h1
        exact ⟨a, k', rfl, h3, h1, h2⟩
end
end Go.Proofs.Ytkmeklbmjdbifaa
