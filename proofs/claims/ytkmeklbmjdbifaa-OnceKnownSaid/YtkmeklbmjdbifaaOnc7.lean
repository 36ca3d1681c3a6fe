/-
  Package once: one contract a function.
-/
import Derived.Test.YtkmeklbmjdbifaaOnc6
namespace Go.Proofs.Ytkmeklbmjdbifaa
open Go.RowKit
set_option linter.unusedVariables false


theorem inR_def' (x y : Int) : inR x y = (decide (0 ≤ x) && decide (x ≤ y)) := by unfold inR; rfl
def Sk.live (s : Sk) : Prop := s.asks = true → 1 ≤ s.left
/-- What Ask hands back, and what it is then. -/
def askR (c : Cf) (near there : Int) (s : Sk) (b : List Int) (poll : Bool) : Pd × Int × Sk :=
  if askE s b.length = 0 then (onP near there (askS c s b poll), 0, askS c s b poll) else (zeroPd, askE s b.length, s)
def tickR (c : Cf) (near there : Int) (s : Sk) : Pd × Bool × (Bool × Int) × Sk :=
  if s.asks = false then (zeroPd, false, (false, 0), { s with wait := max (s.wait - 1) 0 })
  else if 2 ≤ s.left then (zeroPd, false, (false, 0), { s with left := s.left - 1 })
  else if c.tries ≤ s.sent then (zeroPd, false, (true, 1), { s with asks := false, wait := c.quiet, bit := 0, left := 0 })
  else (onP near there s, true, (false, 0), { s with sent := s.sent + 1, left := c.ack })
def hearR (near there : Int) (s : Sk) (p : Pd) : (Bool × Int × List Int) × Sk :=
  if hearOk near there s p = true then
    (match p.info with
    | [] => ((false, 0, []), s)
    | x :: l => ((true, x, if s.poll = true then l else []), { s with asks := false, bit := 1 - s.bit }))
  else ((false, 0, []), s)
theorem ask_live {c : Cf} {near there : Int} {s : Sk} {b : List Int} {poll : Bool} {P : Pd} {E : Int} {s' : Sk} (hc : c.ok) (h : s.live) (hr : askR c near there s b poll = (P, E, s')) : s'.live := by
  unfold askR at hr
  split at hr <;> simp only [Prod.mk.injEq] at hr <;> obtain ⟨rfl, rfl, rfl⟩ := hr
  · intro _; show 1 ≤ c.ack; exact hc.2.1.1
  · exact h
theorem tick_live {c : Cf} {near there : Int} {s : Sk} {P : Pd} {sent : Bool} {r : Bool × Int} {s' : Sk} (hc : c.ok) (h : s.live) (hr : tickR c near there s = (P, sent, r, s')) : s'.live := by
  unfold tickR at hr
  split at hr
  · simp only [Prod.mk.injEq] at hr; obtain ⟨rfl, rfl, rfl, rfl⟩ := hr; exact h
  · split at hr
    · simp only [Prod.mk.injEq] at hr; obtain ⟨rfl, rfl, rfl, rfl⟩ := hr; intro _; show 1 ≤ s.left - 1; omega
    · split at hr
      · simp only [Prod.mk.injEq] at hr; obtain ⟨rfl, rfl, rfl, rfl⟩ := hr; intro e; cases e
      · simp only [Prod.mk.injEq] at hr; obtain ⟨rfl, rfl, rfl, rfl⟩ := hr; intro _; show 1 ≤ c.ack; exact hc.2.1.1
theorem hear_live {near there : Int} {s : Sk} {p : Pd} {r : Bool × Int × List Int} {s' : Sk} (h : s.live) (hr : hearR near there s p = (r, s')) : s'.live := by
  unfold hearR at hr
  split at hr
  · split at hr <;> simp only [Prod.mk.injEq] at hr <;> obtain ⟨rfl, rfl⟩ := hr
    · exact h
    · intro e; cases e
  · simp only [Prod.mk.injEq] at hr; obtain ⟨rfl, rfl⟩ := hr; exact h

section
variable {w : World} {F : Nat → Prop} {o : Nat} {c : Cf} {near there : Int} {s : Sk}
theorem oask (h : OnA w F o c near there s) (bv : Value) (b : List Int) (hs : ∀ W', Fr (fun x => x = o) w W' → RdB W' bv b) (poll : Bool) {P : Pd} {E : Int} {s' : Sk} (hr : askR c near there s b poll = (P, E, s')) :
    Calls Try.prog 11 #[.pointer (some ⟨o, 0, none⟩), bv, .bool poll] w fun e w' => ∃ a k F', e = .returned (.tuple #[pdV P (.slice a P.info.length k), .int .i64 E]) ∧ OwnB w.heap.size w' (.slice a P.info.length k) P.info ∧ OnA w' F' o c near there s' ∧ Stp F F' w w' ∧ ∀ g, (Value.slice a P.info.length k).ownBlock = some g → ¬ F' g := by
  unfold askR at hr
  by_cases he : askE s b.length = 0
  · rw [if_pos he] at hr
    simp only [Prod.mk.injEq] at hr
    obtain ⟨rfl, rfl, rfl⟩ := hr
    refine (oaskYes h bv b hs poll he).mono ?_
    rintro e w' ⟨v, F', rfl, h1, h2, h3, h4⟩
    obtain ⟨a, k, rfl, _⟩ := own_shape h3
    exact ⟨a, k, F', rfl, h3, h1, h2, h4⟩
  · rw [if_neg he] at hr
    simp only [Prod.mk.injEq] at hr
    obtain ⟨rfl, rfl, rfl⟩ := hr
    obtain ⟨ba, bk, rfl⟩ := (hs w (Fr.refl _ _)).len
    refine (oaskNo h ba b.length bk poll he).mono ?_
    rintro e w' ⟨rfl, hb⟩
    exact ⟨none, 0, F, rfl, Own.nil _ _ _ _ _, h.below hb, Stp.of_below F hb, fun g hg => by simp [Value.ownBlock] at hg⟩

theorem otick (h : OnA w F o c near there s) (hl : s.live) {P : Pd} {sent ov : Bool} {st : Int} {s' : Sk} (hr : tickR c near there s = (P, sent, (ov, st), s')) :
    Calls Try.prog 12 #[.pointer (some ⟨o, 0, none⟩)] w fun e w' => ∃ a k, e = .returned (.tuple #[pdV P (.slice a P.info.length k), .bool sent, resV ov st (.slice none 0 0)]) ∧ OwnB w.heap.size w' (.slice a P.info.length k) P.info ∧ OnA w' F o c near there s' ∧ Fr (fun b => b = o) w w' := by
  unfold tickR at hr
  cases ha : s.asks with
  | false =>
    rw [if_pos ha] at hr
    simp only [Prod.mk.injEq] at hr
    obtain ⟨rfl, rfl, ⟨rfl, rfl⟩, rfl⟩ := hr
    refine (otickIdle h ha).mono ?_
    rintro e w' ⟨rfl, h1, h2⟩
    exact ⟨none, 0, rfl, Own.nil _ _ _ _ _, h1, h2⟩
  | true =>
    rw [if_neg (by simp [ha])] at hr
    by_cases h2 : 2 ≤ s.left
    · rw [if_pos h2] at hr
      simp only [Prod.mk.injEq] at hr
      obtain ⟨rfl, rfl, ⟨rfl, rfl⟩, rfl⟩ := hr
      refine (otickWait h ha h2).mono ?_
      rintro e w' ⟨rfl, h1, h2⟩
      exact ⟨none, 0, rfl, Own.nil _ _ _ _ _, h1, h2⟩
    · have h1 : s.left = 1 := by have := hl ha; omega
      rw [if_neg h2] at hr
      by_cases ht : c.tries ≤ s.sent
      · rw [if_pos ht] at hr
        simp only [Prod.mk.injEq] at hr
        obtain ⟨rfl, rfl, ⟨rfl, rfl⟩, rfl⟩ := hr
        refine (otickOver h ha h1 ht).mono ?_
        rintro e w' ⟨rfl, h1, h2⟩
        exact ⟨none, 0, rfl, Own.nil _ _ _ _ _, h1, h2⟩
      · rw [if_neg ht] at hr
        simp only [Prod.mk.injEq] at hr
        obtain ⟨rfl, rfl, ⟨rfl, rfl⟩, rfl⟩ := hr
        refine (otickSend h ha h1 (by omega)).mono ?_
        rintro e w' ⟨v, rfl, h3, h1, h2⟩
        obtain ⟨a, k, rfl, _⟩ := own_shape h3
        exact ⟨a, k, rfl, h3, h1, h2⟩

theorem ohear (h : OnA w F o c near there s) (p : Pd) (pa : Option Addr) (k : Nat) (hr : RdB w (.slice pa p.info.length k) p.info) (hby : ∀ y ∈ p.info, 0 ≤ y ∧ y ≤ 255) (hkl : p.info.length ≤ k) (hkm : k ≤ 9223372036854775807) {ov : Bool} {st : Int} {B : List Int} {s' : Sk} (hh : hearR near there s p = ((ov, st, B), s')) :
    Calls Try.prog 14 #[.pointer (some ⟨o, 0, none⟩), pdV p (.slice pa p.info.length k)] w fun e w' => ∃ a k', e = .returned (resV ov st (.slice a B.length k')) ∧ OwnB w.heap.size w' (.slice a B.length k') B ∧ OnA w' F o c near there s' ∧ Fr (fun b => b = o) w w' := by
  unfold hearR at hh
  cases hk : hearOk near there s p with
  | false =>
    rw [if_neg (by simp [hk])] at hh
    simp only [Prod.mk.injEq] at hh
    obtain ⟨⟨rfl, rfl, rfl⟩, rfl⟩ := hh
    refine (ohearNo h p pa k hk).mono ?_
    rintro e w' ⟨rfl, hb⟩
    exact ⟨none, 0, rfl, Own.nil _ _ _ _ _, h.below hb, Fr.of_below hb _⟩
  | true =>
    rw [if_pos hk] at hh
    obtain ⟨dt, fr, resp, form, kind, ns, nr, poll, info⟩ := p
    unfold hearOk at hk
    simp only [Bool.and_eq_true, beq_iff_eq] at hk
    obtain ⟨⟨⟨⟨⟨⟨⟨e0, e1⟩, e2⟩, e3⟩, e4⟩, e5⟩, e6⟩, e7⟩ := hk
    subst e2 e3 e4 e5 e6 e7
    cases info with
    | nil =>
      simp only [Prod.mk.injEq] at hh
      obtain ⟨⟨rfl, rfl, rfl⟩, rfl⟩ := hh
      refine (ohearShort h ns nr pa k e0 e1).mono ?_
      rintro e w' ⟨rfl, hb⟩
      exact ⟨none, 0, rfl, Own.nil _ _ _ _ _, h.below hb, Fr.of_below hb _⟩
    | cons x l =>
      simp only [Prod.mk.injEq] at hh
      obtain ⟨⟨rfl, rfl, hB⟩, rfl⟩ := hh
      obtain ⟨g, oo, k', hv, _, _⟩ := Rd.some hr (by simp) (by decide)
      simp at hv
      obtain ⟨rfl, rfl⟩ := hv
      cases hpl : s.poll with
      | false =>
        rw [hpl] at e1 hB
        refine (ohearYesF h ns nr g oo k x l e0 hpl e1 (hby x (by simp)) hr hkl hkm).mono ?_
        rintro e w' ⟨v, rfl, h3, h1, h2⟩
        rw [if_neg (by simp)] at hB
        rw [hB] at h3
        obtain ⟨a, k', rfl, _⟩ := own_shape h3
        rw [hpl] at h1
        exact ⟨a, k', rfl, h3, h1, h2⟩
      | true =>
        rw [hpl] at e1 hB
        refine (ohearYesT h ns nr g oo k x l e0 hpl e1 (hby x (by simp)) hr hkl hkm).mono ?_
        rintro e w' ⟨v, rfl, h3, h1, h2⟩
        rw [if_pos rfl] at hB
        rw [hB] at h3
        obtain ⟨a, k', rfl, _⟩ := own_shape h3
        rw [hpl] at h1
        exact ⟨a, k', rfl, h3, h1, h2⟩
end
end Go.Proofs.Ytkmeklbmjdbifaa
