/-
  Package queue: a row in a law, behind w0.
-/
import Derived.Test.YtjefmicmhcajoaaQue4B
namespace Go.Proofs.Ytjefmicmhcajoaa
open Go.RowKit
set_option linter.unusedVariables false

/-- A row that a law has made behind w0. -/
def QXB (w0 w : World) (c : Nat) (most : Int) (l : List Value) : Prop := ∃ sv, IsQB w w0.heap.size c most sv l ∧ Below w0.heap.size w0 w

theorem IsQB.ftp_ge {w : World} {B c : Nat} {most : Int} {sv : Value} {l : List Value} (h : IsQB w B c most sv l) : ∀ x, ftp c sv x → B ≤ x := fun x e => by
  rcases e with rfl | e
  · exact h.ge
  · exact (h.own.lt x e).1
theorem QXB.bel {w0 w : World} {c : Nat} {most : Int} {l : List Value} (h : QXB w0 w c most l) : Below w0.heap.size w0 w := by obtain ⟨_, _, h⟩ := h; exact h
theorem QXB.below {w0 w w' : World} {c : Nat} {most : Int} {l : List Value} (h : QXB w0 w c most l) (hb : Below w.heap.size w w') : QXB w0 w' c most l := by
  obtain ⟨sv, h1, h2⟩ := h
  exact ⟨sv, h1.below hb, h2.trans (hb.mono h2.size)⟩
theorem QXB.le {w0 w : World} {c : Nat} {most : Int} {l : List Value} (h : QXB w0 w c most l) : (l.length : Int) ≤ most := by obtain ⟨sv, h1, _⟩ := h; exact h1.le

theorem xqNewB {w0 w : World} (h0 : Below w0.heap.size w0 w) (most : Int) (hm : most ≤ 9223372036854775807) :
    Calls Try.prog 19 #[.int .i64 most] w fun e w' => ∃ c, e = .returned (.pointer (some ⟨c, 0, none⟩)) ∧ QXB w0 w' c (max most 0) [] ∧ Below w.heap.size w w' :=
  (newQB most hm w).mono fun e w' ⟨he, h1, h2⟩ => ⟨_, he, ⟨_, ⟨h1.blk, Nat.le_trans h0.size h1.ge, own_base (own_zero h1.own) (fun g hg => by simp [Value.ownBlock] at hg), h1.m0, h1.m1, h1.one, h1.le⟩, h0.trans (h2.mono h0.size)⟩, h2⟩
theorem xqLenB {w0 w : World} {c : Nat} {most : Int} {l : List Value} (h : QXB w0 w c most l) : Calls Try.prog 22 #[.pointer (some ⟨c, 0, none⟩)] w fun e w' => e = .returned (.int .i64 l.length) ∧ w' = w := by
  obtain ⟨sv, h1, _⟩ := h
  exact lenQB c most sv l w _ h1
theorem xqPutB {w0 w : World} {c : Nat} {most : Int} {l : List Value} (h : QXB w0 w c most l) (x : Value) (hx : ∃ a n c, x = .slice a n c) (hl : l.length ≤ 100000) :
    Calls Try.prog 20 #[.pointer (some ⟨c, 0, none⟩), x] w fun e w' => e = .returned (.bool (decide ((l.length : Int) < most))) ∧ QXB w0 w' c most (putL most l x) := by
  obtain ⟨sv, h1, h2⟩ := h
  exact (putQB c most sv l x w _ h2.size h1 hl hx).mono fun e w' ⟨he, sv', h3, m, f⟩ => ⟨he, sv', h3, h2.trans (f.below' h2.size h1.ftp_ge)⟩
theorem xqPutYesB {w0 w : World} {c : Nat} {most : Int} {l : List Value} (h : QXB w0 w c most l) (x : Value) (hx : ∃ a n c, x = .slice a n c) (hl : l.length ≤ 100000) (hf : (l.length : Int) < most) :
    Calls Try.prog 20 #[.pointer (some ⟨c, 0, none⟩), x] w fun e w' => e = .returned (.bool true) ∧ QXB w0 w' c most (l ++ [x]) :=
  (xqPutB h x hx hl).mono fun e w' ⟨he, h⟩ => ⟨by rw [he, decide_eq_true hf], by rw [show putL most l x = l ++ [x] from if_pos hf] at h; exact h⟩
theorem xqPutNoB {w0 w : World} {c : Nat} {most : Int} {l : List Value} (h : QXB w0 w c most l) (x : Value) (hx : ∃ a n c, x = .slice a n c) (hl : l.length ≤ 100000) (hf : most ≤ (l.length : Int)) :
    Calls Try.prog 20 #[.pointer (some ⟨c, 0, none⟩), x] w fun e w' => e = .returned (.bool false) ∧ QXB w0 w' c most l :=
  (xqPutB h x hx hl).mono fun e w' ⟨he, h⟩ => ⟨by rw [he, decide_eq_false (by omega)], by rw [show putL most l x = l from if_neg (by omega)] at h; exact h⟩
theorem xqTakeNoB {w0 w : World} {c : Nat} {most : Int} (h : QXB w0 w c most []) :
    Calls Try.prog 21 #[.pointer (some ⟨c, 0, none⟩)] w fun e w' => e = .returned (.tuple #[.slice none 0 0, .bool false]) ∧ w' = w := by
  obtain ⟨sv, h1, h2⟩ := h
  exact takeNoB c most sv w _ h1
theorem xqTakeYesB {w0 w : World} {c : Nat} {most : Int} {x : Value} {l : List Value} (h : QXB w0 w c most (x :: l)) (hx : ∃ a n c, x = .slice a n c) (hl : l.length ≤ 99999) :
    Calls Try.prog 21 #[.pointer (some ⟨c, 0, none⟩)] w fun e w' => e = .returned (.tuple #[x, .bool true]) ∧ QXB w0 w' c most l := by
  obtain ⟨sv, h1, h2⟩ := h
  exact (takeYesB c most sv x l w _ h2.size h1 (by simp; omega) hx).mono fun e w' ⟨he, sv', h3, m, f⟩ => ⟨he, sv', h3, h2.trans (f.below' h2.size (fun y e => by rw [e]; exact h1.ge))⟩
theorem xqPeekB {w0 w : World} {c : Nat} {most : Int} {l : List Value} (h : QXB w0 w c most l) (i : Nat) (hi : i < l.length) :
    Calls Try.prog 37 #[.pointer (some ⟨c, 0, none⟩), .int .i64 i] w fun e w' => e = .returned (.tuple #[l[i], .bool true]) ∧ w' = w := by
  obtain ⟨sv, h1, h2⟩ := h
  exact peekQB i c most sv l w _ h1 hi
theorem xqPeekNoB {w0 w : World} {c : Nat} {most : Int} {l : List Value} (h : QXB w0 w c most l) (i : Int) (hi : (l.length : Int) ≤ i) :
    Calls Try.prog 37 #[.pointer (some ⟨c, 0, none⟩), .int .i64 i] w fun e w' => e = .returned (.tuple #[.slice none 0 0, .bool false]) ∧ w' = w := by
  obtain ⟨sv, h1, h2⟩ := h
  exact peekNoB i c most sv l w _ h1 hi
theorem xqCutB {w0 w : World} {c : Nat} {most : Int} {l : List Value} (h : QXB w0 w c most l) (n : Int) (m : Nat) (hn : min (max n 0) (l.length : Int) = m) (hl : l.length ≤ 100000) :
    Calls Try.prog 38 #[.pointer (some ⟨c, 0, none⟩), .int .i64 n] w fun e w' => e = .returned (.int .i64 m) ∧ QXB w0 w' c most (l.drop m) := by
  have h' := h
  obtain ⟨sv, h1, h2⟩ := h
  by_cases h0 : m = 0
  · subst h0
    exact (cutNoB n c most sv l w _ h1 hn).mono fun e w' ⟨he, hw⟩ => ⟨he, by subst hw; simpa using h'⟩
  · exact (cutYesB n m c most sv l w _ h2.size h1 hn (by omega) hl).mono fun e w' ⟨he, sv', h3, _, f⟩ => ⟨he, sv', h3, h2.trans (f.below' h2.size (fun y e => by rw [e]; exact h1.ge))⟩
/-- Insert where it may not be. -/
theorem xqInsNoB {w0 w : World} {c : Nat} {most : Int} {l : List Value} (h : QXB w0 w c most l) (i : Int) (x : Value) (hf : most ≤ (l.length : Int)) :
    Calls Try.prog 36 #[.pointer (some ⟨c, 0, none⟩), .int .i64 i, x] w fun e w' => e = .returned (.bool false) ∧ QXB w0 w' c most l := by
  have h' := h
  obtain ⟨sv, h1, h2⟩ := h
  exact (insFullB c most sv l i x w _ h1 hf).mono fun e w' ⟨he, hb⟩ => ⟨he, h'.below hb⟩
end Go.Proofs.Ytjefmicmhcajoaa
