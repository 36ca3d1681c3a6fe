/-
  Package queue: a row in a law, behind w0.
-/
import Derived.Test.YtjefmicmhcajoaaQue4S
namespace Go.Proofs.Ytjefmicmhcajoaa
open Go.RowKit
set_option linter.unusedVariables false

/-- A row that a law has made behind w0. -/
def QXS (w0 w : World) (c : Nat) (most : Int) (l : List Value) : Prop := ∃ sv, IsQS w w0.heap.size c most sv l ∧ Below w0.heap.size w0 w

theorem IsQS.ftp_ge {w : World} {B c : Nat} {most : Int} {sv : Value} {l : List Value} (h : IsQS w B c most sv l) : ∀ x, ftp c sv x → B ≤ x := fun x e => by
  rcases e with rfl | e
  · exact h.ge
  · exact (h.own.lt x e).1
theorem QXS.bel {w0 w : World} {c : Nat} {most : Int} {l : List Value} (h : QXS w0 w c most l) : Below w0.heap.size w0 w := by obtain ⟨_, _, h⟩ := h; exact h
theorem QXS.below {w0 w w' : World} {c : Nat} {most : Int} {l : List Value} (h : QXS w0 w c most l) (hb : Below w.heap.size w w') : QXS w0 w' c most l := by
  obtain ⟨sv, h1, h2⟩ := h
  exact ⟨sv, h1.below hb, h2.trans (hb.mono h2.size)⟩
theorem QXS.le {w0 w : World} {c : Nat} {most : Int} {l : List Value} (h : QXS w0 w c most l) : (l.length : Int) ≤ most := by obtain ⟨sv, h1, _⟩ := h; exact h1.le

theorem xqNewS {w0 w : World} (h0 : Below w0.heap.size w0 w) (most : Int) (hm : most ≤ 9223372036854775807) :
    Calls Try.prog 10 #[.int .i64 most] w fun e w' => ∃ c, e = .returned (.pointer (some ⟨c, 0, none⟩)) ∧ QXS w0 w' c (max most 0) [] ∧ Below w.heap.size w w' :=
  (newQS most hm w).mono fun e w' ⟨he, h1, h2⟩ => ⟨_, he, ⟨_, ⟨h1.blk, Nat.le_trans h0.size h1.ge, own_base (own_zero h1.own) (fun g hg => by simp [Value.ownBlock] at hg), h1.m0, h1.m1, h1.one, h1.le⟩, h0.trans (h2.mono h0.size)⟩, h2⟩
theorem xqLenS {w0 w : World} {c : Nat} {most : Int} {l : List Value} (h : QXS w0 w c most l) : Calls Try.prog 16 #[.pointer (some ⟨c, 0, none⟩)] w fun e w' => e = .returned (.int .i64 l.length) ∧ w' = w := by
  obtain ⟨sv, h1, _⟩ := h
  exact lenQS c most sv l w _ h1
theorem xqPutS {w0 w : World} {c : Nat} {most : Int} {l : List Value} (h : QXS w0 w c most l) (x : Value) (hx : ∃ s, x = .string s) (hl : l.length ≤ 100000) :
    Calls Try.prog 11 #[.pointer (some ⟨c, 0, none⟩), x] w fun e w' => e = .returned (.bool (decide ((l.length : Int) < most))) ∧ QXS w0 w' c most (putL most l x) := by
  obtain ⟨sv, h1, h2⟩ := h
  exact (putQS c most sv l x w _ h2.size h1 hl hx).mono fun e w' ⟨he, sv', h3, m, f⟩ => ⟨he, sv', h3, h2.trans (f.below' h2.size h1.ftp_ge)⟩
theorem xqPutYesS {w0 w : World} {c : Nat} {most : Int} {l : List Value} (h : QXS w0 w c most l) (x : Value) (hx : ∃ s, x = .string s) (hl : l.length ≤ 100000) (hf : (l.length : Int) < most) :
    Calls Try.prog 11 #[.pointer (some ⟨c, 0, none⟩), x] w fun e w' => e = .returned (.bool true) ∧ QXS w0 w' c most (l ++ [x]) :=
  (xqPutS h x hx hl).mono fun e w' ⟨he, h⟩ => ⟨by rw [he, decide_eq_true hf], by rw [show putL most l x = l ++ [x] from if_pos hf] at h; exact h⟩
theorem xqPutNoS {w0 w : World} {c : Nat} {most : Int} {l : List Value} (h : QXS w0 w c most l) (x : Value) (hx : ∃ s, x = .string s) (hl : l.length ≤ 100000) (hf : most ≤ (l.length : Int)) :
    Calls Try.prog 11 #[.pointer (some ⟨c, 0, none⟩), x] w fun e w' => e = .returned (.bool false) ∧ QXS w0 w' c most l :=
  (xqPutS h x hx hl).mono fun e w' ⟨he, h⟩ => ⟨by rw [he, decide_eq_false (by omega)], by rw [show putL most l x = l from if_neg (by omega)] at h; exact h⟩
theorem xqTakeNoS {w0 w : World} {c : Nat} {most : Int} (h : QXS w0 w c most []) :
    Calls Try.prog 13 #[.pointer (some ⟨c, 0, none⟩)] w fun e w' => e = .returned (.tuple #[.string .empty, .bool false]) ∧ w' = w := by
  obtain ⟨sv, h1, h2⟩ := h
  exact takeNoS c most sv w _ h1
theorem xqTakeYesS {w0 w : World} {c : Nat} {most : Int} {x : Value} {l : List Value} (h : QXS w0 w c most (x :: l)) (hx : ∃ s, x = .string s) (hl : l.length ≤ 99999) :
    Calls Try.prog 13 #[.pointer (some ⟨c, 0, none⟩)] w fun e w' => e = .returned (.tuple #[x, .bool true]) ∧ QXS w0 w' c most l := by
  obtain ⟨sv, h1, h2⟩ := h
  exact (takeYesS c most sv x l w _ h2.size h1 (by simp; omega) hx).mono fun e w' ⟨he, sv', h3, m, f⟩ => ⟨he, sv', h3, h2.trans (f.below' h2.size (fun y e => by rw [e]; exact h1.ge))⟩
theorem xqPeekS {w0 w : World} {c : Nat} {most : Int} {l : List Value} (h : QXS w0 w c most l) (i : Nat) (hi : i < l.length) :
    Calls Try.prog 14 #[.pointer (some ⟨c, 0, none⟩), .int .i64 i] w fun e w' => e = .returned (.tuple #[l[i], .bool true]) ∧ w' = w := by
  obtain ⟨sv, h1, h2⟩ := h
  exact peekQS i c most sv l w _ h1 hi
theorem xqPeekNoS {w0 w : World} {c : Nat} {most : Int} {l : List Value} (h : QXS w0 w c most l) (i : Int) (hi : (l.length : Int) ≤ i) :
    Calls Try.prog 14 #[.pointer (some ⟨c, 0, none⟩), .int .i64 i] w fun e w' => e = .returned (.tuple #[.string .empty, .bool false]) ∧ w' = w := by
  obtain ⟨sv, h1, h2⟩ := h
  exact peekNoS i c most sv l w _ h1 hi
theorem xqCutS {w0 w : World} {c : Nat} {most : Int} {l : List Value} (h : QXS w0 w c most l) (n : Int) (m : Nat) (hn : min (max n 0) (l.length : Int) = m) (hl : l.length ≤ 100000) :
    Calls Try.prog 26 #[.pointer (some ⟨c, 0, none⟩), .int .i64 n] w fun e w' => e = .returned (.int .i64 m) ∧ QXS w0 w' c most (l.drop m) := by
  have h' := h
  obtain ⟨sv, h1, h2⟩ := h
  by_cases h0 : m = 0
  · subst h0
    exact (cutNoS n c most sv l w _ h1 hn).mono fun e w' ⟨he, hw⟩ => ⟨he, by subst hw; simpa using h'⟩
  · exact (cutYesS n m c most sv l w _ h2.size h1 hn (by omega) hl).mono fun e w' ⟨he, sv', h3, _, f⟩ => ⟨he, sv', h3, h2.trans (f.below' h2.size (fun y e => by rw [e]; exact h1.ge))⟩
/-- Insert where it may not be. -/
theorem xqInsNoS {w0 w : World} {c : Nat} {most : Int} {l : List Value} (h : QXS w0 w c most l) (i : Int) (x : Value) (hf : most ≤ (l.length : Int)) :
    Calls Try.prog 12 #[.pointer (some ⟨c, 0, none⟩), .int .i64 i, x] w fun e w' => e = .returned (.bool false) ∧ QXS w0 w' c most l := by
  have h' := h
  obtain ⟨sv, h1, h2⟩ := h
  exact (insFullS c most sv l i x w _ h1 hf).mono fun e w' ⟨he, hb⟩ => ⟨he, h'.below hb⟩
end Go.Proofs.Ytjefmicmhcajoaa
