/-
  Package queue: a row in a law, behind w0.
-/
import Derived.Test.YtjefmicmhcajoaaQue4I
namespace Go.Proofs.Ytjefmicmhcajoaa
open Go.RowKit
set_option linter.unusedVariables false

/-- A row that a law has made behind w0. -/
def QXI (w0 w : World) (c : Nat) (most : Int) (l : List Value) : Prop := ∃ sv, IsQI w w0.heap.size c most sv l ∧ Below w0.heap.size w0 w

theorem IsQI.ftp_ge {w : World} {B c : Nat} {most : Int} {sv : Value} {l : List Value} (h : IsQI w B c most sv l) : ∀ x, ftp c sv x → B ≤ x := fun x e => by
  rcases e with rfl | e
  · exact h.ge
  · exact (h.own.lt x e).1
theorem QXI.bel {w0 w : World} {c : Nat} {most : Int} {l : List Value} (h : QXI w0 w c most l) : Below w0.heap.size w0 w := by obtain ⟨_, _, h⟩ := h; exact h
theorem QXI.below {w0 w w' : World} {c : Nat} {most : Int} {l : List Value} (h : QXI w0 w c most l) (hb : Below w.heap.size w w') : QXI w0 w' c most l := by
  obtain ⟨sv, h1, h2⟩ := h
  exact ⟨sv, h1.below hb, h2.trans (hb.mono h2.size)⟩
theorem QXI.le {w0 w : World} {c : Nat} {most : Int} {l : List Value} (h : QXI w0 w c most l) : (l.length : Int) ≤ most := by obtain ⟨sv, h1, _⟩ := h; exact h1.le

theorem xqNewI {w0 w : World} (h0 : Below w0.heap.size w0 w) (most : Int) (hm : most ≤ 9223372036854775807) :
    Calls Try.prog 15 #[.int .i64 most] w fun e w' => ∃ c, e = .returned (.pointer (some ⟨c, 0, none⟩)) ∧ QXI w0 w' c (max most 0) [] ∧ Below w.heap.size w w' :=
  (newQI most hm w).mono fun e w' ⟨he, h1, h2⟩ => ⟨_, he, ⟨_, ⟨h1.blk, Nat.le_trans h0.size h1.ge, own_base (own_zero h1.own) (fun g hg => by simp [Value.ownBlock] at hg), h1.m0, h1.m1, h1.one, h1.le⟩, h0.trans (h2.mono h0.size)⟩, h2⟩
theorem xqLenI {w0 w : World} {c : Nat} {most : Int} {l : List Value} (h : QXI w0 w c most l) : Calls Try.prog 32 #[.pointer (some ⟨c, 0, none⟩)] w fun e w' => e = .returned (.int .i64 l.length) ∧ w' = w := by
  obtain ⟨sv, h1, _⟩ := h
  exact lenQI c most sv l w _ h1
theorem xqMostI {w0 w : World} {c : Nat} {most : Int} {l : List Value} (h : QXI w0 w c most l) : Calls Try.prog 18 #[.pointer (some ⟨c, 0, none⟩)] w fun e w' => e = .returned (.int .i64 most) ∧ w' = w := by
  obtain ⟨sv, h1, _⟩ := h
  exact mostQI c most sv l w _ h1
theorem xqPutI {w0 w : World} {c : Nat} {most : Int} {l : List Value} (h : QXI w0 w c most l) (x : Value) (hx : ∃ z, x = .int .i64 z) (hl : l.length ≤ 100000) :
    Calls Try.prog 17 #[.pointer (some ⟨c, 0, none⟩), x] w fun e w' => e = .returned (.bool (decide ((l.length : Int) < most))) ∧ QXI w0 w' c most (putL most l x) := by
  obtain ⟨sv, h1, h2⟩ := h
  exact (putQI c most sv l x w _ h2.size h1 hl hx).mono fun e w' ⟨he, sv', h3, m, f⟩ => ⟨he, sv', h3, h2.trans (f.below' h2.size h1.ftp_ge)⟩
theorem xqPutYesI {w0 w : World} {c : Nat} {most : Int} {l : List Value} (h : QXI w0 w c most l) (x : Value) (hx : ∃ z, x = .int .i64 z) (hl : l.length ≤ 100000) (hf : (l.length : Int) < most) :
    Calls Try.prog 17 #[.pointer (some ⟨c, 0, none⟩), x] w fun e w' => e = .returned (.bool true) ∧ QXI w0 w' c most (l ++ [x]) :=
  (xqPutI h x hx hl).mono fun e w' ⟨he, h⟩ => ⟨by rw [he, decide_eq_true hf], by rw [show putL most l x = l ++ [x] from if_pos hf] at h; exact h⟩
theorem xqPutNoI {w0 w : World} {c : Nat} {most : Int} {l : List Value} (h : QXI w0 w c most l) (x : Value) (hx : ∃ z, x = .int .i64 z) (hl : l.length ≤ 100000) (hf : most ≤ (l.length : Int)) :
    Calls Try.prog 17 #[.pointer (some ⟨c, 0, none⟩), x] w fun e w' => e = .returned (.bool false) ∧ QXI w0 w' c most l :=
  (xqPutI h x hx hl).mono fun e w' ⟨he, h⟩ => ⟨by rw [he, decide_eq_false (by omega)], by rw [show putL most l x = l from if_neg (by omega)] at h; exact h⟩
theorem xqTakeNoI {w0 w : World} {c : Nat} {most : Int} (h : QXI w0 w c most []) :
    Calls Try.prog 25 #[.pointer (some ⟨c, 0, none⟩)] w fun e w' => e = .returned (.tuple #[.int .i64 0, .bool false]) ∧ w' = w := by
  obtain ⟨sv, h1, h2⟩ := h
  exact takeNoI c most sv w _ h1
theorem xqTakeYesI {w0 w : World} {c : Nat} {most : Int} {x : Value} {l : List Value} (h : QXI w0 w c most (x :: l)) (hx : ∃ z, x = .int .i64 z) (hl : l.length ≤ 99999) :
    Calls Try.prog 25 #[.pointer (some ⟨c, 0, none⟩)] w fun e w' => e = .returned (.tuple #[x, .bool true]) ∧ QXI w0 w' c most l := by
  obtain ⟨sv, h1, h2⟩ := h
  exact (takeYesI c most sv x l w _ h2.size h1 (by simp; omega) hx).mono fun e w' ⟨he, sv', h3, m, f⟩ => ⟨he, sv', h3, h2.trans (f.below' h2.size (fun y e => by rw [e]; exact h1.ge))⟩
theorem xqPeekI {w0 w : World} {c : Nat} {most : Int} {l : List Value} (h : QXI w0 w c most l) (i : Nat) (hi : i < l.length) :
    Calls Try.prog 41 #[.pointer (some ⟨c, 0, none⟩), .int .i64 i] w fun e w' => e = .returned (.tuple #[l[i], .bool true]) ∧ w' = w := by
  obtain ⟨sv, h1, h2⟩ := h
  exact peekQI i c most sv l w _ h1 hi
theorem xqPeekNoI {w0 w : World} {c : Nat} {most : Int} {l : List Value} (h : QXI w0 w c most l) (i : Int) (hi : (l.length : Int) ≤ i) :
    Calls Try.prog 41 #[.pointer (some ⟨c, 0, none⟩), .int .i64 i] w fun e w' => e = .returned (.tuple #[.int .i64 0, .bool false]) ∧ w' = w := by
  obtain ⟨sv, h1, h2⟩ := h
  exact peekNoI i c most sv l w _ h1 hi
theorem xqCutI {w0 w : World} {c : Nat} {most : Int} {l : List Value} (h : QXI w0 w c most l) (n : Int) (m : Nat) (hn : min (max n 0) (l.length : Int) = m) (hl : l.length ≤ 100000) :
    Calls Try.prog 29 #[.pointer (some ⟨c, 0, none⟩), .int .i64 n] w fun e w' => e = .returned (.int .i64 m) ∧ QXI w0 w' c most (l.drop m) := by
  have h' := h
  obtain ⟨sv, h1, h2⟩ := h
  by_cases h0 : m = 0
  · subst h0
    exact (cutNoI n c most sv l w _ h1 hn).mono fun e w' ⟨he, hw⟩ => ⟨he, by subst hw; simpa using h'⟩
  · exact (cutYesI n m c most sv l w _ h2.size h1 hn (by omega) hl).mono fun e w' ⟨he, sv', h3, _, f⟩ => ⟨he, sv', h3, h2.trans (f.below' h2.size (fun y e => by rw [e]; exact h1.ge))⟩
/-- Insert where it may not be. -/
theorem xqInsNoI {w0 w : World} {c : Nat} {most : Int} {l : List Value} (h : QXI w0 w c most l) (i : Int) (x : Value) (hf : most ≤ (l.length : Int)) :
    Calls Try.prog 28 #[.pointer (some ⟨c, 0, none⟩), .int .i64 i, x] w fun e w' => e = .returned (.bool false) ∧ QXI w0 w' c most l := by
  have h' := h
  obtain ⟨sv, h1, h2⟩ := h
  exact (insFullI c most sv l i x w _ h1 hf).mono fun e w' ⟨he, hb⟩ => ⟨he, h'.below hb⟩
end Go.Proofs.Ytjefmicmhcajoaa
