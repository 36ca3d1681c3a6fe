/-
  A line in a law: the line, and blocks that the law keeps beside it.
-/
import Derived.Test.YteihpaikdpdglaaGlL
namespace Go.Proofs.Yteihpaikdpdglaa
open Go.RowKit
set_option linter.unusedVariables false


structure GX (w0 w : World) (kb : List (Nat × Obj)) (t st : Nat) (life most : Int) (S : LS) : Prop where
  ex : ∃ F, LG w F t st life S.2 most S.1 ∧ (∀ b, F b → w0.heap.size ≤ b) ∧ Kept w F kb
  bel : Below w0.heap.size w0 w
section
variable {w0 w w' : World} {kb : List (Nat × Obj)} {t st : Nat} {life most : Int} {S : LS}
theorem GX.below (h : GX w0 w kb t st life most S) (hb : Below w.heap.size w w') : GX w0 w' kb t st life most S := by
  obtain ⟨F, h1, h2, h3⟩ := h.ex
  exact ⟨⟨F, h1.below hb, h2, h3.below hb⟩, h.bel.trans (hb.mono h.bel.size)⟩
theorem GX.step {S' : LS} {F F' : Nat → Prop} (hb : Below w0.heap.size w0 w) (h2 : ∀ b, F b → w0.heap.size ≤ b) (h3 : Kept w F kb) (h : LG w' F' t st life S'.2 most S'.1) (s : Stp F F' w w') : GX w0 w' kb t st life most S' :=
  ⟨⟨F', h, s.ge hb.size h2, h3.stp s⟩, hb.trans (s.below hb.size h2)⟩
theorem GX.keep (h : GX w0 w kb t st life most S) {b : Nat} {o : Obj} (hb : w.heap[b]? = some o) (hn : ∀ F, LG w F t st life S.2 most S.1 → (∀ b, F b → w0.heap.size ≤ b) → Kept w F kb → ¬ F b) : GX w0 w ((b, o) :: kb) t st life most S := by
  obtain ⟨F, h1, h2, h3⟩ := h.ex
  exact ⟨⟨F, h1, h2, h3.cons hb (hn F h1 h2 h3)⟩, h.bel⟩
/-- A block that was laid since. -/
theorem GX.keepNew {w1 : World} (h : GX w0 w kb t st life most S) (hb : Below w.heap.size w w1) {b : Nat} {o : Obj} (hn : w1.heap[b]? = some o) (hge : w.heap.size ≤ b) : GX w0 w1 ((b, o) :: kb) t st life most S := by
  obtain ⟨F, h1, h2, h3⟩ := h.ex
  exact ⟨⟨F, h1.below hb, h2, (h3.below hb).cons hn (fun e => by have := h1.lt b e; omega)⟩, h.bel.trans (hb.mono h.bel.size)⟩
/-- A block that lay ahead of all. -/
theorem GX.keepOld (h : GX w0 w kb t st life most S) {b : Nat} {o : Obj} (hb : w.heap[b]? = some o) (hlt : b < w0.heap.size) : GX w0 w ((b, o) :: kb) t st life most S := by
  obtain ⟨F, h1, h2, h3⟩ := h.ex
  exact ⟨⟨F, h1, h2, h3.cons hb (fun e => by have := h2 b e; omega)⟩, h.bel⟩
theorem GX.kept (h : GX w0 w kb t st life most S) {b : Nat} {o : Obj} (hm : (b, o) ∈ kb) : w.heap[b]? = some o := by
  obtain ⟨F, h1, h2, h3⟩ := h.ex
  exact (h3 _ hm).1
theorem GX.sub {kb' : List (Nat × Obj)} (h : GX w0 w kb t st life most S) (hs : ∀ q ∈ kb', q ∈ kb) : GX w0 w kb' t st life most S := by
  obtain ⟨F, h1, h2, h3⟩ := h.ex
  exact ⟨⟨F, h1, h2, h3.sub hs⟩, h.bel⟩
theorem GX.sts (h : GX w0 w kb t st life most S) : 1 ≤ st ∧ st ≤ 16 := by
  obtain ⟨F, h1, h2, h3⟩ := h.ex
  exact h1.sts
theorem GX.qlen (h : GX w0 w kb t st life most S) : S.1.length = st * st := by
  obtain ⟨F, h1, h2, h3⟩ := h.ex
  exact h1.qlen
theorem GX.okr (h : GX w0 w kb t st life most S) : (∀ l ∈ S.1, ∀ p ∈ l, OkFr life p) ∧ (1 ≤ life ∧ life ≤ 10000) ∧ (0 ≤ most ∧ most ≤ 10000) := by
  obtain ⟨F, h1, h2, h3⟩ := h.ex
  exact h1.ok
theorem GX.le (h : GX w0 w kb t st life most S) {i : Nat} (hi : i < S.1.length) : (S.1[i].length : Int) ≤ most ∧ S.1[i].length ≤ 10000 := by
  obtain ⟨F, h1, h2, h3⟩ := h.ex
  exact h1.le hi
theorem gnew (st : Nat) (row life : Int) (hst : 1 ≤ st ∧ st ≤ 16) (hrow : 1 ≤ row ∧ row ≤ 64) (hlife : 1 ≤ life ∧ life ≤ 10000) (hb : Below w0.heap.size w0 w) :
    Calls Try.prog 12 #[.int .i64 st, .int .i64 row, .int .i64 life] w fun e w' => ∃ t, e = .returned (.tuple #[.pointer (some ⟨t, 0, none⟩), .int .i64 0]) ∧ GX w0 w' [] t st life row (List.replicate (st * st) [], 0) ∧ w.heap.size ≤ t := by
  refine (newG st row life hst hrow hlife w).mono ?_
  rintro e w' ⟨t, F, h1, h2, h3, h4⟩
  refine ⟨t, h1, ⟨⟨F, h2, fun b hb' => Nat.le_trans hb.size (h4 b hb'), Kept.nil _ _⟩, hb.trans (h3.mono hb.size)⟩, ?_⟩
  obtain ⟨rv, ps, Fs, hL⟩ := h2
  exact h4 t hL.ft
theorem gsend (h : GX w0 w kb t st life most S) (v : Value) (b : List Int) (hv : RdB w v b) (hb : b.length ≤ 1000) (hby : ∀ x ∈ b, 0 ≤ x ∧ x ≤ 255) (hlo : 0 ≤ S.2 ∧ S.2 ≤ 1000000000) (a c : Int) :
    Calls Try.prog 13 #[.pointer (some ⟨t, 0, none⟩), .int .i64 a, .int .i64 c, v] w fun e w' => e = .returned (.bool (sendP st most a c b S).1) ∧ GX w0 w' kb t st life most (sendP st most a c b S).2 := by
  obtain ⟨F, h1, h2, h3⟩ := h.ex
  refine (sendG h1 v b hv hb hby hlo a c).mono ?_
  rintro e w' ⟨h4, F', h5, h6⟩
  exact ⟨h4, GX.step h.bel h2 h3 h5 h6⟩
theorem gpass (h : GX w0 w kb t st life most S) (a c : Int) :
    Calls Try.prog 15 #[.pointer (some ⟨t, 0, none⟩), .int .i64 a, .int .i64 c] w fun e w' => ∃ va vn vk, e = .returned (.tuple #[.slice va vn vk, .bool (passP st a c S).1.isSome]) ∧ RdB w' (.slice va vn vk) ((passP st a c S).1.getD []) ∧ GX w0 w' kb t st life most (passP st a c S).2 := by
  obtain ⟨F, h1, h2, h3⟩ := h.ex
  refine (passG h1 a c).mono ?_
  rintro e w' ⟨va, vn, vk, h4, h7, h8, F', h5, h6⟩
  have hl : (passP st a c S).2.2 = S.2 := by
    unfold passP
    cases rix st a c with
    | none => rfl
    | some k =>
      dsimp only
      cases rowAt S k with
      | nil => rfl
      | cons p l => rfl
  exact ⟨va, vn, vk, h4, h7, GX.step h.bel h2 h3 (by rw [hl]; exact h5) h6⟩
theorem gdrop (h : GX w0 w kb t st life most S) (hlo : 0 ≤ S.2 ∧ S.2 ≤ 1000000000) (a c : Int) :
    Calls Try.prog 24 #[.pointer (some ⟨t, 0, none⟩), .int .i64 a, .int .i64 c] w fun e w' => e = .returned (.bool (dropP st a c S).1) ∧ GX w0 w' kb t st life most (dropP st a c S).2 := by
  obtain ⟨F, h1, h2, h3⟩ := h.ex
  refine (dropG h1 hlo a c).mono ?_
  rintro e w' ⟨h4, F', h5, h6⟩
  exact ⟨h4, GX.step h.bel h2 h3 h5 h6⟩
theorem gtwice (h : GX w0 w kb t st life most S) (a c : Int) :
    Calls Try.prog 14 #[.pointer (some ⟨t, 0, none⟩), .int .i64 a, .int .i64 c] w fun e w' => e = .returned (.bool (twiceP st most a c S).1) ∧ GX w0 w' kb t st life most (twiceP st most a c S).2 := by
  obtain ⟨F, h1, h2, h3⟩ := h.ex
  refine (twiceG h1 a c).mono ?_
  rintro e w' ⟨h4, F', h5, h6⟩
  have hl : (twiceP st most a c S).2.2 = S.2 := by
    unfold twiceP
    cases rix st a c with
    | none => rfl
    | some k =>
      dsimp only
      cases rowAt S k with
      | nil => rfl
      | cons p l => dsimp only; split <;> rfl
  exact ⟨h4, GX.step h.bel h2 h3 (by first | exact h5 | (rw [hl]; exact h5)) h6⟩
theorem gspoil (h : GX w0 w kb t st life most S) (a c bit : Int) :
    Calls Try.prog 18 #[.pointer (some ⟨t, 0, none⟩), .int .i64 a, .int .i64 c, .int .i64 bit] w fun e w' => e = .returned (.bool (spoilP st a c bit S).1) ∧ GX w0 w' kb t st life most (spoilP st a c bit S).2 := by
  obtain ⟨F, h1, h2, h3⟩ := h.ex
  refine (spoilG h1 a c bit).mono ?_
  rintro e w' ⟨h4, F', h5, h6⟩
  have hl : (spoilP st a c bit S).2.2 = S.2 := by
    unfold spoilP
    cases rix st a c with
    | none => rfl
    | some k =>
      dsimp only
      cases rowAt S k with
      | nil => rfl
      | cons p l => dsimp only; split <;> rfl
  exact ⟨h4, GX.step h.bel h2 h3 (by first | exact h5 | (rw [hl]; exact h5)) h6⟩
theorem grow' (h : GX w0 w kb t st life most S) (a c : Int) :
    Calls Try.prog 19 #[.pointer (some ⟨t, 0, none⟩), .int .i64 a, .int .i64 c] w fun e w' => ∃ ov fo, e = .returned ov ∧ Own enF 39 2 w.heap.size w' ov fo ∧ All2 (FlB w') fo (rowP st a c S) ∧ GX w0 w' kb t st life most S := by
  obtain ⟨F, h1, h2, h3⟩ := h.ex
  refine (rowG h1 a c).mono ?_
  rintro e w' ⟨ov, fo, h4, h5, h6, h7, h8⟩
  exact ⟨ov, fo, h4, h5, h6, h.below h7⟩
theorem glost (h : GX w0 w kb t st life most S) :
    Calls Try.prog 17 #[.pointer (some ⟨t, 0, none⟩)] w fun e w' => e = .returned (.int .i64 S.2) ∧ w' = w := by
  obtain ⟨F, h1, h2, h3⟩ := h.ex
  exact lostG h1
theorem gage (h : GX w0 w kb t st life most S) (hlo : 0 ≤ S.2 ∧ S.2 ≤ 1000000000) :
    Calls Try.prog 22 #[.pointer (some ⟨t, 0, none⟩)] w fun e w' => e = .returned (.int .i64 (oldP life S).1) ∧ GX w0 w' kb t st life most (oldP life S).2 := by
  obtain ⟨F, h1, h2, h3⟩ := h.ex
  refine (ageG h1 hlo).mono ?_
  rintro e w' ⟨h4, F', h5, h6⟩
  exact ⟨h4, GX.step h.bel h2 h3 h5 h6⟩
theorem gcut (h : GX w0 w kb t st life most S) (hlo : 0 ≤ S.2 ∧ S.2 ≤ 1000000000) (s : Int) :
    Calls Try.prog 25 #[.pointer (some ⟨t, 0, none⟩), .int .i64 s] w fun e w' => e = .returned (.int .i64 (cutP st s S).1) ∧ GX w0 w' kb t st life most (cutP st s S).2 := by
  obtain ⟨F, h1, h2, h3⟩ := h.ex
  refine (lcutG h1 hlo s).mono ?_
  rintro e w' ⟨h4, F', h5, h6⟩
  exact ⟨h4, GX.step h.bel h2 h3 h5 h6⟩
theorem gput (h : GX w0 w kb t st life most S) (v : Value) (x : List Int) (hv : RdB w v x) (hvF : ∀ a n c, v = .slice (some a) n c → a.block < w0.heap.size ∨ ∃ o, (a.block, o) ∈ kb) (hcp : ∀ a n c, v = .slice a n c → n ≤ c ∧ c ≤ maxLen) (hb : x.length ≤ 1000) (hby : ∀ y ∈ x, 0 ≤ y ∧ y ≤ 255) (hlo : 0 ≤ S.2 ∧ S.2 ≤ 900000000) (s : Int) :
    Calls Try.prog 20 #[.pointer (some ⟨t, 0, none⟩), .int .i64 s, v] w fun e w' => e = .returned (.int .i64 (putP st most s x S).1) ∧ GX w0 w' kb t st life most (putP st most s x S).2 := by
  obtain ⟨F, h1, h2, h3⟩ := h.ex
  refine (lputG h1 v x hv (fun a n c e hF => ?_) hcp hb hby hlo s).mono ?_
  · rcases hvF a n c e with h | ⟨o, h⟩
    · have := h2 _ hF; omega
    · exact (h3 _ h).2 hF
  rintro e w' ⟨h4, F', h5, h6⟩
  exact ⟨h4, GX.step h.bel h2 h3 h5 h6⟩
end
end Go.Proofs.Yteihpaikdpdglaa
