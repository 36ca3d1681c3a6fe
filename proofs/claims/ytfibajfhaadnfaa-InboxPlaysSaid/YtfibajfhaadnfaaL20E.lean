/-
  Layer 20: the inbox as an object: its rows of bytes, and what it holds of the heap.
-/
import Derived.Test.YtfibajfhaadnfaaL20B
import Derived.Test.YtfibajfhaadnfaaInb4
import Derived.Test.YtfibajfhaadnfaaItb
namespace Go.Proofs.Ytfibajfhaadnfaa
open Go.RowKit
set_option linter.unusedVariables false


theorem IsIn.zero {w : World} {B i c : Nat} {n : Int} {full : Bool} {sv : Value} {l : List Value} (h : IsIn w B i c n full sv l) : IsIn w 0 i c n full sv l :=
  ⟨h.blk, Nat.zero_le _, ⟨h.q.blk, Nat.zero_le _, own_zero h.q.own, h.q.m0, h.q.m1, h.q.one, h.q.le⟩⟩
/-- What an inbox holds of the heap. -/
def ftI (i c : Nat) (sv : Value) (l : List Value) : Nat → Prop := fun b => ftpI i c sv b ∨ ∃ v ∈ l, v.ownBlock = some b
/-- The inbox at i: the rows of bytes bs. -/
def InA (w : World) (F : Nat → Prop) (i : Nat) (n : Int) (full : Bool) (bs : List (List Int)) : Prop :=
  ∃ c sv l, IsIn w 0 i c n full sv l ∧ ItemsB w l bs ∧ ∀ b, F b ↔ ftI i c sv l b

theorem InA.lt {w : World} {F : Nat → Prop} {i : Nat} {n : Int} {full : Bool} {bs : List (List Int)} (h : InA w F i n full bs) : ∀ b, F b → b < w.heap.size := fun b e => by
  obtain ⟨c, sv, l, h1, h2, h3⟩ := h
  rcases (h3 b).1 e with (rfl | rfl | e) | ⟨v, hv, e⟩
  · exact lt_of_block h1.blk
  · exact lt_of_block h1.q.blk
  · exact own_lt h1.q.own e
  · exact h2.lt hv e
theorem InA.keep {w w' : World} {F : Nat → Prop} {i : Nat} {n : Int} {full : Bool} {bs : List (List Int)} (h : InA w F i n full bs) (hk : ∀ b, F b → w'.heap[b]? = w.heap[b]?) : InA w' F i n full bs := by
  obtain ⟨c, sv, l, h1, h2, h3⟩ := h
  refine ⟨c, sv, l, ⟨(hk i ((h3 i).2 (.inl (.inl rfl)))).trans h1.blk, h1.ge, ⟨(hk c ((h3 c).2 (.inl (.inr (.inl rfl))))).trans h1.q.blk, h1.q.ge, ?_, h1.q.m0, h1.q.m1, h1.q.one, h1.q.le⟩⟩, ?_, h3⟩
  · exact Own.keep h1.q.own (fun g hg => hk g ((h3 g).2 (.inl (.inr (.inr hg)))))
  · exact h2.keep (fun v hv g hg => hk g ((h3 g).2 (.inr ⟨v, hv, hg⟩)))
theorem InA.below {w w' : World} {F : Nat → Prop} {i : Nat} {n : Int} {full : Bool} {bs : List (List Int)} (h : InA w F i n full bs) (hb : Below w.heap.size w w') : InA w' F i n full bs := h.keep (below_keep hb h.lt)
theorem InA.c1 {w : World} {F : Nat → Prop} {i : Nat} {n : Int} {full : Bool} {bs : List (List Int)} (h : InA w F i n full bs) : w.cell? ⟨i, 1, none⟩ = some (.bool full) := by
  obtain ⟨c, sv, l, h1, h2, h3⟩ := h
  exact h1.c1

theorem inNew (n : Int) (hn : 1 ≤ n ∧ n ≤ 16) (w : World) : Calls Try.prog 9 #[.int .i64 n] w fun e w' => ∃ i F, e = .returned (.tuple #[.pointer (some ⟨i, 0, none⟩), .int .i64 0]) ∧ InA w' F i n false [] ∧ Below w.heap.size w w' ∧ ∀ b, F b → w.heap.size ≤ b :=
  (inewYes n hn w).mono fun e w' ⟨i, he, h1, h2⟩ => ⟨i, _, he, ⟨_, _, _, h1.zero, ItemsB.nil w', fun b => Iff.rfl⟩, h2, fun b e => by
    rcases e with (rfl | rfl | e) | ⟨v, hv, _⟩
    · exact h1.ge
    · exact Nat.le_refl _
    · simp [Value.ownBlock] at e
    · simp at hv⟩
theorem inLen {i : Nat} {n : Int} {full : Bool} {bs : List (List Int)} {w : World} {F : Nat → Prop} (h : InA w F i n full bs) : Calls Try.prog 14 #[.pointer (some ⟨i, 0, none⟩)] w fun e w' => e = .returned (.int .i64 bs.length) ∧ w' = w := by
  obtain ⟨c, sv, l, h1, h2, h3⟩ := h
  rw [← h2.1]
  exact ilen i c n full sv l w 0 h1
theorem inPutYes {i : Nat} {n : Int} {full : Bool} {bs : List (List Int)} {w : World} {F : Nat → Prop} (h : InA w F i n full bs) {bv : Value} {b : List Int} (hbv : RdB w bv b) (hbl : b.length ≤ 1000000) (hl : bs.length ≤ 1000) (hf : (bs.length : Int) < n) :
    Calls Try.prog 10 #[.pointer (some ⟨i, 0, none⟩), bv] w fun e w' => e = .returned (.tuple #[.bool true, .bool (((bs.length + 1 : Nat) : Int) == n)]) ∧
      ∃ F', InA w' F' i n (full || (((bs.length + 1 : Nat) : Int) == n)) (bs ++ [b]) ∧ Stp F F' w w' := by
  obtain ⟨c, sv, l, h1, h2, h3⟩ := h
  rw [← h2.1] at hl hf ⊢
  refine (iputYes i c n full sv l bv b w 0 (Nat.zero_le _) h1 hbv hbl hl hf).mono ?_
  rintro e w' ⟨he, sv', v', h4, o, m, f⟩
  refine ⟨he, _, ⟨c, sv', l ++ [v'], h4, ItemsB.snoc (h2.keep (fun v hv g hg => ?_)) (own_zero o), fun _ => Iff.rfl⟩, f.mono (fun b _ e => (h3 b).2 (.inl e)), fun b e => ?_⟩
  · refine f.blk g (h2.lt hv hg) (fun e => ?_)
    obtain ⟨x, ox⟩ := h2.type hv hg
    rcases e with rfl | rfl | e
    · exact own_ne ox h1.blk (by decide) hg
    · exact own_ne ox h1.q.blk (by decide) hg
    · exact own_sep ox h1.q.own (by decide) hg e
  · rcases e with (rfl | rfl | e) | ⟨v, hv, e⟩
    · exact .inl ((h3 _).2 (.inl (.inl rfl)))
    · exact .inl ((h3 _).2 (.inl (.inr (.inl rfl))))
    · exact (m b e).imp (fun q => (h3 _).2 (.inl (.inr (.inr q)))) id
    · rcases List.mem_append.1 hv with hv | hv
      · exact .inl ((h3 _).2 (.inr ⟨v, hv, e⟩))
      · rw [List.mem_singleton.1 hv] at e
        exact .inr (o.lt b e).1
theorem inPutNo {i : Nat} {n : Int} {full : Bool} {bs : List (List Int)} {w : World} {F : Nat → Prop} (h : InA w F i n full bs) {bv : Value} {b : List Int} (hbv : RdB w bv b) (hbl : b.length ≤ 1000000) (hl : bs.length ≤ 1000) (hf : n ≤ (bs.length : Int)) :
    Calls Try.prog 10 #[.pointer (some ⟨i, 0, none⟩), bv] w fun e w' => e = .returned (.tuple #[.bool false, .bool false]) ∧ ∃ F', InA w' F' i n full bs ∧ Stp F F' w w' := by
  obtain ⟨c, sv, l, h1, h2, h3⟩ := h
  rw [← h2.1] at hl hf
  refine (iputNo i c n full sv l bv b w 0 (Nat.zero_le _) h1 hbv hbl hl hf).mono ?_
  rintro e w' ⟨he, sv', h4, m, f⟩
  refine ⟨he, _, ⟨c, sv', l, h4, h2.keep (fun v hv g hg => ?_), fun _ => Iff.rfl⟩, f.mono (fun b _ e => (h3 b).2 (.inl e)), fun b e => ?_⟩
  · refine f.blk g (h2.lt hv hg) (fun e => ?_)
    obtain ⟨x, ox⟩ := h2.type hv hg
    rcases e with rfl | rfl | e
    · exact own_ne ox h1.blk (by decide) hg
    · exact own_ne ox h1.q.blk (by decide) hg
    · exact own_sep ox h1.q.own (by decide) hg e
  · rcases e with (rfl | rfl | e) | ⟨v, hv, e⟩
    · exact .inl ((h3 _).2 (.inl (.inl rfl)))
    · exact .inl ((h3 _).2 (.inl (.inr (.inl rfl))))
    · exact (m b e).imp (fun q => (h3 _).2 (.inl (.inr (.inr q)))) id
    · exact .inl ((h3 _).2 (.inr ⟨v, hv, e⟩))
theorem inTakeNo {i : Nat} {n : Int} {full : Bool} {w : World} {F : Nat → Prop} (h : InA w F i n full []) :
    Calls Try.prog 11 #[.pointer (some ⟨i, 0, none⟩)] w fun e w' => e = .returned (.tuple #[.slice none 0 0, .bool false, .bool false]) ∧ InA w' F i n full [] ∧ Below w.heap.size w w' := by
  have h' := h
  obtain ⟨c, sv, l, h1, h2, h3⟩ := h
  obtain rfl : l = [] := List.eq_nil_of_length_eq_zero (by simpa using h2.1)
  refine (itakeNo i c n full sv w 0 h1).mono ?_
  rintro e w' ⟨he, hb⟩
  exact ⟨he, h'.below hb, hb⟩
theorem inTakeYes {i : Nat} {n : Int} {full : Bool} {b : List Int} {bs : List (List Int)} {w : World} {F : Nat → Prop} (h : InA w F i n full (b :: bs)) (hm : 0 ≤ n ∧ n ≤ 1000) (hl : bs.length ≤ 1000) :
    Calls Try.prog 11 #[.pointer (some ⟨i, 0, none⟩)] w fun e w' => ∃ a k, e = .returned (.tuple #[.slice a b.length k, .bool true, .bool (freeB full bs.length n)]) ∧ RdB w' (.slice a b.length k) b ∧ (∀ g, (Value.slice a b.length k).ownBlock = some g → F g) ∧
      ∃ F', InA w' F' i n (full && !freeB full bs.length n) bs ∧ Stp F F' w w' := by
  obtain ⟨c, sv, l, h1, h2, h3⟩ := h
  obtain ⟨v, r, rfl, o, h4⟩ := h2.cons'
  rw [← h4.1] at hl ⊢
  obtain ⟨a, k, rfl, _⟩ := own_shape o
  refine (itakeYes i c n full sv a b.length k r w 0 (Nat.zero_le _) h1 hm hl).mono ?_
  rintro e w' ⟨he, sv', h5, m, f⟩
  have keep : ∀ v ∈ Value.slice a b.length k :: r, ∀ g, v.ownBlock = some g → w'.heap[g]? = w.heap[g]? := fun v hv g hg => by
    refine f.blk g (h2.lt hv hg) (fun e => ?_)
    obtain ⟨x, ox⟩ := h2.type hv hg
    rcases e with rfl | rfl | e
    · exact own_ne ox h1.blk (by decide) hg
    · exact own_ne ox h1.q.blk (by decide) hg
    · exact own_sep ox h1.q.own (by decide) hg e
  refine ⟨a, k, he, (Own.keep o (keep _ (List.mem_cons_self ..))).rd, fun g hg => (h3 g).2 (.inr ⟨_, List.mem_cons_self .., hg⟩), _, ⟨c, sv', r, h5, h4.keep (fun v hv => keep v (List.mem_cons_of_mem _ hv)), fun _ => Iff.rfl⟩, f.mono (fun b _ e => (h3 b).2 (.inl e)), fun b e => ?_⟩
  rcases e with (rfl | rfl | e) | ⟨v, hv, e⟩
  · exact .inl ((h3 _).2 (.inl (.inl rfl)))
  · exact .inl ((h3 _).2 (.inl (.inr (.inl rfl))))
  · exact (m b e).imp (fun q => (h3 _).2 (.inl (.inr (.inr q)))) id
  · exact .inl ((h3 _).2 (.inr ⟨v, List.mem_cons_of_mem _ hv, e⟩))
theorem inClear {i : Nat} {n : Int} {full : Bool} {bs : List (List Int)} {w : World} {F : Nat → Prop} (h : InA w F i n full bs) (hl : bs.length ≤ 100000) :
    Calls Try.prog 18 #[.pointer (some ⟨i, 0, none⟩)] w fun e w' => e = .returned (.int .i64 bs.length) ∧ ∃ F', InA w' F' i n false [] ∧ Stp F F' w w' := by
  obtain ⟨c, sv, l, h1, h2, h3⟩ := h
  rw [← h2.1] at hl ⊢
  refine (iclear i c n full sv l w 0 (Nat.zero_le _) h1 hl).mono ?_
  rintro e w' ⟨he, sv', h4, m, f⟩
  refine ⟨he, _, ⟨c, sv', [], h4, ItemsB.nil w', fun _ => Iff.rfl⟩, f.mono (fun b _ e => (h3 b).2 (.inl e)), fun b e => ?_⟩
  rcases e with (rfl | rfl | e) | ⟨v, hv, e⟩
  · exact .inl ((h3 _).2 (.inl (.inl rfl)))
  · exact .inl ((h3 _).2 (.inl (.inr (.inl rfl))))
  · exact (m b e).imp (fun q => (h3 _).2 (.inl (.inr (.inr q)))) id
  · simp at hv
end Go.Proofs.Ytfibajfhaadnfaa
