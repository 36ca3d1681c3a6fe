/-
  A table by key in a law's walk: one contract a function, blocks that the law keeps beside it.
-/
import Derived.Test.YtjjfminpaoooaaaTieES
import Derived.Test.YtjjfminpaoooaaaKep
namespace Go.Proofs.Ytjjfminpaoooaaa
open Go.RowKit
set_option linter.unusedVariables false

/-- What Put says, and what is there then. -/
def putES (l : List ItS) (most : Int) (k : Ky) : Int := if fnd l k = true then 0 else if most ≤ (l.length : Int) then 6 else 0
def putLS (l : List ItS) (most : Int) (k : Ky) (x : ByteArray) : List ItS := if fnd l k = true then l.set (pos l k) (k, x) else if most ≤ (l.length : Int) then l else l.take (pos l k) ++ (k, x) :: l.drop (pos l k)
def getVS (l : List ItS) (k : Ky) : Value := if fnd l k = true then (match l[pos l k]? with | some e => Value.string e.2 | none => .string .empty) else .string .empty
def delLS (l : List ItS) (k : Ky) : List ItS := if fnd l k = true then l.eraseIdx (pos l k) else l

structure TbXS (w0 w : World) (t : Nat) (most : Int) (l : List ItS) (kb : List (Nat × Obj)) : Prop where
  ex : ∃ F, TbAS w F t most l ∧ (∀ x, F x → w0.heap.size ≤ x) ∧ Below w0.heap.size w0 w ∧ Kept w F kb
section
variable {w0 w w' : World} {t : Nat} {most : Int} {l : List ItS} {kb : List (Nat × Obj)}
theorem TbXS.bel (h : TbXS w0 w t most l kb) : Below w0.heap.size w0 w := by obtain ⟨F, _, _, h, _⟩ := h.ex; exact h
theorem TbXS.kept (h : TbXS w0 w t most l kb) {b : Nat} {x : Obj} (hq : (b, x) ∈ kb) : w.heap[b]? = some x := by obtain ⟨F, _, _, _, k⟩ := h.ex; exact (k _ hq).1
theorem TbXS.below (h : TbXS w0 w t most l kb) (hb : Below w.heap.size w w') : TbXS w0 w' t most l kb := by
  obtain ⟨F, h1, h2, h3, h4⟩ := h.ex
  exact ⟨F, h1.below hb, h2, h3.trans (hb.mono h3.size), h4.below hb⟩
theorem TbXS.alloc (h : TbXS w0 w t most l kb) (x : Obj) : TbXS w0 (w.alloc x) t most l ((w.heap.size, x) :: kb) := by
  obtain ⟨F, h1, h2, h3, h4⟩ := h.ex
  have hb := (Below.refl w.heap.size w).alloc (Nat.le_refl _) x
  exact ⟨F, h1.below hb, h2, h3.trans (hb.mono h3.size), (h4.below hb).cons (heap_alloc_new' w x) (fun e => by have := h1.lt _ e; omega)⟩
theorem TbXS.sub {kb' : List (Nat × Obj)} (h : TbXS w0 w t most l kb) (hs : ∀ q ∈ kb', q ∈ kb) : TbXS w0 w t most l kb' := by
  obtain ⟨F, h1, h2, h3, h4⟩ := h.ex
  exact ⟨F, h1, h2, h3, h4.sub hs⟩
theorem TbXS.stp {F F' : Nat → Prop} {l' : List ItS} (h2 : ∀ x, F x → w0.heap.size ≤ x) (h3 : Below w0.heap.size w0 w) (h4 : Kept w F kb) (g : TbAS w' F' t most l') (s : Stp F F' w w') : TbXS w0 w' t most l' kb :=
  ⟨F', g, s.ge h3.size h2, h3.trans (s.below h3.size h2), h4.stp s⟩
theorem xnewS (most m : Int) (hm : max most 0 = m) (hx : m ≤ 100000) (h0 : Below w0.heap.size w0 w) (hk : ∀ q ∈ kb, w.heap[q.1]? = some q.2) : Calls Try.prog 12 #[.int .i64 most] w fun e w' => ∃ t, e = .returned (.pointer (some ⟨t, 0, none⟩)) ∧ TbXS w0 w' t m [] kb := by
  refine (tnewS most m hm hx w).mono ?_
  rintro e w' ⟨t, rfl, h1, h2, h3⟩
  exact ⟨t, rfl, _, h1, fun x e => by rw [e]; exact Nat.le_trans h0.size h2, h0.trans (h3.mono h0.size), fun q hq => ⟨(h3.block _ (lt_of_block (hk q hq))).trans (hk q hq), fun (e : q.1 = t) => by have := lt_of_block (hk q hq); omega⟩⟩
theorem xputS (h : TbXS w0 w t most l kb) (k : Ky) (hk : k.ok) (x : ByteArray) {E : Int} {l' : List ItS} (hE : putES l most k = E) (hl : putLS l most k x = l') : Calls Try.prog 13 #[.pointer (some ⟨t, 0, none⟩), kyV k, Value.string x] w fun e w' => e = .returned (.int .i64 E) ∧ TbXS w0 w' t most l' kb := by
  obtain ⟨F, h1, h2, h3, h4⟩ := h.ex
  subst hE hl
  unfold putES putLS
  by_cases hf : fnd l k = true
  · rw [if_pos hf, if_pos hf]
    refine (tputThereS h1 k hk x hf).mono ?_
    rintro e w' ⟨rfl, g, s⟩
    exact ⟨rfl, TbXS.stp h2 h3 h4 g s⟩
  · rw [if_neg hf, if_neg hf]
    have hf' : fnd l k = false := by simpa using hf
    by_cases hm : most ≤ (l.length : Int)
    · rw [if_pos hm, if_pos hm]
      refine (tputFullS h1 k hk x hf' hm).mono ?_
      rintro e w' ⟨rfl, b⟩
      exact ⟨rfl, TbXS.stp h2 h3 h4 (h1.below b) (Stp.of_below F b)⟩
    · rw [if_neg hm, if_neg hm]
      refine (tputNewS h1 k hk x hf' (by omega)).mono ?_
      rintro e w' ⟨rfl, F', g, s⟩
      exact ⟨rfl, TbXS.stp h2 h3 h4 g s⟩
theorem xgetS (h : TbXS w0 w t most l kb) (k : Ky) (hk : k.ok) {V : Value} {z : Bool} (hV : getVS l k = V) (hz : fnd l k = z) : Calls Try.prog 14 #[.pointer (some ⟨t, 0, none⟩), kyV k] w fun e w' => e = .returned (.tuple #[V, .bool z]) ∧ TbXS w0 w' t most l kb := by
  obtain ⟨F, h1, h2, h3, h4⟩ := h.ex
  subst hV hz
  unfold getVS
  by_cases hf : fnd l k = true
  · rw [if_pos hf, hf]
    obtain ⟨hp, _⟩ := pos_atS hf
    rw [List.getElem?_eq_getElem hp]
    refine (tgetYesS h1 k hk hf _ (List.getElem?_eq_getElem hp)).mono ?_
    rintro e w' ⟨rfl, b⟩
    exact ⟨rfl, TbXS.stp h2 h3 h4 (h1.below b) (Stp.of_below F b)⟩
  · have hf' : fnd l k = false := by simpa using hf
    rw [if_neg hf, hf']
    refine (tgetNoS h1 k hk hf').mono ?_
    rintro e w' ⟨rfl, b⟩
    exact ⟨rfl, TbXS.stp h2 h3 h4 (h1.below b) (Stp.of_below F b)⟩
theorem xdelS (h : TbXS w0 w t most l kb) (k : Ky) (hk : k.ok) {l' : List ItS} {z : Bool} (hl : delLS l k = l') (hz : fnd l k = z) : Calls Try.prog 15 #[.pointer (some ⟨t, 0, none⟩), kyV k] w fun e w' => e = .returned (.bool z) ∧ TbXS w0 w' t most l' kb := by
  obtain ⟨F, h1, h2, h3, h4⟩ := h.ex
  subst hl hz
  unfold delLS
  by_cases hf : fnd l k = true
  · rw [if_pos hf, hf]
    refine (tdelYesS h1 k hk hf).mono ?_
    rintro e w' ⟨rfl, g, s⟩
    exact ⟨rfl, TbXS.stp h2 h3 h4 g s⟩
  · have hf' : fnd l k = false := by simpa using hf
    rw [if_neg hf, hf']
    refine (tdelNoS h1 k hk hf').mono ?_
    rintro e w' ⟨rfl, b⟩
    exact ⟨rfl, TbXS.stp h2 h3 h4 (h1.below b) (Stp.of_below F b)⟩
theorem xlenS (h : TbXS w0 w t most l kb) : Calls Try.prog 16 #[.pointer (some ⟨t, 0, none⟩)] w fun e w' => e = .returned (.int .i64 l.length) ∧ w' = w := by
  obtain ⟨F, h1, h2, h3, h4⟩ := h.ex
  exact tlenS h1
end
end Go.Proofs.Ytjjfminpaoooaaa
