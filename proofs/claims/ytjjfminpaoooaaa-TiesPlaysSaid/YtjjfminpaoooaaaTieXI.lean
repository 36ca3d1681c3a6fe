/-
  A table by key in a law's walk: one contract a function, blocks that the law keeps beside it.
-/
import Derived.Test.YtjjfminpaoooaaaTieEI
import Derived.Test.YtjjfminpaoooaaaKep
namespace Go.Proofs.Ytjjfminpaoooaaa
open Go.RowKit
set_option linter.unusedVariables false

/-- What Put says, and what is there then. -/
def putEI (l : List ItI) (most : Int) (k : Ky) : Int := if fnd l k = true then 0 else if most ≤ (l.length : Int) then 6 else 0
def putLI (l : List ItI) (most : Int) (k : Ky) (x : Int) : List ItI := if fnd l k = true then l.set (pos l k) (k, x) else if most ≤ (l.length : Int) then l else l.take (pos l k) ++ (k, x) :: l.drop (pos l k)
def getVI (l : List ItI) (k : Ky) : Value := if fnd l k = true then (match l[pos l k]? with | some e => Value.int .i64 e.2 | none => .int .i64 0) else .int .i64 0
def delLI (l : List ItI) (k : Ky) : List ItI := if fnd l k = true then l.eraseIdx (pos l k) else l

structure TbXI (w0 w : World) (t : Nat) (most : Int) (l : List ItI) (kb : List (Nat × Obj)) : Prop where
  ex : ∃ F, TbAI w F t most l ∧ (∀ x, F x → w0.heap.size ≤ x) ∧ Below w0.heap.size w0 w ∧ Kept w F kb
section
variable {w0 w w' : World} {t : Nat} {most : Int} {l : List ItI} {kb : List (Nat × Obj)}
theorem TbXI.bel (h : TbXI w0 w t most l kb) : Below w0.heap.size w0 w := by obtain ⟨F, _, _, h, _⟩ := h.ex; exact h
theorem TbXI.kept (h : TbXI w0 w t most l kb) {b : Nat} {x : Obj} (hq : (b, x) ∈ kb) : w.heap[b]? = some x := by obtain ⟨F, _, _, _, k⟩ := h.ex; exact (k _ hq).1
theorem TbXI.below (h : TbXI w0 w t most l kb) (hb : Below w.heap.size w w') : TbXI w0 w' t most l kb := by
  obtain ⟨F, h1, h2, h3, h4⟩ := h.ex
  exact ⟨F, h1.below hb, h2, h3.trans (hb.mono h3.size), h4.below hb⟩
theorem TbXI.alloc (h : TbXI w0 w t most l kb) (x : Obj) : TbXI w0 (w.alloc x) t most l ((w.heap.size, x) :: kb) := by
  obtain ⟨F, h1, h2, h3, h4⟩ := h.ex
  have hb := (Below.refl w.heap.size w).alloc (Nat.le_refl _) x
  exact ⟨F, h1.below hb, h2, h3.trans (hb.mono h3.size), (h4.below hb).cons (heap_alloc_new' w x) (fun e => by have := h1.lt _ e; omega)⟩
theorem TbXI.sub {kb' : List (Nat × Obj)} (h : TbXI w0 w t most l kb) (hs : ∀ q ∈ kb', q ∈ kb) : TbXI w0 w t most l kb' := by
  obtain ⟨F, h1, h2, h3, h4⟩ := h.ex
  exact ⟨F, h1, h2, h3, h4.sub hs⟩
theorem TbXI.stp {F F' : Nat → Prop} {l' : List ItI} (h2 : ∀ x, F x → w0.heap.size ≤ x) (h3 : Below w0.heap.size w0 w) (h4 : Kept w F kb) (g : TbAI w' F' t most l') (s : Stp F F' w w') : TbXI w0 w' t most l' kb :=
  ⟨F', g, s.ge h3.size h2, h3.trans (s.below h3.size h2), h4.stp s⟩
theorem xnewI (most m : Int) (hm : max most 0 = m) (hx : m ≤ 100000) (h0 : Below w0.heap.size w0 w) (hk : ∀ q ∈ kb, w.heap[q.1]? = some q.2) : Calls Try.prog 17 #[.int .i64 most] w fun e w' => ∃ t, e = .returned (.pointer (some ⟨t, 0, none⟩)) ∧ TbXI w0 w' t m [] kb := by
  refine (tnewI most m hm hx w).mono ?_
  rintro e w' ⟨t, rfl, h1, h2, h3⟩
  exact ⟨t, rfl, _, h1, fun x e => by rw [e]; exact Nat.le_trans h0.size h2, h0.trans (h3.mono h0.size), fun q hq => ⟨(h3.block _ (lt_of_block (hk q hq))).trans (hk q hq), fun (e : q.1 = t) => by have := lt_of_block (hk q hq); omega⟩⟩
theorem xputI (h : TbXI w0 w t most l kb) (k : Ky) (hk : k.ok) (x : Int) {E : Int} {l' : List ItI} (hE : putEI l most k = E) (hl : putLI l most k x = l') : Calls Try.prog 18 #[.pointer (some ⟨t, 0, none⟩), kyV k, Value.int .i64 x] w fun e w' => e = .returned (.int .i64 E) ∧ TbXI w0 w' t most l' kb := by
  obtain ⟨F, h1, h2, h3, h4⟩ := h.ex
  subst hE hl
  unfold putEI putLI
  by_cases hf : fnd l k = true
  · rw [if_pos hf, if_pos hf]
    refine (tputThereI h1 k hk x hf).mono ?_
    rintro e w' ⟨rfl, g, s⟩
    exact ⟨rfl, TbXI.stp h2 h3 h4 g s⟩
  · rw [if_neg hf, if_neg hf]
    have hf' : fnd l k = false := by simpa using hf
    by_cases hm : most ≤ (l.length : Int)
    · rw [if_pos hm, if_pos hm]
      refine (tputFullI h1 k hk x hf' hm).mono ?_
      rintro e w' ⟨rfl, b⟩
      exact ⟨rfl, TbXI.stp h2 h3 h4 (h1.below b) (Stp.of_below F b)⟩
    · rw [if_neg hm, if_neg hm]
      refine (tputNewI h1 k hk x hf' (by omega)).mono ?_
      rintro e w' ⟨rfl, F', g, s⟩
      exact ⟨rfl, TbXI.stp h2 h3 h4 g s⟩
theorem xgetI (h : TbXI w0 w t most l kb) (k : Ky) (hk : k.ok) {V : Value} {z : Bool} (hV : getVI l k = V) (hz : fnd l k = z) : Calls Try.prog 19 #[.pointer (some ⟨t, 0, none⟩), kyV k] w fun e w' => e = .returned (.tuple #[V, .bool z]) ∧ TbXI w0 w' t most l kb := by
  obtain ⟨F, h1, h2, h3, h4⟩ := h.ex
  subst hV hz
  unfold getVI
  by_cases hf : fnd l k = true
  · rw [if_pos hf, hf]
    obtain ⟨hp, _⟩ := pos_atI hf
    rw [List.getElem?_eq_getElem hp]
    refine (tgetYesI h1 k hk hf _ (List.getElem?_eq_getElem hp)).mono ?_
    rintro e w' ⟨rfl, b⟩
    exact ⟨rfl, TbXI.stp h2 h3 h4 (h1.below b) (Stp.of_below F b)⟩
  · have hf' : fnd l k = false := by simpa using hf
    rw [if_neg hf, hf']
    refine (tgetNoI h1 k hk hf').mono ?_
    rintro e w' ⟨rfl, b⟩
    exact ⟨rfl, TbXI.stp h2 h3 h4 (h1.below b) (Stp.of_below F b)⟩
theorem xdelI (h : TbXI w0 w t most l kb) (k : Ky) (hk : k.ok) {l' : List ItI} {z : Bool} (hl : delLI l k = l') (hz : fnd l k = z) : Calls Try.prog 20 #[.pointer (some ⟨t, 0, none⟩), kyV k] w fun e w' => e = .returned (.bool z) ∧ TbXI w0 w' t most l' kb := by
  obtain ⟨F, h1, h2, h3, h4⟩ := h.ex
  subst hl hz
  unfold delLI
  by_cases hf : fnd l k = true
  · rw [if_pos hf, hf]
    refine (tdelYesI h1 k hk hf).mono ?_
    rintro e w' ⟨rfl, g, s⟩
    exact ⟨rfl, TbXI.stp h2 h3 h4 g s⟩
  · have hf' : fnd l k = false := by simpa using hf
    rw [if_neg hf, hf']
    refine (tdelNoI h1 k hk hf').mono ?_
    rintro e w' ⟨rfl, b⟩
    exact ⟨rfl, TbXI.stp h2 h3 h4 (h1.below b) (Stp.of_below F b)⟩
theorem xlenI (h : TbXI w0 w t most l kb) : Calls Try.prog 21 #[.pointer (some ⟨t, 0, none⟩)] w fun e w' => e = .returned (.int .i64 l.length) ∧ w' = w := by
  obtain ⟨F, h1, h2, h3, h4⟩ := h.ex
  exact tlenI h1
end
end Go.Proofs.Ytjjfminpaoooaaa
