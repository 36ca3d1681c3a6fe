/-
  The step from a walk to a row, for every law: it hands back true, nothing that was there has turned.
-/
import Derived.Test.YteihpaikdpdglaaLib
import Derived.Test.YteihpaikdpdglaaRows
import Derived.ProofKit
import Derived.OpenShut
import Derived.Carry
import Derived.Deep.Slices
namespace Go.Proofs.Yteihpaikdpdglaa
open Go.ChangeShapes Go.WideShapes Go.ChangeAt Go.RowKit Go.Deep
set_option linter.unusedVariables false

theorem ownKnobLaw : ownKnob Try.prog.godebug = none := by kernel_rfl
theorem laidOutLaw : laidOutB Try.prog = true := by kernel_rfl

section
variable {H : Type} {enc : TypeId × Value → H}

/-- All arguments read behind the call as they did. -/
theorem args_stay {W W' : World} (hb : Below W.heap.size W W') {sp : Nat → Bool} : ∀ (ts : List TypeId) (vs : List Value) (ds : List (DataW H)) (ps : List MemPlace),
    (∀ t ∈ ts, Try.prog.readableRec t = true ∧ t < Try.prog.types.size) → (∀ p ∈ ps, p.block < W.heap.size ∧ sp p.block = true) →
    DataW.TrodAll enc Try.prog W 0 (fun _ => true) true ts vs ds ps → DataW.TrodAll enc Try.prog W' 0 sp true ts vs ds ps
  | [], vs, ds, ps, _, _, h => by
    obtain ⟨rfl, rfl, rfl⟩ := trodAll_nil h
    rfl
  | t :: ts, vs, ds, ps, hts, hps, h => by
    obtain ⟨v, vs', d, ds', p, q, rfl, rfl, rfl, h1, h2⟩ := trodAll_cons h
    exact trodAll_cons_mk (WideElems.Trod_stays laidOutLaw (hts t (by simp)).1 (hts t (by simp)).2 h1 (fun x hx => hb.same (hps x (by simp [hx])).1) (fun x hx => (hps x (by simp [hx])).2))
      (args_stay hb ts vs' ds' q (fun t ht => hts t (by simp [ht])) (fun x hx => hps x (by simp [hx])) h2)

/-- The law's post, out of 'nothing below has turned'. -/
theorem law_post {f : Func} {s : ChangeSpec} {W W' : World} {args : Array Value} {ds : List (DataW H)} {before : List MemPlace} (tb : TypeId)
    (hW : DataW.Whole enc Try.prog f.params.toList s.vars false W args.toList ds [] before) (hv : s.vars = [])
    (hfn : s.fn H (ds ++ []) = { results := [.lit (.bool true)], args := ds }) (hr : f.resultTypes = #[tb]) (hu : Try.prog.underlying tb = some .bool)
    (hts : ∀ t ∈ f.params.toList, Try.prog.readableRec t = true ∧ t < Try.prog.types.size) (hb : Below W.heap.size W W') :
    s.post enc Try.prog f false true false false W args (.bool true) W' := by
  have hlt : ∀ p ∈ before, p.block < W.heap.size := fun p hp => hW.lt p hp
  have hW' := hW
  obtain ⟨p, q, hA, hV, rfl, _, _⟩ := hW
  rw [hv] at hV
  obtain ⟨_, rfl⟩ := trodVars_none hV
  refine ⟨ds, [], p ++ [], [], p, [], hW', ?_, ?_, ?_, ?_, fun h => by cases h⟩
  · rw [hfn, hr]
    exact trodAll_cons_mk (shut_bool hu _) trodAll_mk0
  · rw [hfn]
    exact args_stay hb _ _ _ _ hts (fun x hx => ⟨hlt x (by simpa using hx), by simpa using hlt x (by simpa using hx)⟩) hA
  · rw [hfn, hv]
    rfl
  · exact hb.frame _
end

/-! ### What an argument reads as -/

/-- Cells that read as a datum of type t. -/
def Reads (w : World) (t : TypeId) (cs : List Value) : Prop := ∃ (H : Type) (enc : TypeId × Value → H) (fuel : Nat) (x : DataW H × List MemPlace), DataW.trod enc Try.prog w 0 (fun _ => true) true fuel t cs = some x

theorem Reads.of {H : Type} {enc : TypeId × Value → H} {w : World} {t : TypeId} {v : Value} {d : DataW H} {p : List MemPlace} (h : DataW.Trod enc Try.prog w 0 (fun _ => true) true t v d p) : Reads w t v.cells.toList := by
  obtain ⟨n, hn⟩ := h
  exact ⟨H, enc, n, _, hn⟩
theorem Reads.int {w : World} {t : TypeId} {k : IntKind} {cs : List Value} (ht : Try.prog.underlying t = some (.int k)) (h : Reads w t cs) : ∃ n, cs = [.int k n] ∧ (Lit.int k n).wf = true := by
  obtain ⟨H, enc, n, x, hx⟩ := h
  obtain ⟨m, h1, _, h2⟩ := DataW.trod_int ht hx
  exact ⟨m, h1, h2⟩
theorem Reads.bool {w : World} {t : TypeId} {cs : List Value} (ht : Try.prog.underlying t = some .bool) (h : Reads w t cs) : ∃ b, cs = [.bool b] := by
  obtain ⟨H, enc, n, x, hx⟩ := h
  obtain ⟨b, h1, _⟩ := DataW.trod_bool ht hx
  exact ⟨b, h1⟩
theorem Reads.struct {w : World} {t : TypeId} {fs : Array Field} {cs : List Value} (ht : Try.prog.underlying t = some (.struct fs)) (h : Reads w t cs) :
    cs.length = Try.prog.cellsOf t ∧ ∀ (i : Nat) (f : Field), fs[i]? = some f → Reads w f.type ((cs.drop f.offset).take (Try.prog.cellsOf f.type)) := by
  obtain ⟨H, enc, n, x, hx⟩ := h
  obtain ⟨xs, m, _, _, hl, hs, hf⟩ := DataW.trod_struct ht hx
  refine ⟨hl, fun i f hi => ?_⟩
  have h1 := hf i f hi
  have hlt : i < xs.length := by rw [hs]; exact (Array.getElem?_eq_some_iff.1 hi).1
  rw [List.getElem?_eq_getElem hlt] at h1
  exact ⟨H, enc, m, _, h1⟩
theorem Reads.array {w : World} {t e : TypeId} {n : Nat} {cs : List Value} (ht : Try.prog.underlying t = some (.array n e)) (h : Reads w t cs) :
    cs.length = Try.prog.cellsOf t ∧ ∀ (i : Nat), i < n → Reads w e ((cs.drop (i * Try.prog.cellsOf e)).take (Try.prog.cellsOf e)) := by
  obtain ⟨H, enc, m, x, hx⟩ := h
  obtain ⟨xs, m, _, _, hl, hs, hf⟩ := DataW.trod_array ht hx
  refine ⟨hl, fun i hi => ?_⟩
  have h1 := hf i hi
  rw [List.getElem?_eq_getElem (by omega)] at h1
  exact ⟨H, enc, m, _, h1⟩
/-- A slice's row: each element's cells are 'enc' of something. -/
theorem Reads.rows {α : Type} [Inhabited α] {w : World} {t e : TypeId} {k : Nat} {cs : List Value} (enc : α → List Value) (ok : α → Prop) (ht : Try.prog.underlying t = some (.slice e)) (hk : Try.prog.cellsOf e = k)
    (hel : ∀ cs, Reads w e cs → ∃ y, cs = enc y ∧ ok y) (h : Reads w t cs) :
    ∃ (v : Value) (l : List α), cs = [v] ∧ Rd w k v l.length (l.flatMap enc) ∧ (∀ y ∈ l, ok y) ∧ l.length ≤ maxLen ∧ ∃ a c, v = .slice a l.length c ∧ l.length ≤ c ∧ c ≤ maxLen := by
  subst hk
  obtain ⟨H, enc', n, x, hx⟩ := h
  rcases open_slice ht hx with ⟨rfl, _⟩ | ⟨a, len, cap, m, n', D, Pl, rfl, _, hlc, hcm, hm, _, hi⟩
  · exact ⟨_, [], rfl, ⟨by simp, none, 0, rfl, fun _ => ⟨rfl, rfl⟩, fun _ e => (by cases e)⟩, by simp, Nat.zero_le _, none, 0, rfl, Nat.zero_le _, Nat.zero_le _⟩
  simp only [if_true] at hm
  subst hm
  have hc : ∀ i, i < len → ∃ y : α, (w.cells? 0 (a.add (i * Try.prog.cellsOf e)) (Try.prog.cellsOf e)) = some (enc y) ∧ ok y := by
    intro i hlt
    obtain ⟨cs', h1, h2⟩ := hi i (by omega)
    obtain ⟨y, rfl, hy⟩ := hel cs' ⟨H, enc', n', _, h2⟩
    exact ⟨y, h1, hy⟩
  obtain ⟨f, hf⟩ := choose_lt hc
  refine ⟨_, (List.range len).map f, rfl, ?_, ?_, by simp; omega, some a, m, by simp, by simpa using hlc, hcm⟩
  · have hlen : ∀ i, i < len → (enc (f i)).length = Try.prog.cellsOf e := fun i hlt => (World.cells?_some (hf i hlt).1).2.1
    have key : ∀ q, q ≤ len → ((((List.range q).map f).flatMap enc).length = q * Try.prog.cellsOf e ∧ ∀ j u, (((List.range q).map f).flatMap enc)[j]? = some u → w.cell? (a.add j) = some u) := by
      intro q
      induction q with
      | zero => intro _; simp
      | succ q ih =>
        intro hq
        obtain ⟨i1, i2⟩ := ih (by omega)
        rw [List.range_succ, List.map_append, List.flatMap_append]
        simp only [List.map_cons, List.map_nil, List.flatMap_cons, List.flatMap_nil, List.append_nil]
        refine ⟨by rw [List.length_append, i1, hlen q (by omega), Nat.add_mul, Nat.one_mul], fun j u hu => ?_⟩
        by_cases hj : j < (((List.range q).map f).flatMap enc).length
        · rw [List.getElem?_append_left hj] at hu
          exact i2 j u hu
        · rw [List.getElem?_append_right (by omega), i1] at hu
          have hlt := (List.getElem?_eq_some_iff.1 hu).1
          rw [hlen q (by omega)] at hlt
          have := (World.cells?_some (hf q (by omega)).1).2.2 (j - q * Try.prog.cellsOf e) hlt
          rw [add_add, show q * Try.prog.cellsOf e + (j - q * Try.prog.cellsOf e) = j by omega] at this
          rw [this]
          exact hu
    obtain ⟨k1, k2⟩ := key len (Nat.le_refl _)
    exact ⟨by simpa using k1, some a, m, by simp, fun e => (by cases e), fun ad e => by cases e; exact k2⟩
  · intro y hy
    obtain ⟨i, hi', rfl⟩ := List.mem_map.1 hy
    exact (hf i (List.mem_range.1 hi')).2
/-- An integer's cell. -/
theorem Reads.ints {w : World} {t e : TypeId} {q : IntKind} {cs : List Value} (ht : Try.prog.underlying t = some (.slice e)) (he : Try.prog.underlying e = some (.int q)) (hk : Try.prog.cellsOf e = 1) (h : Reads w t cs) :
    ∃ (v : Value) (l : List Int), cs = [v] ∧ Rd w 1 v l.length (l.flatMap fun z => [Value.int q z]) ∧ (∀ y ∈ l, (Lit.int q y).wf = true) ∧ l.length ≤ maxLen ∧ ∃ a c, v = .slice a l.length c ∧ l.length ≤ c ∧ c ≤ maxLen :=
  Reads.rows (α := Int) (fun z => [Value.int q z]) (fun z => (Lit.int q z).wf = true) ht hk (fun _ h => h.int he) h
theorem wf_u8 {a : Int} (h : (Lit.int .u8 a).wf = true) : 0 ≤ a ∧ a ≤ 255 := by simpa [Lit.wf, IntKind.min, IntKind.max, IntKind.signed, IntKind.bits] using h
theorem wf_u16 {a : Int} (h : (Lit.int .u16 a).wf = true) : 0 ≤ a ∧ a ≤ 65535 := by simpa [Lit.wf, IntKind.min, IntKind.max, IntKind.signed, IntKind.bits] using h
theorem wf_i64 {a : Int} (h : (Lit.int .i64 a).wf = true) : -9223372036854775808 ≤ a ∧ a ≤ 9223372036854775807 := by simpa [Lit.wf, IntKind.min, IntKind.max, IntKind.signed, IntKind.bits] using h
theorem okWide_array {W : World} {r : Reach} {b0 : Nat} {v : Value} {t e : TypeId} {n : Nat} (hu : Try.prog.underlying t = some (.array n e)) (h : Value.okWide Try.prog W r b0 t v) : ∃ cs : Array Value, v = .agg cs := by
  simp only [Value.okWide, hu] at h
  obtain ⟨cs, h1, _⟩ := h
  exact ⟨cs, h1⟩
theorem okWide_struct {W : World} {r : Reach} {b0 : Nat} {v : Value} {t : TypeId} {fs : Array Field} (hu : Try.prog.underlying t = some (.struct fs)) (h : Value.okWide Try.prog W r b0 t v) : ∃ cs : Array Value, v = .agg cs := by
  simp only [Value.okWide, hu] at h
  obtain ⟨cs, h1, _⟩ := h
  exact ⟨cs, h1⟩
/-- One value's cells. -/
theorem one_of_cells {v u : Value} (h : v.cells.toList = [u]) (hn : ∀ cs, v ≠ .agg cs) : v = u := by
  cases v <;> simp_all [Value.cells]
end Go.Proofs.Yteihpaikdpdglaa
