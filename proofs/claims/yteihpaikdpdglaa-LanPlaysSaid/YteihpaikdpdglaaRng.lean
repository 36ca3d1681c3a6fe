/-
  A range over a function: what an invariant owes, in this seat's words.
-/
import Derived.Test.YteihpaikdpdglaaLib
import Derived.RangeFuncNested
import Derived.RangeFuncBound
import Derived.RangeFuncCalls
import Derived.RangeFuncLeaves
import Derived.Shelf.Abstract
import Derived.OwnWalkIn
import Derived.TacticsInMore
import Derived.LoopNIn
import Derived.LoopIn
namespace Go.Proofs.Yteihpaikdpdglaa
open Go.RowKit
set_option linter.unusedVariables false

/-- The blocks from B on that are no cells. -/
def NC (B : Nat) (W : World) : Nat → Prop := fun k => B ≤ k ∧ ∃ o : Obj, W.heap[k]? = some o ∧ o.isCells = false
theorem NC.cells {B : Nat} {W : World} {k : Nat} {cs : Array Value} {t : TypeId} {fr : Nat × Nat} (h : W.heap[k]? = some (.cells cs t fr)) : ¬ NC B W k := by
  rintro ⟨_, o, ho, hc⟩
  rw [h] at ho
  cases ho
  cases hc
/-- What abides a turn of what is no cells is the caller's own. -/
theorem ownFrom_fr {β : Type} {B : Nat} {I : β → World → Prop} (h : ∀ s W W', I s W → Fr (NC B W) W W' → I s W') : OwnFrom B I := fun s W W' _ hs hg hr =>
  h s W W' hs ⟨hg.os, hg.tape, hg.output, hg.size, fun k hk hn => hg.block k hk (fun e => hn (hr k e.symm))⟩
theorem Own.stay {α : Type} {enc : α → List Value} {e k B C : Nat} {w w' : World} {v : Value} {l : List α} (h : Own enc e k B w v l) (hf : Fr (NC C w) w w') : Own enc e k B w' v l :=
  h.fr hf (fun g hg => by obtain ⟨cur, hc⟩ := own_type h hg; exact NC.cells hc)
theorem blk_stay {w w' : World} {C b : Nat} {cs : Array Value} {t : TypeId} {fr : Nat × Nat} (h : w.heap[b]? = some (.cells cs t fr)) (hf : Fr (NC C w) w w') : w'.heap[b]? = some (.cells cs t fr) := hf.heap h (NC.cells h)
theorem below_stay {w0 w w' : World} {C B : Nat} (h : Below B w0 w) (hf : Fr (NC C w) w w') (hC : B ≤ C) (hB : B ≤ w0.heap.size) : Below B w0 w' :=
  h.trans (hf.below' (Nat.le_trans hB h.size) (fun k hk => Nat.le_trans hC hk.1))
theorem fr_stay {S : Nat → Prop} {w0 w w' : World} {C : Nat} (h : Fr S w0 w) (hf : Fr (NC C w) w w') (hC : w0.heap.size ≤ C) : Fr S w0 w' :=
  h.trans' hf (fun _ _ e => e) (fun i hi e => by have := e.1; omega)
/-- Steps that turn cells alone keep the others. -/
theorem keepsFrom_fr {B : Nat} {S : Nat → Prop} {W W' : World} (hf : Fr S W W') (hS : ∀ k, S k → k < B ∨ ∃ cs t fr, W.heap[k]? = some (.cells cs t fr)) : KeepsFrom B W W' :=
  ⟨hf.size, fun k' o hB hk hc => hf.heap hk (fun e => by
    rcases hS k' e with h | ⟨cs, t, fr, h⟩
    · omega
    · rw [hk] at h; cases h; cases hc)⟩
theorem KeepsFrom.of_fr_no {B : Nat} {W W' : World} (hf : Below W.heap.size W W') : KeepsFrom B W W' := keepsFrom_fr (S := no) (Fr.of_below hf no) (fun _ e => e.elim)

/-- The blocks of S lie as they lay. -/
def Same (S : Nat → Prop) (W W' : World) : Prop := ∀ k, S k → W'.heap[k]? = W.heap[k]?
theorem same_t {S : Nat → Prop} {A B C : World} (h : Same S A B) (k : Same S B C) : Same S A C := fun i hi => (k i hi).trans (h i hi)
theorem same_b {S : Nat → Prop} {w : World} (hS : ∀ k, S k → k < w.heap.size) (W : World) (l : Nat) (o o' : Obj) (hl : w.heap.size ≤ l) (_ : W.heap[l]? = some o) (_ : o.isCells = false) (_ : o.isWalk = false) : Same S W (W.putObj l o') :=
  fun k hk => World.putObj_heap_other (fun e => by have := hS k hk; omega)
theorem same_fr {S T : Nat → Prop} {W W' : World} (hf : Fr T W W') (h : ∀ k, S k → k < W.heap.size ∧ ¬ T k) : Same S W W' := fun k hk => hf.blk k (h k hk).1 (h k hk).2

theorem fr_putObj (W : World) (D C : Nat) (o o' : Obj) (hC : C ≤ D) (h : W.heap[D]? = some o') (hc : o'.isCells = false) : Fr (NC C W) W (W.putObj D o) :=
  ⟨rfl, rfl, rfl, by simp, fun k _ hn => World.putObj_heap_other (fun e => hn (by subst e; exact ⟨hC, o', h, hc⟩))⟩

/-- append, as an operation inside a round. -/
theorem wpListIn_app {F : Fence} {q : Nat} {P : Program} {w : World} {ops : Array Oper} {rest : List Oper} {o : Oper} {a : Act} {Q : Exit → Act → World → Prop} (hgd : o.guard = none) (s x : Operand) (t : TypeId) (ho : o.op = .call { callee := .builtin .append, args := #[s, x], argTypes := #[t, t] })
    (e : TypeId) (i : TypeInfo) (z : Value) (k bytes : Nat) (ht : P.underlying t = some (.slice e)) (hi : P.info? e = some i) (hz : i.zero = some z)
    (hk : i.size = k) (hby : i.bytes = bytes) (hzs : z.cells.size = k) (hk0 : 0 < k)
    {B : Nat} (hB : B ≤ w.heap.size) {v xv : Value} {n m : Nat} {xs news : List Value} (hs : a.eval s = v) (hx : a.eval x = xv) (hown : w.ownsRow B e k v n xs) (hrd : Rd w k xv m news) (h1 : ∀ u ∈ news, u.oneCell' = true)
    (h63 : n + m ≤ maxLen) (hb : (n + m) * bytes ≤ 140737488355328)
    (h : ∀ v' w', w'.ownsRow B e k v' (n + m) (xs ++ news) → Fr (fun b => v.ownBlock = some b) w w' → (v'.ownBlock = v.ownBlock ∨ v'.ownBlock = some w.heap.size) →
      (v' = .slice none 0 0 ↔ v = .slice none 0 0 ∧ m = 0) → w'.heap.size ≤ w.heap.size + 1 → wpListIn F q P ops Q rest (a.put o.dst v') w') : wpListIn F q P ops Q (o :: rest) a w := by
  refine wpListIn_plain hgd fun K hK' => ?_
  obtain ⟨v', w', hr, h2, h3, h4, h5, h6⟩ := run_app (P := P) (w := w) t o.type e i z k bytes ht hi hz hk hby hzs hk0 hB hown hrd h1 h63 hb
  unfold Oper.wpIn
  refine ⟨?_, ?_⟩
  · simp [Oper.about, ho, resolve, Target.leads, Sem.run_pure]
  · rw [Oper.semAt_plain F _ _ (by rw [ho]; intro c hc'; cases hc')]
    simp [execOp, ho, resolve, invoke, builtin, hs, hx, hr, Result.andThen]
    exact hK' _ _ (h v' w' h2 h3 h4 h5 h6)

/-- A range over a function, in a walk as it is anywhere. -/
theorem wp_range {P : Program} {α : Type} {g : Operand} {ps : Array Tmp} {assign body : Code} {Q : Exit → Act → World → Prop} {a : Act} {w : World}
    {gf : Nat} {lb : Array Value} (hg : a.eval g = .func (.func gf) #[] lb) (eg : ∀ args w, (callFunc gf args).run P w = .ok (.enter gf args) w)
    {encs : α → Array Value} {S : Nat → Prop} (hS : ∀ k, S k → k < w.heap.size) {Sf Sp : List α → Prop} {N : Nat} (hseq : SeqStopsK Fence.wide 1 P gf lb encs (Same S) Sf Sp N w) (hps : ∀ x, (encs x).size = ps.size)
    (I : List α → World → Prop) (Ix : Code → List α → World → Prop) (hI : ∀ s W W', I s W → Fr (NC w.heap.size W) W W' → I s W') (hIx : ∀ c s W W', Ix c s W → Fr (NC w.heap.size W) W W' → Ix c s W') (h0 : I [] w)
    (Ax : α → Act → World → Prop) (hAx : ∀ x a' W W', Ax x a' W → Fr (NC w.heap.size W) W W' → Ax x a' W')
    (hassign : ∀ (l : Nat) (pre : List α) (x : α) (W : World) (K : Act → World → Prop), I pre W → (∀ a' W', KeepsFrom w.heap.size W W' → Same S W W' → I pre W' → Ax x a' W' → K a' W') →
      assign.wpIn (Fence.wide.inRound l) 0 P (Exit.then K (fun _ _ _ => False)) { tmps := (ps.zip (encs x)).foldl (fun t (p, v) => t.setIfInBounds p v) a.tmps, defers := [] } W)
    (hbody : ∀ (l : Nat) (pre : List α) (x : α) (a' : Act) (W : World), w.heap.size ≤ l → (∃ r, W.heap[l]? = some (.loop r)) → I pre W → Ax x a' W → pre.length < N → body.wpIn (Fence.wide.inRound l) 0 P (ownPostG w.heap.size (Same S) I Ix (pre ++ [x]) W) a' W)
    (hdone : ∀ (D : Nat) (xs : List α) (W : World), w.heap.size ≤ D → Sf xs → I xs W → W.heap[D]? = some (.deferred (some [])) → Q .normal { a with defers := { target := .collected D, args := #[] } :: a.defers } W)
    (hstop : ∀ (D : Nat) (c : Code) (pre : List α) (W : World), w.heap.size ≤ D → Sp pre → Ix c pre W → W.heap[D]? = some (.deferred (some [])) → c.wpIn Fence.wide 2 P Q { a with defers := { target := .collected D, args := #[] } :: a.defers } W) :
    (Code.rangeFunc g ps assign body).wpIn Fence.wide 2 P Q a w :=
  wpIn_rangeFunc_ownH (n := 2) rfl (by decide) hg trivial eg hseq same_t (same_b hS) (Below.refl _ _) hps I Ix (ownFrom_fr hI) (fun c => ownFrom_fr (hIx c)) h0 Ax (fun x a' => ownFrom_fr (fun _ W W' h hf => hAx x a' W W' h hf))
    hassign hbody hdone hstop
/-- The same, where the iterator names what a round must keep. -/
theorem wp_rangeK {P : Program} {α : Type} {g : Operand} {ps : Array Tmp} {assign body : Code} {Q : Exit → Act → World → Prop} {a : Act} {w : World}
    {gf : Nat} {lb : Array Value} (hg : a.eval g = .func (.func gf) #[] lb) (eg : ∀ args w, (callFunc gf args).run P w = .ok (.enter gf args) w)
    {encs : α → Array Value} {Kp : World → World → Prop} (hKt : ∀ {A B C : World}, Kp A B → Kp B C → Kp A C) (hKb : ∀ (W : World) (l : Nat) (o o' : Obj), w.heap.size ≤ l → W.heap[l]? = some o → o.isCells = false → o.isWalk = false → Kp W (W.putObj l o')) {Sf Sp : List α → Prop} {N : Nat} (hseq : SeqStopsK Fence.wide 1 P gf lb encs Kp Sf Sp N w) (hps : ∀ x, (encs x).size = ps.size)
    (I : List α → World → Prop) (Ix : Code → List α → World → Prop) (hI : ∀ s W W', I s W → Fr (NC w.heap.size W) W W' → I s W') (hIx : ∀ c s W W', Ix c s W → Fr (NC w.heap.size W) W W' → Ix c s W') (h0 : I [] w)
    (Ax : α → Act → World → Prop) (hAx : ∀ x a' W W', Ax x a' W → Fr (NC w.heap.size W) W W' → Ax x a' W')
    (hassign : ∀ (l : Nat) (pre : List α) (x : α) (W : World) (K : Act → World → Prop), I pre W → (∀ a' W', KeepsFrom w.heap.size W W' → Kp W W' → I pre W' → Ax x a' W' → K a' W') →
      assign.wpIn (Fence.wide.inRound l) 0 P (Exit.then K (fun _ _ _ => False)) { tmps := (ps.zip (encs x)).foldl (fun t (p, v) => t.setIfInBounds p v) a.tmps, defers := [] } W)
    (hbody : ∀ (l : Nat) (pre : List α) (x : α) (a' : Act) (W : World), w.heap.size ≤ l → (∃ r, W.heap[l]? = some (.loop r)) → I pre W → Ax x a' W → pre.length < N → body.wpIn (Fence.wide.inRound l) 0 P (ownPostG w.heap.size Kp I Ix (pre ++ [x]) W) a' W)
    (hdone : ∀ (D : Nat) (xs : List α) (W : World), w.heap.size ≤ D → Sf xs → I xs W → W.heap[D]? = some (.deferred (some [])) → Q .normal { a with defers := { target := .collected D, args := #[] } :: a.defers } W)
    (hstop : ∀ (D : Nat) (c : Code) (pre : List α) (W : World), w.heap.size ≤ D → Sp pre → Ix c pre W → W.heap[D]? = some (.deferred (some [])) → c.wpIn Fence.wide 2 P Q { a with defers := { target := .collected D, args := #[] } :: a.defers } W) :
    (Code.rangeFunc g ps assign body).wpIn Fence.wide 2 P Q a w :=
  wpIn_rangeFunc_ownH (n := 2) rfl (by decide) hg trivial eg hseq hKt hKb (Below.refl _ _) hps I Ix (ownFrom_fr hI) (fun c => ownFrom_fr (hIx c)) h0 Ax (fun x a' => ownFrom_fr (fun _ W W' h hf => hAx x a' W W' h hf))
    hassign hbody hdone hstop

/-- No root refers to the block k. -/
def NoRef (R : List Addr) (W : World) (k : Nat) : Prop := ∀ a ∈ R, ∀ cv, W.cell? a = some cv → cv.ownBlock ≠ some k
/-- The rows from C0 on to which no root refers lie as they lay, and no root refers to them. -/
structure Keep (R : List Addr) (C0 : Nat) (W W' : World) : Prop where
  size : W.heap.size ≤ W'.heap.size
  same : ∀ k cs t fr, C0 ≤ k → W.heap[k]? = some (.cells cs t fr) → NoRef R W k → W'.heap[k]? = some (.cells cs t fr) ∧ NoRef R W' k
theorem keep_t {R : List Addr} {C0 : Nat} {A B C : World} (h : Keep R C0 A B) (k : Keep R C0 B C) : Keep R C0 A C :=
  ⟨Nat.le_trans h.size k.size, fun i cs t fr hi hc hn => by
    obtain ⟨h1, h2⟩ := h.same i cs t fr hi hc hn
    exact k.same i cs t fr hi h1 h2⟩
theorem keep_refl (R : List Addr) (C0 : Nat) (W : World) : Keep R C0 W W := ⟨Nat.le_refl _, fun _ _ _ _ _ h n => ⟨h, n⟩⟩
theorem keep_b {R : List Addr} {w : World} (hR : ∀ a ∈ R, a.block < w.heap.size) (W : World) (l : Nat) (o o' : Obj) (hl : w.heap.size ≤ l) (h : W.heap[l]? = some o) (hc : o.isCells = false) (_ : o.isWalk = false) : Keep R w.heap.size W (W.putObj l o') := by
  refine ⟨by simp, fun k cs t fr hk hb hn => ?_⟩
  have hkl : k ≠ l := fun e => by subst e; rw [hb] at h; cases h; cases hc
  refine ⟨(World.putObj_heap_other hkl).trans hb, fun a ha cv hcv => hn a ha cv ?_⟩
  have hal : a.block ≠ l := by have := hR a ha; omega
  rw [← hcv]
  exact (World.cell?_of_block (World.putObj_heap_other hal)).symm
/-- Steps that turn blocks ahead of C0, and rows to which roots refer, and that make roots refer to what they referred to or to what is new. -/
theorem keep_fr {R : List Addr} {C0 : Nat} {T : Nat → Prop} {W W' : World} (hf : Fr T W W') (hT : ∀ k, T k → k < C0 ∨ ¬ NoRef R W k) (hn : ∀ a ∈ R, ∀ cv, W'.cell? a = some cv → ∀ k, cv.ownBlock = some k → (∃ a' ∈ R, ∃ cv', W.cell? a' = some cv' ∧ cv'.ownBlock = some k) ∨ W.heap.size ≤ k) : Keep R C0 W W' :=
  ⟨hf.size, fun k cs t fr hk hb hnr => ⟨hf.heap hb (fun e => (hT k e).elim (fun q => by omega) (fun q => q hnr)), fun a ha cv hcv e => by
    rcases hn a ha cv hcv k e with ⟨a', ha', cv', hc', e'⟩ | q
    · exact hnr a' ha' cv' hc' e'
    · have := lt_of_block hb; omega⟩⟩
end Go.Proofs.Yteihpaikdpdglaa
