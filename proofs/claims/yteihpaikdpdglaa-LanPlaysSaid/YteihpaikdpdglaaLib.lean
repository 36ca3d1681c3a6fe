/-
  Plain words that the walks of this seat share: a frame by blocks, slices that own a row, slices that are read, append from whatever source.
-/
import Derived.WalkKit
import Derived.Handy
import Derived.Lib.Hide
import Derived.WalkSpells
import Derived.Lib.SliceRun
import Derived.Deep.QuietTactic
import Derived.BigQuiet
import Derived.Deep.RegionLaw
import Derived.StillTailTactics
namespace Go.Proofs.Yteihpaikdpdglaa
open Go.RowKit
set_option linter.unusedVariables false

/-- A goal that the walk leaves alone. -/
def Held (p : Prop) : Prop := p
theorem held {p : Prop} (h : Held p) : p := h
theorem unheld {p : Prop} (h : p) : Held p := h

/-- From w to w' only the blocks of S may have turned; new ones may have come. -/
structure Fr (S : Nat → Prop) (w w' : World) : Prop where
  os : w'.os = w.os
  tape : w'.tape = w.tape
  output : w'.output = w.output
  size : w.heap.size ≤ w'.heap.size
  blk : ∀ k, k < w.heap.size → ¬ S k → w'.heap[k]? = w.heap[k]?

abbrev no : Nat → Prop := fun _ => False

theorem Fr.refl (S : Nat → Prop) (w : World) : Fr S w w := ⟨rfl, rfl, rfl, Nat.le_refl _, fun _ _ _ => rfl⟩
theorem Fr.trans' {S S' T : Nat → Prop} {a b c : World} (h : Fr S a b) (k : Fr S' b c) (hs : ∀ i, i < a.heap.size → S i → T i) (hs' : ∀ i, i < a.heap.size → S' i → T i) : Fr T a c :=
  ⟨k.os.trans h.os, k.tape.trans h.tape, k.output.trans h.output, Nat.le_trans h.size k.size, fun i hi hn =>
    (k.blk i (Nat.lt_of_lt_of_le hi h.size) (fun e => hn (hs' i hi e))).trans (h.blk i hi (fun e => hn (hs i hi e)))⟩
theorem Fr.trans {S : Nat → Prop} {a b c : World} (h : Fr S a b) (k : Fr S b c) : Fr S a c := h.trans' k (fun _ _ e => e) (fun _ _ e => e)
theorem Fr.mono {S T : Nat → Prop} {a b : World} (h : Fr S a b) (hs : ∀ i, i < a.heap.size → S i → T i) : Fr T a b :=
  ⟨h.os, h.tape, h.output, h.size, fun i hi hn => h.blk i hi (fun e => hn (hs i hi e))⟩
theorem Fr.of_below {w w' : World} (h : Below w.heap.size w w') (S : Nat → Prop) : Fr S w w' := ⟨h.os, h.tape, h.output, h.size, fun k hk _ => h.block k hk⟩
theorem Fr.below {w w' : World} (h : Fr no w w') : Below w.heap.size w w' := ⟨h.os, h.tape, h.output, h.size, fun k hk => h.blk k hk (fun e => e)⟩
theorem Fr.below' {S : Nat → Prop} {w w' : World} {B : Nat} (h : Fr S w w') (hB : B ≤ w.heap.size) (hS : ∀ k, S k → B ≤ k) : Below B w w' :=
  ⟨h.os, h.tape, h.output, h.size, fun k hk => h.blk k (by omega) (fun e => by have := hS k e; omega)⟩
theorem Fr.alloc {S : Nat → Prop} {a w : World} (h : Fr S a w) (o : Obj) : Fr S a (w.alloc o) :=
  h.trans' (S' := no) (Fr.of_below ((Below.refl _ w).alloc (Nat.le_refl _) o) _) (fun _ _ e => e) (fun _ _ e => e.elim)
theorem Fr.drew {S : Nat → Prop} {a w : World} (h : Fr S a w) : Fr S a w.drew := ⟨h.os, h.tape, h.output, h.size, h.blk⟩
theorem Fr.drewN {S : Nat → Prop} {a w : World} (h : Fr S a w) (n : Nat) : Fr S a (w.drewN n) := ⟨h.os, h.tape, h.output, h.size, h.blk⟩
theorem Fr.setCell {S : Nat → Prop} {a w : World} (h : Fr S a w) {p : Addr} (hp : p.block < a.heap.size → S p.block) (u : Value) : Fr S a (w.setCell p u) :=
  h.trans' (S' := fun k => k = p.block) ⟨rfl, rfl, rfl, by simp, fun k _ hk => Below.heap_setCell _ _ _ _ hk⟩ (fun _ _ e => e) (fun i hi e => by subst e; exact hp hi)
theorem Fr.setRow {S : Nat → Prop} {a w : World} (h : Fr S a w) {g : Nat} (hp : g < a.heap.size → S g) (cs : Array Value) : Fr S a (w.setRow g cs) :=
  h.trans' (S' := fun k => k = g) ⟨rfl, rfl, rfl, by simp, fun k _ hk => setRow_other w g k cs hk⟩ (fun _ _ e => e) (fun i hi e => by subst e; exact hp hi)
theorem Fr.cell {S : Nat → Prop} {w w' : World} (h : Fr S w w') {p : Addr} (hp : p.block < w.heap.size) (hn : ¬ S p.block) : w'.cell? p = w.cell? p := World.cell?_of_block (w := w) (h.blk p.block hp hn)
theorem Fr.frozen {S : Nat → Prop} {w w' : World} (h : Fr S w w') {p : Addr} (hp : p.block < w.heap.size) (hn : ¬ S p.block) : w'.frozen? p = w.frozen? p := World.frozen?_of_block (w := w) (h.blk p.block hp hn)
theorem Fr.heap {S : Nat → Prop} {w w' : World} (h : Fr S w w') {b : Nat} {o : Obj} (hb : w.heap[b]? = some o) (hn : ¬ S b) : w'.heap[b]? = some o := (h.blk b (lt_of_block hb) hn).trans hb
theorem Fr.grown {S : Nat → Prop} {w w' : World} (h : Fr S w w') (row : Option Nat) (hS : ∀ k, S k → some k = row) : w.grownBy w' row :=
  ⟨h.os, h.tape, h.output, h.size, fun k hk hn => h.blk k hk (fun e => hn (hS k e))⟩

theorem heap_alloc_new' (w : World) (o : Obj) : (w.alloc o).heap[w.heap.size]? = some o := by
  show (w.heap.push o)[w.heap.size]? = _
  rw [Array.getElem?_push, if_pos rfl]
theorem heap_alloc_lt (w : World) (o : Obj) {k : Nat} (h : k < w.heap.size) : (w.alloc o).heap[k]? = w.heap[k]? := Below.heap_alloc w o k h
theorem heap_setCell_same {w : World} {b i : Nat} {cs : Array Value} {t : TypeId} (h : w.heap[b]? = some (.cells cs t (0, 0))) (u : Value) :
    (w.setCell ⟨b, i, none⟩ u).heap[b]? = some (.cells (cs.setIfInBounds i u) t (0, 0)) := by
  simp only [World.setCell, Array.getElem?_modify]
  rw [if_pos trivial, h]
  rfl
theorem heap_setCell_ne {w : World} {p : Addr} {k : Nat} (h : k ≠ p.block) (u : Value) : (w.setCell p u).heap[k]? = w.heap[k]? := Below.heap_setCell w p u k h

/-- A block's cells, and that none is frozen. -/
theorem blk_cell {w : World} {b : Nat} {cs : Array Value} {t : TypeId} (h : w.heap[b]? = some (.cells cs t (0, 0))) (i : Nat) : w.cell? ⟨b, i, none⟩ = cs[i]? := by simp [World.cell?, h]
theorem blk_free {w : World} {b : Nat} {cs : Array Value} {t : TypeId} (h : w.heap[b]? = some (.cells cs t (0, 0))) (i : Nat) : w.frozen? ⟨b, i, none⟩ = false := by simp [World.frozen?, h]

/-! ### A region that draws its order, that only reads, and whose callees may lay blocks -/

/-- A world behind w: what was there is as it was. -/
structure After (w : World) where
  w' : World
  h : Below w.heap.size w w'

instance (w : World) : Inhabited (After w) := ⟨⟨w, Below.refl _ w⟩⟩
theorem After.cell {w : World} {a : Addr} {v : Value} (h : w.cell? a = some v) (p : After w) : p.w'.cell? a = some v := (p.h.cell (World.block_lt_of_cell? w _ h)).trans h
theorem After.size {w : World} (p : After w) : w.heap.size ≤ p.w'.heap.size := p.h.size

theorem wp_region_after {P : Program} {id : Nat} {Q : Exit → Act → World → Prop} {a : Act} {w : World} {l : List Oper} (hm : P.follows .mixedOrders = true) (hB : Region.lexB .any l.toArray = true)
    (h : wpQuiet P l.toArray (fun w' => ∃ p : After w, w' = p.w') (fun a' => ∀ w', (∃ p : After w, w' = p.w') → Q .normal a' w') l a) : (Code.region id l.toArray true).wp P Q a w :=
  wp_region_quiet (C := fun w' => ∃ p : After w, w' = p.w') hm hB ⟨⟨w.drew, (Below.refl _ w).drew⟩, rfl⟩ (by simpa using h)

/-- A callee's contract in such a world. -/
theorem Calls.after_of {P : Program} {f : FuncId} {args : Array Value} {w : World} {p : After w} {v : Value}
    (h : Calls P f args p.w' fun e w' => e = .returned v ∧ Below p.w'.heap.size p.w' w') : Calls P f args p.w' fun e w'' => e = .returned v ∧ ∃ q : After w, w'' = q.w' :=
  h.mono fun _ w'' ⟨he, hb⟩ => ⟨he, ⟨w'', p.h.trans (hb.mono p.h.size)⟩, rfl⟩

/-! ### Masks -/
theorem i64_mask (x : Int) (m : Nat) (hm : m < 63) : bits .and .i64 x ((2 ^ m - 1 : Nat) : Int) = x % (2 ^ m : Nat) := by
  have h2 : (2 : Nat) ^ m ≤ 2 ^ 62 := Nat.pow_le_pow_right (by decide) (by omega)
  have h0 : 0 < (2 : Nat) ^ m := Nat.pow_pos (by decide)
  have e1 : (BitVec.ofInt 64 x &&& BitVec.ofInt 64 ((2 ^ m - 1 : Nat) : Int)).toNat = (x % 18446744073709551616).toNat % 2 ^ m := by
    rw [BitVec.toNat_and, BitVec.toNat_ofInt, BitVec.toNat_ofInt]
    have : (((2 ^ m - 1 : Nat) : Int) % ((2 ^ 64 : Nat) : Int)).toNat = 2 ^ m - 1 := by
      rw [Int.emod_eq_of_lt (by omega) (by omega)]
      simp
    rw [this, Nat.and_two_pow_sub_one_eq_mod]
    rfl
  have e2 : (((x % 18446744073709551616).toNat % 2 ^ m : Nat) : Int) = x % ((2 ^ m : Nat) : Int) := by
    rw [Int.natCast_emod, Int.toNat_of_nonneg (Int.emod_nonneg _ (by decide))]
    refine Int.emod_emod_of_dvd x ?_
    have : (18446744073709551616 : Int) = ((2 ^ 64 : Nat) : Int) := by decide
    rw [this]
    exact Int.natCast_dvd_natCast.2 (Nat.pow_dvd_pow 2 (by omega))
  show IntKind.i64.wrap (((BitVec.ofInt 64 x &&& BitVec.ofInt 64 ((2 ^ m - 1 : Nat) : Int)).toNat : Nat) : Int) = _
  rw [e1, e2]
  have h3 := Int.emod_nonneg x (show ((2 ^ m : Nat) : Int) ≠ 0 by omega)
  have h4 := Int.emod_lt_of_pos x (show (0 : Int) < ((2 ^ m : Nat) : Int) by omega)
  exact IntWalk.i64_in _ (by omega)
theorem i64_and15 (x : Int) : bits .and .i64 x 15 = x % 16 := i64_mask x 4 (by decide)
theorem i64_and3 (x : Int) : bits .and .i64 x 3 = x % 4 := i64_mask x 2 (by decide)

/-! ### Slices -/

/-- A slice that is read: its n elements of k cells are xs. -/
def Rd (w : World) (k : Nat) (v : Value) (n : Nat) (xs : List Value) : Prop :=
  xs.length = n * k ∧ ∃ a c, v = .slice a n c ∧ (a = none → n = 0 ∧ c = 0) ∧ ∀ ad, a = some ad → ∀ j u, xs[j]? = some u → w.cell? (ad.add j) = some u

theorem Rd.of_own {w : World} {B e k : Nat} {v : Value} {n : Nat} {xs : List Value} (h : w.ownsRow B e k v n xs) : Rd w k v n xs := by
  refine ⟨h.1, ?_⟩
  rcases h.2 with ⟨rfl, rfl⟩ | ⟨g, cap, cur, rfl, _, hg, h1, h2, h3, h4⟩
  · exact ⟨none, 0, rfl, fun _ => ⟨rfl, rfl⟩, fun _ e => by cases e⟩
  · refine ⟨_, cap, rfl, fun e => (by cases e), fun ad e => ?_⟩
    cases e
    exact h.cells (g := g) rfl

theorem own_len {w : World} {B e k : Nat} {v : Value} {n : Nat} {xs : List Value} (h : w.ownsRow B e k v n xs) : n ≤ maxLen := by
  rcases h.2 with ⟨_, rfl⟩ | ⟨g, cap, cur, rfl, _, hg, h1, h2, h3, h4⟩
  · exact Nat.zero_le _
  · omega

theorem own_zero {w : World} {B e k : Nat} {v : Value} {n : Nat} {xs : List Value} (h : w.ownsRow B e k v n xs) : w.ownsRow 0 e k v n xs := by
  refine ⟨h.1, ?_⟩
  rcases h.2 with h | ⟨g, cap, cur, h0, _, r⟩
  · exact .inl h
  · exact .inr ⟨g, cap, cur, h0, Nat.zero_le _, r⟩

theorem own_base {w : World} {B e k : Nat} {v : Value} {n : Nat} {xs : List Value} (h : w.ownsRow 0 e k v n xs) (hB : ∀ g, v.ownBlock = some g → B ≤ g) : w.ownsRow B e k v n xs := by
  refine ⟨h.1, ?_⟩
  rcases h.2 with h | ⟨g, cap, cur, h0, _, r⟩
  · exact .inl h
  · exact .inr ⟨g, cap, cur, h0, hB g (by rw [h0]; rfl), r⟩

theorem own_fr {w w' : World} {S : Nat → Prop} {B e k : Nat} {v : Value} {n : Nat} {xs : List Value} (h : w.ownsRow B e k v n xs) (hf : Fr S w w') (hn : ∀ g, v.ownBlock = some g → ¬ S g) : w'.ownsRow B e k v n xs := by
  refine ⟨h.1, ?_⟩
  rcases h.2 with h | ⟨g, cap, cur, h0, hb, hg, r⟩
  · exact .inl h
  · exact .inr ⟨g, cap, cur, h0, hb, hf.heap hg (hn g (by rw [h0]; rfl)), r⟩

theorem own_of_block {w w' : World} {B e k : Nat} {v : Value} {n : Nat} {xs : List Value} (h : w.ownsRow B e k v n xs) (hn : ∀ g, v.ownBlock = some g → w'.heap[g]? = w.heap[g]?) : w'.ownsRow B e k v n xs := by
  refine ⟨h.1, ?_⟩
  rcases h.2 with h | ⟨g, cap, cur, h0, hb, hg, r⟩
  · exact .inl h
  · exact .inr ⟨g, cap, cur, h0, hb, (hn g (by rw [h0]; rfl)).trans hg, r⟩
theorem own_lt {w : World} {B e k : Nat} {v : Value} {n : Nat} {xs : List Value} (h : w.ownsRow B e k v n xs) {g : Nat} (hg : v.ownBlock = some g) : g < w.heap.size := (h.lt g hg).2

/-- The block of an owned slice bears its elements' type. -/
theorem own_type {w : World} {B e k : Nat} {v : Value} {n : Nat} {xs : List Value} (h : w.ownsRow B e k v n xs) {g : Nat} (hg : v.ownBlock = some g) : ∃ cur, w.heap[g]? = some (.cells cur e (0, 0)) := by
  rcases h.2 with ⟨rfl, _⟩ | ⟨g', cap, cur, rfl, _, hb, _⟩
  · simp [Value.ownBlock] at hg
  · simp [Value.ownBlock] at hg; subst hg; exact ⟨cur, hb⟩
theorem own_ne {w : World} {B e k : Nat} {v : Value} {n : Nat} {xs : List Value} (h : w.ownsRow B e k v n xs) {b : Nat} {cs : Array Value} {t : TypeId} {fr : Nat × Nat} (hb : w.heap[b]? = some (.cells cs t fr)) (ht : t ≠ e) : v.ownBlock ≠ some b := by
  intro hg
  obtain ⟨cur, hc⟩ := own_type h hg
  rw [hc] at hb
  injection hb with hb
  injection hb with _ h2 _
  exact ht h2.symm

/-- An owned slice with elements lies somewhere. -/
theorem own_some {w : World} {B e k : Nat} {v : Value} {n : Nat} {xs : List Value} (h : w.ownsRow B e k v n xs) (hn : 0 < n) : ∃ g cap, v = .slice (some ⟨g, 0, none⟩) n cap ∧ g < w.heap.size ∧ n ≤ cap ∧ cap ≤ maxLen := by
  rcases h.2 with ⟨_, rfl⟩ | ⟨g, cap, cur, rfl, _, hg, h1, h2, h3, h4⟩
  · omega
  · exact ⟨g, cap, rfl, lt_of_block hg, h1, h2⟩
theorem own_cases {w : World} {B e k : Nat} {v : Value} {n : Nat} {xs : List Value} (h : w.ownsRow B e k v n xs) : (v = .slice none 0 0 ∧ n = 0 ∧ xs = []) ∨ ∃ g cap, v = .slice (some ⟨g, 0, none⟩) n cap ∧ g < w.heap.size ∧ n ≤ cap ∧ cap ≤ maxLen := by
  rcases h.2 with ⟨h0, rfl⟩ | ⟨g, cap, cur, rfl, _, hg, h1, h2, h3, h4⟩
  · exact .inl ⟨h0, rfl, List.eq_nil_of_length_eq_zero (by simpa using h.1)⟩
  · exact .inr ⟨g, cap, rfl, lt_of_block hg, h1, h2⟩

theorem own_shape {w : World} {B e k : Nat} {v : Value} {n : Nat} {xs : List Value} (h : w.ownsRow B e k v n xs) : ∃ a cap, v = .slice a n cap ∧ n ≤ cap ∧ cap ≤ maxLen ∧ (0 < n → ∃ g, a = some ⟨g, 0, none⟩ ∧ g < w.heap.size) := by
  rcases h.2 with ⟨h0, rfl⟩ | ⟨g, cap, cur, rfl, _, hg, h1, h2, h3, h4⟩
  · exact ⟨none, 0, h0, Nat.le_refl _, Nat.zero_le _, fun h => by omega⟩
  · exact ⟨_, cap, rfl, h1, h2, fun _ => ⟨g, rfl, lt_of_block hg⟩⟩
theorem own_sep {w : World} {B e k : Nat} {v : Value} {n : Nat} {xs : List Value} {B' e' k' : Nat} {v' : Value} {n' : Nat} {xs' : List Value} (h : w.ownsRow B e k v n xs) (h' : w.ownsRow B' e' k' v' n' xs') (he : e ≠ e') {g : Nat} (hg : v.ownBlock = some g) : ¬ v'.ownBlock = some g := by
  obtain ⟨cur, hc⟩ := own_type h hg
  exact own_ne h' hc he
/-- A slice that was laid just now. -/
theorem Rd.new {w : World} {cs : Array Value} {t k n c b : Nat} (hb : b = w.heap.size) (hn : cs.size = n * k) : Rd (w.alloc (.cells cs t)) k (.slice (some ⟨b, 0, none⟩) n c) n cs.toList := by
  subst hb
  refine ⟨by simpa using hn, _, _, rfl, fun e => (by cases e), fun ad e j u hu => ?_⟩
  cases e
  rw [Addr.add_lit, Nat.zero_add, blk_cell (heap_alloc_new' w _)]
  simpa using hu
/-- The slice's block is the one that it was, or new. -/
def Mv (w : World) (v v' : Value) : Prop := ∀ g, v'.ownBlock = some g → v.ownBlock = some g ∨ w.heap.size ≤ g
theorem Mv.refl (w : World) (v : Value) : Mv w v v := fun _ h => .inl h
theorem Mv.trans {w w' : World} {a b c : Value} (h : Mv w a b) (h' : Mv w' b c) (hs : w.heap.size ≤ w'.heap.size) : Mv w a c := fun g hg => (h' g hg).elim (fun e => h g e) (fun e => .inr (by omega))
theorem Mv.of {w : World} {v v' : Value} (h : v'.ownBlock = v.ownBlock ∨ v'.ownBlock = some w.heap.size) : Mv w v v' := fun g hg => by
  rcases h with h | h
  · exact .inl (h ▸ hg)
  · rw [h] at hg; cases hg; exact .inr (Nat.le_refl _)
theorem Mv.trans' {w w1 w2 : World} {a b c : Value} (h : Mv w1 a b) (h1 : w.heap.size ≤ w1.heap.size) (h' : Mv w2 b c) (hs : w1.heap.size ≤ w2.heap.size) : Mv w a c := fun g hg => (h' g hg).elim (fun e => (h g e).imp id (fun _ => by omega)) (fun e => .inr (by omega))
theorem Mv.of' {w : World} {v v' : Value} {b : Nat} (h : v'.ownBlock = v.ownBlock ∨ v'.ownBlock = some b) (hb : w.heap.size ≤ b) : Mv w v v' := fun g hg => by
  rcases h with h | h
  · exact .inl (h ▸ hg)
  · rw [h] at hg; cases hg; exact .inr hb
abbrev ftp (c : Nat) (sv : Value) : Nat → Prop := fun b => b = c ∨ sv.ownBlock = some b
theorem own_free {w : World} {B e k : Nat} {g n cap : Nat} {xs : List Value} (h : w.ownsRow B e k (.slice (some ⟨g, 0, none⟩) n cap) n xs) (i : Nat) : w.frozen? ⟨g, i, none⟩ = false := by
  rcases h.2 with ⟨h0, _⟩ | ⟨g', cap', cur, h0, _, hg, _⟩
  · simp at h0
  · simp at h0; obtain ⟨rfl, _⟩ := h0; exact blk_free hg i

theorem own_drew {w : World} {B e k : Nat} {v : Value} {n : Nat} {xs : List Value} (h : w.ownsRow B e k v n xs) : w.drew.ownsRow B e k v n xs := h
theorem Rd.drew {w : World} {k : Nat} {v : Value} {n : Nat} {xs : List Value} (h : Rd w k v n xs) : Rd w.drew k v n xs := h
theorem Rd.fr {w w' : World} {S : Nat → Prop} {k : Nat} {v : Value} {n : Nat} {xs : List Value} (h : Rd w k v n xs) (hf : Fr S w w') (hn : ∀ g, v.ownBlock = some g → ¬ S g) : Rd w' k v n xs := by
  obtain ⟨h1, a, c, rfl, h2, h3⟩ := h
  refine ⟨h1, a, c, rfl, h2, fun ad e j u hu => ?_⟩
  have hc := h3 ad e j u hu
  subst e
  have hb : (ad.add j).block = ad.block := by unfold Addr.add; split <;> rfl
  rw [hf.cell (World.block_lt_of_cell? w _ hc) (by rw [hb]; exact hn _ rfl)]
  exact hc

/-! ### Lists of elements as lists of cells -/

theorem flat_len {α : Type} (enc : α → List Value) (k : Nat) (hk : ∀ x, (enc x).length = k) (l : List α) : (l.flatMap enc).length = l.length * k := by
  induction l with
  | nil => simp
  | cons x l ih => simp [hk, ih, Nat.add_mul]; omega

theorem flat_get {α : Type} (enc : α → List Value) (k : Nat) (hk : ∀ x, (enc x).length = k) (l : List α) (i j : Nat) (hi : i < l.length) (hj : j < k) : (l.flatMap enc)[i * k + j]? = (enc l[i])[j]? := by
  induction l generalizing i with
  | nil => simp at hi
  | cons x l ih =>
    cases i with
    | zero => simp [List.flatMap_cons]; rw [List.getElem?_append_left (by rw [hk]; exact hj)]
    | succ i =>
      rw [List.flatMap_cons, List.getElem?_append_right (by rw [hk, Nat.add_mul]; omega), hk, show (i + 1) * k + j - k = i * k + j by rw [Nat.add_mul]; omega]
      exact ih i (by simpa using hi)

theorem flat_take {α : Type} (enc : α → List Value) (k : Nat) (hk : ∀ x, (enc x).length = k) (l : List α) (i : Nat) : (l.flatMap enc).take (i * k) = (l.take i).flatMap enc := by
  induction l generalizing i with
  | nil => simp
  | cons x l ih =>
    cases i with
    | zero => simp
    | succ i =>
      rw [List.flatMap_cons, List.take_succ_cons, List.flatMap_cons, List.take_append, hk, show (i + 1) * k - k = i * k by rw [Nat.add_mul]; omega, ih, List.take_of_length_le (by rw [hk, Nat.add_mul]; omega)]

theorem flat_drop {α : Type} (enc : α → List Value) (k : Nat) (hk : ∀ x, (enc x).length = k) (l : List α) (i : Nat) : (l.flatMap enc).drop (i * k) = (l.drop i).flatMap enc := by
  induction l generalizing i with
  | nil => simp
  | cons x l ih =>
    cases i with
    | zero => simp
    | succ i =>
      rw [List.flatMap_cons, List.drop_succ_cons, List.drop_append, hk, show (i + 1) * k - k = i * k by rw [Nat.add_mul]; omega, ih, List.drop_of_length_le (by rw [hk, Nat.add_mul]; omega), List.nil_append]

/-- The slice v owns a row that holds the elements l (of type e, k cells each). -/
def Own {α : Type} (enc : α → List Value) (e k B : Nat) (w : World) (v : Value) (l : List α) : Prop := w.ownsRow B e k v l.length (l.flatMap enc)

theorem Own.cell {α : Type} {enc : α → List Value} {e k B : Nat} {w : World} {l : List α} {g n cap : Nat} (h : Own enc e k B w (.slice (some ⟨g, 0, none⟩) n cap) l) (hk : ∀ x, (enc x).length = k) (i j : Nat) (hi : i < l.length) (hj : j < k) : w.cell? ⟨g, i * k + j, none⟩ = (enc l[i])[j]? := by
  have h0 : n = l.length := by
    rcases h.2 with ⟨h0, _⟩ | ⟨g', cap', cur, h0, _⟩
    · simp at h0
    · simp at h0; exact h0.2.1
  subst h0
  have := World.ownsRow.cellAt (w := w) (base := B) (e := e) (size := k) (g := g) (n := l.length) (cap := cap) (xs := l.flatMap enc) h (i * k + j) (by
    have : i * k + k ≤ l.length * k := by rw [← Nat.succ_mul]; exact Nat.mul_le_mul_right _ hi
    omega)
  rw [this, flat_get enc k hk l i j hi hj]

theorem Own.cell' {α : Type} {enc : α → List Value} {e k B : Nat} {w w' : World} {l : List α} {g n cap : Nat} (h : Own enc e k B w (.slice (some ⟨g, 0, none⟩) n cap) l) (hk : ∀ x, (enc x).length = k) (hb : Below w.heap.size w w') (i j : Nat) (hi : i < l.length) (hj : j < k) : w'.cell? ⟨g, i * k + j, none⟩ = (enc l[i])[j]? := by
  have hc := h.cell hk i j hi hj
  rw [← hc]
  exact hb.cell (own_lt h (g := g) rfl)

theorem Own.snoc {α : Type} {enc : α → List Value} {e k B : Nat} {w : World} {v : Value} {l : List α} {x : α} {xs : List Value} (h : w.ownsRow B e k v (l.length + 1) (l.flatMap enc ++ xs)) (hx : xs = enc x) : Own enc e k B w v (l ++ [x]) := by
  unfold Own
  rw [List.length_append, List.length_singleton, List.flatMap_append, List.flatMap_singleton, ← hx]
  exact h

theorem Own.nil {α : Type} (enc : α → List Value) (e k B : Nat) (w : World) : Own enc e k B w (.slice none 0 0) ([] : List α) := World.ownsRow_nil w B e k
theorem Own.fr {α : Type} {enc : α → List Value} {e k B : Nat} {w w' : World} {v : Value} {l : List α} {S : Nat → Prop} (h : Own enc e k B w v l) (hf : Fr S w w') (hn : ∀ g, v.ownBlock = some g → ¬ S g) : Own enc e k B w' v l := own_fr h hf hn
theorem Own.rd {α : Type} {enc : α → List Value} {e k B : Nat} {w : World} {v : Value} {l : List α} (h : Own enc e k B w v l) : Rd w k v l.length (l.flatMap enc) := Rd.of_own h

theorem Rd.len {w : World} {k : Nat} {v : Value} {n : Nat} {xs : List Value} (h : Rd w k v n xs) : ∃ a c, v = .slice a n c := by
  obtain ⟨_, a, c, rfl, _⟩ := h
  exact ⟨a, c, rfl⟩
/-- A slice with elements that is read: where it lies. -/
theorem Rd.some {w : World} {k : Nat} {v : Value} {n : Nat} {xs : List Value} (h : Rd w k v n xs) (hn : 0 < n) (hk : 0 < k) :
    ∃ b o c, v = .slice (some ⟨b, o, none⟩) n c ∧ b < w.heap.size ∧ ∀ j u, xs[j]? = Option.some u → w.cell? ⟨b, o + j, none⟩ = Option.some u := by
  obtain ⟨hl, a, c, rfl, h0, h1⟩ := h
  cases a with
  | none => have := (h0 rfl).1; omega
  | some ad =>
    have hlen : 0 < xs.length := by rw [hl]; exact Nat.mul_pos hn hk
    have hc := h1 ad rfl 0 xs[0] (List.getElem?_eq_getElem hlen)
    obtain ⟨b, o, s⟩ := ad
    rw [show (⟨b, o, s⟩ : Addr).add 0 = ⟨b, o, s⟩ from by simp [Addr.add]] at hc
    have hs : s = none := by
      cases s with
      | none => rfl
      | some q =>
        unfold World.cell? at hc
        split at hc <;> simp at hc
    subst hs
    refine ⟨b, o, c, rfl, World.block_lt_of_cell? w _ hc, fun j u hu => ?_⟩
    have := h1 _ rfl j u hu
    rwa [Addr.add_lit] at this
/-- The cells of the i-th element. -/
theorem Rd.el {α : Type} {enc : α → List Value} {k : Nat} (hk : ∀ x, (enc x).length = k) {w : World} {l : List α} {b o : Nat} (h : ∀ j u, (l.flatMap enc)[j]? = Option.some u → w.cell? ⟨b, o + j, none⟩ = Option.some u) {i j : Nat} (hi : i < l.length) (hj : j < k) {u : Value} (hu : (enc l[i])[j]? = Option.some u) :
    w.cell? ⟨b, o + (i * k + j), none⟩ = Option.some u := h _ _ (by rw [flat_get enc k hk l i j hi hj]; exact hu)

/-! ### append -/
section
variable {P : Program} {w : World} {a : Act} {o : Oper} {Q : Exit → Act → World → Prop}

theorem zeroCells_size (z : Array Value) (n : Nat) : (Builtin.zeroCells z n).size = n * z.size := by simp [Builtin.zeroCells]

/-- A new row of e. -/
theorem own_new (w : World) (B e k : Nat) (hB : B ≤ w.heap.size) (xs : List Value) (rest : Array Value) (n cap : Nat) (hl : xs.length = n * k) (hc : n ≤ cap) (hm : cap ≤ maxLen) (hs : xs.length + rest.size = cap * k) :
    (w.alloc (.cells (xs.toArray ++ rest) e)).ownsRow B e k (.slice (some ⟨w.heap.size, 0, none⟩) n cap) n xs :=
  ⟨hl, .inr ⟨w.heap.size, cap, _, rfl, hB, heap_alloc_new' w _, hc, hm, by simp [hs], by simp [← hl]⟩⟩

/-- append, run: to a slice that owns its row (nil too), of whatever slice that is read. -/
theorem run_app (t ty e : TypeId) (i : TypeInfo) (z : Value) (k bytes : Nat) (ht : P.underlying t = some (.slice e)) (hi : P.info? e = some i) (hz : i.zero = some z)
    (hk : i.size = k) (hby : i.bytes = bytes) (hzs : z.cells.size = k) (hk0 : 0 < k)
    {B : Nat} (hB : B ≤ w.heap.size) {v xv : Value} {n m : Nat} {xs news : List Value} (hown : w.ownsRow B e k v n xs) (hrd : Rd w k xv m news) (h1 : ∀ u ∈ news, u.oneCell' = true)
    (h63 : n + m ≤ maxLen) (hb : (n + m) * bytes ≤ 140737488355328) :
    ∃ v' w', (Builtin.append_ #[t, t] ty #[v, xv]).run P w = .ok v' w' ∧ w'.ownsRow B e k v' (n + m) (xs ++ news) ∧ Fr (fun b => v.ownBlock = some b) w w' ∧
      (v'.ownBlock = v.ownBlock ∨ v'.ownBlock = some w.heap.size) ∧ (v' = .slice none 0 0 ↔ v = .slice none 0 0 ∧ m = 0) ∧ (w'.heap.size ≤ w.heap.size + 1) := by
  subst hk
  subst hby
  have hsmall : n + m ≤ 9223372036854775807 := by simp only [maxLen] at h63; omega
  obtain ⟨hl, ad, c, rfl, hnone, hsome⟩ := hrd
  have hlen : (xs ++ news).length = (n + m) * i.size := by rw [List.length_append, hown.1, hl, Nat.add_mul]
  have grow : ∀ old, old < n + m → (w.drew.alloc (.cells ((xs ++ news).toArray ++ Builtin.zeroCells z.cells (grownCap w (n + m) old e - (n + m))) e)).ownsRow B e i.size
      (.slice (some ⟨w.heap.size, 0, none⟩) (n + m) (grownCap w (n + m) old e)) (n + m) (xs ++ news) := fun old ho => by
    have hge := grownCap_ge w (n + m) old e
    have hcm : grownCap w (n + m) old e ≤ maxLen := grownCap_le_maxLen w (n + m) old e h63
    exact own_new w.drew B e i.size hB _ _ _ _ hlen hge hcm (by rw [hlen, zeroCells_size, hzs, ← Nat.add_mul]; congr 1; omega)
  have frn : ∀ o, Fr (fun b => v.ownBlock = some b) w (w.drew.alloc o) := fun o => ((Fr.refl _ w).drew).alloc o
  rcases hown.2 with ⟨rfl, rfl⟩ | ⟨g, cap, cur, rfl, hBg, hg, hnc, hcm, hcs, htake⟩
  · have hx : xs = [] := List.eq_nil_of_length_eq_zero (by simpa using hown.1)
    subst hx
    by_cases hm : m = 0
    · subst hm
      have hn : news = [] := List.eq_nil_of_length_eq_zero (by simpa using hl)
      subst hn
      refine ⟨.slice none 0 0, w, ?_, World.ownsRow_nil w B e i.size, Fr.refl _ _, .inl rfl, by simp, by omega⟩
      cases ad with
      | none => obtain ⟨_, rfl⟩ := hnone rfl; simp [Builtin.append_, run_underlying ht, sizeOf, typeInfo, hi, Builtin.lenOf, run_firstCells_none]
      | some ad => simp [Builtin.append_, run_underlying ht, sizeOf, typeInfo, hi, Builtin.lenOf, Builtin.firstCells, loadCells, loadCellsFrom]
    · cases ad with
      | none => exact absurd (hnone rfl).1 hm
      | some ad =>
        have hr := run_append_nil (P := P) w t ty e i z ht hi hz ad m c news hl (hsome ad rfl) (by omega) (by omega) (by have hb' := hb; simp only [Nat.zero_add] at hb'; omega)
        have hgr := grow 0 (by omega)
        simp only [Nat.zero_add, List.nil_append] at hgr ⊢
        exact ⟨_, _, hr, hgr, frn _, .inr rfl, by simp [hm], by simp⟩
  · have hcur : n * i.size ≤ cur.size := by rw [hcs]; exact Nat.mul_le_mul_right _ hnc
    by_cases hroom : n + m ≤ cap
    · have hfit : n * i.size + news.length ≤ cur.size := by rw [hl, hcs, ← Nat.add_mul]; exact Nat.mul_le_mul_right _ hroom
      have hr : (Builtin.append_ #[t, t] ty #[.slice (some ⟨g, 0, none⟩) n cap, .slice ad m c]).run P w =
          .ok (.slice (some ⟨g, 0, none⟩) (n + m) cap) (w.setRow g (cur.toList.take (n * i.size) ++ news ++ cur.toList.drop (n * i.size + news.length)).toArray) := by
        cases ad with
        | some ad => exact run_append_room (P := P) w t ty e i ht hi g n cap cur hg ad m c news hl (hsome ad rfl) h1 hroom hfit
        | none =>
          obtain ⟨rfl, rfl⟩ := hnone rfl
          have hn : news = [] := List.eq_nil_of_length_eq_zero (by simpa using hl)
          subst hn
          have hst := run_storeCells_at P g (n * i.size) e [] 0 cur w hg (by simpa using hcur) (by simp)
          simp only [Nat.add_zero] at hst
          have hnc' : n ≤ cap := by omega
          simp [Builtin.append_, run_underlying ht, sizeOf, typeInfo, hi, Builtin.lenOf, hnc', run_firstCells_none, storeCells, setRow_self w g cur e (0, 0) hg]
      refine ⟨_, _, hr, ⟨hlen, .inr ⟨g, cap, _, rfl, hBg, setRow_heap w g cur _ e _ hg, hroom, hcm, ?_, ?_⟩⟩, Fr.setRow (S := fun b => (Value.slice (some ⟨g, 0, none⟩) n cap).ownBlock = some b) (Fr.refl _ w) (fun _ => rfl) _, .inl rfl, by simp, by simp⟩
      · simp only [List.size_toArray, List.length_append, List.length_take, List.length_drop, Array.length_toList]
        omega
      · rw [htake, ← hlen]
        exact List.take_left
    · have holds : ∀ j u, xs[j]? = some u → w.cell? ((⟨g, 0, none⟩ : Addr).add j) = some u := hown.cells (g := g) rfl
      cases ad with
      | none => exact absurd (hnone rfl).1 (by omega)
      | some ad =>
        have hr := run_append_grow (P := P) w t ty e i z ht hi hz ⟨g, 0, none⟩ n cap xs hown.1 holds ad m c news hl (hsome ad rfl) (by omega) (by omega) (growslice_fits (by omega) hb)
        have hgr := grow cap (by omega)
        exact ⟨_, _, hr, by simpa using hgr, by simpa using frn _, .inr rfl, by simp, by simp⟩

/-- append, as an operation. -/
theorem op_app {K : Act → World → Prop} (s x : Operand) (t : TypeId) (ho : o.op = .call { callee := .builtin .append, args := #[s, x], argTypes := #[t, t] })
    (e : TypeId) (i : TypeInfo) (z : Value) (k bytes : Nat) (ht : P.underlying t = some (.slice e)) (hi : P.info? e = some i) (hz : i.zero = some z)
    (hk : i.size = k) (hby : i.bytes = bytes) (hzs : z.cells.size = k) (hk0 : 0 < k)
    {B : Nat} (hB : B ≤ w.heap.size) {v xv : Value} {n m : Nat} {xs news : List Value} (hs : a.eval s = v) (hx : a.eval x = xv) (hown : w.ownsRow B e k v n xs) (hrd : Rd w k xv m news) (h1 : ∀ u ∈ news, u.oneCell' = true)
    (h63 : n + m ≤ maxLen) (hb : (n + m) * bytes ≤ 140737488355328)
    (h : ∀ v' w', w'.ownsRow B e k v' (n + m) (xs ++ news) → Fr (fun b => v.ownBlock = some b) w w' → (v'.ownBlock = v.ownBlock ∨ v'.ownBlock = some w.heap.size) →
      (v' = .slice none 0 0 ↔ v = .slice none 0 0 ∧ m = 0) → w'.heap.size ≤ w.heap.size + 1 → K (a.put o.dst v') w') : o.wp P a w K Q := by
  obtain ⟨v', w', hr, h2, h3, h4, h5, h6⟩ := run_app (P := P) (w := w) t o.type e i z k bytes ht hi hz hk hby hzs hk0 hB hown hrd h1 h63 hb
  unfold Oper.wp execOp
  simp only [ho, resolve, invoke, builtin, Sem.run_bind, Sem.run_pure, Result.andThen_ok, List.map_toArray, List.map_cons, List.map_nil, hs, hx, hr]
  exact h v' w' h2 h3 h4 h5 h6

/-- append where there is room: the value is known. -/
theorem op_app_room {K : Act → World → Prop} (s x : Operand) (t : TypeId) (ho : o.op = .call { callee := .builtin .append, args := #[s, x], argTypes := #[t, t] })
    (e : TypeId) (i : TypeInfo) (z : Value) (k bytes : Nat) (ht : P.underlying t = some (.slice e)) (hi : P.info? e = some i) (hz : i.zero = some z)
    (hk : i.size = k) (hby : i.bytes = bytes) (hzs : z.cells.size = k) (hk0 : 0 < k)
    {B : Nat} {g cap : Nat} {xv : Value} {n m : Nat} {xs news : List Value} (hs : a.eval s = .slice (some ⟨g, 0, none⟩) n cap) (hx : a.eval x = xv)
    (hown : w.ownsRow B e k (.slice (some ⟨g, 0, none⟩) n cap) n xs) (hrd : Rd w k xv m news) (h1 : ∀ u ∈ news, u.oneCell' = true) (hroom : n + m ≤ cap) (hb : (n + m) * bytes ≤ 140737488355328)
    (h : ∀ w', w'.ownsRow B e k (.slice (some ⟨g, 0, none⟩) (n + m) cap) (n + m) (xs ++ news) → Fr (fun b => b = g) w w' → w'.heap.size = w.heap.size → K (a.put o.dst (.slice (some ⟨g, 0, none⟩) (n + m) cap)) w') : o.wp P a w K Q := by
  subst hk
  have hc0 : cap ≤ maxLen := by
    rcases hown.2 with ⟨h0, _⟩ | ⟨g', cap', cur, h0, _, _, _, h1, _⟩
    · simp at h0
    · simp at h0; omega
  obtain ⟨hl, ad, c, rfl, hnone, hsome⟩ := hrd
  rcases hown.2 with ⟨h0, _⟩ | ⟨g', cap', cur, h0, hBg, hg, hnc, hcm, hcs, htake⟩
  · simp at h0
  simp at h0
  obtain ⟨rfl, rfl⟩ := h0
  have hlen : (xs ++ news).length = (n + m) * i.size := by rw [List.length_append, hown.1, hl, Nat.add_mul]
  have hcur : n * i.size ≤ cur.size := by rw [hcs]; exact Nat.mul_le_mul_right _ hnc
  have hfit : n * i.size + news.length ≤ cur.size := by rw [hl, hcs, ← Nat.add_mul]; exact Nat.mul_le_mul_right _ hroom
  have hr : (Builtin.append_ #[t, t] o.type #[.slice (some ⟨g, 0, none⟩) n cap, .slice ad m c]).run P w =
      .ok (.slice (some ⟨g, 0, none⟩) (n + m) cap) (w.setRow g (cur.toList.take (n * i.size) ++ news ++ cur.toList.drop (n * i.size + news.length)).toArray) := by
    cases ad with
    | some ad => exact run_append_room (P := P) w t o.type e i ht hi g n cap cur hg ad m c news hl (hsome ad rfl) h1 hroom hfit
    | none =>
      obtain ⟨rfl, rfl⟩ := hnone rfl
      have hn : news = [] := List.eq_nil_of_length_eq_zero (by simpa using hl)
      subst hn
      have hnc' : n ≤ cap := by omega
      simp [Builtin.append_, run_underlying ht, sizeOf, typeInfo, hi, Builtin.lenOf, hnc', run_firstCells_none, storeCells, setRow_self w g cur e (0, 0) hg]
  unfold Oper.wp execOp
  simp only [ho, resolve, invoke, builtin, Sem.run_bind, Sem.run_pure, Result.andThen_ok, List.map_toArray, List.map_cons, List.map_nil, hs, hx, hr]
  refine h _ ⟨hlen, .inr ⟨g, cap, _, rfl, hBg, setRow_heap w g cur _ e _ hg, hroom, hcm, ?_, ?_⟩⟩ (Fr.setRow (S := fun b => b = g) (Fr.refl _ w) (fun _ => rfl) _) (by simp)
  · simp only [List.size_toArray, List.length_append, List.length_take, List.length_drop, Array.length_toList]
    omega
  · rw [htake, ← hlen]
    exact List.take_left

theorem wpList_app_room {ops : Array Oper} {rest : List Oper} (hgd : o.guard = none) (s x : Operand) (t : TypeId) (ho : o.op = .call { callee := .builtin .append, args := #[s, x], argTypes := #[t, t] })
    (e : TypeId) (i : TypeInfo) (z : Value) (k bytes : Nat) (ht : P.underlying t = some (.slice e)) (hi : P.info? e = some i) (hz : i.zero = some z)
    (hk : i.size = k) (hby : i.bytes = bytes) (hzs : z.cells.size = k) (hk0 : 0 < k)
    {B : Nat} {g cap : Nat} {xv : Value} {n m : Nat} {xs news : List Value} (hs : a.eval s = .slice (some ⟨g, 0, none⟩) n cap) (hx : a.eval x = xv)
    (hown : w.ownsRow B e k (.slice (some ⟨g, 0, none⟩) n cap) n xs) (hrd : Rd w k xv m news) (h1 : ∀ u ∈ news, u.oneCell' = true) (hroom : n + m ≤ cap) (hb : (n + m) * bytes ≤ 140737488355328)
    (h : ∀ w', w'.ownsRow B e k (.slice (some ⟨g, 0, none⟩) (n + m) cap) (n + m) (xs ++ news) → Fr (fun b => b = g) w w' → w'.heap.size = w.heap.size → wpList P ops Q rest (a.put o.dst (.slice (some ⟨g, 0, none⟩) (n + m) cap)) w') :
    wpList P ops Q (o :: rest) a w :=
  wpList_plain hgd fun _ hK => op_app_room s x t ho e i z k bytes ht hi hz hk hby hzs hk0 hs hx hown hrd h1 hroom hb (fun w' h1 h2 h3 => hK _ _ (h w' h1 h2 h3))
theorem wpList_app {ops : Array Oper} {rest : List Oper} (hgd : o.guard = none) (s x : Operand) (t : TypeId) (ho : o.op = .call { callee := .builtin .append, args := #[s, x], argTypes := #[t, t] })
    (e : TypeId) (i : TypeInfo) (z : Value) (k bytes : Nat) (ht : P.underlying t = some (.slice e)) (hi : P.info? e = some i) (hz : i.zero = some z)
    (hk : i.size = k) (hby : i.bytes = bytes) (hzs : z.cells.size = k) (hk0 : 0 < k)
    {B : Nat} (hB : B ≤ w.heap.size) {v xv : Value} {n m : Nat} {xs news : List Value} (hs : a.eval s = v) (hx : a.eval x = xv) (hown : w.ownsRow B e k v n xs) (hrd : Rd w k xv m news) (h1 : ∀ u ∈ news, u.oneCell' = true)
    (h63 : n + m ≤ maxLen) (hb : (n + m) * bytes ≤ 140737488355328)
    (h : ∀ v' w', w'.ownsRow B e k v' (n + m) (xs ++ news) → Fr (fun b => v.ownBlock = some b) w w' → (v'.ownBlock = v.ownBlock ∨ v'.ownBlock = some w.heap.size) →
      (v' = .slice none 0 0 ↔ v = .slice none 0 0 ∧ m = 0) → w'.heap.size ≤ w.heap.size + 1 → wpList P ops Q rest (a.put o.dst v') w') : wpList P ops Q (o :: rest) a w :=
  wpList_plain hgd fun _ hK => op_app s x t ho e i z k bytes ht hi hz hk hby hzs hk0 hB hs hx hown hrd h1 h63 hb (fun v' w' h1 h2 h3 h4 h5 => hK _ _ (h v' w' h1 h2 h3 h4 h5))

theorem step_app_room {ops : Array Oper} {E : Prop} {K : Act → World → Prop} (hgd : o.guard = none) (s x : Operand) (t : TypeId) (ho : o.op = .call { callee := .builtin .append, args := #[s, x], argTypes := #[t, t] })
    (e : TypeId) (i : TypeInfo) (z : Value) (k bytes : Nat) (ht : P.underlying t = some (.slice e)) (hi : P.info? e = some i) (hz : i.zero = some z)
    (hk : i.size = k) (hby : i.bytes = bytes) (hzs : z.cells.size = k) (hk0 : 0 < k)
    {B : Nat} {g cap : Nat} {xv : Value} {n m : Nat} {xs news : List Value} (hs : a.eval s = .slice (some ⟨g, 0, none⟩) n cap) (hx : a.eval x = xv)
    (hown : w.ownsRow B e k (.slice (some ⟨g, 0, none⟩) n cap) n xs) (hrd : Rd w k xv m news) (h1 : ∀ u ∈ news, u.oneCell' = true) (hroom : n + m ≤ cap) (hb : (n + m) * bytes ≤ 140737488355328)
    (h : ∀ w', w'.ownsRow B e k (.slice (some ⟨g, 0, none⟩) (n + m) cap) (n + m) (xs ++ news) → Fr (fun b => b = g) w w' → w'.heap.size = w.heap.size → K (a.put o.dst (.slice (some ⟨g, 0, none⟩) (n + m) cap)) w') :
    if Region.wanted o (yielded ops a.tmps) = true then Oper.wp P o a w K Q else E := by
  rw [if_pos (by simp [Region.wanted, hgd])]
  exact op_app_room s x t ho e i z k bytes ht hi hz hk hby hzs hk0 hs hx hown hrd h1 hroom hb h

/-- clear(s[..]) behind the first n elements of an owned slice: these stay. -/
theorem run_clear (t ty e : TypeId) (z : Value) (k : Nat) (ht : P.underlying t = some (.slice e)) (hv : ∀ w, (zeroValue e).run P w = .ok z w) (hzs : z.cells.size = k) (hz1 : ∀ u ∈ z.cells.toList, u.oneCell' = true)
    {B g n m c cap : Nat} {xs : List Value} (hown : w.ownsRow B e k (.slice (some ⟨g, 0, none⟩) n cap) n xs) (hm : 0 < m) (hfit : n + m ≤ cap) :
    ∃ w', (Builtin.clear_ #[t] ty #[.slice (some ⟨g, n * k, none⟩) m c]).run P w = .ok (.tuple #[]) w' ∧ w'.ownsRow B e k (.slice (some ⟨g, 0, none⟩) n cap) n xs ∧ Fr (fun b => b = g) w w' ∧ w'.heap.size = w.heap.size := by
  subst hzs
  rcases hown.2 with ⟨h0, _⟩ | ⟨g', cap', cur, h0, hBg, hg, hnc, hcm, hcs, htake⟩
  · simp at h0
  simp at h0
  obtain ⟨rfl, rfl⟩ := h0
  have hzl : (Builtin.zeroCells z.cells m).toList.length = m * z.cells.size := by rw [Array.length_toList, zeroCells_size]
  have hzo : ∀ u ∈ (Builtin.zeroCells z.cells m).toList, u.oneCell' = true := by
    intro u hu
    rw [Array.mem_toList_iff] at hu
    simp only [Builtin.zeroCells, Array.mem_map] at hu
    obtain ⟨q, hq, rfl⟩ := hu
    by_cases hz0 : z.cells.size = 0
    · simp [hz0] at hq
    · have hlt : q % z.cells.size < z.cells.size := Nat.mod_lt _ (by omega)
      rw [getElem!_pos z.cells _ hlt]
      exact hz1 _ (by simp)
  have hfit' : n * z.cells.size + m * z.cells.size ≤ cur.size := by rw [hcs, ← Nat.add_mul]; exact Nat.mul_le_mul_right _ hfit
  have hst := run_storeCells_at P g (n * z.cells.size) e (Builtin.zeroCells z.cells m).toList 0 cur w hg (by rw [hzl]; omega) hzo
  obtain ⟨m, rfl⟩ : ∃ q, m = q + 1 := ⟨m - 1, by omega⟩
  generalize hnew : (cur.toList.take (n * z.cells.size + 0) ++ (Builtin.zeroCells z.cells (m + 1)).toList ++ cur.toList.drop (n * z.cells.size + 0 + (Builtin.zeroCells z.cells (m + 1)).toList.length)).toArray = new at hst
  refine ⟨w.setRow g new, ?_, ?_, Fr.setRow (S := fun b => b = g) (Fr.refl _ w) (fun _ => rfl) _, setRow_size _ _ _⟩
  · simp [Builtin.clear_, run_underlying ht, hv, hst]
  · refine ⟨hown.1, .inr ⟨g, cap, _, rfl, hBg, setRow_heap w g cur _ e _ hg, hnc, hcm, ?_, ?_⟩⟩
    all_goals subst hnew
    · simp [zeroCells_size]
      omega
    · simp only [Nat.add_zero]
      rw [← htake, List.append_assoc, List.take_append_of_le_length (by simp; omega), List.take_take, Nat.min_self]
end
end Go.Proofs.Yteihpaikdpdglaa
