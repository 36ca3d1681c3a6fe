/-
  Layer 12: TiesPlays: the table and the law's own list in memory.
-/
import Derived.Test.YtjjfminpaoooaaaL12J
import Derived.Test.YtjjfminpaoooaaaR12R
import Derived.Deep.LoopGhost
import Derived.Deep.DeepCutAuto
import Derived.Deep.CutBlock
namespace Go.Proofs.Ytjjfminpaoooaaa
open Go.RowKit
set_option linter.unusedVariables false


/-- A table of l, the law's own list mv of lm, and a deed's block. -/
structure PlT (w0 w : World) (t : Nat) (mx : Int) (mv : Value) (l lm : List ItI) (db : Nat) (d : Dd) : Prop where
  ex : ∃ F, TbAI w F t mx l ∧ ∀ x, F x → w0.heap.size ≤ x
  bel : Below w0.heap.size w0 w
  own : Own enTI 48 9 w0.heap.size w mv lm
  dz : w.heap[db]? = some (.cells (encD d).toArray 46 (0, 0))
theorem TbAI.nt' {w : World} {F : Nat → Prop} {c : Nat} {most : Int} {l : List ItI} (h : TbAI w F c most l) : ∀ b cs t fr, w.heap[b]? = some (.cells cs t fr) → t ≠ 68 → t ≠ 70 → ¬ F b := by
  intro b cs t fr hb h1 h2 hFb
  obtain ⟨sv, hT, hFF⟩ := h
  rcases (hFF b).1 hFb with rfl | e
  · rw [hT.blk] at hb; cases hb; exact h1 rfl
  · exact own_ne hT.own hb h2 e
section
variable {w0 w w' : World} {t : Nat} {mx : Int} {mv : Value} {l lm : List ItI} {db : Nat} {d : Dd}
theorem PlT.below (h : PlT w0 w t mx mv l lm db d) (hb : Below w.heap.size w w') : PlT w0 w' t mx mv l lm db d := by
  obtain ⟨F, h1, h2⟩ := h.ex
  exact ⟨⟨F, h1.below hb, h2⟩, h.bel.trans (hb.mono h.bel.size), h.own.keep (fun g hg => hb.block g (own_lt h.own hg)), (hb.block db (lt_of_block h.dz)).trans h.dz⟩
theorem PlT.toX (h : PlT w0 w t mx mv l lm db d) : TbXI w0 w t mx l ((db, .cells (encD d).toArray 46 (0, 0)) :: rowOf w mv) := by
  obtain ⟨F, h1, h2⟩ := h.ex
  refine ⟨F, h1, h2, h.bel, Kept.cons (Kept.row (fun g hg => ?_)) h.dz (h1.nt' _ _ _ _ h.dz (by decide) (by decide))⟩
  obtain ⟨cur, hc⟩ := own_type h.own hg
  exact h1.nt' _ _ _ _ hc (by decide) (by decide)
theorem PlT.ofX (h : PlT w0 w t mx mv l lm db d) {l' : List ItI} (X : TbXI w0 w' t mx l' ((db, .cells (encD d).toArray 46 (0, 0)) :: rowOf w mv)) : PlT w0 w' t mx mv l' lm db d := by
  obtain ⟨F, h1, h2, h3, h4⟩ := X.ex
  exact ⟨⟨F, h1, h2⟩, h3, rowOf_rd h.own (fun q hq => (h4 q (List.mem_cons_of_mem _ hq)).1), (h4 _ (List.mem_cons_self ..)).1⟩
theorem PlT.turnM (h : PlT w0 w t mx mv l lm db d) (f : Fr (fun b => mv.ownBlock = some b) w w') {mv' : Value} {lm' : List ItI} (o : Own enTI 48 9 w0.heap.size w' mv' lm') : PlT w0 w' t mx mv' l lm' db d := by
  obtain ⟨F, h1, h2⟩ := h.ex
  refine ⟨⟨F, h1.keep (fun x hx => f.blk x (h1.lt x hx) (fun e => ?_)), h2⟩, h.bel.trans (f.below' h.bel.size (fun k hk => (h.own.lt k hk).1)), o, f.heap h.dz (fun e => own_ne h.own h.dz (by decide) e)⟩
  obtain ⟨cur, hc⟩ := own_type h.own e
  exact h1.nt' _ _ _ _ hc (by decide) (by decide) hx
theorem PlT.newM (h : PlT w0 w t mx mv l lm db d) (hb : Below w.heap.size w w') {mv' : Value} {lm' : List ItI} (o : Own enTI 48 9 w0.heap.size w' mv' lm') : PlT w0 w' t mx mv' l lm' db d :=
  h.turnM (Fr.of_below hb _) o
theorem PlT.deed (h : PlT w0 w t mx mv l lm db d) {db' : Nat} {d' : Dd} (hd : w.heap[db']? = some (.cells (encD d').toArray 46 (0, 0))) : PlT w0 w t mx mv l lm db' d' := ⟨h.ex, h.bel, h.own, hd⟩
theorem plPut (h : PlT w0 w t mx mv l lm db d) (k : Ky) (hk : k.ok) (x : Int) {E : Int} {l' : List ItI} (hE : putEI l mx k = E) (hl : putLI l mx k x = l') : Calls Try.prog 18 #[.pointer (some ⟨t, 0, none⟩), kyV k, .int .i64 x] w fun e w' => e = .returned (.int .i64 E) ∧ PlT w0 w' t mx mv l' lm db d :=
  (xputI h.toX k hk x hE hl).mono fun e w' ⟨he, X⟩ => ⟨he, h.ofX X⟩
theorem plGet (h : PlT w0 w t mx mv l lm db d) (k : Ky) (hk : k.ok) {V : Value} {z : Bool} (hV : getVI l k = V) (hz : fnd l k = z) : Calls Try.prog 19 #[.pointer (some ⟨t, 0, none⟩), kyV k] w fun e w' => e = .returned (.tuple #[V, .bool z]) ∧ PlT w0 w' t mx mv l lm db d :=
  (xgetI h.toX k hk hV hz).mono fun e w' ⟨he, X⟩ => ⟨he, h.ofX X⟩
theorem plDel (h : PlT w0 w t mx mv l lm db d) (k : Ky) (hk : k.ok) {l' : List ItI} {z : Bool} (hl : delLI l k = l') (hz : fnd l k = z) : Calls Try.prog 20 #[.pointer (some ⟨t, 0, none⟩), kyV k] w fun e w' => e = .returned (.bool z) ∧ PlT w0 w' t mx mv l' lm db d :=
  (xdelI h.toX k hk hl hz).mono fun e w' ⟨he, X⟩ => ⟨he, h.ofX X⟩
theorem plLen (h : PlT w0 w t mx mv l lm db d) : Calls Try.prog 21 #[.pointer (some ⟨t, 0, none⟩)] w fun e w' => e = .returned (.int .i64 l.length) ∧ w' = w := xlenI h.toX
theorem plWalk (h : PlT w0 w t mx mv l lm db d) (n : Int) (z : List ItI) (hz : firstN n l = z) : Calls Try.prog 23 #[.pointer (some ⟨t, 0, none⟩), .int .i64 n] w fun e w' => ∃ a k, e = .returned (.slice a z.length k) ∧ RdT w' (.slice a z.length k) z ∧ Below w.heap.size w w' := by
  obtain ⟨F, ⟨sv, hT, _⟩, _⟩ := h.ex
  refine (walkT n t mx sv l w hT).mono ?_
  rintro e w' ⟨ov, rfl, o, b⟩
  rw [hz] at o
  obtain ⟨a, k, hv, _⟩ := own_shape o
  subst hv
  exact ⟨a, k, rfl, o.rd, b⟩
theorem PlT.dc (h : PlT w0 w t mx mv l lm db d) : w.cell? ⟨db, 0, none⟩ = some (.int .i64 d.dw) ∧ w.cell? ⟨db, 1, none⟩ = some (.int .i64 d.x) ∧ w.cell? ⟨db, 2, none⟩ = some (.int .u8 d.k.f0) ∧ w.cell? ⟨db, 3, none⟩ = some (.int .u8 d.k.f1) ∧ w.cell? ⟨db, 4, none⟩ = some (.int .u8 d.k.f2) ∧ w.cell? ⟨db, 5, none⟩ = some (.int .u8 d.k.f3) ∧ w.cell? ⟨db, 6, none⟩ = some (.int .u8 d.k.f4) ∧ w.cell? ⟨db, 7, none⟩ = some (.int .u8 d.k.f5) ∧ w.cell? ⟨db, 8, none⟩ = some (.int .i64 d.k.near) ∧ w.cell? ⟨db, 9, none⟩ = some (.int .i64 d.k.there) :=
  ⟨blk_cell h.dz 0, blk_cell h.dz 1, blk_cell h.dz 2, blk_cell h.dz 3, blk_cell h.dz 4, blk_cell h.dz 5, blk_cell h.dz 6, blk_cell h.dz 7, blk_cell h.dz 8, blk_cell h.dz 9⟩
theorem PlT.srt (h : PlT w0 w t mx mv l lm db d) : Srt l := by obtain ⟨F, ⟨sv, hT, _⟩, _⟩ := h.ex; exact hT.srt
theorem PlT.le (h : PlT w0 w t mx mv l lm db d) : (l.length : Int) ≤ mx := by obtain ⟨F, ⟨sv, hT, _⟩, _⟩ := h.ex; exact hT.le
end
/-- What 'at' is when the first j have been looked at. -/
def atJ (l : List ItI) (k : Ky) (j : Nat) : Int := if fnd l k = true ∧ pos l k < j then (pos l k : Int) else -1
theorem atJ_lt {l : List ItI} {k : Ky} (hs : Srt l) {j : Nat} (hj : j < l.length) (h : ordK l[j].1 k < 0) : atJ l k (j + 1) = atJ l k j ∧ min (j + 1) (pos l k) = j + 1 := by
  obtain ⟨h1, h2⟩ := pos_lt (k := k) hs
  have hp : j < pos l k := by
    by_cases e : j < pos l k
    · exact e
    · have := h2 j hj (by omega); omega
  unfold atJ
  refine ⟨?_, by omega⟩
  rw [if_neg (fun e => by omega), if_neg (fun e => by omega)]
theorem atJ_eq {l : List ItI} {k : Ky} (hs : Srt l) {j : Nat} (hj : j < l.length) (h : ordK l[j].1 k = 0) : atJ l k (j + 1) = j ∧ min (j + 1) (pos l k) = min j (pos l k) := by
  obtain ⟨h1, h2⟩ := pos_lt (k := k) hs
  have hp : pos l k = j := by
    by_cases e : j < pos l k
    · have := h1 j hj e; omega
    · by_cases e2 : pos l k < j
      · have h3 := hs (pos l k) j (by omega) hj e2
        have h4 := h2 (pos l k) (by omega) (Nat.le_refl _)
        rw [ordK_eq h] at h3
        omega
      · omega
  have hf : fnd l k = true := by
    rw [fnd_of (by omega)]
    simp only [hp]
    exact decide_eq_true h
  unfold atJ
  refine ⟨?_, by omega⟩
  rw [if_pos ⟨hf, by omega⟩, hp]
theorem atJ_gt {l : List ItI} {k : Ky} (hs : Srt l) {j : Nat} (hj : j < l.length) (h : 0 < ordK l[j].1 k) : atJ l k (j + 1) = atJ l k j ∧ min (j + 1) (pos l k) = min j (pos l k) := by
  obtain ⟨h1, h2⟩ := pos_lt (k := k) hs
  have hp : pos l k ≤ j := by
    by_cases e : j < pos l k
    · have := h1 j hj e; omega
    · omega
  refine ⟨?_, by omega⟩
  unfold atJ
  by_cases hf : fnd l k = true
  · have hne : pos l k ≠ j := fun e => by
      rw [fnd_of (by omega)] at hf
      simp only [e] at hf
      have := of_decide_eq_true hf
      omega
    by_cases e : pos l k < j
    · rw [if_pos ⟨hf, by omega⟩, if_pos ⟨hf, e⟩]
    · omega
  · rw [if_neg (fun e => hf e.1), if_neg (fun e => hf e.1)]
theorem atJ_zero (l : List ItI) (k : Ky) : atJ l k 0 = -1 := by unfold atJ; rw [if_neg (fun e => by omega)]
theorem atJ_end {l : List ItI} {k : Ky} : atJ l k l.length = (if fnd l k = true then (pos l k : Int) else -1) := by
  unfold atJ
  by_cases hf : fnd l k = true
  · obtain ⟨hp, _⟩ := pos_atI hf
    rw [if_pos ⟨hf, hp⟩, if_pos hf]
  · rw [if_neg (fun e => hf e.1), if_neg hf]
theorem own_setR {w : World} {B g n cap : Nat} {l : List ItI} (h : Own enTI 48 9 B w (.slice (some ⟨g, 0, none⟩) n cap) l) (i : Nat) (hi : i < l.length) (x : Int) : Own enTI 48 9 B (w.setCell ⟨g, i * 9 + 8, none⟩ (.int .i64 x)) (.slice (some ⟨g, 0, none⟩) n cap) (l.set i (l[i].1, x)) := by
  rcases h.2 with ⟨h0, _⟩ | ⟨g', cap', cur, h0, hBg, hg, hnc, hcm, hcs, htake⟩
  · simp at h0
  · simp at h0
    obtain ⟨rfl, rfl, rfl⟩ := h0
    refine ⟨by rw [flat_len enTI 9 enTI_len], .inr ⟨g, cap, cur.setIfInBounds (i * 9 + 8) (.int .i64 x), by simp, hBg, heap_setCell_same hg _, by simpa using hnc, hcm, by simp [hcs], ?_⟩⟩
    rw [Array.toList_setIfInBounds, List.take_set, List.length_set, htake, flat_setI l i hi x]
/-- A part of a row. -/
theorem rdt_take {w : World} {a : Option Addr} {n k : Nat} {l : List ItI} (h : RdT w (.slice a n k) l) (m : Nat) (hm : m ≤ l.length) : RdT w (.slice a m k) (l.take m) := by
  obtain ⟨h1, a', c', hv, h2, h3⟩ := h
  simp at hv
  obtain ⟨rfl, _, rfl⟩ := hv
  have hl : (l.take m).length = m := by rw [List.length_take]; omega
  refine ⟨by rw [flat_len enTI 9 enTI_len], a, k, by rw [hl], fun e => ?_, fun ad e j u hu => h3 ad e j u ?_⟩
  · have := h2 e; omega
  · rw [← flat_take enTI 9 enTI_len l m, List.getElem?_take] at hu
    split at hu
    · exact hu
    · cases hu
theorem Own.baseT {w : World} {B C : Nat} {v : Value} {l : List ItI} (h : Own enTI 48 9 B w v l) (hg : ∀ g, v.ownBlock = some g → C ≤ g) : Own enTI 48 9 C w v l := own_base (own_zero h) hg
theorem rdt_drop {w : World} {g o n k : Nat} {l : List ItI} (h : RdT w (.slice (some ⟨g, o, none⟩) n k) l) (m : Nat) (hm : m ≤ l.length) (off nn c : Nat) (ho : off = o + m * 9) (hn : nn = l.length - m) : RdT w (.slice (some ⟨g, off, none⟩) nn c) (l.drop m) := by
  obtain ⟨h1, a', c', hv, h2, h3⟩ := h
  simp at hv
  obtain ⟨rfl, _, rfl⟩ := hv
  have hl : (l.drop m).length = nn := by rw [List.length_drop, hn]
  subst ho
  refine ⟨by rw [flat_len enTI 9 enTI_len], _, c, by rw [hl], fun e => (by cases e), fun ad e j u hu => ?_⟩
  cases e
  rw [← flat_drop enTI 9 enTI_len l m, List.getElem?_drop] at hu
  have := h3 _ rfl _ _ hu
  rw [Addr.add_lit] at this ⊢
  rwa [← Nat.add_assoc] at this
theorem belAlloc {a b : World} (h : Below a.heap.size a b) (o : Obj) : Below a.heap.size a (b.alloc o) := h.alloc h.size o
theorem belFr {a b c : World} {S : Nat → Prop} (h : Below a.heap.size a b) (f : Fr S b c) (hS : ∀ k, S k → a.heap.size ≤ k) : Below a.heap.size a c := h.trans (f.below' h.size hS)
theorem rd_one {w : World} {b : Nat} {x : ItI} (h : w.heap[b]? = some (.cells (enTI x).toArray 48 (0, 0))) : Rd w 9 (.slice (some ⟨b, 0, none⟩) 1 1) 1 (enTI x) := by
  refine ⟨rfl, _, _, rfl, fun e => (by cases e), fun ad e j u hu => ?_⟩
  cases e
  rw [Addr.add_lit, Nat.zero_add, blk_cell h]
  simpa using hu
theorem s33_fr {wd w w' : World} {db : Nat} {d : Dd} {S : Nat → Prop} (h : w.cell? ⟨db, 1, none⟩ = some (.int .i64 d.x) ∧ w.cell? ⟨db, 2, none⟩ = some (.int .u8 d.k.f0) ∧ w.cell? ⟨db, 3, none⟩ = some (.int .u8 d.k.f1) ∧ w.cell? ⟨db, 4, none⟩ = some (.int .u8 d.k.f2) ∧ w.cell? ⟨db, 5, none⟩ = some (.int .u8 d.k.f3) ∧ w.cell? ⟨db, 6, none⟩ = some (.int .u8 d.k.f4) ∧ w.cell? ⟨db, 7, none⟩ = some (.int .u8 d.k.f5) ∧ w.cell? ⟨db, 8, none⟩ = some (.int .i64 d.k.near) ∧ w.cell? ⟨db, 9, none⟩ = some (.int .i64 d.k.there) ∧ Below wd.heap.size wd w) (hd : db < wd.heap.size) (f : Fr S w w') (hS : ∀ b, S b → wd.heap.size ≤ b) : w'.cell? ⟨db, 1, none⟩ = some (.int .i64 d.x) ∧ w'.cell? ⟨db, 2, none⟩ = some (.int .u8 d.k.f0) ∧ w'.cell? ⟨db, 3, none⟩ = some (.int .u8 d.k.f1) ∧ w'.cell? ⟨db, 4, none⟩ = some (.int .u8 d.k.f2) ∧ w'.cell? ⟨db, 5, none⟩ = some (.int .u8 d.k.f3) ∧ w'.cell? ⟨db, 6, none⟩ = some (.int .u8 d.k.f4) ∧ w'.cell? ⟨db, 7, none⟩ = some (.int .u8 d.k.f5) ∧ w'.cell? ⟨db, 8, none⟩ = some (.int .i64 d.k.near) ∧ w'.cell? ⟨db, 9, none⟩ = some (.int .i64 d.k.there) ∧ Below wd.heap.size wd w' := by
  obtain ⟨h1, h2, h3, h4, h5, h6, h7, h8, h9, hb⟩ := h
  have hs := hb.size
  have go : ∀ (m : Nat) (v : Value), w.cell? ⟨db, m, none⟩ = some v → w'.cell? ⟨db, m, none⟩ = some v := fun m v e => (f.cell (World.block_lt_of_cell? w _ e) (fun e => by have := hS _ e; dsimp only at this; omega)).trans e
  exact ⟨go _ _ h1, go _ _ h2, go _ _ h3, go _ _ h4, go _ _ h5, go _ _ h6, go _ _ h7, go _ _ h8, go _ _ h9, hb.trans (f.below' hs hS)⟩
theorem s33_alloc {wd w : World} {db : Nat} {d : Dd} (h : w.cell? ⟨db, 1, none⟩ = some (.int .i64 d.x) ∧ w.cell? ⟨db, 2, none⟩ = some (.int .u8 d.k.f0) ∧ w.cell? ⟨db, 3, none⟩ = some (.int .u8 d.k.f1) ∧ w.cell? ⟨db, 4, none⟩ = some (.int .u8 d.k.f2) ∧ w.cell? ⟨db, 5, none⟩ = some (.int .u8 d.k.f3) ∧ w.cell? ⟨db, 6, none⟩ = some (.int .u8 d.k.f4) ∧ w.cell? ⟨db, 7, none⟩ = some (.int .u8 d.k.f5) ∧ w.cell? ⟨db, 8, none⟩ = some (.int .i64 d.k.near) ∧ w.cell? ⟨db, 9, none⟩ = some (.int .i64 d.k.there) ∧ Below wd.heap.size wd w) (hd : db < wd.heap.size) (o : Obj) : (w.alloc o).cell? ⟨db, 1, none⟩ = some (.int .i64 d.x) ∧ (w.alloc o).cell? ⟨db, 2, none⟩ = some (.int .u8 d.k.f0) ∧ (w.alloc o).cell? ⟨db, 3, none⟩ = some (.int .u8 d.k.f1) ∧ (w.alloc o).cell? ⟨db, 4, none⟩ = some (.int .u8 d.k.f2) ∧ (w.alloc o).cell? ⟨db, 5, none⟩ = some (.int .u8 d.k.f3) ∧ (w.alloc o).cell? ⟨db, 6, none⟩ = some (.int .u8 d.k.f4) ∧ (w.alloc o).cell? ⟨db, 7, none⟩ = some (.int .u8 d.k.f5) ∧ (w.alloc o).cell? ⟨db, 8, none⟩ = some (.int .i64 d.k.near) ∧ (w.alloc o).cell? ⟨db, 9, none⟩ = some (.int .i64 d.k.there) ∧ Below wd.heap.size wd (w.alloc o) :=
  s33_fr (S := no) h hd ((Fr.refl no w).alloc o) (fun _ e => e.elim)
theorem s33_bel {A1 A2 A3 A4 A5 A6 A7 A8 A9 C : Prop} (h : A1 ∧ A2 ∧ A3 ∧ A4 ∧ A5 ∧ A6 ∧ A7 ∧ A8 ∧ A9 ∧ C) : C := h.2.2.2.2.2.2.2.2.2
theorem own_empty_at {w : World} {b e k B : Nat} (h : w.heap[b]? = some (.cells #[] e (0, 0))) (hB : B ≤ b) : w.ownsRow B e k (.slice (some ⟨b, 0, none⟩) 0 0) 0 [] := by
  exact ⟨by simp, .inr ⟨b, 0, #[], rfl, hB, h, Nat.le_refl _, Nat.zero_le _, by simp, by simp⟩⟩
theorem hnew {w : World} {o : Obj} {b : Nat} (hb : b = w.heap.size) : (w.alloc o).heap[b]? = some o := by subst hb; exact heap_alloc_new' w o
theorem hold {w : World} {o o' : Obj} {b : Nat} (h : w.heap[b]? = some o') : (w.alloc o).heap[b]? = some o' := (heap_alloc_lt w o (lt_of_block h)).trans h
theorem belStep {a b c : World} (h : Below a.heap.size a b) (k : Below b.heap.size b c) : Below a.heap.size a c := h.trans (k.mono h.size)
/-- A deed of a row that an argument holds, at any later world. -/
theorem deed_ex {w : World} {lb lo n lc : Nat} {ds : List Dd} (hl : Rd w 10 (.slice (some ⟨lb, lo, none⟩) n lc) ds.length (ds.flatMap encD)) {i : Nat} (hi : i < ds.length) : ∃ d : Dd, d = ds[i] ∧ ∀ w', Below w.heap.size w w' →
    ∀ j u, (encD d)[j]? = some u → w'.cell? ⟨lb, lo + i * 10 + j, none⟩ = some u := by
  refine ⟨ds[i], rfl, fun w' hb => ?_⟩
  obtain ⟨b', o', c', hv, _, hx⟩ := Rd.some (Rd.fr hl (Fr.of_below hb no) (fun _ _ e => e)) (by omega) (by decide)
  simp at hv
  obtain ⟨⟨rfl, rfl⟩, _, _⟩ := hv
  intro j u hu
  have hj : j < 10 := by
    by_cases h : j < 10
    · exact h
    · rw [List.getElem?_eq_none (by rw [encD_len]; omega)] at hu; cases hu
  have := Rd.el encD_len hx hi hj hu
  rwa [← Nat.add_assoc] at this
end Go.Proofs.Ytjjfminpaoooaaa
