/-
  Layer 4: QueuePlays: the row and the law's own list in memory.
-/
import Derived.Test.YtjefmicmhcajoaaL4G
import Derived.Test.YtjefmicmhcajoaaL4A
import Derived.Test.YtjefmicmhcajoaaR4R
import Derived.Test.YtjefmicmhcajoaaTl
import Derived.Deep.LoopGhost
import Derived.Deep.DeepCutAuto
import Derived.Deep.CutBlock
namespace Go.Proofs.Ytjefmicmhcajoaa
open Go.RowKit
set_option linter.unusedVariables false


/-- A row of ints za in memory, the law's own list xv of zs, and a deed's block. -/
structure PqI (w0 w : World) (c : Nat) (most : Int) (sa xv : Value) (za zs : List Int) (db : Nat) (dz : Dz) : Prop where
  a : IsQI w w0.heap.size c most sa (ivsI za)
  x : TlR w 3 1 w0.heap.size xv zs.length ((ivsI zs).flatMap enQ)
  d : ∀ g, xv.ownBlock = some g → ¬ sa.ownBlock = some g
  bel : Below w0.heap.size w0 w
  dd : w.heap[db]? = some (.cells #[.int .i64 dz.1, .int .i64 dz.2.1, .int .i64 dz.2.2] 48 (0, 0))
def PqX (w0 w : World) (c : Nat) (most : Int) (xv : Value) (za zs : List Int) (db : Nat) (dz : Dz) : Prop := ∃ sa, PqI w0 w c most sa xv za zs db dz

section
variable {w0 w w' : World} {c : Nat} {most : Int} {sa xv : Value} {za zs : List Int} {db : Nat} {dz : Dz}
theorem PqI.below (h : PqI w0 w c most sa xv za zs db dz) (hb : Below w.heap.size w w') : PqI w0 w' c most sa xv za zs db dz :=
  ⟨h.a.below hb, h.x.keep (fun g hg => hb.block g (h.x.lt hg).2), h.d, h.bel.trans (hb.mono h.bel.size), (hb.block db (lt_of_block h.dd)).trans h.dd⟩
theorem PqX.below (h : PqX w0 w c most xv za zs db dz) (hb : Below w.heap.size w w') : PqX w0 w' c most xv za zs db dz := by
  obtain ⟨sa, h⟩ := h
  exact ⟨sa, h.below hb⟩
theorem PqX.bel (h : PqX w0 w c most xv za zs db dz) : Below w0.heap.size w0 w := by obtain ⟨sa, h⟩ := h; exact h.bel
theorem PqX.le (h : PqX w0 w c most xv za zs db dz) : (za.length : Int) ≤ most := by obtain ⟨sa, h⟩ := h; have := h.a.le; rwa [ivsI_len] at this
theorem PqX.x (h : PqX w0 w c most xv za zs db dz) : TlR w 3 1 w0.heap.size xv zs.length ((ivsI zs).flatMap enQ) := by obtain ⟨sa, h⟩ := h; exact h.x
theorem PqX.dc (h : PqX w0 w c most xv za zs db dz) : w.cell? ⟨db, 0, none⟩ = some (.int .i64 dz.1) ∧ w.cell? ⟨db, 1, none⟩ = some (.int .i64 dz.2.1) ∧ w.cell? ⟨db, 2, none⟩ = some (.int .i64 dz.2.2) := by
  obtain ⟨sa, h⟩ := h
  exact ⟨blk_cell h.dd 0, blk_cell h.dd 1, blk_cell h.dd 2⟩
theorem PqX.deed (h : PqX w0 w c most xv za zs db dz) {db' : Nat} {dz' : Dz} (hd : w.heap[db']? = some (.cells #[.int .i64 dz'.1, .int .i64 dz'.2.1, .int .i64 dz'.2.2] 48 (0, 0))) : PqX w0 w c most xv za zs db' dz' := by
  obtain ⟨sa, h⟩ := h
  exact ⟨sa, h.a, h.x, h.d, h.bel, hd⟩
/-- The row turns. -/
theorem PqI.turn (h : PqI w0 w c most sa xv za zs db dz) {sa' : Value} {za' : List Int} (q : IsQI w' w0.heap.size c most sa' (ivsI za')) (m : Mv w sa sa') (f : Fr (ftp c sa) w w') : PqX w0 w' c most xv za' zs db dz := by
  refine ⟨sa', q, h.x.keep (fun g hg => f.blk g (h.x.lt hg).2 (fun e => ?_)), fun g hg e => (m g e).elim (h.d g hg) (fun e => by have := (h.x.lt hg).2; omega), h.bel.trans (f.below' h.bel.size h.a.ftp_ge), f.heap h.dd (fun e => ?_)⟩
  · rcases e with e | e
    · subst e; exact h.x.ne h.a.blk (by decide) hg
    · exact h.d g hg e
  · rcases e with e | e
    · subst e
      have h1 := h.dd
      rw [h.a.blk] at h1
      cases h1
    · exact own_ne h.a.own h.dd (by decide) e
/-- The list turns. -/
theorem PqI.turnX (h : PqI w0 w c most sa xv za zs db dz) (f : Fr (fun b => xv.ownBlock = some b) w w') {xv' : Value} {zs' : List Int} (x' : TlR w' 3 1 w0.heap.size xv' zs'.length ((ivsI zs').flatMap enQ)) (m : Mv w xv xv') : PqX w0 w' c most xv' za zs' db dz := by
  refine ⟨sa, h.a.fr f (fun e => h.x.ne h.a.blk (by decide) e) (fun g hg e => h.d g e hg), x', fun g hg e => ?_, h.bel.trans (f.below' h.bel.size (fun b e => (h.x.lt e).1)), f.heap h.dd (fun e => h.x.ne h.dd (by decide) e)⟩
  rcases m g hg with m | m
  · exact h.d g m e
  · have := own_lt h.a.own e; omega
theorem PqX.turnX (h : PqX w0 w c most xv za zs db dz) (f : Fr (fun b => xv.ownBlock = some b) w w') {xv' : Value} {zs' : List Int} (x' : TlR w' 3 1 w0.heap.size xv' zs'.length ((ivsI zs').flatMap enQ)) (m : Mv w xv xv') : PqX w0 w' c most xv' za zs' db dz := by
  obtain ⟨sa, h⟩ := h
  exact h.turnX f x' m
theorem PqX.newX (h : PqX w0 w c most xv za zs db dz) (hb : Below w.heap.size w w') {xv' : Value} {zs' : List Int} (x' : TlR w' 3 1 w0.heap.size xv' zs'.length ((ivsI zs').flatMap enQ)) (m : ∀ g, xv'.ownBlock = some g → w.heap.size ≤ g) : PqX w0 w' c most xv' za zs' db dz := by
  obtain ⟨sa, h⟩ := h
  exact ⟨sa, h.a.below hb, x', fun g hg e => by have := m g hg; have := own_lt h.a.own e; omega, h.bel.trans (hb.mono h.bel.size), (hb.block db (lt_of_block h.dd)).trans h.dd⟩
theorem PqX.ex (h : PqX w0 w c most xv za zs db dz) : ∃ sa, IsQI w w0.heap.size c most sa (ivsI za) ∧ TlR w 3 1 w0.heap.size xv zs.length ((ivsI zs).flatMap enQ) ∧ (∀ g, xv.ownBlock = some g → ¬ sa.ownBlock = some g) ∧ Below w0.heap.size w0 w := by
  obtain ⟨sa, h⟩ := h
  exact ⟨sa, h.a, h.x, h.d, h.bel⟩
def putZ (most : Int) (l : List Int) (x : Int) : List Int := if (l.length : Int) < most then l ++ [x] else l
theorem pqPut (h : PqX w0 w c most xv za zs db dz) (x : Int) (hl : za.length ≤ 90000) : Calls Try.prog 17 #[.pointer (some ⟨c, 0, none⟩), .int .i64 x] w fun e w' => e = .returned (.bool (decide ((za.length : Int) < most))) ∧ PqX w0 w' c most xv (putZ most za x) zs db dz := by
  obtain ⟨sa, h⟩ := h
  refine (putQI c most sa (ivsI za) (.int .i64 x) w _ h.bel.size h.a (by rw [ivsI_len]; omega) ⟨x, rfl⟩).mono ?_
  rintro e w' ⟨rfl, sa', q, m, f⟩
  rw [ivsI_len]
  rw [show putL most (ivsI za) (.int .i64 x) = ivsI (putZ most za x) by unfold putL putZ; rw [ivsI_len]; split <;> simp] at q
  exact ⟨rfl, h.turn q m f⟩
theorem pqCut (h : PqX w0 w c most xv za zs db dz) (n : Int) (m : Nat) (hn : min (max n 0) (za.length : Int) = m) (hl : za.length ≤ 90000) : Calls Try.prog 29 #[.pointer (some ⟨c, 0, none⟩), .int .i64 n] w fun e w' => e = .returned (.int .i64 m) ∧ PqX w0 w' c most xv (za.drop m) zs db dz := by
  obtain ⟨sa, h⟩ := h
  by_cases h0 : m = 0
  · subst h0
    exact (cutNoI n c most sa (ivsI za) w _ h.a (by rw [ivsI_len]; exact hn)).mono fun e w' ⟨he, hw⟩ => ⟨he, by subst hw; exact ⟨sa, by simpa using h⟩⟩
  · refine (cutYesI n m c most sa (ivsI za) w _ h.bel.size h.a (by rw [ivsI_len]; exact hn) (by omega) (by rw [ivsI_len]; omega)).mono ?_
    rintro e w' ⟨rfl, sv', q, mv, f⟩
    rw [show (ivsI za).drop m = ivsI (za.drop m) from (List.map_drop ..).symm] at q
    exact ⟨rfl, h.turn q mv (f.mono (fun _ _ e => .inl e))⟩
theorem pqTakeNo (h : PqX w0 w c most xv [] zs db dz) : Calls Try.prog 25 #[.pointer (some ⟨c, 0, none⟩)] w fun e w' => e = .returned (.tuple #[.int .i64 0, .bool false]) ∧ w' = w := by
  obtain ⟨sa, h⟩ := h
  exact takeNoI c most sa w _ h.a
theorem pqTakeYes {z : Int} (h : PqX w0 w c most xv (z :: za) zs db dz) (hl : za.length ≤ 80000) : Calls Try.prog 25 #[.pointer (some ⟨c, 0, none⟩)] w fun e w' => e = .returned (.tuple #[.int .i64 z, .bool true]) ∧ PqX w0 w' c most xv za zs db dz := by
  obtain ⟨sa, h⟩ := h
  refine (takeYesI c most sa (.int .i64 z) (ivsI za) w _ h.bel.size h.a (by rw [List.length_cons, ivsI_len]; omega) ⟨z, rfl⟩).mono ?_
  rintro e w' ⟨rfl, sv', q, mv, f⟩
  exact ⟨rfl, h.turn q mv (f.mono (fun _ _ e => .inl e))⟩
theorem pqAll (n : Int) (h : PqX w0 w c most xv za zs db dz) (hl : za.length ≤ 90000) : Calls Try.prog 27 #[.pointer (some ⟨c, 0, none⟩), .int .i64 n] w fun e w' => ∃ a k, e = .returned (.slice a (firstN n za).length k) ∧ RdZ w' (.slice a (firstN n za).length k) (firstN n za) ∧ Below w.heap.size w w' := by
  obtain ⟨sa, h⟩ := h
  refine (all n c most sa za w _ h.a (by omega)).mono ?_
  rintro e w' ⟨ov, rfl, o, b⟩
  obtain ⟨a, k, hv, _⟩ := own_shape o
  rw [ivsI_len] at hv
  subst hv
  exact ⟨a, k, rfl, rdz_of_own o, b⟩
theorem pqIns (h : PqX w0 w c most xv za zs db dz) (i : Nat) (x : Int) (hl : za.length ≤ 90000) (hi : i ≤ za.length) (hf : (za.length : Int) < most) : Calls Try.prog 28 #[.pointer (some ⟨c, 0, none⟩), .int .i64 i, .int .i64 x] w fun e w' => e = .returned (.bool true) ∧ PqX w0 w' c most xv (insL za i x) zs db dz := by
  obtain ⟨sa, h⟩ := h
  refine (insYesAtI c most sa (ivsI za) i (.int .i64 x) w _ h.bel.size h.a (by rw [ivsI_len]; exact hf) (by rw [ivsI_len]; exact hi) (by rw [ivsI_len]; omega) ⟨x, rfl⟩).mono ?_
  rintro e w' ⟨rfl, sv', q, mv, f⟩
  rw [show insL (ivsI za) i (.int .i64 x) = ivsI (insL za i x) by unfold insL ivsI; rw [List.map_append, List.map_cons, List.map_take, List.map_drop]] at q
  exact ⟨rfl, h.turn q mv f⟩
theorem pqInsNo (h : PqX w0 w c most xv za zs db dz) (i : Int) (x : Int) (hf : most ≤ (za.length : Int) ∨ i < 0 ∨ (za.length : Int) < i) : Calls Try.prog 28 #[.pointer (some ⟨c, 0, none⟩), .int .i64 i, .int .i64 x] w fun e w' => e = .returned (.bool false) ∧ PqX w0 w' c most xv za zs db dz := by
  have h' := h
  obtain ⟨sa, h⟩ := h
  exact (insNoI c most sa (ivsI za) i (.int .i64 x) w _ h.a (by rw [ivsI_len]; exact hf)).mono fun e w' ⟨he, hb⟩ => ⟨he, h'.below hb⟩
theorem pqLen (h : PqX w0 w c most xv za zs db dz) : Calls Try.prog 32 #[.pointer (some ⟨c, 0, none⟩)] w fun e w' => e = .returned (.int .i64 za.length) ∧ w' = w := by
  obtain ⟨sa, h⟩ := h
  have := lenQI c most sa (ivsI za) w _ h.a
  rw [ivsI_len] at this
  exact this
theorem pqMost (h : PqX w0 w c most xv za zs db dz) : Calls Try.prog 18 #[.pointer (some ⟨c, 0, none⟩)] w fun e w' => e = .returned (.int .i64 most) ∧ w' = w := by
  obtain ⟨sa, h⟩ := h
  exact mostQI c most sa (ivsI za) w _ h.a
theorem pqFilter (h : PqX w0 w c most xv za zs db dz) (x : Int) (b : Nat) (hb : w.heap[b]? = some (.cells #[.int .i64 x] 3 (0, 0))) (hl : za.length ≤ 90000) : Calls Try.prog 30 #[.pointer (some ⟨c, 0, none⟩), .func (.func 45) #[] #[.pointer (some ⟨b, 0, none⟩)]] w fun e w' => e = .returned (.int .i64 ((za.length : Int) - ((filtL x za).length : Int))) ∧ PqX w0 w' c most xv (filtL x za) zs db dz := by
  obtain ⟨sa, h⟩ := h
  refine (filterQ x b c most sa za w _ h.bel.size h.a hb (by omega)).mono ?_
  rintro e w' ⟨rfl, sv', q, mv, f⟩
  exact ⟨rfl, h.turn q mv (f.mono (fun _ _ e => .inl e))⟩
theorem pqAllL (n : Int) (l' : List Int) (hn : firstN n za = l') (h : PqX w0 w c most xv za zs db dz) (hl : za.length ≤ 90000) : Calls Try.prog 27 #[.pointer (some ⟨c, 0, none⟩), .int .i64 n] w fun e w' => ∃ a k, e = .returned (.slice a l'.length k) ∧ RdZ w' (.slice a l'.length k) l' ∧ Below w.heap.size w w' := by
  subst hn
  exact pqAll n h hl
/-- A part of a row of ints. -/
theorem rdz_take {w : World} {a : Option Addr} {n k : Nat} {l : List Int} (h : RdZ w (.slice a n k) l) (m : Nat) (hm : m ≤ l.length) : RdZ w (.slice a m k) (l.take m) := by
  obtain ⟨h1, a', c', hv, h2, h3⟩ := h
  simp at hv
  obtain ⟨rfl, rfl, rfl⟩ := hv
  refine ⟨by simp, a, k, by rw [List.length_take, Nat.min_eq_left hm], fun e => ?_, fun ad e j u hu => h3 ad e j u ?_⟩
  · obtain ⟨e1, e2⟩ := h2 e
    refine ⟨by rw [List.length_take]; omega, e2⟩
  · have e1 := flat_take enQ 1 enQ_len (ivsI l) m
    rw [← List.map_take] at e1
    rw [show ivsI (l.take m) = (l.take m).map (fun z => Value.int .i64 z) from rfl, ← e1, List.getElem?_take] at hu
    split at hu
    · exact hu
    · cases hu
end
/-- An empty slice that was built. -/
theorem own_empty_at {w : World} {b e k B : Nat} (h : w.heap[b]? = some (.cells #[] e (0, 0))) (hB : B ≤ b) : w.ownsRow B e k (.slice (some ⟨b, 0, none⟩) 0 0) 0 [] := by
  refine ⟨by simp, .inr ⟨b, 0, #[], rfl, hB, h, Nat.le_refl _, Nat.zero_le _, by simp, by simp⟩⟩
/-- What the loads of the insertion read, and that nothing old has turned. -/
def P39 (wd : World) (db : Nat) (X k : Value) (w : World) : Prop := w.cell? ⟨db, 1, none⟩ = some X ∧ w.cell? ⟨db, 2, none⟩ = some k ∧ Below wd.heap.size wd w
section
variable {wd w w' : World} {db : Nat} {X k : Value}
theorem P39.fr {S : Nat → Prop} (h : w.cell? ⟨db, 1, none⟩ = some X ∧ w.cell? ⟨db, 2, none⟩ = some k ∧ Below wd.heap.size wd w) (hd : db < wd.heap.size) (f : Fr S w w') (hS : ∀ b, S b → wd.heap.size ≤ b) : w'.cell? ⟨db, 1, none⟩ = some X ∧ w'.cell? ⟨db, 2, none⟩ = some k ∧ Below wd.heap.size wd w' :=
  ⟨(f.cell (World.block_lt_of_cell? w _ h.1) (fun e => by have := hS _ e; dsimp only at this; omega)).trans h.1, (f.cell (World.block_lt_of_cell? w _ h.2.1) (fun e => by have := hS _ e; dsimp only at this; omega)).trans h.2.1, h.2.2.trans (f.below' h.2.2.size hS)⟩
theorem P39.alloc (h : w.cell? ⟨db, 1, none⟩ = some X ∧ w.cell? ⟨db, 2, none⟩ = some k ∧ Below wd.heap.size wd w) (hd : db < wd.heap.size) (o : Obj) : (w.alloc o).cell? ⟨db, 1, none⟩ = some X ∧ (w.alloc o).cell? ⟨db, 2, none⟩ = some k ∧ Below wd.heap.size wd (w.alloc o) :=
  P39.fr (S := no) h hd ((Fr.refl no w).alloc o) (fun _ e => e.elim)
theorem bel3 {A B C : Prop} (h : A ∧ B ∧ C) : C := h.2.2
end
theorem hnew {w : World} {o : Obj} {b : Nat} (hb : b = w.heap.size) : (w.alloc o).heap[b]? = some o := by subst hb; exact heap_alloc_new' w o
theorem hold {w : World} {o o' : Obj} {b : Nat} (h : w.heap[b]? = some o') : (w.alloc o).heap[b]? = some o' := (heap_alloc_lt w o (lt_of_block h)).trans h
theorem belStep {a b c : World} (h : Below a.heap.size a b) (k : Below b.heap.size b c) : Below a.heap.size a c := h.trans (k.mono h.size)
end Go.Proofs.Ytjefmicmhcajoaa
