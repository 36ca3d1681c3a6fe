/-
  Addresses: how two are compared; Station and Number, the program's and the reference's.
-/
import Derived.Test.YteihpaikdpdglaaByt
import Derived.ChangeKeysEq
import Derived.Laws.Rows
import Derived.BigQuiet
import Derived.Deep.DeepCutAuto
import Derived.Deep.CutBlock
namespace Go.Proofs.Yteihpaikdpdglaa
open Go.RowKit
set_option linter.unusedVariables false


/-- An address. -/
structure Ad where
  f0 : Int
  f1 : Int
  f2 : Int
  f3 : Int
  f4 : Int
  f5 : Int
def Ad.b (k : Ad) : List Int := [k.f0, k.f1, k.f2, k.f3, k.f4, k.f5]
theorem Ad.ext' {a b : Ad} (h : a.b = b.b) : a = b := by
  cases a; cases b; simp only [Ad.b, List.cons.injEq, and_true] at h; obtain ⟨h0, h1, h2, h3, h4, h5⟩ := h; simp [h0, h1, h2, h3, h4, h5]
instance : DecidableEq Ad := fun a b => decidable_of_iff (a.b = b.b) ⟨Ad.ext', fun h => h ▸ rfl⟩
abbrev adC (k : Ad) : Array Value := #[.int .u8 k.f0, .int .u8 k.f1, .int .u8 k.f2, .int .u8 k.f3, .int .u8 k.f4, .int .u8 k.f5]
abbrev adV (k : Ad) : Value := .agg #[.int .u8 k.f0, .int .u8 k.f1, .int .u8 k.f2, .int .u8 k.f3, .int .u8 k.f4, .int .u8 k.f5]
theorem adEqD (d : Nat) (a b : Ad) (w : World) : (Op.equalIn (d + 2) 43 (adV a) (adV b)).run Try.prog w = .ok (decide (a = b)) w := by
  obtain ⟨i, hi⟩ := Option.isSome_iff_exists.1 (show (Try.prog.info? 5).isSome = true by kernel_rfl)
  have := run_equalIn_array (P := Try.prog) w (d + 1) (t := 43) (n := 6) (e := 5) (adV a).cells (adV b).cells (by kernel_rfl) hi
  refine this.trans ?_
  have hr : List.range 6 = [0, 1, 2, 3, 4, 5] := rfl
  have hc : Try.prog.cellsOf 5 = 1 := by kernel_rfl
  rw [hr, hc]
  have hpart : ∀ (k : Ad) (j : Nat) (x : Int) (w : World), k.b[j]? = some x → (part 5 (adV k).cells (j * 1)).run Try.prog w = .ok (.int .u8 x) w := by
    intro k j x w h
    refine run_part_plain w (by kernel_rfl) ?_
    rcases j with _ | _ | _ | _ | _ | _ | j <;> simp_all [Ad.b, Value.cells]
  have heq : ∀ (x y : Int) (w : World), (Op.equalIn (d + 1) 5 (.int .u8 x) (.int .u8 y)).run Try.prog w = .ok (x == y) w := fun x y w => run_equalIn_int w d 5 .u8 .u8 x y (by kernel_rfl)
  simp only [Op.eqItems, Sem.run_bind, hpart a 0 _ _ rfl, hpart a 1 _ _ rfl, hpart a 2 _ _ rfl, hpart a 3 _ _ rfl, hpart a 4 _ _ rfl, hpart a 5 _ _ rfl, hpart b 0 _ _ rfl, hpart b 1 _ _ rfl, hpart b 2 _ _ rfl, hpart b 3 _ _ rfl, hpart b 4 _ _ rfl, hpart b 5 _ _ rfl, heq, Result.andThen_ok, Sem.run_ite, Sem.run_pure]
  have hx : (a = b) ↔ (a.f0 = b.f0 ∧ a.f1 = b.f1 ∧ a.f2 = b.f2 ∧ a.f3 = b.f3 ∧ a.f4 = b.f4 ∧ a.f5 = b.f5) := by cases a; cases b; simp
  by_cases e0 : a.f0 = b.f0 <;> by_cases e1 : a.f1 = b.f1 <;> by_cases e2 : a.f2 = b.f2 <;> by_cases e3 : a.f3 = b.f3 <;> by_cases e4 : a.f4 = b.f4 <;> by_cases e5 : a.f5 = b.f5 <;> simp [hx, e0, e1, e2, e3, e4, e5]
theorem adEq (a b : Ad) (w : World) : (Op.equalIn 9999 43 (adV a) (adV b)).run Try.prog w = .ok (decide (a = b)) w := adEqD 9997 a b w
theorem adEq1 (a b : Ad) (w : World) : (Op.equalIn 10000 43 (adV a) (adV b)).run Try.prog w = .ok (decide (a = b)) w := adEqD 9998 a b w

/-- The address of station n. -/
def staA (n : Int) : Ad := ⟨2, 0, 0, 0, 0, n⟩
/-- Whose address it is. -/
def numA (a : Ad) : Int := if a = staA a.f5 then a.f5 else -1

theorem msta (n : Int) (hn : 0 ≤ n ∧ n ≤ 255) (w : World) : Calls Try.prog 59 #[.int .i64 n] w fun e w' => e = .returned (adV (staA n)) ∧ Below w.heap.size w w' := by
  have hc : IntKind.u8.wrap n = n := by rw [IntKind.wrap_u8]; omega
  have h0 : decide (n < 0) = false := decide_eq_false (by omega)
  have h1 : decide (255 < n) = false := decide_eq_false (by omega)
  go_enter Try.func59, Try.ntmps59
  go_wp2_with fail
  refine bodyPost_ret (results_cell_row rfl _ _ w.heap.size 43 _ (0, 0) _ rfl (heap_alloc_new' w _) Try.underlying43 rfl (by kernel_rfl)) rfl ?_
  exact ⟨rfl, (Below.refl _ w).alloc (Nat.le_refl _) _⟩
set_option maxHeartbeats 1000000 in
theorem mnum (a : Ad) (ha : 0 ≤ a.f5 ∧ a.f5 ≤ 255) (w : World) : Calls Try.prog 39 #[adV a] w fun e w' => e = .returned (.int .i64 (numA a)) ∧ Below w.heap.size w w' := by
  have hc5 : IntKind.i64.wrap a.f5 = a.f5 := IntWalk.i64_in _ (by omega)
  obtain ⟨W, hW⟩ : ∃ W, W = w.alloc (.cells #[.int .u8 a.f0, .int .u8 a.f1, .int .u8 a.f2, .int .u8 a.f3, .int .u8 a.f4, .int .u8 a.f5] 43) := ⟨_, rfl⟩
  have hbl : Below w.heap.size w W := by rw [hW]; exact (Below.refl _ w).alloc (Nat.le_refl _) _
  obtain ⟨p, hpp⟩ : ∃ p, p = w.heap.size := ⟨_, rfl⟩
  have hp : W.heap[p]? = some (.cells #[.int .u8 a.f0, .int .u8 a.f1, .int .u8 a.f2, .int .u8 a.f3, .int .u8 a.f4, .int .u8 a.f5] 43 (0, 0)) := by rw [hW, hpp]; exact heap_alloc_new' w _
  have c0 : ∀ u : After W, u.w'.cell? ⟨p, 0, none⟩ = some (.int .u8 a.f0) := fun u => u.cell (blk_cell hp 0)
  have c1 : ∀ u : After W, u.w'.cell? ⟨p, 1, none⟩ = some (.int .u8 a.f1) := fun u => u.cell (blk_cell hp 1)
  have c2 : ∀ u : After W, u.w'.cell? ⟨p, 2, none⟩ = some (.int .u8 a.f2) := fun u => u.cell (blk_cell hp 2)
  have c3 : ∀ u : After W, u.w'.cell? ⟨p, 3, none⟩ = some (.int .u8 a.f3) := fun u => u.cell (blk_cell hp 3)
  have c4 : ∀ u : After W, u.w'.cell? ⟨p, 4, none⟩ = some (.int .u8 a.f4) := fun u => u.cell (blk_cell hp 4)
  have c5 : ∀ u : After W, u.w'.cell? ⟨p, 5, none⟩ = some (.int .u8 a.f5) := fun u => u.cell (blk_cell hp 5)
  have d5 : W.cell? ⟨p, 5, none⟩ = some (.int .u8 a.f5) := blk_cell hp 5
  have HB := Lib.hid hbl
  have HA5 := Lib.hid ha
  clear hbl hp ha
  go_enter Try.func39, Try.ntmps39
  go_upto_region 1 with fail
  rw [← hW, ← hpp]
  clear hW hpp
  by_cases hd : a = staA a.f5
  · have HD := Lib.hid (show decide (a = staA a.f5) = true by simpa using hd)
    have HDD := Lib.hid hd
    clear hd
    go_upto_region 2 with fail
    refine wp_region_after (by kernel_rfl) (by kernel_rfl) ?_
    go_big_quiet_step (fail)
    go_big_quiet_step (fail)
    go_big_quiet_step ((go_at_call 59; exact Calls.after_of (msta a.f5 HA5.out _)))
    go_big_quiet_step ((first | rw [adEq, HD.out] | rw [adEq1, HD.out]; exact ⟨rfl, rfl⟩))
    refine wpQuiet_nil ?_
    rintro w2 ⟨⟨_, hb2⟩, rfl⟩
    have HB2 := Lib.hid (HB.out.trans (hb2.mono HB.out.size))
    have k5 := c5 ⟨_, hb2⟩
    dsimp only at k5
    clear c0 c1 c2 c3 c4 c5 hb2 d5
    go_wp2_with fail
    go_ret
    exact ⟨by unfold numA; rw [if_pos HDD.out]; rfl, HB2.out⟩
  · have HD := Lib.hid (show decide (a = staA a.f5) = false by simpa using hd)
    have HDD := Lib.hid hd
    clear hd
    go_upto_region 2 with fail
    refine wp_region_after (by kernel_rfl) (by kernel_rfl) ?_
    go_big_quiet_step (fail)
    go_big_quiet_step (fail)
    go_big_quiet_step ((go_at_call 59; exact Calls.after_of (msta a.f5 HA5.out _)))
    go_big_quiet_step ((first | rw [adEq, HD.out] | rw [adEq1, HD.out]; exact ⟨rfl, rfl⟩))
    refine wpQuiet_nil ?_
    rintro w2 ⟨⟨_, hb2⟩, rfl⟩
    have HB2 := Lib.hid (HB.out.trans (hb2.mono HB.out.size))
    have k5 := c5 ⟨_, hb2⟩
    dsimp only at k5
    clear c0 c1 c2 c3 c4 c5 hb2 d5
    go_wp2_with fail
    go_ret
    exact ⟨by unfold numA; rw [if_neg HDD.out]; rfl, HB2.out⟩
theorem rsta (n : Int) (hn : 0 ≤ n ∧ n ≤ 255) (w : World) : Calls Try.prog 40 #[.int .i64 n] w fun e w' => e = .returned (adV (staA n)) ∧ Below w.heap.size w w' := by
  have hc : IntKind.u8.wrap n = n := by rw [IntKind.wrap_u8]; omega
  have h0 : decide (n < 0) = false := decide_eq_false (by omega)
  have h1 : decide (255 < n) = false := decide_eq_false (by omega)
  go_enter Try.func40, Try.ntmps40
  go_wp2_with fail
  refine bodyPost_ret (results_cell_row rfl _ _ w.heap.size 43 _ (0, 0) _ rfl (heap_alloc_new' w _) Try.underlying43 rfl (by kernel_rfl)) rfl ?_
  exact ⟨rfl, (Below.refl _ w).alloc (Nat.le_refl _) _⟩
set_option maxHeartbeats 1000000 in
theorem rnum (a : Ad) (ha : 0 ≤ a.f5 ∧ a.f5 ≤ 255) (w : World) : Calls Try.prog 21 #[adV a] w fun e w' => e = .returned (.int .i64 (numA a)) ∧ Below w.heap.size w w' := by
  have hc5 : IntKind.i64.wrap a.f5 = a.f5 := IntWalk.i64_in _ (by omega)
  obtain ⟨W, hW⟩ : ∃ W, W = w.alloc (.cells #[.int .u8 a.f0, .int .u8 a.f1, .int .u8 a.f2, .int .u8 a.f3, .int .u8 a.f4, .int .u8 a.f5] 43) := ⟨_, rfl⟩
  have hbl : Below w.heap.size w W := by rw [hW]; exact (Below.refl _ w).alloc (Nat.le_refl _) _
  obtain ⟨p, hpp⟩ : ∃ p, p = w.heap.size := ⟨_, rfl⟩
  have hp : W.heap[p]? = some (.cells #[.int .u8 a.f0, .int .u8 a.f1, .int .u8 a.f2, .int .u8 a.f3, .int .u8 a.f4, .int .u8 a.f5] 43 (0, 0)) := by rw [hW, hpp]; exact heap_alloc_new' w _
  have c0 : ∀ u : After W, u.w'.cell? ⟨p, 0, none⟩ = some (.int .u8 a.f0) := fun u => u.cell (blk_cell hp 0)
  have c1 : ∀ u : After W, u.w'.cell? ⟨p, 1, none⟩ = some (.int .u8 a.f1) := fun u => u.cell (blk_cell hp 1)
  have c2 : ∀ u : After W, u.w'.cell? ⟨p, 2, none⟩ = some (.int .u8 a.f2) := fun u => u.cell (blk_cell hp 2)
  have c3 : ∀ u : After W, u.w'.cell? ⟨p, 3, none⟩ = some (.int .u8 a.f3) := fun u => u.cell (blk_cell hp 3)
  have c4 : ∀ u : After W, u.w'.cell? ⟨p, 4, none⟩ = some (.int .u8 a.f4) := fun u => u.cell (blk_cell hp 4)
  have c5 : ∀ u : After W, u.w'.cell? ⟨p, 5, none⟩ = some (.int .u8 a.f5) := fun u => u.cell (blk_cell hp 5)
  have d5 : W.cell? ⟨p, 5, none⟩ = some (.int .u8 a.f5) := blk_cell hp 5
  have HB := Lib.hid hbl
  have HA5 := Lib.hid ha
  clear hbl hp ha
  go_enter Try.func21, Try.ntmps21
  go_upto_region 1 with fail
  rw [← hW, ← hpp]
  clear hW hpp
  by_cases hd : a = staA a.f5
  · have HD := Lib.hid (show decide (a = staA a.f5) = true by simpa using hd)
    have HDD := Lib.hid hd
    clear hd
    go_upto_region 1 with fail
    refine wp_region_after (by kernel_rfl) (by kernel_rfl) ?_
    go_big_quiet_step (fail)
    go_big_quiet_step (fail)
    go_big_quiet_step (fail)
    go_big_quiet_step (fail)
    go_big_quiet_step ((go_at_call 40; exact Calls.after_of (rsta a.f5 HA5.out _)))
    go_big_quiet_step ((first | rw [adEq, HD.out] | rw [adEq1, HD.out]; exact ⟨rfl, rfl⟩))
    refine wpQuiet_nil ?_
    rintro w2 ⟨⟨_, hb2⟩, rfl⟩
    have HB2 := Lib.hid (HB.out.trans (hb2.mono HB.out.size))
    have k5 := c5 ⟨_, hb2⟩
    dsimp only at k5
    clear c0 c1 c2 c3 c4 c5 hb2 d5
    go_wp2_with fail
    go_ret
    exact ⟨by unfold numA; rw [if_pos HDD.out]; rfl, HB2.out⟩
  · have HD := Lib.hid (show decide (a = staA a.f5) = false by simpa using hd)
    have HDD := Lib.hid hd
    clear hd
    go_upto_region 1 with fail
    refine wp_region_after (by kernel_rfl) (by kernel_rfl) ?_
    go_big_quiet_step (fail)
    go_big_quiet_step (fail)
    go_big_quiet_step (fail)
    go_big_quiet_step (fail)
    go_big_quiet_step ((go_at_call 40; exact Calls.after_of (rsta a.f5 HA5.out _)))
    go_big_quiet_step ((first | rw [adEq, HD.out] | rw [adEq1, HD.out]; exact ⟨rfl, rfl⟩))
    refine wpQuiet_nil ?_
    rintro w2 ⟨⟨_, hb2⟩, rfl⟩
    have HB2 := Lib.hid (HB.out.trans (hb2.mono HB.out.size))
    have k5 := c5 ⟨_, hb2⟩
    dsimp only at k5
    clear c0 c1 c2 c3 c4 c5 hb2 d5
    go_wp2_with fail
    go_ret
    exact ⟨by unfold numA; rw [if_neg HDD.out]; rfl, HB2.out⟩
end Go.Proofs.Yteihpaikdpdglaa
