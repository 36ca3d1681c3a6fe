/-
  The reference's line: NewLan.
-/
import Derived.Test.YteihpaikdpdglaaRlD
import Derived.Test.YteihpaikdpdglaaGlF
import Derived.Laws.OwnMore
namespace Go.Proofs.Yteihpaikdpdglaa
open Go.RowKit
set_option linter.unusedVariables false


theorem infoRL : (Try.prog.info? 61).map (fun i => (i.zero, i.size, i.bytes)) = some (some (.slice none 0 0), 1, 24) := by kernel_rfl
theorem made_rep (v : Value) (n : Nat) : (madeCells #[v] n).toList = List.replicate n v := by
  unfold madeCells
  rw [List.eq_replicate_iff]
  refine ⟨by simp, fun b hb => ?_⟩
  simp at hb
  obtain ⟨a, _, rfl⟩ := hb
  simp [Nat.mod_one]
set_option maxHeartbeats 4000000 in
theorem rnew (st : Nat) (row life : Int) (hst : 1 ≤ st ∧ st ≤ 16) (hrow : 1 ≤ row ∧ row ≤ 64) (hlife : 1 ≤ life ∧ life ≤ 10000) (w : World) :
    Calls Try.prog 26 #[.int .i64 st, .int .i64 row, .int .i64 life] w fun e w' => ∃ r F, e = .returned (.tuple #[.pointer (some ⟨r, 0, none⟩), .int .i64 0]) ∧ RG w' F r st life 0 row (List.replicate (st * st) []) ∧ Below w.heap.size w w' ∧ (∀ b, F b → w.heap.size ≤ b) := by
  obtain ⟨i0, hi0, hz0, hz1, hz2⟩ := info_parts infoRL
  obtain ⟨hs0, hs1⟩ := hst
  obtain ⟨hr0, hr1⟩ := hrow
  obtain ⟨hl0, hl1⟩ := hlife
  obtain ⟨N, hN⟩ : ∃ N, N = st * st := ⟨_, rfl⟩
  have hN4 : 1 ≤ N := by rw [hN]; exact Nat.mul_le_mul hs0 hs0
  have hN256 : N ≤ 256 := by rw [hN]; exact Nat.mul_le_mul hs1 hs1
  have hNw : wrap64 ((st : Int) * (st : Int)) = (N : Int) := by
    rw [hN, IntWalk.wrap64_in]
    · simp
    · rw [← Int.natCast_mul, ← hN]; omega
  have e1 : decide ((st : Int) < 1) = false := decide_eq_false (by omega)
  have e2 : decide ((16 : Int) < (st : Int)) = false := decide_eq_false (by omega)
  have e3 : decide (row < 1) = false := decide_eq_false (by omega)
  have e4 : decide (64 < row) = false := decide_eq_false (by omega)
  have e5 : decide (life < 1) = false := decide_eq_false (by omega)
  have e6 : decide (10000 < life) = false := decide_eq_false (by omega)
  have e7 : decide (st < 1) = false := decide_eq_false (by omega)
  have e8 : decide (16 < st) = false := decide_eq_false (by omega)
  have HN := Lib.hid hN
  clear hN
  go_enter Try.func26, Try.ntmps26
  go_wp2_with fail
  obtain ⟨w1, hrun, ho, hgr⟩ := run_makeSlice_full (P := Try.prog) (w := w) w.heap.size 63 61 i0 _ 1 Try.underlying63 hi0 hz0 hz1 .i64 .i64 N (by omega) (by rw [hz2]; omega) (by unfold maxLen; omega) (Nat.le_refl _)
  rw [hrun]
  have hb1 : Below w.heap.size w w1 := Below.grown (Below.refl _ w) hgr (Nat.le_refl _) (fun k e => by cases e)
  have HB1 := Lib.hid hb1
  have HO := Lib.hid ho
  clear hrun ho hgr hb1
  go_wp2_with fail
  go_ret2
  have hb2 : Below w1.heap.size w1 (w1.alloc (.cells #[.int .i64 st, .int .i64 row, .int .i64 life, .int .i64 0, .slice (some ⟨w.heap.size, 0, none⟩) N N] 65)) := (Below.refl _ w1).alloc (Nat.le_refl _) _
  have ho : Own enV 61 1 w.heap.size w1 (.slice (some ⟨w.heap.size, 0, none⟩) N N) (List.replicate N (.slice none 0 0)) := by
    have h9 := HO.out
    rw [show (Value.slice none 0 0).cells = #[Value.slice none 0 0] from rfl, made_rep, Nat.mul_one] at h9
    unfold Own
    rw [List.length_replicate, flat_enV]
    exact h9
  have hsz : w.heap.size ≤ w1.heap.size := HB1.out.size
  refine ⟨w1.heap.size, fun b => w.heap.size ≤ b ∧ b < w1.heap.size + 1, rfl, ⟨_, List.replicate N (.slice none 0 0), heap_alloc_new' w1 _, own_zero (Own.keep ho (fun g hg => hb2.block g (own_lt ho hg))), ⟨hs0, hs1⟩, by rw [List.length_replicate, HN.out], by simp, ⟨by omega, by omega⟩, ⟨by omega, by omega⟩, fun l hl p hp => ?_, fun i h1 h2 => ?_, fun i j h1 h2 g e1 e2 => ?_, ⟨hsz, by omega⟩, fun g hg => ?_, fun b hb => by simp; exact hb.2⟩, HB1.out.trans (hb2.mono hsz), fun b hb => hb.1⟩
  · rw [(List.mem_replicate.1 hl).2] at hp; cases hp
  · rw [List.getElem_replicate, List.getElem_replicate]; exact RX.nil _ _
  · rw [List.getElem_replicate] at e1; simp [Value.ownBlock] at e1
  · have h8 := ho.lt g hg
    exact ⟨h8.1, by omega⟩
theorem rnewBad (st row life : Int) (h : newOk st row life = false) (w : World) :
    Calls Try.prog 26 #[.int .i64 st, .int .i64 row, .int .i64 life] w fun e w' => e = .returned (.tuple #[.pointer none, .int .i64 1]) ∧ w' = w := by
  by_cases c0 : st < 1
  · have e0 : decide (st < 1) = true := decide_eq_true c0
    clear h
    go_enter Try.func26, Try.ntmps26
    go_wp2_with fail
    go_ret2
    exact ⟨rfl, rfl⟩
  have e0 : decide (st < 1) = false := decide_eq_false c0
  by_cases c1 : 16 < st
  · have e1 : decide (16 < st) = true := decide_eq_true c1
    clear h
    go_enter Try.func26, Try.ntmps26
    go_wp2_with fail
    go_ret2
    exact ⟨rfl, rfl⟩
  have e1 : decide (16 < st) = false := decide_eq_false c1
  by_cases c2 : row < 1
  · have e2 : decide (row < 1) = true := decide_eq_true c2
    clear h
    go_enter Try.func26, Try.ntmps26
    go_wp2_with fail
    go_ret2
    exact ⟨rfl, rfl⟩
  have e2 : decide (row < 1) = false := decide_eq_false c2
  by_cases c3 : 64 < row
  · have e3 : decide (64 < row) = true := decide_eq_true c3
    clear h
    go_enter Try.func26, Try.ntmps26
    go_wp2_with fail
    go_ret2
    exact ⟨rfl, rfl⟩
  have e3 : decide (64 < row) = false := decide_eq_false c3
  by_cases c4 : life < 1
  · have e4 : decide (life < 1) = true := decide_eq_true c4
    clear h
    go_enter Try.func26, Try.ntmps26
    go_wp2_with fail
    go_ret2
    exact ⟨rfl, rfl⟩
  have e4 : decide (life < 1) = false := decide_eq_false c4
  by_cases c5 : 10000 < life
  · have e5 : decide (10000 < life) = true := decide_eq_true c5
    clear h
    go_enter Try.func26, Try.ntmps26
    go_wp2_with fail
    go_ret2
    exact ⟨rfl, rfl⟩
  have e5 : decide (10000 < life) = false := decide_eq_false c5
  exfalso
  unfold newOk at h
  rw [decide_eq_true (by omega), decide_eq_true (by omega), decide_eq_true (by omega), decide_eq_true (by omega), decide_eq_true (by omega), decide_eq_true (by omega)] at h
  cases h
end Go.Proofs.Yteihpaikdpdglaa
