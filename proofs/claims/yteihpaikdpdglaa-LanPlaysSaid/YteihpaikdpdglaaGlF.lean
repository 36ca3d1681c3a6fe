/-
  Package lan: New, at any arguments. (Printed by gF.py out of LanE.)
-/
import Derived.Test.YteihpaikdpdglaaGlB
namespace Go.Proofs.Yteihpaikdpdglaa
open Go.RowKit
set_option linter.unusedVariables false


set_option maxHeartbeats 4000000 in
theorem newG (st : Nat) (row life : Int) (hst : 1 ≤ st ∧ st ≤ 16) (hrow : 1 ≤ row ∧ row ≤ 64) (hlife : 1 ≤ life ∧ life ≤ 10000) (w : World) :
    Calls Try.prog 12 #[.int .i64 st, .int .i64 row, .int .i64 life] w fun e w' => ∃ t F, e = .returned (.tuple #[.pointer (some ⟨t, 0, none⟩), .int .i64 0]) ∧ LG w' F t st life 0 row (List.replicate (st * st) []) ∧ Below w.heap.size w w' ∧ (∀ b, F b → w.heap.size ≤ b) := by
  obtain ⟨i0, hi0, hz0, hz1, hz2⟩ := info_parts infoP
  obtain ⟨hs0, hs1⟩ := hst
  obtain ⟨hr0, hr1⟩ := hrow
  obtain ⟨hl0, hl1⟩ := hlife
  obtain ⟨N, hN⟩ : ∃ N, N = st * st := ⟨_, rfl⟩
  have hN4 : 1 ≤ N := by rw [hN]; exact Nat.mul_le_mul hs0 hs0
  have hN256 : N ≤ 256 := by rw [hN]; exact Nat.mul_le_mul hs1 hs1
  have hNw : IntKind.i64.wrap ((st : Int) * (st : Int)) = (N : Int) := by
    rw [hN, IntWalk.i64_in]
    · simp
    · rw [← Int.natCast_mul, ← hN]; omega
  have e1 : decide ((st : Int) < 1) = false := decide_eq_false (by omega)
  have e2 : decide ((16 : Int) < (st : Int)) = false := decide_eq_false (by omega)
  have e3 : decide (row < 1) = false := decide_eq_false (by omega)
  have e4 : decide (64 < row) = false := decide_eq_false (by omega)
  have e5 : decide (life < 1) = false := decide_eq_false (by omega)
  have e6 : decide (10000 < life) = false := decide_eq_false (by omega)
  have e7 : decide (st < 1) = false := decide_eq_false (by omega)
  have e8 : decide (16 < st) = false := decide_eq_false (by omega)
  have HN := Lib.hid hN
  clear hN
  have ini : NewI w (w.alloc (.cells #[.int .i64 st, .int .i64 life, .int .i64 0, .slice none 0 0] 69)) w.heap.size st life row (.slice none 0 0) [] :=
    ⟨heap_alloc_new' w _, Nat.le_refl _, Own.nil _ _ _ _ _, fun c hc => (by cases hc), (Below.refl _ w).alloc (Nat.le_refl _) _, List.nodup_nil⟩
  have Ini := Lib.hid ini
  clear ini
  obtain ⟨t, ht⟩ : ∃ t, t = w.heap.size := ⟨_, rfl⟩
  go_enter Try.func12, Try.ntmps12
  go_wp2_with fail
  rw [← ht] at Ini ⊢
  have HT := Lib.hid ht
  clear ht
  go_loopw [38] (fun v wr => ∃ i : Nat, i ≤ N ∧ v = .int .i64 i ∧ Hid (∃ rv ps, ps.length = i ∧ NewI w wr t st life row rv ps)) (fun v _ => N - (intOf v).toNat)
  case atStart => exact ⟨0, Nat.zero_le _, rfl, _, [], rfl, Ini.out⟩
  case round =>
    obtain ⟨i, hi, rfl, HX⟩ := hrel
    by_cases hlt : i < N
    · obtain ⟨rv, ps, hpl, hI⟩ := HX.out
      obtain ⟨a, cap, hrv, _⟩ := own_shape hI.rows
      rw [hpl] at hrv
      subst hrv
      have HI := Lib.hid hI
      have HPL := Lib.hid hpl
      have k3 : wr.cell? ⟨t, 3, none⟩ = some (.slice a i cap) := blk_cell hI.blk 3
      have htl : t < wr.heap.size := lt_of_block hI.blk
      have hdl : decide ((i : Int) < (N : Int)) = true := by simpa using hlt
      clear hI hpl HX
      have hB8 : Below wr.heap.size wr ((wr.alloc (.cells #[.int .i64 row, .slice none 0 0] 88)).alloc (.cells #[.pointer (some ⟨wr.heap.size, 0, none⟩)] 70)).drew := (((Below.refl _ wr).alloc (Nat.le_refl _) _).alloc (by simp) _).drew
      have hP8 : ((wr.alloc (.cells #[.int .i64 row, .slice none 0 0] 88)).alloc (.cells #[.pointer (some ⟨wr.heap.size, 0, none⟩)] 70)).drew.heap[wr.heap.size + 1]? = some (.cells #[.pointer (some ⟨wr.heap.size, 0, none⟩)] 70 (0, 0)) := by
        have := heap_alloc_new' (wr.alloc (.cells #[.int .i64 row, .slice none 0 0] 88)) (.cells #[.pointer (some ⟨wr.heap.size, 0, none⟩)] 70)
        exact heap_drewL (by simpa using this)
      have hQ8 : ((wr.alloc (.cells #[.int .i64 row, .slice none 0 0] 88)).alloc (.cells #[.pointer (some ⟨wr.heap.size, 0, none⟩)] 70)).drew.heap[wr.heap.size]? = some (.cells #[.int .i64 row, .slice none 0 0] 88 (0, 0)) := heap_drewL ((heap_alloc_lt _ _ (by simp)).trans (heap_alloc_new' _ _))
      have hO8 : ((wr.alloc (.cells #[.int .i64 row, .slice none 0 0] 88)).alloc (.cells #[.pointer (some ⟨wr.heap.size, 0, none⟩)] 70)).drew.ownsRow w.heap.size 70 1 (.slice a i cap) i (ps.flatMap enP) := by have := (HI.out.below hB8).rows; unfold Own at this; rw [HPL.out] at this; exact this
      have hS8 : w.heap.size ≤ ((wr.alloc (.cells #[.int .i64 row, .slice none 0 0] 88)).alloc (.cells #[.pointer (some ⟨wr.heap.size, 0, none⟩)] 70)).drew.heap.size := (HI.out.below hB8).bel.size
      have H8 := Lib.hid (And.intro hB8 (And.intro hP8 (And.intro hQ8 (And.intro hO8 hS8))))
      clear hB8 hP8 hQ8 hO8 hS8
      go_upto_region 6 with fail
      go_region_law (first
        | (go_simp; go_at_call 30; refine (newF row ⟨by omega, by omega⟩ _).mono ?_; rintro e w' ⟨rfl, rfl⟩)
        | (refine step_app (B := w.heap.size) (v := .slice a i cap) (n := i) (m := 1) rfl (.tmp 44) (.tmp 47) 67 rfl 70 i0 _ 1 _ Try.underlying67 hi0 hz0 hz1 hz2 rfl (by decide) H8.out.2.2.2.2 rfl rfl H8.out.2.2.2.1 (rd_oneP H8.out.2.1) (enP_one _) (by unfold maxLen; omega) (by omega) ?_; intro v5 w5 o5 f5 m5 n5 z5; have fin5 := Lib.hid (new_fin HI.out H8.out.1 (Nat.le_refl _) H8.out.2.2.1 (by rw [HPL.out]; exact o5) f5); have k5 : w5.cell? ⟨t, 3, none⟩ = some (.slice a i cap) := blk_cell fin5.out.1 3; have z5' : w5.frozen? ⟨t, 3, none⟩ = false := blk_free fin5.out.1 3; obtain ⟨a5, c5, hv5, _⟩ := own_shape o5; subst hv5; clear o5 f5 m5 n5 z5)
        | fail)
      all_goals
        clear k3 k5 z5'
        try simp only [Act.put, List.setIfInBounds_toArray, List.set_cons_zero, List.set_cons_succ]
        go_wp2_with fail
        go_roundw
        case rel => exact ⟨i + 1, by omega, by go_num, _, ps ++ [wr.heap.size], by rw [List.length_append, HPL.out]; rfl, fin5.out.2⟩
        case measure => simp [intOf]; omega
    · obtain rfl : i = N := by omega
      obtain ⟨rv, ps, hpl, hI⟩ := HX.out
      have fin : Hid (∃ F, LG wr F t st life 0 row (List.replicate (st * st) []) ∧ Below w.heap.size w wr ∧ (∀ b, F b → w.heap.size ≤ b)) := by
        refine ⟨fun b => w.heap.size ≤ b ∧ b < wr.heap.size, ⟨rv, ps, fun i b => ∃ h : i < ps.length, b = ps[i], hI.blk, own_zero hI.rows, ⟨hs0, hs1⟩, by rw [hpl, HN.out], by simp, ⟨by omega, by omega⟩, ⟨by omega, by omega⟩, fun l hl p hp => ?_, fun j h1 h2 => ?_, ?_, ?_, ⟨hI.ge, lt_of_block hI.blk⟩, fun g hg => hI.rows.lt g hg, ?_, ?_, fun b hb => hb.2⟩, hI.bel, fun b hb => hb.1⟩
        · rw [(List.mem_replicate.1 hl).2] at hp; cases hp
        · have hq := hI.qs _ (List.getElem_mem h1)
          rw [List.getElem_replicate]
          refine ⟨⟨.slice none 0 0, [], ⟨hq.2, Own.nil _ _ _ _ _, ⟨by omega, by omega⟩, by simp; omega⟩, trivial, List.Pairwise.nil, fun g hg => by simp [Value.ownBlock] at hg, fun u hu => (by cases hu)⟩, ⟨h1, rfl⟩, ?_⟩
          rintro b ⟨h, rfl⟩
          exact lt_of_block (hI.qs _ (List.getElem_mem h)).2
        · rintro j k b ⟨h1, e1⟩ ⟨h2, e2⟩
          exact (List.getElem_inj hI.nd).1 (e1.symm.trans e2)
        · rintro j b ⟨h, rfl⟩
          have hq := hI.qs _ (List.getElem_mem h)
          exact ⟨hq.1, lt_of_block hq.2⟩
        · rintro j ⟨h, e⟩
          have hq := (hI.qs _ (List.getElem_mem h)).2
          rw [← e, hI.blk] at hq
          cases hq
        · rintro j g hg ⟨h, e⟩
          have hq := (hI.qs _ (List.getElem_mem h)).2
          rw [← e] at hq
          exact own_ne hI.rows hq (by decide) hg
      clear hI
      go_wp2_with fail
      go_ret2
      obtain ⟨F, f1, f2, f3⟩ := fin.out
      exact ⟨_, F, rfl, f1, f2, f3⟩
/-- What New takes. -/
def newOk (st row life : Int) : Bool := decide (1 ≤ st) && decide (st ≤ 16) && decide (1 ≤ row) && decide (row ≤ 64) && decide (1 ≤ life) && decide (life ≤ 10000)
theorem newBadG (st row life : Int) (h : newOk st row life = false) (w : World) :
    Calls Try.prog 12 #[.int .i64 st, .int .i64 row, .int .i64 life] w fun e w' => e = .returned (.tuple #[.pointer none, .int .i64 1]) ∧ w' = w := by
  by_cases c0 : st < 1
  · have e0 : decide (st < 1) = true := decide_eq_true c0
    clear h
    go_enter Try.func12, Try.ntmps12
    go_wp2_with fail
    go_ret2
    exact ⟨rfl, rfl⟩
  have e0 : decide (st < 1) = false := decide_eq_false c0
  by_cases c1 : 16 < st
  · have e1 : decide (16 < st) = true := decide_eq_true c1
    clear h
    go_enter Try.func12, Try.ntmps12
    go_wp2_with fail
    go_ret2
    exact ⟨rfl, rfl⟩
  have e1 : decide (16 < st) = false := decide_eq_false c1
  by_cases c2 : row < 1
  · have e2 : decide (row < 1) = true := decide_eq_true c2
    clear h
    go_enter Try.func12, Try.ntmps12
    go_wp2_with fail
    go_ret2
    exact ⟨rfl, rfl⟩
  have e2 : decide (row < 1) = false := decide_eq_false c2
  by_cases c3 : 64 < row
  · have e3 : decide (64 < row) = true := decide_eq_true c3
    clear h
    go_enter Try.func12, Try.ntmps12
    go_wp2_with fail
    go_ret2
    exact ⟨rfl, rfl⟩
  have e3 : decide (64 < row) = false := decide_eq_false c3
  by_cases c4 : life < 1
  · have e4 : decide (life < 1) = true := decide_eq_true c4
    clear h
    go_enter Try.func12, Try.ntmps12
    go_wp2_with fail
    go_ret2
    exact ⟨rfl, rfl⟩
  have e4 : decide (life < 1) = false := decide_eq_false c4
  by_cases c5 : 10000 < life
  · have e5 : decide (10000 < life) = true := decide_eq_true c5
    clear h
    go_enter Try.func12, Try.ntmps12
    go_wp2_with fail
    go_ret2
    exact ⟨rfl, rfl⟩
  have e5 : decide (10000 < life) = false := decide_eq_false c5
  exfalso
  unfold newOk at h
  rw [decide_eq_true (by omega), decide_eq_true (by omega), decide_eq_true (by omega), decide_eq_true (by omega), decide_eq_true (by omega), decide_eq_true (by omega)] at h
  cases h
end Go.Proofs.Yteihpaikdpdglaa
