/-
  Layer 12: the document's Less, the document's key as the program has it.
-/
import Derived.Test.YtjjfminpaoooaaaL12A
import Derived.Deep.LoopGhost
namespace Go.Proofs.Ytjjfminpaoooaaa
open Go.RowKit
set_option linter.unusedVariables false


theorem cmpZ_same {x y : Int} (a b : List Int) (h : x = y) : cmpZ (x :: a) (y :: b) = cmpZ a b := by rw [cmpZ_cons, if_neg (by omega), if_neg (by omega)]
theorem cmpZ_unlike {x y : Int} (a b : List Int) (h : ¬ x = y) : decide (cmpZ (x :: a) (y :: b) < 0) = decide (x < y) := by
  rw [cmpZ_cons]
  by_cases h1 : x < y
  · rw [if_pos h1]; simp [h1]
  · rw [if_neg h1, if_pos (by omega)]; simp [h1]

set_option maxHeartbeats 8000000 in
theorem kref (a b : Ky) (z : Bool) (hz : decide (ordK a b < 0) = z) (w : World) : Calls Try.prog 11 #[kyV a, kyV b] w fun e w' => e = .returned (.bool z) ∧ Below w.heap.size w w' := by
  obtain ⟨a0, a1, a2, a3, a4, a5, a6, a7⟩ := a
  obtain ⟨b0, b1, b2, b3, b4, b5, b6, b7⟩ := b
  have hz1 : decide (cmpZ ([a0, a1, a2, a3, a4, a5, a6, a7].drop 0) ([b0, b1, b2, b3, b4, b5, b6, b7].drop 0) < 0) = z := hz
  clear hz
  obtain ⟨W, hW⟩ : ∃ W, W = (w.alloc (.cells #[.int .u8 a0, .int .u8 a1, .int .u8 a2, .int .u8 a3, .int .u8 a4, .int .u8 a5, .int .i64 a6, .int .i64 a7] 25)).alloc (.cells #[.int .u8 b0, .int .u8 b1, .int .u8 b2, .int .u8 b3, .int .u8 b4, .int .u8 b5, .int .i64 b6, .int .i64 b7] 25) := ⟨_, rfl⟩
  have hB : Below w.heap.size w W := by rw [hW]; exact ((Below.refl _ w).alloc (Nat.le_refl _) _).alloc (by simp) _
  obtain ⟨p, hp⟩ : ∃ p, p = w.heap.size := ⟨_, rfl⟩
  have ra : W.heap[p]? = some (.cells #[.int .u8 a0, .int .u8 a1, .int .u8 a2, .int .u8 a3, .int .u8 a4, .int .u8 a5, .int .i64 a6, .int .i64 a7] 25 (0, 0)) := by
    rw [hW, hp]
    exact (heap_alloc_lt _ _ (by simp)).trans (heap_alloc_new' w _)
  have rb : W.heap[p + 1]? = some (.cells #[.int .u8 b0, .int .u8 b1, .int .u8 b2, .int .u8 b3, .int .u8 b4, .int .u8 b5, .int .i64 b6, .int .i64 b7] 25 (0, 0)) := by
    rw [hW, hp]
    have := heap_alloc_new' (w.alloc (.cells #[.int .u8 a0, .int .u8 a1, .int .u8 a2, .int .u8 a3, .int .u8 a4, .int .u8 a5, .int .i64 a6, .int .i64 a7] 25)) (.cells #[.int .u8 b0, .int .u8 b1, .int .u8 b2, .int .u8 b3, .int .u8 b4, .int .u8 b5, .int .i64 b6, .int .i64 b7] 25)
    simpa using this
  have HI := Lib.hid (show W.heap[p]? = some (.cells #[.int .u8 a0, .int .u8 a1, .int .u8 a2, .int .u8 a3, .int .u8 a4, .int .u8 a5, .int .i64 a6, .int .i64 a7] 25 (0, 0)) ∧ W.heap[p + 1]? = some (.cells #[.int .u8 b0, .int .u8 b1, .int .u8 b2, .int .u8 b3, .int .u8 b4, .int .u8 b5, .int .i64 b6, .int .i64 b7] 25 (0, 0)) ∧ Below w.heap.size w W from ⟨ra, rb, hB⟩)
  have HZ := Lib.hid hz1
  clear ra rb hB hz1
  go_enter Try.func11, Try.ntmps11
  go_wp2_with fail
  rw [← hW, ← hp]
  have HW := Lib.hid hW
  have HP := Lib.hid hp
  clear hW hp
  go_loopg [5] 6 (fun g s5 wx => ∃ i : Nat, s5 = .int .i64 i ∧ i ≤ 6 ∧ g = 6 - i ∧ (wx.heap[p]? = some (.cells #[.int .u8 a0, .int .u8 a1, .int .u8 a2, .int .u8 a3, .int .u8 a4, .int .u8 a5, .int .i64 a6, .int .i64 a7] 25 (0, 0)) ∧ wx.heap[p + 1]? = some (.cells #[.int .u8 b0, .int .u8 b1, .int .u8 b2, .int .u8 b3, .int .u8 b4, .int .u8 b5, .int .i64 b6, .int .i64 b7] 25 (0, 0)) ∧ Below w.heap.size w wx) ∧ decide (cmpZ ([a0, a1, a2, a3, a4, a5, a6, a7].drop i) ([b0, b1, b2, b3, b4, b5, b6, b7].drop i) < 0) = z)
  case atStart => exact ⟨0, rfl, by decide, rfl, HI.out, HZ.out⟩
  case round =>
    obtain ⟨i, rfl, hi, rfl, ⟨ra, rb, hB⟩, hc⟩ := hrel
    have l : p + 1 < wr.heap.size := lt_of_block rb
    have hcase : i = 0 ∨ i = 1 ∨ i = 2 ∨ i = 3 ∨ i = 4 ∨ i = 5 ∨ i = 6 := by omega
    rcases hcase with rfl | rfl | rfl | rfl | rfl | rfl | rfl
    · rw [show ((0 : Nat) : Int) = (0 : Int) from rfl]
      have x : wr.cell? ⟨p, 0, none⟩ = some (.int .u8 a0) := blk_cell ra 0
      have y : wr.cell? ⟨p + 1, 0, none⟩ = some (.int .u8 b0) := blk_cell rb 0
      have x1 : wr.drew.cell? ⟨p, 0, none⟩ = some (.int .u8 a0) := blk_cell ra 0
      have y1 : wr.drew.cell? ⟨p + 1, 0, none⟩ = some (.int .u8 b0) := blk_cell rb 0
      have HR := Lib.hid (show wr.drew.heap[p]? = some (.cells #[.int .u8 a0, .int .u8 a1, .int .u8 a2, .int .u8 a3, .int .u8 a4, .int .u8 a5, .int .i64 a6, .int .i64 a7] 25 (0, 0)) ∧ wr.drew.heap[p + 1]? = some (.cells #[.int .u8 b0, .int .u8 b1, .int .u8 b2, .int .u8 b3, .int .u8 b4, .int .u8 b5, .int .i64 b6, .int .i64 b7] 25 (0, 0)) ∧ Below w.heap.size w wr.drew from ⟨ra, rb, hB.drew⟩)
      clear ra rb hB
      by_cases e : a0 = b0
      · have hn : (a0 != b0) = false := by simp [e]
        have hm : (!(a0 == b0)) = false := by simp [e]
        have hc2 := (congrArg (fun q => decide (q < 0)) (cmpZ_same _ _ e)).symm.trans hc
        have HC := Lib.hid hc2
        clear hc hc2 e
        go_upto_region 4 with fail
        go_region
        go_wp2_with fail
        go_roundg (6 - 1)
        case measure => decide
        case rel => exact ⟨1, by go_num, by decide, rfl, HR.out, HC.out⟩
      · have hn : (a0 != b0) = true := by simp [e]
        have hm : (!(a0 == b0)) = true := by simp [e]
        have hd : decide (a0 < b0) = z := (cmpZ_unlike _ _ e).symm.trans hc
        clear hc e
        go_upto_region 4 with fail
        go_region
        go_upto_region 5 with fail
        go_region
        go_wp2_with fail
        go_ret
        exact ⟨rfl, HR.out.2.2.drew⟩
    · rw [show ((1 : Nat) : Int) = (1 : Int) from rfl]
      have x : wr.cell? ⟨p, 1, none⟩ = some (.int .u8 a1) := blk_cell ra 1
      have y : wr.cell? ⟨p + 1, 1, none⟩ = some (.int .u8 b1) := blk_cell rb 1
      have x1 : wr.drew.cell? ⟨p, 1, none⟩ = some (.int .u8 a1) := blk_cell ra 1
      have y1 : wr.drew.cell? ⟨p + 1, 1, none⟩ = some (.int .u8 b1) := blk_cell rb 1
      have HR := Lib.hid (show wr.drew.heap[p]? = some (.cells #[.int .u8 a0, .int .u8 a1, .int .u8 a2, .int .u8 a3, .int .u8 a4, .int .u8 a5, .int .i64 a6, .int .i64 a7] 25 (0, 0)) ∧ wr.drew.heap[p + 1]? = some (.cells #[.int .u8 b0, .int .u8 b1, .int .u8 b2, .int .u8 b3, .int .u8 b4, .int .u8 b5, .int .i64 b6, .int .i64 b7] 25 (0, 0)) ∧ Below w.heap.size w wr.drew from ⟨ra, rb, hB.drew⟩)
      clear ra rb hB
      by_cases e : a1 = b1
      · have hn : (a1 != b1) = false := by simp [e]
        have hm : (!(a1 == b1)) = false := by simp [e]
        have hc2 := (congrArg (fun q => decide (q < 0)) (cmpZ_same _ _ e)).symm.trans hc
        have HC := Lib.hid hc2
        clear hc hc2 e
        go_upto_region 4 with fail
        go_region
        go_wp2_with fail
        go_roundg (6 - 2)
        case measure => decide
        case rel => exact ⟨2, by go_num, by decide, rfl, HR.out, HC.out⟩
      · have hn : (a1 != b1) = true := by simp [e]
        have hm : (!(a1 == b1)) = true := by simp [e]
        have hd : decide (a1 < b1) = z := (cmpZ_unlike _ _ e).symm.trans hc
        clear hc e
        go_upto_region 4 with fail
        go_region
        go_upto_region 5 with fail
        go_region
        go_wp2_with fail
        go_ret
        exact ⟨rfl, HR.out.2.2.drew⟩
    · rw [show ((2 : Nat) : Int) = (2 : Int) from rfl]
      have x : wr.cell? ⟨p, 2, none⟩ = some (.int .u8 a2) := blk_cell ra 2
      have y : wr.cell? ⟨p + 1, 2, none⟩ = some (.int .u8 b2) := blk_cell rb 2
      have x1 : wr.drew.cell? ⟨p, 2, none⟩ = some (.int .u8 a2) := blk_cell ra 2
      have y1 : wr.drew.cell? ⟨p + 1, 2, none⟩ = some (.int .u8 b2) := blk_cell rb 2
      have HR := Lib.hid (show wr.drew.heap[p]? = some (.cells #[.int .u8 a0, .int .u8 a1, .int .u8 a2, .int .u8 a3, .int .u8 a4, .int .u8 a5, .int .i64 a6, .int .i64 a7] 25 (0, 0)) ∧ wr.drew.heap[p + 1]? = some (.cells #[.int .u8 b0, .int .u8 b1, .int .u8 b2, .int .u8 b3, .int .u8 b4, .int .u8 b5, .int .i64 b6, .int .i64 b7] 25 (0, 0)) ∧ Below w.heap.size w wr.drew from ⟨ra, rb, hB.drew⟩)
      clear ra rb hB
      by_cases e : a2 = b2
      · have hn : (a2 != b2) = false := by simp [e]
        have hm : (!(a2 == b2)) = false := by simp [e]
        have hc2 := (congrArg (fun q => decide (q < 0)) (cmpZ_same _ _ e)).symm.trans hc
        have HC := Lib.hid hc2
        clear hc hc2 e
        go_upto_region 4 with fail
        go_region
        go_wp2_with fail
        go_roundg (6 - 3)
        case measure => decide
        case rel => exact ⟨3, by go_num, by decide, rfl, HR.out, HC.out⟩
      · have hn : (a2 != b2) = true := by simp [e]
        have hm : (!(a2 == b2)) = true := by simp [e]
        have hd : decide (a2 < b2) = z := (cmpZ_unlike _ _ e).symm.trans hc
        clear hc e
        go_upto_region 4 with fail
        go_region
        go_upto_region 5 with fail
        go_region
        go_wp2_with fail
        go_ret
        exact ⟨rfl, HR.out.2.2.drew⟩
    · rw [show ((3 : Nat) : Int) = (3 : Int) from rfl]
      have x : wr.cell? ⟨p, 3, none⟩ = some (.int .u8 a3) := blk_cell ra 3
      have y : wr.cell? ⟨p + 1, 3, none⟩ = some (.int .u8 b3) := blk_cell rb 3
      have x1 : wr.drew.cell? ⟨p, 3, none⟩ = some (.int .u8 a3) := blk_cell ra 3
      have y1 : wr.drew.cell? ⟨p + 1, 3, none⟩ = some (.int .u8 b3) := blk_cell rb 3
      have HR := Lib.hid (show wr.drew.heap[p]? = some (.cells #[.int .u8 a0, .int .u8 a1, .int .u8 a2, .int .u8 a3, .int .u8 a4, .int .u8 a5, .int .i64 a6, .int .i64 a7] 25 (0, 0)) ∧ wr.drew.heap[p + 1]? = some (.cells #[.int .u8 b0, .int .u8 b1, .int .u8 b2, .int .u8 b3, .int .u8 b4, .int .u8 b5, .int .i64 b6, .int .i64 b7] 25 (0, 0)) ∧ Below w.heap.size w wr.drew from ⟨ra, rb, hB.drew⟩)
      clear ra rb hB
      by_cases e : a3 = b3
      · have hn : (a3 != b3) = false := by simp [e]
        have hm : (!(a3 == b3)) = false := by simp [e]
        have hc2 := (congrArg (fun q => decide (q < 0)) (cmpZ_same _ _ e)).symm.trans hc
        have HC := Lib.hid hc2
        clear hc hc2 e
        go_upto_region 4 with fail
        go_region
        go_wp2_with fail
        go_roundg (6 - 4)
        case measure => decide
        case rel => exact ⟨4, by go_num, by decide, rfl, HR.out, HC.out⟩
      · have hn : (a3 != b3) = true := by simp [e]
        have hm : (!(a3 == b3)) = true := by simp [e]
        have hd : decide (a3 < b3) = z := (cmpZ_unlike _ _ e).symm.trans hc
        clear hc e
        go_upto_region 4 with fail
        go_region
        go_upto_region 5 with fail
        go_region
        go_wp2_with fail
        go_ret
        exact ⟨rfl, HR.out.2.2.drew⟩
    · rw [show ((4 : Nat) : Int) = (4 : Int) from rfl]
      have x : wr.cell? ⟨p, 4, none⟩ = some (.int .u8 a4) := blk_cell ra 4
      have y : wr.cell? ⟨p + 1, 4, none⟩ = some (.int .u8 b4) := blk_cell rb 4
      have x1 : wr.drew.cell? ⟨p, 4, none⟩ = some (.int .u8 a4) := blk_cell ra 4
      have y1 : wr.drew.cell? ⟨p + 1, 4, none⟩ = some (.int .u8 b4) := blk_cell rb 4
      have HR := Lib.hid (show wr.drew.heap[p]? = some (.cells #[.int .u8 a0, .int .u8 a1, .int .u8 a2, .int .u8 a3, .int .u8 a4, .int .u8 a5, .int .i64 a6, .int .i64 a7] 25 (0, 0)) ∧ wr.drew.heap[p + 1]? = some (.cells #[.int .u8 b0, .int .u8 b1, .int .u8 b2, .int .u8 b3, .int .u8 b4, .int .u8 b5, .int .i64 b6, .int .i64 b7] 25 (0, 0)) ∧ Below w.heap.size w wr.drew from ⟨ra, rb, hB.drew⟩)
      clear ra rb hB
      by_cases e : a4 = b4
      · have hn : (a4 != b4) = false := by simp [e]
        have hm : (!(a4 == b4)) = false := by simp [e]
        have hc2 := (congrArg (fun q => decide (q < 0)) (cmpZ_same _ _ e)).symm.trans hc
        have HC := Lib.hid hc2
        clear hc hc2 e
        go_upto_region 4 with fail
        go_region
        go_wp2_with fail
        go_roundg (6 - 5)
        case measure => decide
        case rel => exact ⟨5, by go_num, by decide, rfl, HR.out, HC.out⟩
      · have hn : (a4 != b4) = true := by simp [e]
        have hm : (!(a4 == b4)) = true := by simp [e]
        have hd : decide (a4 < b4) = z := (cmpZ_unlike _ _ e).symm.trans hc
        clear hc e
        go_upto_region 4 with fail
        go_region
        go_upto_region 5 with fail
        go_region
        go_wp2_with fail
        go_ret
        exact ⟨rfl, HR.out.2.2.drew⟩
    · rw [show ((5 : Nat) : Int) = (5 : Int) from rfl]
      have x : wr.cell? ⟨p, 5, none⟩ = some (.int .u8 a5) := blk_cell ra 5
      have y : wr.cell? ⟨p + 1, 5, none⟩ = some (.int .u8 b5) := blk_cell rb 5
      have x1 : wr.drew.cell? ⟨p, 5, none⟩ = some (.int .u8 a5) := blk_cell ra 5
      have y1 : wr.drew.cell? ⟨p + 1, 5, none⟩ = some (.int .u8 b5) := blk_cell rb 5
      have HR := Lib.hid (show wr.drew.heap[p]? = some (.cells #[.int .u8 a0, .int .u8 a1, .int .u8 a2, .int .u8 a3, .int .u8 a4, .int .u8 a5, .int .i64 a6, .int .i64 a7] 25 (0, 0)) ∧ wr.drew.heap[p + 1]? = some (.cells #[.int .u8 b0, .int .u8 b1, .int .u8 b2, .int .u8 b3, .int .u8 b4, .int .u8 b5, .int .i64 b6, .int .i64 b7] 25 (0, 0)) ∧ Below w.heap.size w wr.drew from ⟨ra, rb, hB.drew⟩)
      clear ra rb hB
      by_cases e : a5 = b5
      · have hn : (a5 != b5) = false := by simp [e]
        have hm : (!(a5 == b5)) = false := by simp [e]
        have hc2 := (congrArg (fun q => decide (q < 0)) (cmpZ_same _ _ e)).symm.trans hc
        have HC := Lib.hid hc2
        clear hc hc2 e
        go_upto_region 4 with fail
        go_region
        go_wp2_with fail
        go_roundg (6 - 6)
        case measure => decide
        case rel => exact ⟨6, by go_num, by decide, rfl, HR.out, HC.out⟩
      · have hn : (a5 != b5) = true := by simp [e]
        have hm : (!(a5 == b5)) = true := by simp [e]
        have hd : decide (a5 < b5) = z := (cmpZ_unlike _ _ e).symm.trans hc
        clear hc e
        go_upto_region 4 with fail
        go_region
        go_upto_region 5 with fail
        go_region
        go_wp2_with fail
        go_ret
        exact ⟨rfl, HR.out.2.2.drew⟩
    · rw [show ((6 : Nat) : Int) = (6 : Int) from rfl]
      have x : wr.cell? ⟨p, 6, none⟩ = some (.int .i64 a6) := blk_cell ra 6
      have y : wr.cell? ⟨p + 1, 6, none⟩ = some (.int .i64 b6) := blk_cell rb 6
      have x1 : wr.cell? ⟨p, 7, none⟩ = some (.int .i64 a7) := blk_cell ra 7
      have y1 : wr.cell? ⟨p + 1, 7, none⟩ = some (.int .i64 b7) := blk_cell rb 7
      have HB := Lib.hid hB
      clear ra rb hB
      by_cases e : a6 = b6
      · have hn : (a6 != b6) = false := by simp [e]
        have hm : (!(a6 == b6)) = false := by simp [e]
        have hc2 : decide (cmpZ [a7] [b7] < 0) = z := (congrArg (fun q => decide (q < 0)) (cmpZ_same _ _ e)).symm.trans hc
        have hd : decide (a7 < b7) = z := by
          rw [← hc2, cmpZ_one]; unfold cmpI
          by_cases h1 : a7 < b7
          · rw [if_pos h1]; simp [h1]
          · rw [if_neg h1]; split <;> simp [h1]
        clear hc hc2 e
        go_wp2_with fail
        go_ret
        exact ⟨rfl, HB.out⟩
      · have hn : (a6 != b6) = true := by simp [e]
        have hm : (!(a6 == b6)) = true := by simp [e]
        have hd : decide (a6 < b6) = z := (cmpZ_unlike _ _ e).symm.trans hc
        clear hc e
        go_wp2_with fail
        go_ret
        exact ⟨rfl, HB.out⟩
end Go.Proofs.Ytjjfminpaoooaaa
