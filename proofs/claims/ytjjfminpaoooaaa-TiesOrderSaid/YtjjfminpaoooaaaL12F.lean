/-
  Layer 12: TiesOrder: the walk.
-/
import Derived.Test.YtjjfminpaoooaaaL12G
import Derived.BigQuiet
namespace Go.Proofs.Ytjjfminpaoooaaa
open Go.RowKit
set_option linter.unusedVariables false


set_option maxHeartbeats 4000000 in
set_option maxRecDepth 100000 in
theorem orderL (a b c : Ky) (ha : a.ok) (hb : b.ok) (hc : c.ok) (w : World) : Calls Try.prog 3 #[kyV a, kyV b, kyV c] w fun x w' => x = .returned (.bool true) ∧ Below w.heap.size w w' := by
  obtain ⟨W, hW⟩ : ∃ W, W = ((w.alloc (.cells (kyCs a) 25)).alloc (.cells (kyCs b) 25)).alloc (.cells (kyCs c) 25) := ⟨_, rfl⟩
  obtain ⟨p, hp⟩ : ∃ p, p = w.heap.size := ⟨_, rfl⟩
  have hB : Below w.heap.size w W := by rw [hW]; exact (((Below.refl _ w).alloc (Nat.le_refl _) _).alloc (by simp) _).alloc (by simp; omega) _
  have ra : W.heap[p]? = some (.cells (kyCs a) 25 (0, 0)) := by
    rw [hW, hp]
    exact (heap_alloc_lt _ _ (by simp; omega)).trans ((heap_alloc_lt _ _ (by simp)).trans (heap_alloc_new' w _))
  have rb : W.heap[p + 1]? = some (.cells (kyCs b) 25 (0, 0)) := by
    rw [hW, hp]
    have := heap_alloc_new' (w.alloc (.cells (kyCs a) 25)) (.cells (kyCs b) 25)
    exact (heap_alloc_lt _ _ (by simp)).trans (by simpa using this)
  have rc : W.heap[p + 2]? = some (.cells (kyCs c) 25 (0, 0)) := by
    rw [hW, hp]
    have := heap_alloc_new' ((w.alloc (.cells (kyCs a) 25)).alloc (.cells (kyCs b) 25)) (.cells (kyCs c) 25)
    simpa using this
  have HA := Lib.hid ha
  have HBo := Lib.hid hb
  have HC := Lib.hid hc
  have HB := Lib.hid hB
  have RA := Lib.hid ra
  have RB := Lib.hid rb
  have RC := Lib.hid rc
  obtain ⟨x, hx⟩ : ∃ x, decide (ordK a b < 0) = x := ⟨_, rfl⟩
  obtain ⟨y, hy⟩ : ∃ y, decide (ordK b c < 0) = y := ⟨_, rfl⟩
  obtain ⟨z, hz⟩ : ∃ z, decide (ordK a c < 0) = z := ⟨_, rfl⟩
  have HX := Lib.hid hx
  have HY := Lib.hid hy
  have HZ := Lib.hid hz
  clear ha hb hc hB ra rb rc hx hy hz
  go_enter Try.func3, Try.ntmps3
  go_wp2_with fail
  rw [← hW]
  rw [← hp]
  refine (awake W).mono ?_
  rintro e w1 ⟨rfl, b1⟩
  clear hW
  have HP := Lib.hid hp
  clear hp
  have qa : w1.heap[p]? = some (.cells (kyCs a) 25 (0, 0)) := (b1.block _ (lt_of_block RA.out)).trans RA.out
  have qb : w1.heap[p + 1]? = some (.cells (kyCs b) 25 (0, 0)) := (b1.block _ (lt_of_block RB.out)).trans RB.out
  have qc : w1.heap[p + 2]? = some (.cells (kyCs c) 25 (0, 0)) := (b1.block _ (lt_of_block RC.out)).trans RC.out
  have ca0 : ∀ u : After w1, u.w'.cell? ⟨p, 0, none⟩ = some (.int .u8 a.f0) := fun u => u.cell (by have := blk_cell qa 0; simpa using this)
  have ca1 : ∀ u : After w1, u.w'.cell? ⟨p, 1, none⟩ = some (.int .u8 a.f1) := fun u => u.cell (by have := blk_cell qa 1; simpa using this)
  have ca2 : ∀ u : After w1, u.w'.cell? ⟨p, 2, none⟩ = some (.int .u8 a.f2) := fun u => u.cell (by have := blk_cell qa 2; simpa using this)
  have ca3 : ∀ u : After w1, u.w'.cell? ⟨p, 3, none⟩ = some (.int .u8 a.f3) := fun u => u.cell (by have := blk_cell qa 3; simpa using this)
  have ca4 : ∀ u : After w1, u.w'.cell? ⟨p, 4, none⟩ = some (.int .u8 a.f4) := fun u => u.cell (by have := blk_cell qa 4; simpa using this)
  have ca5 : ∀ u : After w1, u.w'.cell? ⟨p, 5, none⟩ = some (.int .u8 a.f5) := fun u => u.cell (by have := blk_cell qa 5; simpa using this)
  have ca6 : ∀ u : After w1, u.w'.cell? ⟨p, 6, none⟩ = some (.int .i64 a.near) := fun u => u.cell (by have := blk_cell qa 6; simpa using this)
  have ca7 : ∀ u : After w1, u.w'.cell? ⟨p, 7, none⟩ = some (.int .i64 a.there) := fun u => u.cell (by have := blk_cell qa 7; simpa using this)
  have cb0 : ∀ u : After w1, u.w'.cell? ⟨p + 1, 0, none⟩ = some (.int .u8 b.f0) := fun u => u.cell (by have := blk_cell qb 0; simpa using this)
  have cb1 : ∀ u : After w1, u.w'.cell? ⟨p + 1, 1, none⟩ = some (.int .u8 b.f1) := fun u => u.cell (by have := blk_cell qb 1; simpa using this)
  have cb2 : ∀ u : After w1, u.w'.cell? ⟨p + 1, 2, none⟩ = some (.int .u8 b.f2) := fun u => u.cell (by have := blk_cell qb 2; simpa using this)
  have cb3 : ∀ u : After w1, u.w'.cell? ⟨p + 1, 3, none⟩ = some (.int .u8 b.f3) := fun u => u.cell (by have := blk_cell qb 3; simpa using this)
  have cb4 : ∀ u : After w1, u.w'.cell? ⟨p + 1, 4, none⟩ = some (.int .u8 b.f4) := fun u => u.cell (by have := blk_cell qb 4; simpa using this)
  have cb5 : ∀ u : After w1, u.w'.cell? ⟨p + 1, 5, none⟩ = some (.int .u8 b.f5) := fun u => u.cell (by have := blk_cell qb 5; simpa using this)
  have cb6 : ∀ u : After w1, u.w'.cell? ⟨p + 1, 6, none⟩ = some (.int .i64 b.near) := fun u => u.cell (by have := blk_cell qb 6; simpa using this)
  have cb7 : ∀ u : After w1, u.w'.cell? ⟨p + 1, 7, none⟩ = some (.int .i64 b.there) := fun u => u.cell (by have := blk_cell qb 7; simpa using this)
  have cc0 : ∀ u : After w1, u.w'.cell? ⟨p + 2, 0, none⟩ = some (.int .u8 c.f0) := fun u => u.cell (by have := blk_cell qc 0; simpa using this)
  have cc1 : ∀ u : After w1, u.w'.cell? ⟨p + 2, 1, none⟩ = some (.int .u8 c.f1) := fun u => u.cell (by have := blk_cell qc 1; simpa using this)
  have cc2 : ∀ u : After w1, u.w'.cell? ⟨p + 2, 2, none⟩ = some (.int .u8 c.f2) := fun u => u.cell (by have := blk_cell qc 2; simpa using this)
  have cc3 : ∀ u : After w1, u.w'.cell? ⟨p + 2, 3, none⟩ = some (.int .u8 c.f3) := fun u => u.cell (by have := blk_cell qc 3; simpa using this)
  have cc4 : ∀ u : After w1, u.w'.cell? ⟨p + 2, 4, none⟩ = some (.int .u8 c.f4) := fun u => u.cell (by have := blk_cell qc 4; simpa using this)
  have cc5 : ∀ u : After w1, u.w'.cell? ⟨p + 2, 5, none⟩ = some (.int .u8 c.f5) := fun u => u.cell (by have := blk_cell qc 5; simpa using this)
  have cc6 : ∀ u : After w1, u.w'.cell? ⟨p + 2, 6, none⟩ = some (.int .i64 c.near) := fun u => u.cell (by have := blk_cell qc 6; simpa using this)
  have cc7 : ∀ u : After w1, u.w'.cell? ⟨p + 2, 7, none⟩ = some (.int .i64 c.there) := fun u => u.cell (by have := blk_cell qc 7; simpa using this)
  have B1 := Lib.hid (HB.out.trans (b1.mono HB.out.size))
  have QA := Lib.hid qa
  have QB := Lib.hid qb
  have QC := Lib.hid qc
  clear b1 qa qb qc
  go_upto_region 3 with fail
  refine wp_region_after (by kernel_rfl) (by kernel_rfl) ?_
  go_big_quiet_step (fail)
  go_big_quiet_step ((go_at_call 10; exact Calls.after_of (kkey a _)))
  go_big_quiet_step (fail)
  go_big_quiet_step ((go_at_call 10; exact Calls.after_of (kkey b _)))
  go_big_quiet_step ((go_at_call 9; exact Calls.after_of (kless a b HA.out HBo.out x HX.out _)))
  go_big_quiet_step (fail)
  go_big_quiet_step ((go_at_call 10; exact Calls.after_of (kkey b _)))
  go_big_quiet_step (fail)
  go_big_quiet_step ((go_at_call 10; exact Calls.after_of (kkey c _)))
  go_big_quiet_step ((go_at_call 9; exact Calls.after_of (kless b c HBo.out HC.out y HY.out _)))
  go_big_quiet_step (fail)
  go_big_quiet_step ((go_at_call 10; exact Calls.after_of (kkey a _)))
  go_big_quiet_step (fail)
  go_big_quiet_step ((go_at_call 10; exact Calls.after_of (kkey c _)))
  go_big_quiet_step ((go_at_call 9; exact Calls.after_of (kless a c HA.out HC.out z HZ.out _)))
  go_big_quiet_step (fail)
  go_big_quiet_step (fail)
  go_big_quiet_step (fail)
  refine wpQuiet_nil ?_
  rintro w2 ⟨⟨_, hb2⟩, rfl⟩
  have HB2 := Lib.hid hb2
  clear hb2
  clear ca0 ca1 ca2 ca3 ca4 ca5 ca6 ca7 cb0 cb1 cb2 cb3 cb4 cb5 cb6 cb7 cc0 cc1 cc2 cc3 cc4 cc5 cc6 cc7
  have qa : w2.heap[p]? = some (.cells (kyCs a) 25 (0, 0)) := (HB2.out.block _ (lt_of_block QA.out)).trans QA.out
  have ca0 : ∀ u : After w2, u.w'.cell? ⟨p, 0, none⟩ = some (.int .u8 a.f0) := fun u => u.cell (by have := blk_cell qa 0; simpa using this)
  have ca1 : ∀ u : After w2, u.w'.cell? ⟨p, 1, none⟩ = some (.int .u8 a.f1) := fun u => u.cell (by have := blk_cell qa 1; simpa using this)
  have ca2 : ∀ u : After w2, u.w'.cell? ⟨p, 2, none⟩ = some (.int .u8 a.f2) := fun u => u.cell (by have := blk_cell qa 2; simpa using this)
  have ca3 : ∀ u : After w2, u.w'.cell? ⟨p, 3, none⟩ = some (.int .u8 a.f3) := fun u => u.cell (by have := blk_cell qa 3; simpa using this)
  have ca4 : ∀ u : After w2, u.w'.cell? ⟨p, 4, none⟩ = some (.int .u8 a.f4) := fun u => u.cell (by have := blk_cell qa 4; simpa using this)
  have ca5 : ∀ u : After w2, u.w'.cell? ⟨p, 5, none⟩ = some (.int .u8 a.f5) := fun u => u.cell (by have := blk_cell qa 5; simpa using this)
  have ca6 : ∀ u : After w2, u.w'.cell? ⟨p, 6, none⟩ = some (.int .i64 a.near) := fun u => u.cell (by have := blk_cell qa 6; simpa using this)
  have ca7 : ∀ u : After w2, u.w'.cell? ⟨p, 7, none⟩ = some (.int .i64 a.there) := fun u => u.cell (by have := blk_cell qa 7; simpa using this)
  have qb : w2.heap[p + 1]? = some (.cells (kyCs b) 25 (0, 0)) := (HB2.out.block _ (lt_of_block QB.out)).trans QB.out
  have cb0 : ∀ u : After w2, u.w'.cell? ⟨p + 1, 0, none⟩ = some (.int .u8 b.f0) := fun u => u.cell (by have := blk_cell qb 0; simpa using this)
  have cb1 : ∀ u : After w2, u.w'.cell? ⟨p + 1, 1, none⟩ = some (.int .u8 b.f1) := fun u => u.cell (by have := blk_cell qb 1; simpa using this)
  have cb2 : ∀ u : After w2, u.w'.cell? ⟨p + 1, 2, none⟩ = some (.int .u8 b.f2) := fun u => u.cell (by have := blk_cell qb 2; simpa using this)
  have cb3 : ∀ u : After w2, u.w'.cell? ⟨p + 1, 3, none⟩ = some (.int .u8 b.f3) := fun u => u.cell (by have := blk_cell qb 3; simpa using this)
  have cb4 : ∀ u : After w2, u.w'.cell? ⟨p + 1, 4, none⟩ = some (.int .u8 b.f4) := fun u => u.cell (by have := blk_cell qb 4; simpa using this)
  have cb5 : ∀ u : After w2, u.w'.cell? ⟨p + 1, 5, none⟩ = some (.int .u8 b.f5) := fun u => u.cell (by have := blk_cell qb 5; simpa using this)
  have cb6 : ∀ u : After w2, u.w'.cell? ⟨p + 1, 6, none⟩ = some (.int .i64 b.near) := fun u => u.cell (by have := blk_cell qb 6; simpa using this)
  have cb7 : ∀ u : After w2, u.w'.cell? ⟨p + 1, 7, none⟩ = some (.int .i64 b.there) := fun u => u.cell (by have := blk_cell qb 7; simpa using this)
  have qc : w2.heap[p + 2]? = some (.cells (kyCs c) 25 (0, 0)) := (HB2.out.block _ (lt_of_block QC.out)).trans QC.out
  have cc0 : ∀ u : After w2, u.w'.cell? ⟨p + 2, 0, none⟩ = some (.int .u8 c.f0) := fun u => u.cell (by have := blk_cell qc 0; simpa using this)
  have cc1 : ∀ u : After w2, u.w'.cell? ⟨p + 2, 1, none⟩ = some (.int .u8 c.f1) := fun u => u.cell (by have := blk_cell qc 1; simpa using this)
  have cc2 : ∀ u : After w2, u.w'.cell? ⟨p + 2, 2, none⟩ = some (.int .u8 c.f2) := fun u => u.cell (by have := blk_cell qc 2; simpa using this)
  have cc3 : ∀ u : After w2, u.w'.cell? ⟨p + 2, 3, none⟩ = some (.int .u8 c.f3) := fun u => u.cell (by have := blk_cell qc 3; simpa using this)
  have cc4 : ∀ u : After w2, u.w'.cell? ⟨p + 2, 4, none⟩ = some (.int .u8 c.f4) := fun u => u.cell (by have := blk_cell qc 4; simpa using this)
  have cc5 : ∀ u : After w2, u.w'.cell? ⟨p + 2, 5, none⟩ = some (.int .u8 c.f5) := fun u => u.cell (by have := blk_cell qc 5; simpa using this)
  have cc6 : ∀ u : After w2, u.w'.cell? ⟨p + 2, 6, none⟩ = some (.int .i64 c.near) := fun u => u.cell (by have := blk_cell qc 6; simpa using this)
  have cc7 : ∀ u : After w2, u.w'.cell? ⟨p + 2, 7, none⟩ = some (.int .i64 c.there) := fun u => u.cell (by have := blk_cell qc 7; simpa using this)
  clear qa qb qc
  have ett : (true == true) = true := rfl
  have eff : (false == false) = true := rfl
  have etf : (true == false) = false := rfl
  have HS := Lib.hid (show decide (ordK a a < 0) = false by rw [ordK_self]; rfl)
  cases x
  · obtain ⟨u, hu⟩ : ∃ u, decide (ordK b a < 0) = u := ⟨_, rfl⟩
    have HU := Lib.hid hu
    clear hu
    cases u
    · have HNE := Lib.hid (show true = decide (a = b) by
        have h1 := of_decide_eq_false HX.out
        have h2 := of_decide_eq_false HU.out
        rw [ordK_flip] at h2
        rw [ordK_eq (show ordK a b = 0 by omega)]
        simp)
      go_upto_region 4 with fail
      refine wp_region_after (by kernel_rfl) (by kernel_rfl) ?_
      go_big_quiet_step (fail)
      go_big_quiet_step (fail)
      go_big_quiet_step (fail)
      go_big_quiet_step ((go_at_call 11; exact Calls.after_of (kref a b false HX.out _)))
      go_big_quiet_step (fail)
      go_big_quiet_step (fail)
      go_big_quiet_step (fail)
      go_big_quiet_step (fail)
      go_big_quiet_step (fail)
      go_big_quiet_step ((go_at_call 10; exact Calls.after_of (kkey b _)))
      go_big_quiet_step (fail)
      go_big_quiet_step ((go_at_call 10; exact Calls.after_of (kkey a _)))
      go_big_quiet_step ((go_at_call 9; exact Calls.after_of (kless b a HBo.out HA.out false HU.out _)))
      go_big_quiet_step (fail)
      go_big_quiet_step (fail)
      go_big_quiet_step (fail)
      go_big_quiet_step ((rw [cmpKy a b true HNE.out]; exact ⟨rfl, rfl⟩))
      go_big_quiet_step (fail)
      go_big_quiet_step (fail)
      go_big_quiet_step (fail)
      go_big_quiet_step (fail)
      go_big_quiet_step (fail)
      go_big_quiet_step (fail)
      go_big_quiet_step (fail)
      go_big_quiet_step (fail)
      go_big_quiet_step (fail)
      go_big_quiet_step (fail)
      go_big_quiet_step (fail)
      go_big_quiet_step (fail)
      go_big_quiet_step (fail)
      go_big_quiet_step (fail)
      go_big_quiet_step (fail)
      go_big_quiet_step ((go_at_call 10; exact Calls.after_of (kkey a _)))
      go_big_quiet_step (fail)
      go_big_quiet_step ((go_at_call 10; exact Calls.after_of (kkey a _)))
      go_big_quiet_step ((go_at_call 9; exact Calls.after_of (kless a a HA.out HA.out false HS.out _)))
      go_big_quiet_step (fail)
      go_big_quiet_step (fail)
      go_big_quiet_step (fail)
      refine wpQuiet_nil ?_
      rintro w3 ⟨⟨_, hb3⟩, rfl⟩
      go_wp2_with fail
      go_ret
      have z1 := (HB2.out.mono B1.out.size).trans (hb3.mono (Nat.le_trans B1.out.size HB2.out.size))
      exact ⟨rfl, B1.out.trans z1⟩
    · have HNE := Lib.hid (show false = decide (a = b) by
        have h2 := of_decide_eq_true HU.out
        have : ¬ a = b := fun e => by rw [e, ordK_self] at h2; omega
        simp [this])
      go_upto_region 4 with fail
      refine wp_region_after (by kernel_rfl) (by kernel_rfl) ?_
      go_big_quiet_step (fail)
      go_big_quiet_step (fail)
      go_big_quiet_step (fail)
      go_big_quiet_step ((go_at_call 11; exact Calls.after_of (kref a b false HX.out _)))
      go_big_quiet_step (fail)
      go_big_quiet_step (fail)
      go_big_quiet_step (fail)
      go_big_quiet_step (fail)
      go_big_quiet_step (fail)
      go_big_quiet_step ((go_at_call 10; exact Calls.after_of (kkey b _)))
      go_big_quiet_step (fail)
      go_big_quiet_step ((go_at_call 10; exact Calls.after_of (kkey a _)))
      go_big_quiet_step ((go_at_call 9; exact Calls.after_of (kless b a HBo.out HA.out true HU.out _)))
      go_big_quiet_step (fail)
      go_big_quiet_step (fail)
      go_big_quiet_step (fail)
      go_big_quiet_step ((rw [cmpKy a b false HNE.out]; exact ⟨rfl, rfl⟩))
      go_big_quiet_step (fail)
      go_big_quiet_step (fail)
      go_big_quiet_step (fail)
      go_big_quiet_step (fail)
      go_big_quiet_step (fail)
      go_big_quiet_step (fail)
      go_big_quiet_step (fail)
      go_big_quiet_step (fail)
      go_big_quiet_step (fail)
      go_big_quiet_step (fail)
      go_big_quiet_step (fail)
      go_big_quiet_step (fail)
      go_big_quiet_step (fail)
      go_big_quiet_step (fail)
      go_big_quiet_step (fail)
      go_big_quiet_step ((go_at_call 10; exact Calls.after_of (kkey a _)))
      go_big_quiet_step (fail)
      go_big_quiet_step ((go_at_call 10; exact Calls.after_of (kkey a _)))
      go_big_quiet_step ((go_at_call 9; exact Calls.after_of (kless a a HA.out HA.out false HS.out _)))
      go_big_quiet_step (fail)
      go_big_quiet_step (fail)
      go_big_quiet_step (fail)
      refine wpQuiet_nil ?_
      rintro w3 ⟨⟨_, hb3⟩, rfl⟩
      go_wp2_with fail
      go_ret
      have z1 := (HB2.out.mono B1.out.size).trans (hb3.mono (Nat.le_trans B1.out.size HB2.out.size))
      exact ⟨rfl, B1.out.trans z1⟩
  · have HNE := Lib.hid (show false = decide (a = b) by
      have h2 := of_decide_eq_true HX.out
      have : ¬ a = b := fun e => by rw [e, ordK_self] at h2; omega
      simp [this])
    cases y
    · go_upto_region 4 with fail
      refine wp_region_after (by kernel_rfl) (by kernel_rfl) ?_
      go_big_quiet_step (fail)
      go_big_quiet_step (fail)
      go_big_quiet_step (fail)
      go_big_quiet_step ((go_at_call 11; exact Calls.after_of (kref a b true HX.out _)))
      go_big_quiet_step (fail)
      go_big_quiet_step (fail)
      go_big_quiet_step (fail)
      go_big_quiet_step (fail)
      go_big_quiet_step (fail)
      go_big_quiet_step ((go_at_call 10; exact Calls.after_of (kkey b _)))
      go_big_quiet_step (fail)
      go_big_quiet_step ((go_at_call 10; exact Calls.after_of (kkey a _)))
      go_big_quiet_step (fail)
      go_big_quiet_step (fail)
      go_big_quiet_step (fail)
      go_big_quiet_step (fail)
      go_big_quiet_step ((rw [cmpKy a b false HNE.out]; exact ⟨rfl, rfl⟩))
      go_big_quiet_step (fail)
      go_big_quiet_step (fail)
      go_big_quiet_step (fail)
      go_big_quiet_step (fail)
      go_big_quiet_step (fail)
      go_big_quiet_step (fail)
      go_big_quiet_step (fail)
      go_big_quiet_step (fail)
      go_big_quiet_step (fail)
      go_big_quiet_step (fail)
      go_big_quiet_step (fail)
      go_big_quiet_step (fail)
      go_big_quiet_step (fail)
      go_big_quiet_step (fail)
      go_big_quiet_step (fail)
      go_big_quiet_step ((go_at_call 10; exact Calls.after_of (kkey a _)))
      go_big_quiet_step (fail)
      go_big_quiet_step ((go_at_call 10; exact Calls.after_of (kkey a _)))
      go_big_quiet_step ((go_at_call 9; exact Calls.after_of (kless a a HA.out HA.out false HS.out _)))
      go_big_quiet_step (fail)
      go_big_quiet_step (fail)
      go_big_quiet_step (fail)
      refine wpQuiet_nil ?_
      rintro w3 ⟨⟨_, hb3⟩, rfl⟩
      go_wp2_with fail
      go_ret
      have z1 := (HB2.out.mono B1.out.size).trans (hb3.mono (Nat.le_trans B1.out.size HB2.out.size))
      exact ⟨rfl, B1.out.trans z1⟩
    · have hz : z = true := by
        rw [← HZ.out]
        exact decide_eq_true (ordK_trans (of_decide_eq_true HX.out) (of_decide_eq_true HY.out))
      subst hz
      go_upto_region 4 with fail
      refine wp_region_after (by kernel_rfl) (by kernel_rfl) ?_
      go_big_quiet_step (fail)
      go_big_quiet_step (fail)
      go_big_quiet_step (fail)
      go_big_quiet_step ((go_at_call 11; exact Calls.after_of (kref a b true HX.out _)))
      go_big_quiet_step (fail)
      go_big_quiet_step (fail)
      go_big_quiet_step (fail)
      go_big_quiet_step (fail)
      go_big_quiet_step (fail)
      go_big_quiet_step ((go_at_call 10; exact Calls.after_of (kkey b _)))
      go_big_quiet_step (fail)
      go_big_quiet_step ((go_at_call 10; exact Calls.after_of (kkey a _)))
      go_big_quiet_step (fail)
      go_big_quiet_step (fail)
      go_big_quiet_step (fail)
      go_big_quiet_step (fail)
      go_big_quiet_step ((rw [cmpKy a b false HNE.out]; exact ⟨rfl, rfl⟩))
      go_big_quiet_step (fail)
      go_big_quiet_step (fail)
      go_big_quiet_step (fail)
      go_big_quiet_step (fail)
      go_big_quiet_step (fail)
      go_big_quiet_step (fail)
      go_big_quiet_step (fail)
      go_big_quiet_step (fail)
      go_big_quiet_step (fail)
      go_big_quiet_step (fail)
      go_big_quiet_step (fail)
      go_big_quiet_step (fail)
      go_big_quiet_step (fail)
      go_big_quiet_step (fail)
      go_big_quiet_step (fail)
      go_big_quiet_step ((go_at_call 10; exact Calls.after_of (kkey a _)))
      go_big_quiet_step (fail)
      go_big_quiet_step ((go_at_call 10; exact Calls.after_of (kkey a _)))
      go_big_quiet_step ((go_at_call 9; exact Calls.after_of (kless a a HA.out HA.out false HS.out _)))
      go_big_quiet_step (fail)
      go_big_quiet_step (fail)
      go_big_quiet_step (fail)
      refine wpQuiet_nil ?_
      rintro w3 ⟨⟨_, hb3⟩, rfl⟩
      go_wp2_with fail
      go_ret
      have z1 := (HB2.out.mono B1.out.size).trans (hb3.mono (Nat.le_trans B1.out.size HB2.out.size))
      exact ⟨rfl, B1.out.trans z1⟩
end Go.Proofs.Ytjjfminpaoooaaa
