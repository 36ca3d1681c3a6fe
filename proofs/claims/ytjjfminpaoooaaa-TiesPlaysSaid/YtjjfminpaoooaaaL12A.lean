/-
  Layer 12: awake; ties.Less.
-/
import Derived.Test.YtjjfminpaoooaaaTieXI
namespace Go.Proofs.Ytjjfminpaoooaaa
open Go.RowKit
set_option linter.unusedVariables false


/-- A key of no station, with the one SAP. -/
abbrev kn (n : Int) : Ky := ⟨0, 0, 0, 0, 0, 0, n, 0⟩
theorem kn_ok (n : Int) : (kn n).ok := by unfold Ky.ok Ky.b; simp
theorem kless (a b : Ky) (ha : a.ok) (hb : b.ok) (z : Bool) (hz : decide (ordK a b < 0) = z) (w : World) : Calls Try.prog 9 #[kyV a, kyV b] w fun e w' => e = .returned (.bool z) ∧ Below w.heap.size w w' := by
  have HA := Lib.hid ha
  have HB := Lib.hid hb
  clear ha hb
  go_enter Try.func9, Try.ntmps9
  go_wp2_with fail
  refine (korder a b HA.out HB.out _).mono ?_
  rintro x w1 ⟨rfl, b1⟩
  have B1 : Hid (Below w.heap.size w w1) := (((Below.refl _ w).alloc (Nat.le_refl _) _).alloc (by simp) _).trans (b1.mono (by simp <;> omega))
  clear b1
  go_wp2_with fail
  go_ret
  exact ⟨rfl, B1.out⟩

set_option maxHeartbeats 4000000 in
theorem awake (w : World) : Calls Try.prog 8 #[] w fun x w' => x = .returned (.bool true) ∧ Below w.heap.size w w' := by
  go_enter Try.func8, Try.ntmps8
  go_wp2_with fail
  refine (xnewI (w0 := w) (kb := []) 1 1 (by decide) (by decide) (Below.refl _ w) (fun q hq => by cases hq)).mono ?_
  rintro x w1 ⟨t, rfl, h1⟩
  have H1 := Lib.hid (h1.alloc (.cells (kyCs (kn 4)) 28))
  clear h1
  go_wp2_with fail
  refine (xputI H1.out (kn 4) (kn_ok 4) 5 (E := 0) (l' := [(kn 4, 5)]) (by decide) (by rfl)).mono ?_
  rintro x w2 ⟨rfl, h2⟩
  have hb := h2.kept (List.mem_cons_self ..)
  have hl := lt_of_block hb
  have c0 : w2.cell? ⟨w1.heap.size, 0, none⟩ = some (.int .u8 0) := blk_cell hb 0
  have c1 : w2.cell? ⟨w1.heap.size, 1, none⟩ = some (.int .u8 0) := blk_cell hb 1
  have c2 : w2.cell? ⟨w1.heap.size, 2, none⟩ = some (.int .u8 0) := blk_cell hb 2
  have c3 : w2.cell? ⟨w1.heap.size, 3, none⟩ = some (.int .u8 0) := blk_cell hb 3
  have c4 : w2.cell? ⟨w1.heap.size, 4, none⟩ = some (.int .u8 0) := blk_cell hb 4
  have c5 : w2.cell? ⟨w1.heap.size, 5, none⟩ = some (.int .u8 0) := blk_cell hb 5
  have c6 : w2.cell? ⟨w1.heap.size, 6, none⟩ = some (.int .i64 4) := blk_cell hb 6
  have c7 : w2.cell? ⟨w1.heap.size, 7, none⟩ = some (.int .i64 0) := blk_cell hb 7
  have H2 := Lib.hid h2
  clear h2 hb
  go_wp2_with fail
  refine (xgetI H2.out (kn 4) (kn_ok 4) (V := .int .i64 5) (z := true) (by rfl) (by decide)).mono ?_
  rintro x w3 ⟨rfl, h3⟩
  have H3 := Lib.hid h3
  clear h3 c0 c1 c2 c3 c4 c5 c6 c7
  go_wp2_with (go_at_call 21; refine (xlenI H3.out).mono ?_; rintro x w' ⟨rfl, rfl⟩)
  go_ret
  exact ⟨rfl, H3.out.bel⟩
end Go.Proofs.Ytjjfminpaoooaaa
