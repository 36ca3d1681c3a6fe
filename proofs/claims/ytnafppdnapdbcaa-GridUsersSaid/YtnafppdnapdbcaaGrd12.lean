/-
  Layer 15: GridUsers, GridKnown: the walks.
-/
import Derived.Test.YtnafppdnapdbcaaGrd11
namespace Go.Proofs.Ytnafppdnapdbcaa
open Go.RowKit


set_option maxHeartbeats 4000000 in
theorem users0 (a : Int) (ha : 0 ≤ a ∧ a ≤ 255) (hm : a % 14 = 0) (w : World) : Calls Try.prog 8 #[.int .u8 a] w fun x w' => x = .returned (.bool true) ∧ Below w.heap.size w w' := by
  obtain ⟨ha1, ha2⟩ := ha
  go_enter Try.func8, Try.ntmps8
  go_wp2_with fail
  refine (awake w).mono ?_
  rintro e w0 ⟨rfl, hb0⟩
  go_wp2_with fail
  refine (known_at 0 0 true rfl _).mono ?_
  rintro e w1 ⟨rfl, hb1⟩
  have hb10 := hb0.trans (hb1.mono hb0.size)
  clear hb1 hb0
  go_wp2_with fail
  refine (known_at 0 1 false rfl _).mono ?_
  rintro e w2 ⟨rfl, hb2⟩
  have hb11 := hb10.trans (hb2.mono hb10.size)
  clear hb2 hb10
  go_wp2_with fail
  refine (known_at 0 4 false rfl _).mono ?_
  rintro e w3 ⟨rfl, hb3⟩
  have hb12 := hb11.trans (hb3.mono hb11.size)
  clear hb3 hb11
  go_wp2_with fail
  refine (known_at 0 2 false rfl _).mono ?_
  rintro e w4 ⟨rfl, hb4⟩
  have hb13 := hb12.trans (hb4.mono hb12.size)
  clear hb4 hb12
  go_wp2_with fail
  refine (known_at 0 3 false rfl _).mono ?_
  rintro e w5 ⟨rfl, hb5⟩
  have hb14 := hb13.trans (hb5.mono hb13.size)
  clear hb5 hb13
  go_wp2_with fail
  refine (known_at 0 7 false rfl _).mono ?_
  rintro e w6 ⟨rfl, hb6⟩
  have hb15 := hb14.trans (hb6.mono hb14.size)
  clear hb6 hb14
  go_wp2_with fail
  refine (known_at 0 6 false rfl _).mono ?_
  rintro e w7 ⟨rfl, hb7⟩
  have hb16 := hb15.trans (hb7.mono hb15.size)
  clear hb7 hb15
  go_wp2_with fail
  go_ret
  exact ⟨rfl, hb16⟩

set_option maxHeartbeats 4000000 in
theorem users1 (a : Int) (ha : 0 ≤ a ∧ a ≤ 255) (hm : a % 14 = 1) (w : World) : Calls Try.prog 8 #[.int .u8 a] w fun x w' => x = .returned (.bool true) ∧ Below w.heap.size w w' := by
  obtain ⟨ha1, ha2⟩ := ha
  go_enter Try.func8, Try.ntmps8
  go_wp2_with fail
  refine (awake w).mono ?_
  rintro e w0 ⟨rfl, hb0⟩
  go_wp2_with fail
  refine (known_at 1 0 false rfl _).mono ?_
  rintro e w1 ⟨rfl, hb1⟩
  have hb10 := hb0.trans (hb1.mono hb0.size)
  clear hb1 hb0
  go_wp2_with fail
  refine (known_at 1 1 true rfl _).mono ?_
  rintro e w2 ⟨rfl, hb2⟩
  have hb11 := hb10.trans (hb2.mono hb10.size)
  clear hb2 hb10
  go_wp2_with fail
  refine (known_at 1 4 false rfl _).mono ?_
  rintro e w3 ⟨rfl, hb3⟩
  have hb12 := hb11.trans (hb3.mono hb11.size)
  clear hb3 hb11
  go_wp2_with fail
  refine (known_at 1 2 true rfl _).mono ?_
  rintro e w4 ⟨rfl, hb4⟩
  have hb13 := hb12.trans (hb4.mono hb12.size)
  clear hb4 hb12
  go_wp2_with fail
  refine (known_at 1 3 false rfl _).mono ?_
  rintro e w5 ⟨rfl, hb5⟩
  have hb14 := hb13.trans (hb5.mono hb13.size)
  clear hb5 hb13
  go_wp2_with fail
  refine (known_at 1 7 false rfl _).mono ?_
  rintro e w6 ⟨rfl, hb6⟩
  have hb15 := hb14.trans (hb6.mono hb14.size)
  clear hb6 hb14
  go_wp2_with fail
  refine (known_at 1 6 false rfl _).mono ?_
  rintro e w7 ⟨rfl, hb7⟩
  have hb16 := hb15.trans (hb7.mono hb15.size)
  clear hb7 hb15
  go_wp2_with fail
  go_ret
  exact ⟨rfl, hb16⟩

set_option maxHeartbeats 4000000 in
theorem users2 (a : Int) (ha : 0 ≤ a ∧ a ≤ 255) (hm : a % 14 = 2) (w : World) : Calls Try.prog 8 #[.int .u8 a] w fun x w' => x = .returned (.bool true) ∧ Below w.heap.size w w' := by
  obtain ⟨ha1, ha2⟩ := ha
  go_enter Try.func8, Try.ntmps8
  go_wp2_with fail
  refine (awake w).mono ?_
  rintro e w0 ⟨rfl, hb0⟩
  go_wp2_with fail
  refine (known_at 2 0 false rfl _).mono ?_
  rintro e w1 ⟨rfl, hb1⟩
  have hb10 := hb0.trans (hb1.mono hb0.size)
  clear hb1 hb0
  go_wp2_with fail
  refine (known_at 2 1 false rfl _).mono ?_
  rintro e w2 ⟨rfl, hb2⟩
  have hb11 := hb10.trans (hb2.mono hb10.size)
  clear hb2 hb10
  go_wp2_with fail
  refine (known_at 2 4 false rfl _).mono ?_
  rintro e w3 ⟨rfl, hb3⟩
  have hb12 := hb11.trans (hb3.mono hb11.size)
  clear hb3 hb11
  go_wp2_with fail
  refine (known_at 2 2 true rfl _).mono ?_
  rintro e w4 ⟨rfl, hb4⟩
  have hb13 := hb12.trans (hb4.mono hb12.size)
  clear hb4 hb12
  go_wp2_with fail
  refine (known_at 2 3 false rfl _).mono ?_
  rintro e w5 ⟨rfl, hb5⟩
  have hb14 := hb13.trans (hb5.mono hb13.size)
  clear hb5 hb13
  go_wp2_with fail
  refine (known_at 2 7 false rfl _).mono ?_
  rintro e w6 ⟨rfl, hb6⟩
  have hb15 := hb14.trans (hb6.mono hb14.size)
  clear hb6 hb14
  go_wp2_with fail
  refine (known_at 2 6 false rfl _).mono ?_
  rintro e w7 ⟨rfl, hb7⟩
  have hb16 := hb15.trans (hb7.mono hb15.size)
  clear hb7 hb15
  go_wp2_with fail
  go_ret
  exact ⟨rfl, hb16⟩

set_option maxHeartbeats 4000000 in
theorem users3 (a : Int) (ha : 0 ≤ a ∧ a ≤ 255) (hm : a % 14 = 3) (w : World) : Calls Try.prog 8 #[.int .u8 a] w fun x w' => x = .returned (.bool true) ∧ Below w.heap.size w w' := by
  obtain ⟨ha1, ha2⟩ := ha
  go_enter Try.func8, Try.ntmps8
  go_wp2_with fail
  refine (awake w).mono ?_
  rintro e w0 ⟨rfl, hb0⟩
  go_wp2_with fail
  refine (known_at 3 0 false rfl _).mono ?_
  rintro e w1 ⟨rfl, hb1⟩
  have hb10 := hb0.trans (hb1.mono hb0.size)
  clear hb1 hb0
  go_wp2_with fail
  refine (known_at 3 1 false rfl _).mono ?_
  rintro e w2 ⟨rfl, hb2⟩
  have hb11 := hb10.trans (hb2.mono hb10.size)
  clear hb2 hb10
  go_wp2_with fail
  refine (known_at 3 4 false rfl _).mono ?_
  rintro e w3 ⟨rfl, hb3⟩
  have hb12 := hb11.trans (hb3.mono hb11.size)
  clear hb3 hb11
  go_wp2_with fail
  refine (known_at 3 2 true rfl _).mono ?_
  rintro e w4 ⟨rfl, hb4⟩
  have hb13 := hb12.trans (hb4.mono hb12.size)
  clear hb4 hb12
  go_wp2_with fail
  refine (known_at 3 3 false rfl _).mono ?_
  rintro e w5 ⟨rfl, hb5⟩
  have hb14 := hb13.trans (hb5.mono hb13.size)
  clear hb5 hb13
  go_wp2_with fail
  refine (known_at 3 7 false rfl _).mono ?_
  rintro e w6 ⟨rfl, hb6⟩
  have hb15 := hb14.trans (hb6.mono hb14.size)
  clear hb6 hb14
  go_wp2_with fail
  refine (known_at 3 6 false rfl _).mono ?_
  rintro e w7 ⟨rfl, hb7⟩
  have hb16 := hb15.trans (hb7.mono hb15.size)
  clear hb7 hb15
  go_wp2_with fail
  go_ret
  exact ⟨rfl, hb16⟩

set_option maxHeartbeats 4000000 in
theorem users4 (a : Int) (ha : 0 ≤ a ∧ a ≤ 255) (hm : a % 14 = 4) (w : World) : Calls Try.prog 8 #[.int .u8 a] w fun x w' => x = .returned (.bool true) ∧ Below w.heap.size w w' := by
  obtain ⟨ha1, ha2⟩ := ha
  go_enter Try.func8, Try.ntmps8
  go_wp2_with fail
  refine (awake w).mono ?_
  rintro e w0 ⟨rfl, hb0⟩
  go_wp2_with fail
  refine (known_at 4 0 false rfl _).mono ?_
  rintro e w1 ⟨rfl, hb1⟩
  have hb10 := hb0.trans (hb1.mono hb0.size)
  clear hb1 hb0
  go_wp2_with fail
  refine (known_at 4 1 false rfl _).mono ?_
  rintro e w2 ⟨rfl, hb2⟩
  have hb11 := hb10.trans (hb2.mono hb10.size)
  clear hb2 hb10
  go_wp2_with fail
  refine (known_at 4 4 true rfl _).mono ?_
  rintro e w3 ⟨rfl, hb3⟩
  have hb12 := hb11.trans (hb3.mono hb11.size)
  clear hb3 hb11
  go_wp2_with fail
  refine (known_at 4 2 true rfl _).mono ?_
  rintro e w4 ⟨rfl, hb4⟩
  have hb13 := hb12.trans (hb4.mono hb12.size)
  clear hb4 hb12
  go_wp2_with fail
  refine (known_at 4 3 false rfl _).mono ?_
  rintro e w5 ⟨rfl, hb5⟩
  have hb14 := hb13.trans (hb5.mono hb13.size)
  clear hb5 hb13
  go_wp2_with fail
  refine (known_at 4 7 false rfl _).mono ?_
  rintro e w6 ⟨rfl, hb6⟩
  have hb15 := hb14.trans (hb6.mono hb14.size)
  clear hb6 hb14
  go_wp2_with fail
  refine (known_at 4 6 false rfl _).mono ?_
  rintro e w7 ⟨rfl, hb7⟩
  have hb16 := hb15.trans (hb7.mono hb15.size)
  clear hb7 hb15
  go_wp2_with fail
  go_ret
  exact ⟨rfl, hb16⟩

set_option maxHeartbeats 4000000 in
theorem users5 (a : Int) (ha : 0 ≤ a ∧ a ≤ 255) (hm : a % 14 = 5) (w : World) : Calls Try.prog 8 #[.int .u8 a] w fun x w' => x = .returned (.bool true) ∧ Below w.heap.size w w' := by
  obtain ⟨ha1, ha2⟩ := ha
  go_enter Try.func8, Try.ntmps8
  go_wp2_with fail
  refine (awake w).mono ?_
  rintro e w0 ⟨rfl, hb0⟩
  go_wp2_with fail
  refine (known_at 5 0 false rfl _).mono ?_
  rintro e w1 ⟨rfl, hb1⟩
  have hb10 := hb0.trans (hb1.mono hb0.size)
  clear hb1 hb0
  go_wp2_with fail
  refine (known_at 5 1 false rfl _).mono ?_
  rintro e w2 ⟨rfl, hb2⟩
  have hb11 := hb10.trans (hb2.mono hb10.size)
  clear hb2 hb10
  go_wp2_with fail
  refine (known_at 5 4 false rfl _).mono ?_
  rintro e w3 ⟨rfl, hb3⟩
  have hb12 := hb11.trans (hb3.mono hb11.size)
  clear hb3 hb11
  go_wp2_with fail
  refine (known_at 5 2 true rfl _).mono ?_
  rintro e w4 ⟨rfl, hb4⟩
  have hb13 := hb12.trans (hb4.mono hb12.size)
  clear hb4 hb12
  go_wp2_with fail
  refine (known_at 5 3 true rfl _).mono ?_
  rintro e w5 ⟨rfl, hb5⟩
  have hb14 := hb13.trans (hb5.mono hb13.size)
  clear hb5 hb13
  go_wp2_with fail
  refine (known_at 5 7 false rfl _).mono ?_
  rintro e w6 ⟨rfl, hb6⟩
  have hb15 := hb14.trans (hb6.mono hb14.size)
  clear hb6 hb14
  go_wp2_with fail
  refine (known_at 5 6 false rfl _).mono ?_
  rintro e w7 ⟨rfl, hb7⟩
  have hb16 := hb15.trans (hb7.mono hb15.size)
  clear hb7 hb15
  go_wp2_with fail
  go_ret
  exact ⟨rfl, hb16⟩

set_option maxHeartbeats 4000000 in
theorem users6 (a : Int) (ha : 0 ≤ a ∧ a ≤ 255) (hm : a % 14 = 6) (w : World) : Calls Try.prog 8 #[.int .u8 a] w fun x w' => x = .returned (.bool true) ∧ Below w.heap.size w w' := by
  obtain ⟨ha1, ha2⟩ := ha
  go_enter Try.func8, Try.ntmps8
  go_wp2_with fail
  refine (awake w).mono ?_
  rintro e w0 ⟨rfl, hb0⟩
  go_wp2_with fail
  refine (known_at 6 0 false rfl _).mono ?_
  rintro e w1 ⟨rfl, hb1⟩
  have hb10 := hb0.trans (hb1.mono hb0.size)
  clear hb1 hb0
  go_wp2_with fail
  refine (known_at 6 1 false rfl _).mono ?_
  rintro e w2 ⟨rfl, hb2⟩
  have hb11 := hb10.trans (hb2.mono hb10.size)
  clear hb2 hb10
  go_wp2_with fail
  refine (known_at 6 4 false rfl _).mono ?_
  rintro e w3 ⟨rfl, hb3⟩
  have hb12 := hb11.trans (hb3.mono hb11.size)
  clear hb3 hb11
  go_wp2_with fail
  refine (known_at 6 2 false rfl _).mono ?_
  rintro e w4 ⟨rfl, hb4⟩
  have hb13 := hb12.trans (hb4.mono hb12.size)
  clear hb4 hb12
  go_wp2_with fail
  refine (known_at 6 3 false rfl _).mono ?_
  rintro e w5 ⟨rfl, hb5⟩
  have hb14 := hb13.trans (hb5.mono hb13.size)
  clear hb5 hb13
  go_wp2_with fail
  refine (known_at 6 7 false rfl _).mono ?_
  rintro e w6 ⟨rfl, hb6⟩
  have hb15 := hb14.trans (hb6.mono hb14.size)
  clear hb6 hb14
  go_wp2_with fail
  refine (known_at 6 6 false rfl _).mono ?_
  rintro e w7 ⟨rfl, hb7⟩
  have hb16 := hb15.trans (hb7.mono hb15.size)
  clear hb7 hb15
  go_wp2_with fail
  go_ret
  exact ⟨rfl, hb16⟩

set_option maxHeartbeats 4000000 in
theorem users7 (a : Int) (ha : 0 ≤ a ∧ a ≤ 255) (hm : a % 14 = 7) (w : World) : Calls Try.prog 8 #[.int .u8 a] w fun x w' => x = .returned (.bool true) ∧ Below w.heap.size w w' := by
  obtain ⟨ha1, ha2⟩ := ha
  go_enter Try.func8, Try.ntmps8
  go_wp2_with fail
  refine (awake w).mono ?_
  rintro e w0 ⟨rfl, hb0⟩
  go_wp2_with fail
  refine (known_at 7 0 false rfl _).mono ?_
  rintro e w1 ⟨rfl, hb1⟩
  have hb10 := hb0.trans (hb1.mono hb0.size)
  clear hb1 hb0
  go_wp2_with fail
  refine (known_at 7 1 false rfl _).mono ?_
  rintro e w2 ⟨rfl, hb2⟩
  have hb11 := hb10.trans (hb2.mono hb10.size)
  clear hb2 hb10
  go_wp2_with fail
  refine (known_at 7 4 false rfl _).mono ?_
  rintro e w3 ⟨rfl, hb3⟩
  have hb12 := hb11.trans (hb3.mono hb11.size)
  clear hb3 hb11
  go_wp2_with fail
  refine (known_at 7 2 true rfl _).mono ?_
  rintro e w4 ⟨rfl, hb4⟩
  have hb13 := hb12.trans (hb4.mono hb12.size)
  clear hb4 hb12
  go_wp2_with fail
  refine (known_at 7 3 true rfl _).mono ?_
  rintro e w5 ⟨rfl, hb5⟩
  have hb14 := hb13.trans (hb5.mono hb13.size)
  clear hb5 hb13
  go_wp2_with fail
  refine (known_at 7 7 false rfl _).mono ?_
  rintro e w6 ⟨rfl, hb6⟩
  have hb15 := hb14.trans (hb6.mono hb14.size)
  clear hb6 hb14
  go_wp2_with fail
  refine (known_at 7 6 false rfl _).mono ?_
  rintro e w7 ⟨rfl, hb7⟩
  have hb16 := hb15.trans (hb7.mono hb15.size)
  clear hb7 hb15
  go_wp2_with fail
  go_ret
  exact ⟨rfl, hb16⟩

set_option maxHeartbeats 4000000 in
theorem users8 (a : Int) (ha : 0 ≤ a ∧ a ≤ 255) (hm : a % 14 = 8) (w : World) : Calls Try.prog 8 #[.int .u8 a] w fun x w' => x = .returned (.bool true) ∧ Below w.heap.size w w' := by
  obtain ⟨ha1, ha2⟩ := ha
  go_enter Try.func8, Try.ntmps8
  go_wp2_with fail
  refine (awake w).mono ?_
  rintro e w0 ⟨rfl, hb0⟩
  go_wp2_with fail
  refine (known_at 8 0 false rfl _).mono ?_
  rintro e w1 ⟨rfl, hb1⟩
  have hb10 := hb0.trans (hb1.mono hb0.size)
  clear hb1 hb0
  go_wp2_with fail
  refine (known_at 8 1 false rfl _).mono ?_
  rintro e w2 ⟨rfl, hb2⟩
  have hb11 := hb10.trans (hb2.mono hb10.size)
  clear hb2 hb10
  go_wp2_with fail
  refine (known_at 8 4 false rfl _).mono ?_
  rintro e w3 ⟨rfl, hb3⟩
  have hb12 := hb11.trans (hb3.mono hb11.size)
  clear hb3 hb11
  go_wp2_with fail
  refine (known_at 8 2 true rfl _).mono ?_
  rintro e w4 ⟨rfl, hb4⟩
  have hb13 := hb12.trans (hb4.mono hb12.size)
  clear hb4 hb12
  go_wp2_with fail
  refine (known_at 8 3 true rfl _).mono ?_
  rintro e w5 ⟨rfl, hb5⟩
  have hb14 := hb13.trans (hb5.mono hb13.size)
  clear hb5 hb13
  go_wp2_with fail
  refine (known_at 8 7 false rfl _).mono ?_
  rintro e w6 ⟨rfl, hb6⟩
  have hb15 := hb14.trans (hb6.mono hb14.size)
  clear hb6 hb14
  go_wp2_with fail
  refine (known_at 8 6 true rfl _).mono ?_
  rintro e w7 ⟨rfl, hb7⟩
  have hb16 := hb15.trans (hb7.mono hb15.size)
  clear hb7 hb15
  go_wp2_with fail
  go_ret
  exact ⟨rfl, hb16⟩

set_option maxHeartbeats 4000000 in
theorem users9 (a : Int) (ha : 0 ≤ a ∧ a ≤ 255) (hm : a % 14 = 9) (w : World) : Calls Try.prog 8 #[.int .u8 a] w fun x w' => x = .returned (.bool true) ∧ Below w.heap.size w w' := by
  obtain ⟨ha1, ha2⟩ := ha
  go_enter Try.func8, Try.ntmps8
  go_wp2_with fail
  refine (awake w).mono ?_
  rintro e w0 ⟨rfl, hb0⟩
  go_wp2_with fail
  refine (known_at 9 0 false rfl _).mono ?_
  rintro e w1 ⟨rfl, hb1⟩
  have hb10 := hb0.trans (hb1.mono hb0.size)
  clear hb1 hb0
  go_wp2_with fail
  refine (known_at 9 1 false rfl _).mono ?_
  rintro e w2 ⟨rfl, hb2⟩
  have hb11 := hb10.trans (hb2.mono hb10.size)
  clear hb2 hb10
  go_wp2_with fail
  refine (known_at 9 4 false rfl _).mono ?_
  rintro e w3 ⟨rfl, hb3⟩
  have hb12 := hb11.trans (hb3.mono hb11.size)
  clear hb3 hb11
  go_wp2_with fail
  refine (known_at 9 2 true rfl _).mono ?_
  rintro e w4 ⟨rfl, hb4⟩
  have hb13 := hb12.trans (hb4.mono hb12.size)
  clear hb4 hb12
  go_wp2_with fail
  refine (known_at 9 3 true rfl _).mono ?_
  rintro e w5 ⟨rfl, hb5⟩
  have hb14 := hb13.trans (hb5.mono hb13.size)
  clear hb5 hb13
  go_wp2_with fail
  refine (known_at 9 7 true rfl _).mono ?_
  rintro e w6 ⟨rfl, hb6⟩
  have hb15 := hb14.trans (hb6.mono hb14.size)
  clear hb6 hb14
  go_wp2_with fail
  refine (known_at 9 6 false rfl _).mono ?_
  rintro e w7 ⟨rfl, hb7⟩
  have hb16 := hb15.trans (hb7.mono hb15.size)
  clear hb7 hb15
  go_wp2_with fail
  go_ret
  exact ⟨rfl, hb16⟩

set_option maxHeartbeats 4000000 in
theorem users10 (a : Int) (ha : 0 ≤ a ∧ a ≤ 255) (hm : a % 14 = 10) (w : World) : Calls Try.prog 8 #[.int .u8 a] w fun x w' => x = .returned (.bool true) ∧ Below w.heap.size w w' := by
  obtain ⟨ha1, ha2⟩ := ha
  go_enter Try.func8, Try.ntmps8
  go_wp2_with fail
  refine (awake w).mono ?_
  rintro e w0 ⟨rfl, hb0⟩
  go_wp2_with fail
  refine (known_at 10 0 false rfl _).mono ?_
  rintro e w1 ⟨rfl, hb1⟩
  have hb10 := hb0.trans (hb1.mono hb0.size)
  clear hb1 hb0
  go_wp2_with fail
  refine (known_at 10 1 false rfl _).mono ?_
  rintro e w2 ⟨rfl, hb2⟩
  have hb11 := hb10.trans (hb2.mono hb10.size)
  clear hb2 hb10
  go_wp2_with fail
  refine (known_at 10 4 false rfl _).mono ?_
  rintro e w3 ⟨rfl, hb3⟩
  have hb12 := hb11.trans (hb3.mono hb11.size)
  clear hb3 hb11
  go_wp2_with fail
  refine (known_at 10 2 true rfl _).mono ?_
  rintro e w4 ⟨rfl, hb4⟩
  have hb13 := hb12.trans (hb4.mono hb12.size)
  clear hb4 hb12
  go_wp2_with fail
  refine (known_at 10 3 true rfl _).mono ?_
  rintro e w5 ⟨rfl, hb5⟩
  have hb14 := hb13.trans (hb5.mono hb13.size)
  clear hb5 hb13
  go_wp2_with fail
  refine (known_at 10 7 false rfl _).mono ?_
  rintro e w6 ⟨rfl, hb6⟩
  have hb15 := hb14.trans (hb6.mono hb14.size)
  clear hb6 hb14
  go_wp2_with fail
  refine (known_at 10 6 true rfl _).mono ?_
  rintro e w7 ⟨rfl, hb7⟩
  have hb16 := hb15.trans (hb7.mono hb15.size)
  clear hb7 hb15
  go_wp2_with fail
  go_ret
  exact ⟨rfl, hb16⟩

set_option maxHeartbeats 4000000 in
theorem users11 (a : Int) (ha : 0 ≤ a ∧ a ≤ 255) (hm : a % 14 = 11) (w : World) : Calls Try.prog 8 #[.int .u8 a] w fun x w' => x = .returned (.bool true) ∧ Below w.heap.size w w' := by
  obtain ⟨ha1, ha2⟩ := ha
  go_enter Try.func8, Try.ntmps8
  go_wp2_with fail
  refine (awake w).mono ?_
  rintro e w0 ⟨rfl, hb0⟩
  go_wp2_with fail
  refine (known_at 11 0 false rfl _).mono ?_
  rintro e w1 ⟨rfl, hb1⟩
  have hb10 := hb0.trans (hb1.mono hb0.size)
  clear hb1 hb0
  go_wp2_with fail
  refine (known_at 11 1 false rfl _).mono ?_
  rintro e w2 ⟨rfl, hb2⟩
  have hb11 := hb10.trans (hb2.mono hb10.size)
  clear hb2 hb10
  go_wp2_with fail
  refine (known_at 11 4 false rfl _).mono ?_
  rintro e w3 ⟨rfl, hb3⟩
  have hb12 := hb11.trans (hb3.mono hb11.size)
  clear hb3 hb11
  go_wp2_with fail
  refine (known_at 11 2 true rfl _).mono ?_
  rintro e w4 ⟨rfl, hb4⟩
  have hb13 := hb12.trans (hb4.mono hb12.size)
  clear hb4 hb12
  go_wp2_with fail
  refine (known_at 11 3 true rfl _).mono ?_
  rintro e w5 ⟨rfl, hb5⟩
  have hb14 := hb13.trans (hb5.mono hb13.size)
  clear hb5 hb13
  go_wp2_with fail
  refine (known_at 11 7 false rfl _).mono ?_
  rintro e w6 ⟨rfl, hb6⟩
  have hb15 := hb14.trans (hb6.mono hb14.size)
  clear hb6 hb14
  go_wp2_with fail
  refine (known_at 11 6 true rfl _).mono ?_
  rintro e w7 ⟨rfl, hb7⟩
  have hb16 := hb15.trans (hb7.mono hb15.size)
  clear hb7 hb15
  go_wp2_with fail
  go_ret
  exact ⟨rfl, hb16⟩

set_option maxHeartbeats 4000000 in
theorem users12 (a : Int) (ha : 0 ≤ a ∧ a ≤ 255) (hm : a % 14 = 12) (w : World) : Calls Try.prog 8 #[.int .u8 a] w fun x w' => x = .returned (.bool true) ∧ Below w.heap.size w w' := by
  obtain ⟨ha1, ha2⟩ := ha
  go_enter Try.func8, Try.ntmps8
  go_wp2_with fail
  refine (awake w).mono ?_
  rintro e w0 ⟨rfl, hb0⟩
  go_wp2_with fail
  refine (known_at 12 0 false rfl _).mono ?_
  rintro e w1 ⟨rfl, hb1⟩
  have hb10 := hb0.trans (hb1.mono hb0.size)
  clear hb1 hb0
  go_wp2_with fail
  refine (known_at 12 1 false rfl _).mono ?_
  rintro e w2 ⟨rfl, hb2⟩
  have hb11 := hb10.trans (hb2.mono hb10.size)
  clear hb2 hb10
  go_wp2_with fail
  refine (known_at 12 4 false rfl _).mono ?_
  rintro e w3 ⟨rfl, hb3⟩
  have hb12 := hb11.trans (hb3.mono hb11.size)
  clear hb3 hb11
  go_wp2_with fail
  refine (known_at 12 2 true rfl _).mono ?_
  rintro e w4 ⟨rfl, hb4⟩
  have hb13 := hb12.trans (hb4.mono hb12.size)
  clear hb4 hb12
  go_wp2_with fail
  refine (known_at 12 3 true rfl _).mono ?_
  rintro e w5 ⟨rfl, hb5⟩
  have hb14 := hb13.trans (hb5.mono hb13.size)
  clear hb5 hb13
  go_wp2_with fail
  refine (known_at 12 7 true rfl _).mono ?_
  rintro e w6 ⟨rfl, hb6⟩
  have hb15 := hb14.trans (hb6.mono hb14.size)
  clear hb6 hb14
  go_wp2_with fail
  refine (known_at 12 6 false rfl _).mono ?_
  rintro e w7 ⟨rfl, hb7⟩
  have hb16 := hb15.trans (hb7.mono hb15.size)
  clear hb7 hb15
  go_wp2_with fail
  go_ret
  exact ⟨rfl, hb16⟩

set_option maxHeartbeats 4000000 in
theorem users13 (a : Int) (ha : 0 ≤ a ∧ a ≤ 255) (hm : a % 14 = 13) (w : World) : Calls Try.prog 8 #[.int .u8 a] w fun x w' => x = .returned (.bool true) ∧ Below w.heap.size w w' := by
  obtain ⟨ha1, ha2⟩ := ha
  go_enter Try.func8, Try.ntmps8
  go_wp2_with fail
  refine (awake w).mono ?_
  rintro e w0 ⟨rfl, hb0⟩
  go_wp2_with fail
  refine (known_at 13 0 false rfl _).mono ?_
  rintro e w1 ⟨rfl, hb1⟩
  have hb10 := hb0.trans (hb1.mono hb0.size)
  clear hb1 hb0
  go_wp2_with fail
  refine (known_at 13 1 false rfl _).mono ?_
  rintro e w2 ⟨rfl, hb2⟩
  have hb11 := hb10.trans (hb2.mono hb10.size)
  clear hb2 hb10
  go_wp2_with fail
  refine (known_at 13 4 false rfl _).mono ?_
  rintro e w3 ⟨rfl, hb3⟩
  have hb12 := hb11.trans (hb3.mono hb11.size)
  clear hb3 hb11
  go_wp2_with fail
  refine (known_at 13 2 true rfl _).mono ?_
  rintro e w4 ⟨rfl, hb4⟩
  have hb13 := hb12.trans (hb4.mono hb12.size)
  clear hb4 hb12
  go_wp2_with fail
  refine (known_at 13 3 true rfl _).mono ?_
  rintro e w5 ⟨rfl, hb5⟩
  have hb14 := hb13.trans (hb5.mono hb13.size)
  clear hb5 hb13
  go_wp2_with fail
  refine (known_at 13 7 false rfl _).mono ?_
  rintro e w6 ⟨rfl, hb6⟩
  have hb15 := hb14.trans (hb6.mono hb14.size)
  clear hb6 hb14
  go_wp2_with fail
  refine (known_at 13 6 true rfl _).mono ?_
  rintro e w7 ⟨rfl, hb7⟩
  have hb16 := hb15.trans (hb7.mono hb15.size)
  clear hb7 hb15
  go_wp2_with fail
  go_ret
  exact ⟨rfl, hb16⟩

theorem users (a : Int) (ha : 0 ≤ a ∧ a ≤ 255) (w : World) : Calls Try.prog 8 #[.int .u8 a] w fun x w' => x = .returned (.bool true) ∧ Below w.heap.size w w' := by
  rcases (show a % 14 = 0 ∨ a % 14 = 1 ∨ a % 14 = 2 ∨ a % 14 = 3 ∨ a % 14 = 4 ∨ a % 14 = 5 ∨ a % 14 = 6 ∨ a % 14 = 7 ∨ a % 14 = 8 ∨ a % 14 = 9 ∨ a % 14 = 10 ∨ a % 14 = 11 ∨ a % 14 = 12 ∨ a % 14 = 13 by omega) with h | h | h | h | h | h | h | h | h | h | h | h | h | h
  · exact users0 a ha h w
  · exact users1 a ha h w
  · exact users2 a ha h w
  · exact users3 a ha h w
  · exact users4 a ha h w
  · exact users5 a ha h w
  · exact users6 a ha h w
  · exact users7 a ha h w
  · exact users8 a ha h w
  · exact users9 a ha h w
  · exact users10 a ha h w
  · exact users11 a ha h w
  · exact users12 a ha h w
  · exact users13 a ha h w

end Go.Proofs.Ytnafppdnapdbcaa
