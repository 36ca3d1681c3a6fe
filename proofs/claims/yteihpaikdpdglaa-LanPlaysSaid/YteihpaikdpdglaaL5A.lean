/-
  Layer 5: awake, and LanKnown: the walks.
-/
import Derived.Test.YteihpaikdpdglaaLanE
namespace Go.Proofs.Yteihpaikdpdglaa
open Go.RowKit
set_option linter.unusedVariables false


theorem rdNew (w : World) (x : Int) : RdB (w.alloc (.cells #[.int .u8 x] 5)) (.slice (some ⟨w.heap.size, 0, none⟩) 1 1) [x] := Rd.new rfl rfl

set_option maxHeartbeats 4000000 in
theorem awake (w : World) : Calls Try.prog 11 #[] w fun e w' => e = .returned (.bool true) ∧ Below w.heap.size w w' := by
  go_enter Try.func11, Try.ntmps11
  go_wp2_with fail
  refine (newL 2 3 9 (by decide) (by decide) (by decide) w).mono ?_
  rintro e w1 ⟨t, c, rfl, h1⟩
  have H1 := Lib.hid h1
  clear h1
  go_wp2_with fail
  refine (xsendYes (H1.out.below ((Below.refl _ w1).alloc (Nat.le_refl _) _)) _ [5] (rdNew w1 5) (by decide) (by decide)).mono ?_
  rintro e w2 ⟨rfl, h2⟩
  have H2 := Lib.hid (show LnX w w2 t 2 9 0 c 3 [([5], 0)] [] from h2)
  clear h2
  go_wp2_with fail
  refine (xpass H2.out).mono ?_
  rintro e w3 ⟨v, rfl, ⟨a, n, k, rfl⟩, h3⟩
  have H3 := Lib.hid h3
  clear h3
  go_wp2_with fail
  refine (sameRows _ _ [5] [5] _ ((H3.out.below ((Below.refl _ w3).alloc (Nat.le_refl _) _)).kept _ (List.mem_cons_self ..)).rd (rdNew w3 5) (by decide)).mono ?_
  rintro e w4 ⟨rfl, b4⟩
  rw [sameB_self]
  have B4 := Lib.hid ((H3.out.below ((Below.refl _ w3).alloc (Nat.le_refl _) (.cells #[.int .u8 5] 5))).bel.trans (b4.mono (H3.out.below ((Below.refl _ w3).alloc (Nat.le_refl _) (.cells #[.int .u8 5] 5))).bel.size))
  clear b4
  go_wp2_with fail
  go_ret
  exact ⟨rfl, B4.out⟩

set_option maxHeartbeats 8000000 in
theorem known (w : World) : Calls Try.prog 3 #[] w fun e w' => e = .returned (.bool true) ∧ Below w.heap.size w w' := by
  go_enter Try.func3, Try.ntmps3
  go_wp2_with fail
  refine (awake w).mono ?_
  rintro e w0 ⟨rfl, b0⟩
  have B0 := Lib.hid b0
  clear b0
  go_wp2_with fail
  refine (newL 3 2 9 (by decide) (by decide) (by decide) w0).mono ?_
  rintro e w1 ⟨t, c, rfl, h1⟩
  have H1 := Lib.hid h1
  clear h1
  go_wp2_with fail
  refine (newBadL 2 9 w1).mono ?_
  rintro e w1' ⟨rfl, rfl⟩
  go_wp2_with fail
  refine (xsendYes (H1.out.below ((Below.refl _ w1').alloc (Nat.le_refl _) _)) _ [1] (rdNew w1' 1) (by decide) (by decide)).mono ?_
  rintro e w2 ⟨rfl, h2⟩
  have H2 := Lib.hid (show LnX w0 w2 t 3 9 0 c 2 [([1], 0)] [] from h2)
  clear h2
  go_wp2_with fail
  refine (xtwice H2.out (by decide) (by decide)).mono ?_
  rintro e w3 ⟨rfl, h3⟩
  have H3 := Lib.hid h3
  clear h3
  go_wp2_with fail
  refine (xsendNo (H3.out.below ((Below.refl _ w3).alloc (Nat.le_refl _) _)) _ [2] (rdNew w3 2) (by decide) (by decide) (by decide)).mono ?_
  rintro e w4 ⟨rfl, h4⟩
  have H4 := Lib.hid (show LnX w0 w4 t 3 9 1 c 2 [([1], 0), ([1], 0)] [] from h4)
  clear h4
  go_wp2_with fail
  refine (xpass H4.out).mono ?_
  rintro e w5 ⟨v5, rfl, ⟨a5, n5, k5, rfl⟩, h5⟩
  have H5 := Lib.hid h5
  clear h5
  go_wp2_with fail
  refine (xpass H5.out).mono ?_
  rintro e w6 ⟨v6, rfl, ⟨a6, n6, k6, rfl⟩, h6⟩
  have H6 := Lib.hid h6
  clear h6
  go_wp2_with fail
  refine (xpassNo H6.out).mono ?_
  rintro e w7 ⟨rfl, h7⟩
  have H7 := Lib.hid h7
  clear h7
  go_wp2_with fail
  have H8 := Lib.hid (H7.out.below ((Below.refl _ w7).alloc (Nat.le_refl _) (.cells #[.int .u8 1] 5)))
  refine (sameRows _ _ [1] [1] _ (H8.out.kept (.slice a5 n5 k5, [1]) (by simp)).rd (rdNew w7 1) (by decide)).mono ?_
  rintro e w8 ⟨rfl, b8⟩
  rw [sameB_self]
  have H9 := Lib.hid (H8.out.below b8)
  clear b8
  go_wp2_with fail
  have H10 := Lib.hid (H9.out.below ((Below.refl _ w8).alloc (Nat.le_refl _) (.cells #[.int .u8 1] 5)))
  refine (sameRows _ _ [1] [1] _ (H10.out.kept (.slice a6 n6 k6, [1]) (by simp)).rd (rdNew w8 1) (by decide)).mono ?_
  rintro e w9 ⟨rfl, b9⟩
  rw [sameB_self]
  have H11 := Lib.hid (H10.out.below b9)
  clear b9
  go_wp2_with fail
  refine (xlost H11.out).mono ?_
  rintro e w10 ⟨rfl, rfl⟩
  go_wp2_with fail
  refine (xsendSame H11.out _ ⟨_, _, _, rfl⟩).mono ?_
  rintro e w11 ⟨rfl, rfl⟩
  go_wp2_with fail
  refine (xlost H11.out).mono ?_
  rintro e w12 ⟨rfl, rfl⟩
  go_wp2_with fail
  go_ret
  exact ⟨rfl, B0.out.trans (H11.out.bel.mono B0.out.size)⟩
end Go.Proofs.Yteihpaikdpdglaa
