/-
  Layer 4: awake, QueueKnown.
-/
import Derived.Test.YtjefmicmhcajoaaQueFI
import Derived.Test.YtjefmicmhcajoaaQueFS
namespace Go.Proofs.Ytjefmicmhcajoaa
open Go.RowKit
set_option linter.unusedVariables false


set_option maxHeartbeats 4000000 in
theorem awake (w : World) : Calls Try.prog 9 #[] w fun x w' => x = .returned (.bool true) ∧ Below w.heap.size w w' := by
  go_enter Try.func9, Try.ntmps9
  go_wp2_with fail
  refine (xqNewI (Below.refl _ w) 2 (by decide)).mono ?_
  rintro x w1 ⟨c, rfl, h, _⟩
  have H1 : Hid (QXI w w1 c 2 []) := h
  clear h
  go_wp2_with fail
  refine (xqPutYesI H1.out _ ⟨5, rfl⟩ (by decide) (by decide)).mono ?_
  rintro x w2 ⟨rfl, h⟩
  have H2 : Hid (QXI w w2 c 2 [.int .i64 5]) := h
  clear h
  go_wp2_with fail
  refine (xqTakeYesI H2.out ⟨5, rfl⟩ (by decide)).mono ?_
  rintro x w3 ⟨rfl, h⟩
  have H3 := Lib.hid h
  clear h
  go_wp2_with fail
  refine (xqLenI H3.out).mono ?_
  rintro x w4 ⟨rfl, rfl⟩
  go_wp2_with fail
  refine (xqMostI H3.out).mono ?_
  rintro x w4 ⟨rfl, rfl⟩
  go_wp2_with fail
  go_ret
  exact ⟨rfl, H3.out.bel⟩

set_option maxHeartbeats 8000000 in
theorem knownL (w : World) : Calls Try.prog 3 #[] w fun x w' => x = .returned (.bool true) ∧ Below w.heap.size w w' := by
  go_enter Try.func3, Try.ntmps3
  go_wp2_with fail
  refine (awake w).mono ?_
  rintro x w1 ⟨rfl, b1⟩
  have B1 := Lib.hid b1
  clear b1
  go_wp2_with fail
  refine (xqNewS B1.out 2 (by decide)).mono ?_
  rintro x w2 ⟨c, rfl, h, _⟩
  have H2 : Hid (QXS w w2 c 2 []) := h
  clear h
  go_wp2_with fail
  refine (xqPutYesS H2.out _ ⟨_, rfl⟩ (by decide) (by decide)).mono ?_
  rintro x w3 ⟨rfl, h⟩
  have H3 := Lib.hid h
  clear h
  go_wp2_with fail
  refine (xqPutYesS H3.out _ ⟨_, rfl⟩ (by simp) (by simp)).mono ?_
  rintro x w4 ⟨rfl, h⟩
  have H4 := Lib.hid h
  clear h
  go_wp2_with fail
  refine (xqPutNoS H4.out _ ⟨_, rfl⟩ (by simp) (by simp)).mono ?_
  rintro x w5 ⟨rfl, h⟩
  have H5 := Lib.hid h
  clear h
  go_wp2_with fail
  refine (xqInsNoS H5.out _ _ (by simp)).mono ?_
  rintro x w6 ⟨rfl, h⟩
  have H6 := Lib.hid h
  simp only [List.nil_append, List.cons_append] at H6
  clear h
  go_wp2_with fail
  refine (xqTakeYesS H6.out ⟨_, rfl⟩ (by simp)).mono ?_
  rintro x w7 ⟨rfl, h⟩
  have H7 := Lib.hid h
  clear h
  go_wp2_with fail
  refine (xqPeekS H7.out 0 (by simp)).mono ?_
  rintro x w8 ⟨rfl, rfl⟩
  simp only [List.getElem_cons_zero]
  go_wp2_with fail
  refine (xqPeekNoS H7.out 1 (by simp)).mono ?_
  rintro x w8 ⟨rfl, rfl⟩
  go_wp2_with fail
  refine (xqNewI H7.out.bel (-3) (by decide)).mono ?_
  rintro x w9 ⟨d, rfl, h, hb⟩
  have HD : Hid (QXI w w9 d 0 []) := h
  have H8 := Lib.hid (H7.out.below hb)
  clear h hb
  go_wp2_with fail
  refine (xqLenS H8.out).mono ?_
  rintro x wa ⟨rfl, rfl⟩
  go_wp2_with fail
  refine (xqPutNoI HD.out _ ⟨1, rfl⟩ (by decide) (by decide)).mono ?_
  rintro x wb ⟨rfl, h⟩
  have HE := Lib.hid h
  clear h
  go_wp2_with fail
  refine (xqMostI HE.out).mono ?_
  rintro x wc ⟨rfl, rfl⟩
  go_wp2_with fail
  go_ret
  exact ⟨rfl, HE.out.bel⟩
end Go.Proofs.Ytjefmicmhcajoaa
