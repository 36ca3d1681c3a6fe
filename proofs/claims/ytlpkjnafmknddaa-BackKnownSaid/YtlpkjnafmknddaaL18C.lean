/-
  Layer 18: BackKnown: the walk.
-/
import Derived.Test.YtlpkjnafmknddaaL18A
namespace Go.Proofs.Ytlpkjnafmknddaa
open Go.RowKit
set_option linter.unusedVariables false


set_option maxHeartbeats 8000000 in
theorem knownL (w : World) : Calls Try.prog 4 #[] w fun x w' => x = .returned (.bool true) ∧ Below w.heap.size w w' := by
  go_enter Try.func4, Try.ntmps4
  go_wp2_with fail
  refine (awake w).mono ?_
  rintro x w1 ⟨rfl, b1⟩
  have B1 := Lib.hid b1
  clear b1
  have kc := fun (w : World) (C : Array Value) (n c : Nat) => Lib.run_convert_bytes_const (P := Try.prog) w 26 5 C n c Try.underlying26 Try.underlying5
  go_wp2_with fail
  refine (xNew B1.out 3 (by decide)).mono ?_
  rintro x w2 ⟨b, rfl, h⟩
  rw [show max (3 : Int) 0 = 3 from rfl] at h
  have H2 := Lib.hid h
  clear h
  go_wp2_with fail
  refine (xPutYes (H2.out.below ((Below.refl _ w2).alloc (Nat.le_refl _) _)) (rdB_newF (l := [97]) rfl rfl rfl) (by decide) (by decide) (by decide)).mono ?_
  rintro x w3 ⟨rfl, h⟩
  have H3 := Lib.hid h
  clear h
  go_wp2_with fail
  refine (xPutYes (H3.out.below ((Below.refl _ w3).alloc (Nat.le_refl _) _)) (rdB_newF (l := [98]) rfl rfl rfl) (by decide) (by decide) (by decide)).mono ?_
  rintro x w4 ⟨rfl, h⟩
  have H4 : Hid (BkX w w4 [] b 3 0 [[97], [98]]) := h
  clear h
  go_wp2_with fail
  refine (xNextYes H4.out (by decide) (by decide) (by decide)).mono ?_
  rintro x w5 ⟨v5, rfl, h⟩
  have H5 : Hid (BkX w w5 [(v5, [97])] b 3 1 [[97], [98]]) := h
  clear h
  obtain ⟨g5, k5, rfl, _⟩ := own_some (H5.out.own (List.mem_cons_self ..)) (by decide)
  go_wp2_with fail
  refine (xNextYes H5.out (by decide) (by decide) (by decide)).mono ?_
  rintro x w6 ⟨v6, rfl, h⟩
  have H6 : Hid (BkX w w6 [(v6, [98]), (.slice (some ⟨g5, 0, none⟩) 1 k5, [97])] b 3 2 [[97], [98]]) := h
  clear h
  obtain ⟨g6, k6, rfl, _⟩ := own_some (H6.out.own (List.mem_cons_self ..)) (by decide)
  go_wp2_with fail
  refine (xAgain H6.out).mono ?_
  rintro x w7 ⟨rfl, h⟩
  have H7 := Lib.hid h
  clear h
  go_wp2_with fail
  refine (xNextYes H7.out (by decide) (by decide) (by decide)).mono ?_
  rintro x w8 ⟨v8, rfl, h⟩
  have H8 : Hid (BkX w w8 [(v8, [97]), (.slice (some ⟨g6, 0, none⟩) 1 k6, [98]), (.slice (some ⟨g5, 0, none⟩) 1 k5, [97])] b 3 1 [[97], [98]]) := h
  clear h
  obtain ⟨g8, k8, rfl, _⟩ := own_some (H8.out.own (List.mem_cons_self ..)) (by decide)
  go_wp2_with fail
  refine (xAcked H8.out 1 (by decide)).mono ?_
  rintro x w9 ⟨rfl, h⟩
  rw [show ackN 1 1 = 1 from rfl] at h ⊢
  have H9 : Hid (BkX w w9 [(.slice (some ⟨g8, 0, none⟩) 1 k8, [97]), (.slice (some ⟨g6, 0, none⟩) 1 k6, [98]), (.slice (some ⟨g5, 0, none⟩) 1 k5, [97])] b 3 0 [[98]]) := h
  clear h
  go_wp2_with fail
  refine (xNextYes H9.out (by decide) (by decide) (by decide)).mono ?_
  rintro x wa ⟨va, rfl, h⟩
  have HA : Hid (BkX w wa [(va, [98]), (.slice (some ⟨g8, 0, none⟩) 1 k8, [97]), (.slice (some ⟨g6, 0, none⟩) 1 k6, [98]), (.slice (some ⟨g5, 0, none⟩) 1 k5, [97])] b 3 1 [[98]]) := h
  clear h
  obtain ⟨ga, ka, rfl, _⟩ := own_some (HA.out.own (List.mem_cons_self ..)) (by decide)
  have s5 := strB (HA.out.rd (v := .slice (some ⟨g5, 0, none⟩) 1 k5) (x := [97]) (by simp))
  have s6 := strB (HA.out.rd (v := .slice (some ⟨g6, 0, none⟩) 1 k6) (x := [98]) (by simp))
  have s8 := strB (HA.out.rd (v := .slice (some ⟨g8, 0, none⟩) 1 k8) (x := [97]) (by simp))
  have sa := strB (HA.out.rd (v := .slice (some ⟨ga, 0, none⟩) 1 ka) (x := [98]) (by simp))
  rw [show ([97] : List Int).foldl (fun r n => r.push (UInt8.ofNat n.toNat)) ByteArray.empty = ⟨#[97]⟩ from rfl] at s5 s8
  rw [show ([98] : List Int).foldl (fun r n => r.push (UInt8.ofNat n.toNat)) ByteArray.empty = ⟨#[98]⟩ from rfl] at s6 sa
  go_wp2_with fail
  refine (xLen HA.out).mono ?_
  rintro x wb ⟨rfl, rfl⟩
  clear s5 s6 s8 sa
  go_wp2_with fail
  refine (xNew HA.out.bel (-1) (by decide)).mono ?_
  rintro x wc ⟨c, rfl, h⟩
  rw [show max (-1 : Int) 0 = 0 from rfl] at h
  have HC := Lib.hid h
  clear h
  go_wp2_with fail
  refine (xPutNo HC.out (x := []) ⟨rfl, none, 0, rfl, fun _ => ⟨rfl, rfl⟩, fun _ e => by cases e⟩ (by decide) (by decide) (by decide)).mono ?_
  rintro x wd ⟨rfl, h⟩
  have HD := Lib.hid h
  clear h
  go_wp2_with fail
  go_ret
  exact ⟨rfl, HD.out.bel⟩
end Go.Proofs.Ytlpkjnafmknddaa
