/-
  Package queue: Take.
-/
import Derived.Test.YtjefmicmhcajoaaQue3B
namespace Go.Proofs.Ytjefmicmhcajoaa
open Go.RowKit
set_option linter.unusedVariables false

theorem takeNoB (c : Nat) (most : Int) (sv : Value) (w : World) (B : Nat) (h : IsQB w B c most sv []) :
    Calls Try.prog 21 #[.pointer (some ⟨c, 0, none⟩)] w fun e w' => e = .returned (.tuple #[.slice none 0 0, .bool false]) ∧ w' = w := by
  have H := Lib.hid h
  clear h
  go_enter Try.func21, Try.ntmps21
  go_wp2_with fail
  refine (peekNoB 0 c most sv [] w B H.out (by simp)).mono ?_
  rintro e w' ⟨rfl, rfl⟩
  go_wp2_with fail
  refine (cutNoB 1 c most sv [] _ B H.out (by decide)).mono ?_
  rintro e w' ⟨rfl, rfl⟩
  go_wp2_with fail
  go_ret2
  exact ⟨rfl, rfl⟩

theorem takeYesB (c : Nat) (most : Int) (sv : Value) (x : Value) (l : List Value) (w : World) (B : Nat) (hB : B ≤ w.heap.size) (h : IsQB w B c most sv (x :: l)) (hl : (x :: l).length ≤ 100000) (hx : ∃ a n c, x = .slice a n c) :
    Calls Try.prog 21 #[.pointer (some ⟨c, 0, none⟩)] w fun e w' => e = .returned (.tuple #[x, .bool true]) ∧ ∃ sv', IsQB w' B c most sv' l ∧ Mv w sv sv' ∧ Fr (fun b => b = c) w w' := by
  have H := Lib.hid h
  clear h
  obtain ⟨xa, xn, xc, rfl⟩ := hx
  go_enter Try.func21, Try.ntmps21
  go_wp2_with fail
  refine (peekQB 0 c most sv _ w B H.out (by simp)).mono ?_
  rintro e w' ⟨rfl, rfl⟩
  simp only [List.getElem_cons_zero]
  go_wp2_with fail
  refine (cutYesB 1 1 c most sv _ _ B hB H.out (by simp; omega) (by decide) hl).mono ?_
  rintro e w2 ⟨rfl, sv', hq, hm, hf⟩
  have F : Hid (∃ sv', IsQB w2 B c most sv' l ∧ Mv w' sv sv' ∧ Fr (fun b => b = c) w' w2) := ⟨sv', hq, hm, hf⟩
  clear hq hm hf
  go_wp2_with fail
  go_ret2
  exact ⟨rfl, F.out⟩
end Go.Proofs.Ytjefmicmhcajoaa
