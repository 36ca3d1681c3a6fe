/-
  Package queue: Take.
-/
import Derived.Test.YtjefmicmhcajoaaQue3S
namespace Go.Proofs.Ytjefmicmhcajoaa
open Go.RowKit
set_option linter.unusedVariables false

theorem takeNoS (c : Nat) (most : Int) (sv : Value) (w : World) (B : Nat) (h : IsQS w B c most sv []) :
    Calls Try.prog 13 #[.pointer (some ⟨c, 0, none⟩)] w fun e w' => e = .returned (.tuple #[.string .empty, .bool false]) ∧ w' = w := by
  have H := Lib.hid h
  clear h
  go_enter Try.func13, Try.ntmps13
  go_wp2_with fail
  refine (peekNoS 0 c most sv [] w B H.out (by simp)).mono ?_
  rintro e w' ⟨rfl, rfl⟩
  go_wp2_with fail
  refine (cutNoS 1 c most sv [] _ B H.out (by decide)).mono ?_
  rintro e w' ⟨rfl, rfl⟩
  go_wp2_with fail
  go_ret2
  exact ⟨rfl, rfl⟩

theorem takeYesS (c : Nat) (most : Int) (sv : Value) (x : Value) (l : List Value) (w : World) (B : Nat) (hB : B ≤ w.heap.size) (h : IsQS w B c most sv (x :: l)) (hl : (x :: l).length ≤ 100000) (hx : ∃ s, x = .string s) :
    Calls Try.prog 13 #[.pointer (some ⟨c, 0, none⟩)] w fun e w' => e = .returned (.tuple #[x, .bool true]) ∧ ∃ sv', IsQS w' B c most sv' l ∧ Mv w sv sv' ∧ Fr (fun b => b = c) w w' := by
  have H := Lib.hid h
  clear h
  obtain ⟨xs, rfl⟩ := hx
  go_enter Try.func13, Try.ntmps13
  go_wp2_with fail
  refine (peekQS 0 c most sv _ w B H.out (by simp)).mono ?_
  rintro e w' ⟨rfl, rfl⟩
  simp only [List.getElem_cons_zero]
  go_wp2_with fail
  refine (cutYesS 1 1 c most sv _ _ B hB H.out (by simp; omega) (by decide) hl).mono ?_
  rintro e w2 ⟨rfl, sv', hq, hm, hf⟩
  have F : Hid (∃ sv', IsQS w2 B c most sv' l ∧ Mv w' sv sv' ∧ Fr (fun b => b = c) w' w2) := ⟨sv', hq, hm, hf⟩
  clear hq hm hf
  go_wp2_with fail
  go_ret2
  exact ⟨rfl, F.out⟩
end Go.Proofs.Ytjefmicmhcajoaa
