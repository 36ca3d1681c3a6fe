/-
  Package queue: Take.
-/
import Derived.Test.YtjefmicmhcajoaaQue3I
namespace Go.Proofs.Ytjefmicmhcajoaa
open Go.RowKit
set_option linter.unusedVariables false

theorem takeNoI (c : Nat) (most : Int) (sv : Value) (w : World) (B : Nat) (h : IsQI w B c most sv []) :
    Calls Try.prog 25 #[.pointer (some ⟨c, 0, none⟩)] w fun e w' => e = .returned (.tuple #[.int .i64 0, .bool false]) ∧ w' = w := by
  have H := Lib.hid h
  clear h
  go_enter Try.func25, Try.ntmps25
  go_wp2_with fail
  refine (peekNoI 0 c most sv [] w B H.out (by simp)).mono ?_
  rintro e w' ⟨rfl, rfl⟩
  go_wp2_with fail
  refine (cutNoI 1 c most sv [] _ B H.out (by decide)).mono ?_
  rintro e w' ⟨rfl, rfl⟩
  go_wp2_with fail
  go_ret2
  exact ⟨rfl, rfl⟩

theorem takeYesI (c : Nat) (most : Int) (sv : Value) (x : Value) (l : List Value) (w : World) (B : Nat) (hB : B ≤ w.heap.size) (h : IsQI w B c most sv (x :: l)) (hl : (x :: l).length ≤ 100000) (hx : ∃ z, x = .int .i64 z) :
    Calls Try.prog 25 #[.pointer (some ⟨c, 0, none⟩)] w fun e w' => e = .returned (.tuple #[x, .bool true]) ∧ ∃ sv', IsQI w' B c most sv' l ∧ Mv w sv sv' ∧ Fr (fun b => b = c) w w' := by
  have H := Lib.hid h
  clear h
  obtain ⟨xz, rfl⟩ := hx
  go_enter Try.func25, Try.ntmps25
  go_wp2_with fail
  refine (peekQI 0 c most sv _ w B H.out (by simp)).mono ?_
  rintro e w' ⟨rfl, rfl⟩
  simp only [List.getElem_cons_zero]
  go_wp2_with fail
  refine (cutYesI 1 1 c most sv _ _ B hB H.out (by simp; omega) (by decide) hl).mono ?_
  rintro e w2 ⟨rfl, sv', hq, hm, hf⟩
  have F : Hid (∃ sv', IsQI w2 B c most sv' l ∧ Mv w' sv sv' ∧ Fr (fun b => b = c) w' w2) := ⟨sv', hq, hm, hf⟩
  clear hq hm hf
  go_wp2_with fail
  go_ret2
  exact ⟨rfl, F.out⟩
end Go.Proofs.Ytjefmicmhcajoaa
