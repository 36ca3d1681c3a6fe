/-
  Package clock at one key type, what only reads: Left, Now, Len; and Tick.
-/
import Derived.Test.YtidcjbfppdhghaaClkI
namespace Go.Proofs.Ytidcjbfppdhghaa
open Go.RowKit

theorem leftLI_none {k : Int} {l : List TmI} (h : l.findIdx? (fun x => keqI x.1 k) = none) : leftLI k l = 0 := by
  unfold leftLI
  rw [List.find?_eq_none.2 (fun x hx => by simpa using List.findIdx?_eq_none_iff.1 h x hx)]
theorem leftLI_some {k : Int} {l : List TmI} {i : Nat} (h : l.findIdx? (fun x => keqI x.1 k) = some i) (hi : i < l.length) : leftLI k l = l[i].2 := by
  obtain ⟨_, hy, hno⟩ := List.findIdx?_eq_some_iff_getElem.1 h
  unfold leftLI
  have hf : l.find? (fun x => keqI x.1 k) = some l[i] := List.find?_eq_some_iff_getElem.2 ⟨hy, i, hi, rfl, fun j hj => by simpa using hno j hj⟩
  rw [hf]

theorem leftI (k : Int) (c : Nat) (most now : Int) (sv : Value) (l : List TmI) (w : World) (B : Nat) (h : IsClkI w B c most now sv l) :
    Calls Try.prog 20 #[.pointer (some ⟨c, 0, none⟩), .int .i64 k] w fun e w' => e = .returned (.int .i64 (leftLI k l)) ∧ Below w.heap.size w w' := by
  rcases fidxI_cases k l with ⟨hi, hfi⟩ | ⟨i, hi, hlt, hfi⟩
  · have Hl := Lib.hid (leftLI_none hfi)
    have hi' : fidxI k l < 0 := by omega
    have H := Lib.hid h
    clear hi hfi h
    go_enter Try.func20, Try.ntmps20
    go_wp2_with (go_at_call 30; refine (placeI k c most now sv l _ B H.out).mono ?_; rintro e w' ⟨rfl, hb⟩)
    go_ret
    exact ⟨by rw [Hl.out]; rfl, hb⟩
  · obtain ⟨g, cap, rfl, hg, hcap, hmax⟩ := own_some h.own (by omega)
    have Hl := Lib.hid (leftLI_some hfi hlt)
    have Hi := Lib.hid hi
    have H := Lib.hid h
    have e1 : ∀ w' : World, Below w.heap.size w w' → w'.cell? ⟨c, 2, none⟩ = some (.slice (some ⟨g, 0, none⟩) l.length cap) ∧ w'.cell? ⟨g, i * 2 + 1, none⟩ = some (.int .i64 l[i].2) := fun w' hb =>
      ⟨by have := blk_cell (H.out.below hb).blk 2; simpa using this, H.out.own.cell' encI_len hb i 1 hlt (by omega)⟩
    have E1 := Lib.hid e1
    clear hi hfi h e1
    go_enter Try.func20, Try.ntmps20
    go_wp2_with fail
    refine (placeI k c most now _ l _ B H.out).mono ?_
    rw [Hi.out]
    rintro e w' ⟨rfl, hb⟩
    obtain ⟨c2, c3⟩ := E1.out w' hb
    go_wp2
    go_ret
    exact ⟨by rw [Hl.out]; rfl, hb⟩

theorem nowI (c : Nat) (most now : Int) (sv : Value) (l : List TmI) (w : World) (B : Nat) (h : IsClkI w B c most now sv l) :
    Calls Try.prog 25 #[.pointer (some ⟨c, 0, none⟩)] w fun e w' => e = .returned (.int .i64 now) ∧ Below w.heap.size w w' := by
  have c1 : w.cell? ⟨c, 1, none⟩ = some (.int .i64 now) := by have := blk_cell h.blk 1; simpa using this
  clear h
  go_enter Try.func25, Try.ntmps25
  go_wp2
  go_ret
  exact ⟨rfl, Below.refl _ _⟩
theorem lenI (c : Nat) (most now : Int) (sv : Value) (l : List TmI) (w : World) (B : Nat) (h : IsClkI w B c most now sv l) :
    Calls Try.prog 19 #[.pointer (some ⟨c, 0, none⟩)] w fun e w' => e = .returned (.int .i64 l.length) ∧ Below w.heap.size w w' := by
  obtain ⟨a, cap, rfl, _⟩ := own_shape h.own
  have c1 : w.cell? ⟨c, 2, none⟩ = some (.slice a l.length cap) := by have := blk_cell h.blk 2; simpa using this
  clear h
  go_enter Try.func19, Try.ntmps19
  go_wp2
  go_ret
  exact ⟨rfl, Below.refl _ _⟩
end Go.Proofs.Ytidcjbfppdhghaa
