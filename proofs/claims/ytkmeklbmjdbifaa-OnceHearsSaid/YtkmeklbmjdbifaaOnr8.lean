/-
  The reference's Same, at two PDUs that are one.
-/
import Derived.Test.YtkmeklbmjdbifaaOnr7
namespace Go.Proofs.Ytkmeklbmjdbifaa
open Go.RowKit
set_option linter.unusedVariables false


set_option maxHeartbeats 2000000 in
theorem rsameP (p : Pd) (a1 a2 : Option Addr) (k1 k2 : Nat) (w : World) (h1 : RdB w (.slice a1 p.info.length k1) p.info) (h2 : RdB w (.slice a2 p.info.length k2) p.info) (hl : p.info.length ≤ 1000000) :
    Calls Try.prog 18 #[pdV p (.slice a1 p.info.length k1), pdV p (.slice a2 p.info.length k2)] w fun e w' => e = .returned (.bool true) ∧ Below w.heap.size w w' := by
  have H1 := Lib.hid h1
  have H2 := Lib.hid h2
  obtain ⟨n, hn⟩ : ∃ n, n = p.info.length := ⟨_, rfl⟩
  have Hn := Lib.hid hn
  have al : Below w.heap.size w ((w.alloc (.cells (pdCs p (.slice a1 n k1)) 33)).alloc (.cells (pdCs p (.slice a2 n k2)) 33)) := ((Below.refl _ w).alloc (Nat.le_refl _) _).alloc (by simp) _
  have Al := Lib.hid al
  rw [← hn] at H1 H2 ⊢
  clear h1 h2 al hn
  go_enter Try.func18, Try.ntmps18
  go_wp2_with fail
  refine (sameRows _ _ p.info p.info _ (by have := H1.out.fr Al.out; exact this) (by have := H2.out.fr Al.out; exact this) hl).mono ?_
  rintro e w1 ⟨rfl, b1⟩
  rw [sameB_self]
  go_wp2_with fail
  go_ret
  exact ⟨rfl, Al.out.trans (b1.mono Al.out.size)⟩

set_option maxHeartbeats 2000000 in
theorem rsameR (ov : Bool) (st : Int) (l : List Int) (n : Nat) (hn : n = l.length) (a1 a2 : Option Addr) (k1 k2 : Nat) (w : World) (h1 : RdB w (.slice a1 n k1) l) (h2 : RdB w (.slice a2 n k2) l) (hl : l.length ≤ 1000000) :
    Calls Try.prog 20 #[resV ov st (.slice a1 n k1), resV ov st (.slice a2 n k2)] w fun e w' => e = .returned (.bool true) ∧ Below w.heap.size w w' := by
  have H1 := Lib.hid h1
  have H2 := Lib.hid h2
  have Hn := Lib.hid hn
  have al : Below w.heap.size w ((w.alloc (.cells #[.bool ov, .int .i64 st, .slice a1 n k1] 56)).alloc (.cells #[.bool ov, .int .i64 st, .slice a2 n k2] 56)) := ((Below.refl _ w).alloc (Nat.le_refl _) _).alloc (by simp) _
  have Al := Lib.hid al
  clear h1 h2 al hn
  go_enter Try.func20, Try.ntmps20
  go_wp2_with fail
  refine (sameRows _ _ l l _ (by have := H1.out.fr Al.out; exact this) (by have := H2.out.fr Al.out; exact this) hl).mono ?_
  rintro e w1 ⟨rfl, b1⟩
  rw [sameB_self]
  go_wp2_with fail
  go_ret
  exact ⟨rfl, Al.out.trans (b1.mono Al.out.size)⟩
end Go.Proofs.Ytkmeklbmjdbifaa
