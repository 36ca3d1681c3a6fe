/-
  Layer 21: OnceKnown: the walk.
-/
import Derived.Test.YtkmeklbmjdbifaaL21A
namespace Go.Proofs.Ytkmeklbmjdbifaa
open Go.RowKit
set_option linter.unusedVariables false


theorem cell_mid (w : World) (o1 : Obj) (cs : Array Value) (t : TypeId) (o3 : Obj) (i : Nat) : (((w.alloc o1).alloc (.cells cs t)).alloc o3).cell? ⟨w.heap.size + 1, i, none⟩ = cs[i]? :=
  blk_cell ((heap_alloc_lt _ _ (by simp)).trans (by have := heap_alloc_new' (w.alloc o1) (.cells cs t); simpa using this)) i
set_option maxHeartbeats 8000000 in
set_option maxRecDepth 100000 in
theorem knownL (w : World) : Calls Try.prog 3 #[] w fun x w' => x = .returned (.bool true) ∧ Below w.heap.size w w' := by
  have kc := fun (w : World) (C : Array Value) (n c : Nat) => Lib.run_convert_bytes_const (P := Try.prog) w 31 5 C n c Try.underlying31 Try.underlying5
  have kc1 := fun (w : World) (o : Obj) (C : Array Value) (n c : Nat) => convB1 w o C n c
  have kc2 := fun (w : World) (o o' : Obj) (C : Array Value) (n c : Nat) => convB2 w o o' C n c
  go_enter Try.func3, Try.ntmps3
  go_wp2_with fail
  refine (awake w).mono ?_
  rintro x w0 ⟨rfl, b0⟩
  have B0 := Lib.hid b0
  clear b0
  go_wp2_with fail
  refine (onewNo ⟨0, 0, 0⟩ 4 8 (by unfold Cf.ok; decide) (by unfold SapI; decide) (by unfold SapI; decide) _).mono ?_
  rintro x w1 ⟨rfl, b1⟩
  have B1 : Hid (Below w.heap.size w w1) := B0.out.trans (b1.mono B0.out.size)
  clear b1
  go_wp2_with fail
  refine (lcfg ⟨1, 2, 1⟩ _).mono ?_
  rintro x w2 ⟨rfl, b2⟩
  have B2 : Hid (Below w.heap.size w w2) := B1.out.trans (b2.mono B1.out.size)
  clear b2
  go_wp2_with fail
  refine (onewYes ⟨1, 2, 1⟩ 4 8 (by unfold Cf.ok; decide) (by unfold SapI; decide) (by unfold SapI; decide) _).mono ?_
  rintro x w3 ⟨o, rfl, h3, ho, b3⟩
  have B3 : Hid (Below w.heap.size w w3) := B2.out.trans (b3.mono B2.out.size)
  have Ho : Hid (w.heap.size ≤ o) := Nat.le_trans B2.out.size ho
  have H3 := Lib.hid h3
  have G3 : Hid (∀ b, b = o → w.heap.size ≤ b) := fun b e => by rw [e]; exact Ho.out
  clear h3 ho b3
  go_wp2_with fail
  obtain ⟨P4, hP4⟩ : ∃ P : Pd, askR ⟨1, 2, 1⟩ 4 8 sk0 [97] true = (P, 0, ⟨true, 0, 1, 2, 0, true, [97]⟩) := ⟨_, rfl⟩
  have al := ((Below.refl w3.heap.size w3).alloc (by simp <;> omega) (.cells #[.int .u8 97] 5 (1, 2)))
  have how := H3.out.lt o H3.out.mem
  refine (oask (H3.out.below al) (.slice (some ⟨w3.heap.size, 0, none⟩) 1 1) [97] (rdB_thru (rdB_newF (by simp) rfl rfl) (fun g hg => by simp [Value.ownBlock] at hg; omega)) true hP4).mono ?_
  rintro x w4 ⟨a4, k4, F4, rfl, o4, h4, s4, n4⟩
  have B4 : Hid (Below w.heap.size w w4) := B3.out.trans ((al.mono B3.out.size).trans (s4.below (by have := B3.out.size; simp; omega) (fun b e => G3.out b e)))
  have G4 : Hid (∀ b, F4 b → w.heap.size ≤ b) := s4.ge (by have := B3.out.size; simp; omega) (fun b e => G3.out b e)
  have H4 := Lib.hid h4
  clear al how o4 h4 s4 n4 hP4
  go_wp2_with fail
  obtain ⟨P5, hP5⟩ : ∃ P : Pd, askR ⟨1, 2, 1⟩ 4 8 ⟨true, 0, 1, 2, 0, true, [97]⟩ [98] true = (P, 10, ⟨true, 0, 1, 2, 0, true, [97]⟩) := ⟨_, rfl⟩
  have al := ((Below.refl w4.heap.size w4).alloc (by simp <;> omega) (.cells #[.int .u8 98] 5 (1, 2)))
  have how := H4.out.lt o H4.out.mem
  refine (oask (H4.out.below al) (.slice (some ⟨w4.heap.size, 0, none⟩) 1 1) [98] (rdB_thru (rdB_newF (by simp) rfl rfl) (fun g hg => by simp [Value.ownBlock] at hg; omega)) true hP5).mono ?_
  rintro x w5 ⟨a5, k5, F5, rfl, o5, h5, s5, n5⟩
  have B5 : Hid (Below w.heap.size w w5) := B4.out.trans ((al.mono B4.out.size).trans (s5.below (by have := B4.out.size; simp; omega) (fun b e => G4.out b e)))
  have G5 : Hid (∀ b, F5 b → w.heap.size ≤ b) := s5.ge (by have := B4.out.size; simp; omega) (fun b e => G4.out b e)
  have H5 := Lib.hid h5
  clear al how o5 h5 s5 n5 hP5
  go_wp2_with fail
  obtain ⟨P6, hP6⟩ : ∃ P : Pd, tickR ⟨1, 2, 1⟩ 4 8 ⟨true, 0, 1, 2, 0, true, [97]⟩ = (P, false, (false, 0), ⟨true, 0, 1, 1, 0, true, [97]⟩) := ⟨_, rfl⟩
  have al := ((Below.refl w5.heap.size w5).alloc (by simp <;> omega) (.cells (pdCs P5 (.slice a5 P5.info.length k5)) 33))
  refine (otick (H5.out.below al) (by intro _; show (1 : Int) ≤ 2; decide) hP6).mono ?_
  rintro x w6 ⟨a6, k6, rfl, o6, h6, f6⟩
  have B6 : Hid (Below w.heap.size w w6) := B5.out.trans ((al.mono B5.out.size).trans (f6.below' (by have := B5.out.size; simp; omega) (fun b (e : b = o) => by rw [e]; exact Ho.out)))
  have G6 := G5
  have H6 := Lib.hid h6
  clear al o6 h6 f6 hP6
  go_wp2_with fail
  obtain ⟨P7, hP7⟩ : ∃ P : Pd, tickR ⟨1, 2, 1⟩ 4 8 ⟨true, 0, 1, 1, 0, true, [97]⟩ = (P, false, (true, 1), ⟨false, 0, 1, 0, 1, true, [97]⟩) := ⟨_, rfl⟩
  have al := (Below.refl w6.heap.size w6)
  refine (otick (H6.out.below al) (by intro _; show (1 : Int) ≤ 1; decide) hP7).mono ?_
  rintro x w7 ⟨a7, k7, rfl, o7, h7, f7⟩
  have B7 : Hid (Below w.heap.size w w7) := B6.out.trans ((al.mono B6.out.size).trans (f7.below' (by have := B6.out.size; simp; omega) (fun b (e : b = o) => by rw [e]; exact Ho.out)))
  have G7 := G6
  have H7 := Lib.hid h7
  clear al o7 h7 f7 hP7
  go_wp2_with fail
  obtain ⟨P8, hP8⟩ : ∃ P : Pd, askR ⟨1, 2, 1⟩ 4 8 ⟨false, 0, 1, 0, 1, true, [97]⟩ [98] true = (P, 11, ⟨false, 0, 1, 0, 1, true, [97]⟩) := ⟨_, rfl⟩
  have al := ((((Below.refl w7.heap.size w7).alloc (by simp <;> omega) (.cells (pdCs P7 (.slice a7 P7.info.length k7)) 33)).alloc (by simp <;> omega) (.cells #[.bool true, .int .i64 1, .slice none 0 0] 37)).alloc (by simp <;> omega) (.cells #[.int .u8 98] 5 (1, 2)))
  have how := H7.out.lt o H7.out.mem
  refine (oask (H7.out.below al) (.slice (some ⟨w7.heap.size + 2, 0, none⟩) 1 1) [98] (rdB_thru (rdB_newF (by simp) rfl rfl) (fun g hg => by simp [Value.ownBlock] at hg; omega)) true hP8).mono ?_
  rintro x w8 ⟨a8, k8, F8, rfl, o8, h8, s8, n8⟩
  have B8 : Hid (Below w.heap.size w w8) := B7.out.trans ((al.mono B7.out.size).trans (s8.below (by have := B7.out.size; simp; omega) (fun b e => G7.out b e)))
  have G8 : Hid (∀ b, F8 b → w.heap.size ≤ b) := s8.ge (by have := B7.out.size; simp; omega) (fun b e => G7.out b e)
  have H8 := Lib.hid h8
  have nf : ¬ F5 (w7.heap.size + 1) := fun e => by have := H7.out.lt _ e; omega
  have c0 := cell_thru s8.fr (b := w7.heap.size + 1) (i := 0) (v := .bool true) (cell_mid ..) nf
  have c1 := cell_thru s8.fr (b := w7.heap.size + 1) (i := 1) (v := .int .i64 1) (cell_mid ..) nf
  have L8 : Hid (w7.heap.size + 1 < w8.heap.size) := by unfold Hid; have := s8.size; simp at this; omega
  have C8 := Lib.hid (And.intro c0 c1)
  have N8 : Hid (¬ F8 (w7.heap.size + 1)) := fun e => (s8.new _ e).elim nf (fun q => by simp at q <;> omega)
  clear nf c0 c1
  clear al how o8 h8 s8 n8 hP8
  go_wp2_with fail
  obtain ⟨P9, hP9⟩ : ∃ P : Pd, tickR ⟨1, 2, 1⟩ 4 8 ⟨false, 0, 1, 0, 1, true, [97]⟩ = (P, false, (false, 0), ⟨false, 0, 1, 0, 0, true, [97]⟩) := ⟨_, rfl⟩
  have al := ((Below.refl w8.heap.size w8).alloc (by simp <;> omega) (.cells (pdCs P8 (.slice a8 P8.info.length k8)) 33))
  refine (otick (H8.out.below al) (by intro e; cases e) hP9).mono ?_
  rintro x w9 ⟨a9, k9, rfl, o9, h9, f9⟩
  have B9 : Hid (Below w.heap.size w w9) := B8.out.trans ((al.mono B8.out.size).trans (f9.below' (by have := B8.out.size; simp; omega) (fun b (e : b = o) => by rw [e]; exact Ho.out)))
  have G9 := G8
  have H9 := Lib.hid h9
  have c0 := cell_thru f9 ((al.cell (p := ⟨w7.heap.size + 1, 0, none⟩) L8.out).trans C8.out.1) (by show ¬ w7.heap.size + 1 = o; have := H7.out.lt o H7.out.mem; omega)
  have c1 := cell_thru f9 ((al.cell (p := ⟨w7.heap.size + 1, 1, none⟩) L8.out).trans C8.out.2) (by show ¬ w7.heap.size + 1 = o; have := H7.out.lt o H7.out.mem; omega)
  have C9 := Lib.hid (And.intro c0 c1)
  have L9 : Hid (w7.heap.size + 1 < w9.heap.size) := by unfold Hid; have := f9.size; have := L8.out; simp at *; omega
  clear c0 c1
  clear al o9 h9 f9 hP9
  go_wp2_with fail
  obtain ⟨P10, hP10⟩ : ∃ P : Pd, askR ⟨1, 2, 1⟩ 4 8 ⟨false, 0, 1, 0, 0, true, [97]⟩ [98] true = (P, 0, ⟨true, 0, 1, 2, 0, true, [98]⟩) := ⟨_, rfl⟩
  have al := ((Below.refl w9.heap.size w9).alloc (by simp <;> omega) (.cells #[.int .u8 98] 5 (1, 2)))
  have how := H9.out.lt o H9.out.mem
  refine (oask (H9.out.below al) (.slice (some ⟨w9.heap.size, 0, none⟩) 1 1) [98] (rdB_thru (rdB_newF (by simp) rfl rfl) (fun g hg => by simp [Value.ownBlock] at hg; omega)) true hP10).mono ?_
  rintro x w10 ⟨a10, k10, F10, rfl, o10, h10, s10, n10⟩
  have B10 : Hid (Below w.heap.size w w10) := B9.out.trans ((al.mono B9.out.size).trans (s10.below (by have := B9.out.size; simp; omega) (fun b e => G9.out b e)))
  have G10 : Hid (∀ b, F10 b → w.heap.size ≤ b) := s10.ge (by have := B9.out.size; simp; omega) (fun b e => G9.out b e)
  have H10 := Lib.hid h10
  have c0 := cell_thru s10.fr ((al.cell (p := ⟨w7.heap.size + 1, 0, none⟩) L9.out).trans C9.out.1) N8.out
  have c1 := cell_thru s10.fr ((al.cell (p := ⟨w7.heap.size + 1, 1, none⟩) L9.out).trans C9.out.2) N8.out
  have L10 : w7.heap.size + 1 < w10.heap.size := by have := s10.size; have := L9.out; simp at *; omega
  clear al how o10 h10 s10 n10 hP10
  go_wp2_with fail
  go_ret
  exact ⟨rfl, B10.out.alloc B10.out.size _⟩
end Go.Proofs.Ytkmeklbmjdbifaa
