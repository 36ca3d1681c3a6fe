/-
  Layer 21: awake.
-/
import Derived.Test.YtkmeklbmjdbifaaOnc7
import Derived.Test.YtkmeklbmjdbifaaOnr8
import Derived.Laws.BytesString
import Derived.Lib.SlBytesConst
namespace Go.Proofs.Ytkmeklbmjdbifaa
open Go.RowKit
set_option linter.unusedVariables false


theorem rdB_newF {w : World} {cs : Array Value} {l : List Int} {c n b t : Nat} {fr : Nat × Nat} (hb : b = w.heap.size) (hl : n = l.length) (hc : cs.toList = l.flatMap encB) : RdB (w.alloc (.cells cs t fr)) (.slice (some ⟨b, 0, none⟩) n c) l := by
  subst hb hl
  refine ⟨by rw [flat_len encB 1 encB_len], _, _, rfl, fun e => (by cases e), fun ad e j u hu => ?_⟩
  cases e
  rw [Addr.add_lit, Nat.zero_add]
  have h := heap_alloc_new' w (.cells cs t fr)
  rw [← hc] at hu
  simp only [World.cell?, h]
  simpa using hu
theorem convB1 (w : World) (o : Obj) (C : Array Value) (n c : Nat) : (convert 31 31 (.slice (some ⟨w.heap.size + 1, 0, none⟩) n c)).run Try.prog ((w.alloc o).alloc (.cells C 5)) = .ok (.slice (some ⟨w.heap.size + 1, 0, none⟩) n c) ((w.alloc o).alloc (.cells C 5 (C.size, C.size + 1))) := by
  have := Lib.run_convert_bytes_const (P := Try.prog) (w.alloc o) 31 5 C n c Try.underlying31 Try.underlying5
  simpa using this
theorem convB2 (w : World) (o o' : Obj) (C : Array Value) (n c : Nat) : (convert 31 31 (.slice (some ⟨w.heap.size + 2, 0, none⟩) n c)).run Try.prog (((w.alloc o).alloc o').alloc (.cells C 5)) = .ok (.slice (some ⟨w.heap.size + 2, 0, none⟩) n c) (((w.alloc o).alloc o').alloc (.cells C 5 (C.size, C.size + 1))) := by
  have := convB1 (w.alloc o) o' C n c
  simpa using this
/-- What lies in memory that was laid just now reads through a step that turns o alone. -/
theorem rdB_thru {w : World} {o : Nat} {v : Value} {l : List Int} (h : RdB w v l) (hv : ∀ g, v.ownBlock = some g → g ≠ o) : ∀ W', Fr (fun x => x = o) w W' → RdB W' v l := fun W' hf => Rd.fr h hf (fun g hg e => hv g hg e)
theorem cell_thru {F : Nat → Prop} {w w' : World} (h : Fr F w w') {b i : Nat} {v : Value} (hc : w.cell? ⟨b, i, none⟩ = some v) (hn : ¬ F b) : w'.cell? ⟨b, i, none⟩ = some v := (h.cell (World.block_lt_of_cell? w _ hc) hn).trans hc
theorem below_box9 (w : World) (o : Obj) (v0 v1 v2 v3 v4 v5 v6 v7 v8 : Value) :
    Below w.heap.size w ((((((((((w.alloc o).setCell ⟨w.heap.size, 0, none⟩ v0).setCell ⟨w.heap.size, 1, none⟩ v1).setCell ⟨w.heap.size, 2, none⟩ v2).setCell ⟨w.heap.size, 3, none⟩ v3).setCell ⟨w.heap.size, 4, none⟩ v4).setCell ⟨w.heap.size, 5, none⟩ v5).setCell ⟨w.heap.size, 6, none⟩ v6).setCell ⟨w.heap.size, 7, none⟩ v7).setCell ⟨w.heap.size, 8, none⟩ v8) :=
  below_sets9 ((Below.refl _ w).alloc (Nat.le_refl _) o) (Nat.le_refl _) _ _ _ _ _ _ _ _ _
theorem below_box3 (w : World) (o : Obj) (v0 v1 v2 : Value) :
    Below w.heap.size w ((((w.alloc o).setCell ⟨w.heap.size, 0, none⟩ v0).setCell ⟨w.heap.size, 1, none⟩ v1).setCell ⟨w.heap.size, 2, none⟩ v2) :=
  below_set (below_set (below_set ((Below.refl _ w).alloc (Nat.le_refl _) o) (Nat.le_refl _) _) (Nat.le_refl _) _) (Nat.le_refl _) _

set_option maxHeartbeats 8000000 in
set_option maxRecDepth 100000 in
theorem awake (w : World) : Calls Try.prog 8 #[] w fun x w' => x = .returned (.bool true) ∧ Below w.heap.size w w' := by
  have kc := fun (w : World) (C : Array Value) (n c : Nat) => Lib.run_convert_bytes_const (P := Try.prog) w 31 5 C n c Try.underlying31 Try.underlying5
  have kc1 := fun (w : World) (o : Obj) (C : Array Value) (n c : Nat) => convB1 w o C n c
  have kc2 := fun (w : World) (o o' : Obj) (C : Array Value) (n c : Nat) => convB2 w o o' C n c
  go_enter Try.func8, Try.ntmps8
  go_wp2_with fail
  refine (lcfg ⟨2, 3, 1⟩ _).mono ?_
  rintro x w1 ⟨rfl, b1⟩
  have B1 := Lib.hid b1
  clear b1
  go_wp2_with fail
  refine (onewYes ⟨2, 3, 1⟩ 4 8 (by unfold Cf.ok; decide) (by unfold SapI; decide) (by unfold SapI; decide) _).mono ?_
  rintro x w2 ⟨o, rfl, h2, ho, b2⟩
  have B2 : Hid (Below w.heap.size w w2) := B1.out.trans (b2.mono B1.out.size)
  have Ho : Hid (w.heap.size ≤ o) := Nat.le_trans B1.out.size ho
  have H2 := Lib.hid h2
  clear h2 ho b2
  go_wp2_with fail
  obtain ⟨P, hP, hk⟩ : ∃ P : Pd, askR ⟨2, 3, 1⟩ 4 8 sk0 [97] false = (P, 0, ⟨true, 0, 1, 3, 0, false, [97]⟩) ∧ P.kind = 8 := ⟨_, rfl, rfl⟩
  have Hk := Lib.hid hk
  clear hk
  have al := (Below.refl w2.heap.size w2).alloc (Nat.le_refl _) (.cells #[.int .u8 97] 5 (1, 2))
  have how := H2.out.lt o rfl
  refine (oask (H2.out.below al) _ [97] (rdB_thru (rdB_newF rfl rfl rfl) (fun g hg => by simp [Value.ownBlock] at hg; omega)) false hP).mono ?_
  rintro x w3 ⟨a3, k3, F3, rfl, o3, h3, s3, n3⟩
  have B3 : Hid (Below w.heap.size w w3) := B2.out.trans ((al.mono B2.out.size).trans (s3.below (by have := B2.out.size; simp; omega) (fun b (e : b = o) => by have := Ho.out; omega)))
  have G3 : Hid (∀ b, F3 b → w.heap.size ≤ b) := s3.ge (by have := B2.out.size; simp; omega) (fun b (e : b = o) => by have := Ho.out; omega)
  have H3 := Lib.hid h3
  clear al how o3 h3 s3 n3
  go_wp2_with fail
  obtain ⟨B, hH⟩ : ∃ B, hearR 4 8 ⟨true, 0, 1, 3, 0, false, [97]⟩ ⟨4, 8, true, 2, 8, 0, 0, false, [0]⟩ = ((true, 0, B), ⟨false, 1, 1, 3, 0, false, [97]⟩) := ⟨[], by simp [hearR, hearOk, mayP, headOk, formOk, kindOk, inR_def']⟩
  have al3 := ((Below.refl w3.heap.size w3).alloc (Nat.le_refl _) (.cells (pdCs P (.slice a3 P.info.length k3)) 33)).alloc (by simp) (.cells #[.int .u8 0] 5)
  have c4 : ((w3.alloc (.cells (pdCs P (.slice a3 P.info.length k3)) 33)).alloc (.cells #[.int .u8 0] 5)).cell? ⟨w3.heap.size, 4, none⟩ = some (.int .i64 8) := by rw [← Hk.out]; simp
  refine (ohear (H3.out.below al3) ⟨4, 8, true, 2, 8, 0, 0, false, [0]⟩ _ 1 (rdB_newF (by simp) rfl rfl) (by simp) (by simp) (by simp) hH).mono ?_
  rintro x w4 ⟨a4, k4, rfl, o4, h4, f4⟩
  have B4 : Hid (Below w.heap.size w w4) := B3.out.trans ((al3.mono B3.out.size).trans (f4.below' (by have := B3.out.size; simp; omega) (fun b (e : b = o) => by have := Ho.out; omega)))
  have how := H3.out.lt o H3.out.mem
  have c4' := cell_thru f4 c4 (by show ¬ w3.heap.size = o; omega)
  have C4 := Lib.hid c4'
  have H4 := Lib.hid h4
  have L4 : Hid (w3.heap.size < w4.heap.size) := by unfold Hid; have := f4.size; simp at this; omega
  clear al3 c4 c4' o4 h4 f4 how hH
  go_wp2_with fail
  obtain ⟨Q, hQ, hk⟩ : ∃ P : Pd, askR ⟨2, 3, 1⟩ 4 8 ⟨false, 1, 1, 3, 0, false, [97]⟩ [98] false = (P, 0, ⟨true, 1, 1, 3, 0, false, [98]⟩) ∧ P.kind = 9 := ⟨_, rfl, rfl⟩
  have Hk2 := Lib.hid hk
  clear hk
  have al4 := ((Below.refl w4.heap.size w4).alloc (Nat.le_refl _) (.cells #[.bool true, .int .i64 0, .slice a4 B.length k4] 37)).alloc (by simp) (.cells #[.int .u8 98] 5 (1, 2))
  have how := H4.out.lt o H4.out.mem
  have c0 : ((w4.alloc (.cells #[.bool true, .int .i64 0, .slice a4 B.length k4] 37)).alloc (.cells #[.int .u8 98] 5 (1, 2))).cell? ⟨w4.heap.size, 0, none⟩ = some (.bool true) := by simp
  have c1 : ((w4.alloc (.cells #[.bool true, .int .i64 0, .slice a4 B.length k4] 37)).alloc (.cells #[.int .u8 98] 5 (1, 2))).cell? ⟨w4.heap.size, 1, none⟩ = some (.int .i64 0) := by simp
  have c4 := (al4.cell (p := ⟨w3.heap.size, 4, none⟩) L4.out).trans C4.out
  have nf4 : ¬ F3 w4.heap.size := fun e => by have := H4.out.lt _ e; omega
  have nf3 : ¬ F3 w3.heap.size := fun e => by have := H3.out.lt _ e; omega
  refine (oask (H4.out.below al4) (.slice (some ⟨w4.heap.size + 1, 0, none⟩) 1 1) [98] (rdB_thru (rdB_newF (by simp) rfl rfl) (fun g hg => by simp [Value.ownBlock] at hg; omega)) false hQ).mono ?_
  rintro x w5 ⟨a5, k5, F5, rfl, o5, h5, s5, n5⟩
  have B5 : Hid (Below w.heap.size w w5) := B4.out.trans ((al4.mono B4.out.size).trans (s5.below (by have := B4.out.size; simp; omega) (fun b e => G3.out b e)))
  have d0 := cell_thru s5.fr c0 nf4
  have d1 := cell_thru s5.fr c1 nf4
  have d4 := cell_thru s5.fr c4 nf3
  have hk := Hk2.out
  have L5 : w4.heap.size < w5.heap.size := by have := s5.size; simp at this; omega
  have L3 : w3.heap.size < w5.heap.size := by have := L4.out; omega
  clear al4 c0 c1 c4 nf4 nf3 o5 h5 s5 n5 how hQ hP
  go_wp2_with fail
  go_ret
  exact ⟨rfl, B5.out.alloc B5.out.size _⟩
end Go.Proofs.Ytkmeklbmjdbifaa
