/-
  The reference's once: Tick, where it sends nothing.
-/
import Derived.Test.YtkmeklbmjdbifaaOnr3
namespace Go.Proofs.Ytkmeklbmjdbifaa
open Go.RowKit
set_option linter.unusedVariables false


section
variable {w : World} {F : Nat → Prop} {m : Nat} {c : Cf} {near there : Int} {s : Sk}

set_option maxHeartbeats 2000000 in
theorem rtickIdle (h : RnA w F m c near there s) (ha : s.asks = false) :
    Calls Try.prog 22 #[.pointer (some ⟨m, 0, none⟩)] w fun e w' => e = .returned (.tuple #[pdV zeroPd (.slice none 0 0), .bool false, resV false 0 (.slice none 0 0)]) ∧ RnA w' F m c near there { s with wait := max (s.wait - 1) 0 } ∧ Fr (fun b => b = m) w w' := by
  obtain ⟨v, h, hF⟩ := h
  have c9 : w.cell? ⟨m, 9, none⟩ = some (.bool false) := by rw [← ha]; exact blk_cell h.blk 9
  have c8 : w.cell? ⟨m, 8, none⟩ = some (.int .i64 s.wait) := blk_cell h.blk 8
  have z8 : w.frozen? ⟨m, 8, none⟩ = false := blk_free h.blk 8
  have ho := lt_of_block h.blk
  have hw0 := h.s.2.2.2.1
  have hw : IntKind.i64.wrap (s.wait - 1) = s.wait - 1 := IntWalk.i64_in _ (by omega)
  have hres : Try.f22.results = #[.cell 2 33, .tmp 3, .cell 4 56] := by kernel_rfl
  have Hres := Lib.hid hres
  by_cases hp : 0 < s.wait
  · have hd : decide (0 < s.wait) = true := by simpa using hp
    have fin : ∀ (n : Int) x y, n = max (s.wait - 1) 0 → Hid (RnA (((w.setCell ⟨m, 8, none⟩ (.int .i64 n)).alloc x).alloc y) F m c near there { s with wait := max (s.wait - 1) 0 } ∧ Fr (fun b => b = m) w (((w.setCell ⟨m, 8, none⟩ (.int .i64 n)).alloc x).alloc y)) := fun n x y hn => by
      rw [← hn]
      have hf1 : Fr (fun b => b = m) w (w.setCell ⟨m, 8, none⟩ (.int .i64 n)) := (Fr.refl (fun b => b = m) w).setCell (p := ⟨m, 8, none⟩) (fun _ => rfl) _
      have hno : ¬ v.ownBlock = some m := fun e => own_ne h.own h.blk (by decide) e
      refine ⟨RnA.below ⟨v, ⟨?_, h.own.fr hf1 (fun g hg (e : g = m) => hno (by rw [← e]; exact hg)), h.c, ?_⟩, hF⟩ (((Below.refl _ _).alloc (Nat.le_refl _) x).alloc (by simp) y), (hf1.alloc x).alloc y⟩
      · have e1 := heap_setCell_same h.blk (i := 8) (.int .i64 n)
        simpa using e1
      · obtain ⟨h1, h2, h3, h4, h5⟩ := h.s
        exact ⟨h1, h2, h3, ⟨by show 0 ≤ n; omega, by show n ≤ 10000; omega⟩, h5⟩
    have Fin := Lib.hid fin
    have Hp := Lib.hid hp
    clear h hF fin hres ha hp hw0
    go_enter Try.func22, Try.ntmps22
    go_wp2_with fail
    refine bodyPost_ret (v := .tuple #[pdV zeroPd (.slice none 0 0), .bool false, resV false 0 (.slice none 0 0)]) ?_ rfl ?_
    · simp only [results, Hres.out]
      go_simp
    · exact ⟨rfl, (Fin.out _ _ _ (by have := Hp.out; omega)).out⟩
  · have hd : decide (0 < s.wait) = false := by simpa using hp
    have fin : ∀ x y, Hid (RnA ((w.alloc x).alloc y) F m c near there { s with wait := max (s.wait - 1) 0 } ∧ Fr (fun b => b = m) w ((w.alloc x).alloc y)) := fun x y => by
      have hz : max (s.wait - 1) 0 = s.wait := by omega
      rw [hz]
      exact ⟨RnA.below ⟨v, h, hF⟩ (((Below.refl _ _).alloc (Nat.le_refl _) x).alloc (by simp) y), ((Fr.refl _ w).alloc x).alloc y⟩
    have Fin := Lib.hid fin
    clear h hF fin hres ha hp hw0
    go_enter Try.func22, Try.ntmps22
    go_wp2_with fail
    refine bodyPost_ret (v := .tuple #[pdV zeroPd (.slice none 0 0), .bool false, resV false 0 (.slice none 0 0)]) ?_ rfl ?_
    · simp only [results, Hres.out]
      go_simp
    · exact ⟨rfl, (Fin.out _ _).out⟩

set_option maxHeartbeats 2000000 in
theorem rtickWait (h : RnA w F m c near there s) (ha : s.asks = true) (hl : 2 ≤ s.left) :
    Calls Try.prog 22 #[.pointer (some ⟨m, 0, none⟩)] w fun e w' => e = .returned (.tuple #[pdV zeroPd (.slice none 0 0), .bool false, resV false 0 (.slice none 0 0)]) ∧ RnA w' F m c near there { s with left := s.left - 1 } ∧ Fr (fun b => b = m) w w' := by
  obtain ⟨v, h, hF⟩ := h
  have c9 : w.cell? ⟨m, 9, none⟩ = some (.bool true) := by rw [← ha]; exact blk_cell h.blk 9
  have c7 : w.cell? ⟨m, 7, none⟩ = some (.int .i64 s.left) := blk_cell h.blk 7
  have z7 : w.frozen? ⟨m, 7, none⟩ = false := blk_free h.blk 7
  have ho := lt_of_block h.blk
  have hw : IntKind.i64.wrap (s.left - 1) = s.left - 1 := IntWalk.i64_in _ (by have := h.s.2.2.1; omega)
  have hd : decide (0 < s.left - 1) = true := by simp; omega
  have hd2 : decide (1 < s.left) = true := by simp; omega
  have hres : Try.f22.results = #[.cell 2 33, .tmp 3, .cell 4 56] := by kernel_rfl
  have fin : ∀ x y, Hid (RnA (((w.setCell ⟨m, 7, none⟩ (.int .i64 (s.left - 1))).alloc x).alloc y) F m c near there { s with left := s.left - 1 } ∧ Fr (fun b => b = m) w (((w.setCell ⟨m, 7, none⟩ (.int .i64 (s.left - 1))).alloc x).alloc y)) := fun x y => by
    have hf1 : Fr (fun b => b = m) w (w.setCell ⟨m, 7, none⟩ (.int .i64 (s.left - 1))) := (Fr.refl (fun b => b = m) w).setCell (p := ⟨m, 7, none⟩) (fun _ => rfl) _
    have hno : ¬ v.ownBlock = some m := fun e => own_ne h.own h.blk (by decide) e
    refine ⟨RnA.below ⟨v, ⟨?_, h.own.fr hf1 (fun g hg (e : g = m) => hno (by rw [← e]; exact hg)), h.c, ?_⟩, hF⟩ (((Below.refl _ _).alloc (Nat.le_refl _) x).alloc (by simp) y), (hf1.alloc x).alloc y⟩
    · have e1 := heap_setCell_same h.blk (i := 7) (.int .i64 (s.left - 1))
      simpa using e1
    · obtain ⟨h1, h2, h3, h4, h5⟩ := h.s
      exact ⟨h1, h2, ⟨by show 0 ≤ s.left - 1; omega, by show s.left - 1 ≤ 10000; omega⟩, h4, h5⟩
  have Fin := Lib.hid fin
  have Hres := Lib.hid hres
  clear h hF fin hres ha hl
  go_enter Try.func22, Try.ntmps22
  go_wp2_with fail
  refine bodyPost_ret (v := .tuple #[pdV zeroPd (.slice none 0 0), .bool false, resV false 0 (.slice none 0 0)]) ?_ rfl ?_
  · simp only [results, Hres.out]
    go_simp
  · exact ⟨rfl, (Fin.out _ _).out⟩
end
end Go.Proofs.Ytkmeklbmjdbifaa
