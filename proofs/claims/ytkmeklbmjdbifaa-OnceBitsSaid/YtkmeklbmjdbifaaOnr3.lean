/-
  The reference's once: Ask.
-/
import Derived.Test.YtkmeklbmjdbifaaOnr2
namespace Go.Proofs.Ytkmeklbmjdbifaa
open Go.RowKit
set_option linter.unusedVariables false


set_option maxHeartbeats 2000000 in
theorem raskNo {w : World} {F : Nat → Prop} {m : Nat} {c : Cf} {near there : Int} {s : Sk} (h : RnA w F m c near there s) (ba : Option Addr) (n bc : Nat) (poll : Bool) (he : askE s n ≠ 0) :
    Calls Try.prog 17 #[.pointer (some ⟨m, 0, none⟩), .slice ba n bc, .bool poll] w fun e w' => e = .returned (.tuple #[pdV zeroPd (.slice none 0 0), .int .i64 (askE s n)]) ∧ Below w.heap.size w w' := by
  obtain ⟨v, h, hF⟩ := h
  have c9 : w.cell? ⟨m, 9, none⟩ = some (.bool s.asks) := blk_cell h.blk 9
  have c8 : w.cell? ⟨m, 8, none⟩ = some (.int .i64 s.wait) := blk_cell h.blk 8
  have ho := lt_of_block h.blk
  have hres : Try.f17.results = #[.cell 6 33, .tmp 7] := by kernel_rfl
  have Hres := Lib.hid hres
  clear h hF hres
  cases ha : s.asks with
  | true =>
    have e1 : askE s n = 10 := by unfold askE; rw [if_pos ha]
    rw [ha] at c9
    rw [e1]
    clear he e1 ha
    go_enter Try.func17, Try.ntmps17
    go_wp2_with fail
    refine bodyPost_ret (v := .tuple #[pdV zeroPd (.slice none 0 0), .int .i64 10]) ?_ rfl ?_
    · simp only [results, Hres.out]
      go_simp
    · exact ⟨rfl, (Below.refl _ w).alloc (Nat.le_refl _) _⟩
  | false =>
    rw [ha] at c9
    by_cases hw : 0 < s.wait
    · have e1 : askE s n = 11 := by unfold askE; rw [if_neg (by simp [ha]), if_pos hw]
      have hd : decide (0 < s.wait) = true := by simpa using hw
      rw [e1]
      clear he e1 ha hw
      go_enter Try.func17, Try.ntmps17
      go_wp2_with fail
      refine bodyPost_ret (v := .tuple #[pdV zeroPd (.slice none 0 0), .int .i64 11]) ?_ rfl ?_
      · simp only [results, Hres.out]
        go_simp
      · exact ⟨rfl, (Below.refl _ w).alloc (Nat.le_refl _) _⟩
    · have hd : decide (0 < s.wait) = false := by simpa using hw
      by_cases hn : 1024 < n
      · have e1 : askE s n = 3 := by unfold askE; rw [if_neg (by simp [ha]), if_neg hw, if_pos hn]
        have hd2 : decide ((1024 : Int) < (n : Int)) = true := by simp; omega
        rw [e1]
        clear he e1 ha hw
        go_enter Try.func17, Try.ntmps17
        go_wp2_with fail
        refine bodyPost_ret (v := .tuple #[pdV zeroPd (.slice none 0 0), .int .i64 3]) ?_ rfl ?_
        · simp only [results, Hres.out]
          go_simp
        · exact ⟨rfl, (Below.refl _ w).alloc (Nat.le_refl _) _⟩
      · exact absurd (by unfold askE; rw [if_neg (by simp [ha]), if_neg hw, if_neg hn]) he

set_option maxHeartbeats 4000000 in
theorem raskYes {w : World} {F : Nat → Prop} {m : Nat} {c : Cf} {near there : Int} {s : Sk} (h : RnA w F m c near there s) (bv : Value) (b : List Int) (hs : ∀ W', Fr (fun x => x = m) w W' → RdB W' bv b) (poll : Bool) (he : askE s b.length = 0) :
    Calls Try.prog 17 #[.pointer (some ⟨m, 0, none⟩), bv, .bool poll] w fun e w' => ∃ v F', e = .returned (.tuple #[pdV (onP near there (askS c s b poll)) v, .int .i64 0]) ∧ RnA w' F' m c near there (askS c s b poll) ∧ Stp F F' w w' ∧ OwnB w.heap.size w' v b ∧ ∀ g, v.ownBlock = some g → ¬ F' g := by
  have hb := hs w (Fr.refl _ _)
  obtain ⟨v, h, hF⟩ := h
  have ha : s.asks = false := by
    cases hx : s.asks with
    | false => rfl
    | true => unfold askE at he; rw [if_pos hx] at he; omega
  have hw : ¬ 0 < s.wait := fun hx => by unfold askE at he; rw [if_neg (by simp [ha]), if_pos hx] at he; omega
  have hn : ¬ 1024 < b.length := fun hx => by unfold askE at he; rw [if_neg (by simp [ha]), if_neg hw, if_pos hx] at he; omega
  obtain ⟨ba, bc, rfl⟩ := hb.len
  have hd1 : decide (0 < s.wait) = false := by simpa using hw
  have hd2 : decide ((1024 : Int) < (b.length : Int)) = false := by simp; omega
  have c6 : w.cell? ⟨m, 6, none⟩ = some (.int .i64 s.sent) := blk_cell h.blk 6
  have c8 : w.cell? ⟨m, 8, none⟩ = some (.int .i64 s.wait) := blk_cell h.blk 8
  have c9 : w.cell? ⟨m, 9, none⟩ = some (.bool false) := by rw [← ha]; exact blk_cell h.blk 9
  have c10 : w.cell? ⟨m, 10, none⟩ = some (.bool s.poll) := blk_cell h.blk 10
  have z : ∀ i, w.frozen? ⟨m, i, none⟩ = false := fun i => blk_free h.blk i
  have ho := lt_of_block h.blk
  have hres : Try.f17.results = #[.cell 6 33, .tmp 7] := by kernel_rfl
  have Hres := Lib.hid hres
  have H := Lib.hid h
  have HF := Lib.hid hF
  have HB := Lib.hid hb
  have HD := Lib.hid hs
  have Hn := Lib.hid hn
  clear h hF hres hb he hw hn ha hs
  go_enter Try.func17, Try.ntmps17
  go_wp2_with fail
  obtain ⟨S1, hS1⟩ : ∃ S1, S1 = ((w.setCell ⟨m, 9, none⟩ (.bool true)).setCell ⟨m, 10, none⟩ (.bool poll)).setCell ⟨m, 6, none⟩ (.int .i64 0) := ⟨_, rfl⟩
  rw [← hS1]
  have hsz : w.heap.size = S1.heap.size := by rw [hS1]; simp
  have hf1 : Fr (fun b => b = m) w S1 := by rw [hS1]; exact (((Fr.refl (fun b => b = m) w).setCell (p := ⟨m, 9, none⟩) (fun _ => rfl) _).setCell (p := ⟨m, 10, none⟩) (fun _ => rfl) _).setCell (p := ⟨m, 6, none⟩) (fun _ => rfl) _
  have p1 : S1.heap[m]? = some (.cells #[.int .i64 c.tries, .int .i64 c.ack, .int .i64 c.quiet, .int .i64 near, .int .i64 there, .int .i64 s.bit, .int .i64 0, .int .i64 s.left, .int .i64 s.wait, .bool true, .bool poll, v] 55 (0, 0)) := by
    rw [hS1]
    have e1 := heap_setCell_same H.out.blk (i := 9) (.bool true)
    have e2 := heap_setCell_same e1 (i := 10) (.bool poll)
    have e3 := heap_setCell_same e2 (i := 6) (.int .i64 0)
    simpa using e3
  obtain ⟨b0, hb0⟩ : ∃ b, b = w.heap.size := ⟨_, rfl⟩
  obtain ⟨W2, hW2⟩ : ∃ W2, W2 = S1.alloc (.cells pd0 33) := ⟨_, rfl⟩
  rw [← hW2, ← hb0]
  have hal : Below S1.heap.size S1 W2 := by rw [hW2]; exact (Below.refl _ S1).alloc (Nat.le_refl _) _
  have P2 := Lib.hid ((hal.block m (lt_of_block p1)).trans p1)
  have p0 : W2.heap[b0]? = some (.cells pd0 33 (0, 0)) := by rw [hW2, hb0, hsz]; exact heap_alloc_new' S1 _
  have HF2 : Hid (Fr (fun b => b = m) w W2) := hf1.trans' (Fr.of_below hal no) (fun _ _ e => e) (fun _ _ e => e.elim)
  have P0 := Lib.hid p0
  have Hb0 := Lib.hid hb0
  clear hS1 hsz hf1 p1 hb0 hW2 hal p0 c6 c8 c9 c10 z hd1 hd2
  refine (copyB _ b W2 (HD.out _ HF2.out) (by have := Hn.out; omega)).mono ?_
  rintro e w3 ⟨v', rfl, o3, b3⟩
  obtain ⟨ua, uc, hu, _⟩ := own_shape o3
  subst hu
  have p3 := (b3.block m (lt_of_block P2.out)).trans P2.out
  have m11 : w3.cell? ⟨m, 11, none⟩ = some v := blk_cell p3 11
  have z11 : w3.frozen? ⟨m, 11, none⟩ = false := blk_free p3 11
  have P3 := Lib.hid p3
  have O3 := Lib.hid o3
  have B3 := Lib.hid b3
  clear p3 o3 b3
  go_wp2_with fail
  obtain ⟨W4, hW4⟩ : ∃ W4, W4 = w3.setCell ⟨m, 11, none⟩ (.slice ua b.length uc) := ⟨_, rfl⟩
  rw [← hW4]
  have hf4 : Fr (fun b => b = m) w3 W4 := by rw [hW4]; exact (Fr.refl (fun b => b = m) w3).setCell (p := ⟨m, 11, none⟩) (fun _ => rfl) _
  have hnu : ¬ (Value.slice ua b.length uc).ownBlock = some m := fun e => by have := (O3.out.lt m e).1; have := lt_of_block P2.out; omega
  have ha4 : RnI W4 m c near there { s with asks := true, sent := 0, poll := poll, b := b } (.slice ua b.length uc) := by
    refine ⟨?_, own_zero (Own.fr O3.out hf4 (fun g hg (e : g = m) => hnu (by rw [← e]; exact hg))), H.out.c, ?_⟩
    · rw [hW4]
      have e1 := heap_setCell_same P3.out (i := 11) (.slice ua b.length uc)
      simpa using e1
    · obtain ⟨h1, h2, h3, h4, h5⟩ := H.out.s
      exact ⟨h1, ⟨by show (0 : Int) ≤ 0; decide, by show (0 : Int) ≤ 1000; decide⟩, h3, h4, by have := Hn.out; show b.length ≤ 1024; omega⟩
  have HA4 : Hid (RnA W4 (fun x => x = m ∨ (Value.slice ua b.length uc).ownBlock = some x) m c near there { s with asks := true, sent := 0, poll := poll, b := b }) := ⟨_, ha4, fun x => Iff.rfl⟩
  have hbm : b0 ≠ m := fun e => by have := Hb0.out; omega
  have P4 := Lib.hid (hf4.heap ((B3.out.block b0 (lt_of_block P0.out)).trans P0.out) hbm)
  have H34 : Hid (w3.heap.size ≤ W4.heap.size) := hf4.size
  have H23 : Hid (W2.heap.size ≤ w3.heap.size) := B3.out.size
  have F4 : Hid (Fr (fun b => b = m) w W4) := (HF2.out.trans' (Fr.of_below B3.out no) (fun _ _ e => e) (fun _ _ e => False.elim e)).trans hf4
  clear ha4 hf4 hW4 hnu m11 z11
  refine (rpdu HA4.out (by show (0 : Int) ≤ 999; decide)).mono ?_
  rintro e w5 ⟨v5, rfl, o5, a5, f5⟩
  have p5 := f5.heap P4.out hbm
  obtain ⟨xa, xc, hx, _⟩ := own_shape o5
  have A5 : Hid (RnA w5 (fun x => x = m ∨ (Value.slice ua b.length uc).ownBlock = some x) m c near there (askS c s b poll)) := a5
  have q0 : ∀ i, w5.frozen? ⟨b0, i, none⟩ = false := fun i => blk_free p5 i
  have r0 : w5.cell? ⟨b0, 0, none⟩ = some (.int .i64 0) := blk_cell p5 0
  have r1 : w5.cell? ⟨b0, 1, none⟩ = some (.int .i64 0) := blk_cell p5 1
  have r2 : w5.cell? ⟨b0, 2, none⟩ = some (.bool false) := blk_cell p5 2
  have r3 : w5.cell? ⟨b0, 3, none⟩ = some (.int .i64 0) := blk_cell p5 3
  have r4 : w5.cell? ⟨b0, 4, none⟩ = some (.int .i64 0) := blk_cell p5 4
  have r5 : w5.cell? ⟨b0, 5, none⟩ = some (.int .i64 0) := blk_cell p5 5
  have r6 : w5.cell? ⟨b0, 6, none⟩ = some (.int .i64 0) := blk_cell p5 6
  have r7 : w5.cell? ⟨b0, 7, none⟩ = some (.bool false) := blk_cell p5 7
  have r8 : w5.cell? ⟨b0, 8, none⟩ = some (.slice none 0 0) := blk_cell p5 8
  have hlt5 : b0 < w5.heap.size := lt_of_block p5
  have O5 := Lib.hid o5
  have F5 := Lib.hid f5
  change v5 = .slice xa b.length xc at hx
  subst hx
  clear p5 o5 a5 f5
  go_wp2_with fail
  refine bodyPost_ret (v := .tuple #[pdV (onP near there (askS c s b poll)) (.slice xa b.length xc), .int .i64 0]) ?_ rfl ?_
  · simp only [results, Hres.out]
    go_simp
    exact ⟨rfl, rfl, rfl, rfl, rfl, rfl, rfl, rfl⟩
  · clear r0 r1 r2 r3 r4 r5 r6 r7 r8 q0
    have fin : ∀ W, Fr (fun b => b = b0) w5 W → Hid (∃ F', RnA W F' m c near there (askS c s b poll) ∧ Stp F F' w W ∧ OwnB w.heap.size W (.slice xa b.length xc) b ∧ ∀ g, (Value.slice xa b.length xc).ownBlock = some g → ¬ F' g) := fun W hW => by
      have hb0 := Hb0.out
      have h34 := H34.out
      have h23 := H23.out
      have hw2 := HF2.out.size
      have hl0 := lt_of_block P0.out
      refine ⟨_, A5.out.keep (fun x hx => ?_), ⟨?_, ?_⟩, own_base (own_zero (Own.fr O5.out hW (fun g hg (e : g = b0) => ?_))) (fun g hg => ?_), fun g hg hx => ?_⟩
      · refine hW.blk x (A5.out.lt x hx) (fun e => ?_)
        rcases hx with hx | hx
        · omega
        · have := (O3.out.lt x hx).1
          omega
      · refine ((F4.out.trans F5.out).trans' hW (T := F) (fun x hx e => ?_) (fun x hx e => ?_))
        · rw [e]; exact (HF.out m).2 (.inl rfl)
        · omega
      · intro x hx
        rcases hx with hx | hx
        · rw [hx]; exact .inl ((HF.out m).2 (.inl rfl))
        · exact .inr (by have := (O3.out.lt x hx).1; omega)
      · have := (O5.out.lt g hg).1
        omega
      · have := (O5.out.lt g hg).1
        omega
      · rcases hx with hx | hx
        · have := (O5.out.lt g hg).1
          omega
        · have := (O5.out.lt g hg).1
          have := own_lt O3.out hx
          omega
    have Fin := Lib.hid fin
    clear fin
    obtain ⟨F', h1⟩ := (Fin.out _ ((((((((((Fr.refl (fun b => b = b0) w5).setCell (p := ⟨b0, 0, none⟩) (fun _ => rfl) _).setCell (p := ⟨b0, 1, none⟩) (fun _ => rfl) _).setCell (p := ⟨b0, 2, none⟩) (fun _ => rfl) _).setCell (p := ⟨b0, 3, none⟩) (fun _ => rfl) _).setCell (p := ⟨b0, 4, none⟩) (fun _ => rfl) _).setCell (p := ⟨b0, 5, none⟩) (fun _ => rfl) _).setCell (p := ⟨b0, 6, none⟩) (fun _ => rfl) _).setCell (p := ⟨b0, 7, none⟩) (fun _ => rfl) _).setCell (p := ⟨b0, 8, none⟩) (fun _ => rfl) _)).out
    exact ⟨_, F', rfl, h1⟩
end Go.Proofs.Ytkmeklbmjdbifaa
