/-
  The reference's once: pdu (the command, sent once more).
-/
import Derived.Test.YtkmeklbmjdbifaaOnr
import Derived.Deep.RegionHeld3
namespace Go.Proofs.Ytkmeklbmjdbifaa
open Go.RowKit
set_option linter.unusedVariables false


theorem far1 {W : World} {b m i j : Nat} {v : Value} (hb : b ≠ m) (h : W.cell? ⟨m, i, none⟩ = some v) (u : Value) : (W.setCell ⟨b, j, none⟩ u).cell? ⟨m, i, none⟩ = some v := (World.cell?_setCell_far W ⟨b, j, none⟩ ⟨m, i, none⟩ u hb).trans h
theorem far9 {W : World} {b m i : Nat} {v : Value} (hb : b ≠ m) (h : W.cell? ⟨m, i, none⟩ = some v) (u0 u1 u2 u3 u4 u5 u6 u7 u8 : Value) :
    (((((((((W.setCell ⟨b, 0, none⟩ u0).setCell ⟨b, 1, none⟩ u1).setCell ⟨b, 2, none⟩ u2).setCell ⟨b, 3, none⟩ u3).setCell ⟨b, 4, none⟩ u4).setCell ⟨b, 5, none⟩ u5).setCell ⟨b, 6, none⟩ u6).setCell ⟨b, 7, none⟩ u7).setCell ⟨b, 8, none⟩ u8).cell? ⟨m, i, none⟩ = some v := far1 hb (far1 hb (far1 hb (far1 hb (far1 hb (far1 hb (far1 hb (far1 hb (far1 hb (h) _) _) _) _) _) _) _) _) _

set_option maxHeartbeats 4000000 in
theorem rpdu {w : World} {F : Nat → Prop} {m : Nat} {c : Cf} {near there : Int} {s : Sk} (h : RnA w F m c near there s) (hs : s.sent ≤ 999) :
    Calls Try.prog 33 #[.pointer (some ⟨m, 0, none⟩)] w fun e w' => ∃ v', e = .returned (pdV (onP near there s) v') ∧ OwnB w.heap.size w' v' s.b ∧ RnA w' F m c near there { s with sent := s.sent + 1, left := c.ack } ∧ Fr (fun b => b = m) w w' := by
  obtain ⟨v, h, hF⟩ := h
  obtain ⟨va, vc, hv, _⟩ := own_shape h.own
  subst hv
  have H := Lib.hid h
  have HF := Lib.hid hF
  have hw : IntKind.i64.wrap (s.sent + 1) = s.sent + 1 := IntWalk.i64_in _ (by have := h.s.2.1; omega)
  have hw2 : IntKind.i64.wrap (8 + s.bit) = 8 + s.bit := IntWalk.i64_in _ (by have := h.s.1; omega)
  have Hs := Lib.hid hs
  have c1 : w.cell? ⟨m, 1, none⟩ = some (.int .i64 c.ack) := blk_cell h.blk 1
  have c6 : w.cell? ⟨m, 6, none⟩ = some (.int .i64 s.sent) := blk_cell h.blk 6
  have c7 : w.cell? ⟨m, 7, none⟩ = some (.int .i64 s.left) := blk_cell h.blk 7
  have z : ∀ i, w.frozen? ⟨m, i, none⟩ = false := fun i => blk_free h.blk i
  have ho := lt_of_block h.blk
  have hres : Try.f33.results = #[.cell 2 33] := by kernel_rfl
  have Hres := Lib.hid hres
  clear h hF hs hres
  go_enter Try.func33, Try.ntmps33
  go_upto_region 3 with fail
  obtain ⟨S1, hS1⟩ : ∃ S1, S1 = (w.setCell ⟨m, 6, none⟩ (.int .i64 (s.sent + 1))).setCell ⟨m, 7, none⟩ (.int .i64 c.ack) := ⟨_, rfl⟩
  rw [← hS1]
  have hsz : w.heap.size = S1.heap.size := by rw [hS1]; simp
  have hf1 : Fr (fun b => b = m) w S1 := by rw [hS1]; exact ((Fr.refl (fun b => b = m) w).setCell (p := ⟨m, 6, none⟩) (fun _ => rfl) _).setCell (p := ⟨m, 7, none⟩) (fun _ => rfl) _
  have hno : ¬ (Value.slice va s.b.length vc).ownBlock = some m := fun e => own_ne H.out.own H.out.blk (by decide) e
  have ha1 : RnI S1 m c near there { s with sent := s.sent + 1, left := c.ack } (.slice va s.b.length vc) := by
    refine ⟨?_, H.out.own.fr hf1 (fun g hg (e : g = m) => hno (by rw [← e]; exact hg)), H.out.c, ?_⟩
    · rw [hS1]
      have e1 := heap_setCell_same H.out.blk (i := 6) (.int .i64 (s.sent + 1))
      have e2 := heap_setCell_same e1 (i := 7) (.int .i64 c.ack)
      simpa using e2
    · obtain ⟨h1, h2, h3, h4, h5⟩ := H.out.s
      have := Hs.out
      have := H.out.c
      unfold Cf.ok at this
      exact ⟨h1, ⟨by show 0 ≤ s.sent + 1; omega, by show s.sent + 1 ≤ 1000; omega⟩, ⟨by show 0 ≤ c.ack; omega, by show c.ack ≤ 10000; omega⟩, h4, h5⟩
  obtain ⟨b0, hb0⟩ : ∃ b, b = w.heap.size := ⟨_, rfl⟩
  obtain ⟨W2, hW2⟩ : ∃ W2, W2 = S1.alloc (.cells pd0 33) := ⟨_, rfl⟩
  rw [← hW2, ← hb0]
  have hal : Below S1.heap.size S1 W2 := by rw [hW2]; exact (Below.refl _ S1).alloc (Nat.le_refl _) _
  have p0 : W2.heap[b0]? = some (.cells pd0 33 (0, 0)) := by rw [hW2, hb0, hsz]; exact heap_alloc_new' S1 _
  have HA2 := Lib.hid (ha1.below hal)
  have hbm : b0 ≠ m := by omega
  have n3 : W2.drew.cell? ⟨m, 3, none⟩ = some (.int .i64 near) := blk_cell HA2.out.blk 3
  have n4 : W2.drew.cell? ⟨m, 4, none⟩ = some (.int .i64 there) := blk_cell HA2.out.blk 4
  have n5 : W2.drew.cell? ⟨m, 5, none⟩ = some (.int .i64 s.bit) := blk_cell HA2.out.blk 5
  have n10 : W2.drew.cell? ⟨m, 10, none⟩ = some (.bool s.poll) := blk_cell HA2.out.blk 10
  have n11 : W2.drew.cell? ⟨m, 11, none⟩ = some (.slice va s.b.length vc) := blk_cell HA2.out.blk 11
  have HF2 : Hid (Fr (fun b => b = m) w W2) := hf1.trans' (Fr.of_below hal no) (fun _ _ e => e) (fun _ _ e => e.elim)
  have P0 := Lib.hid p0
  have Hb0 := Lib.hid hb0
  have hlb : s.b.length ≤ 1000000 := by have := H.out.s.2.2.2.2; omega
  have hmw : m < W2.heap.size := lt_of_block HA2.out.blk
  clear hS1 hsz hf1 ha1 hb0 hW2 hal p0 c1 c6 c7 z hno
  go_region_held3 (fun w' => w'.cell? ⟨m, 3, none⟩ = some (.int .i64 near) ∧ w'.cell? ⟨m, 4, none⟩ = some (.int .i64 there) ∧ w'.cell? ⟨m, 5, none⟩ = some (.int .i64 s.bit) ∧ w'.cell? ⟨m, 10, none⟩ = some (.bool s.poll) ∧ w'.cell? ⟨m, 11, none⟩ = some (.slice va s.b.length vc))
    (first | with_reducible assumption | with_reducible exact ⟨n3, n4, n5, n10, n11⟩ | with_reducible exact ⟨m3, m4, m5, m10, m11⟩ | with_reducible exact ⟨far9 hbm m3 _ _ _ _ _ _ _ _ _, far9 hbm m4 _ _ _ _ _ _ _ _ _, far9 hbm m5 _ _ _ _ _ _ _ _ _, far9 hbm m10 _ _ _ _ _ _ _ _ _, far9 hbm m11 _ _ _ _ _ _ _ _ _⟩) (first
    | (go_at_call 13; refine (copyB _ s.b W2.drew (Own.rd HA2.out.own) hlb).mono ?_; rintro e w3 ⟨v', rfl, o3, b3⟩; obtain ⟨ua, uc, hu, _⟩ := own_shape o3; subst hu; have m3 := cellOn' n3 b3; have m4 := cellOn' n4 b3; have m5 := cellOn' n5 b3; have m10 := cellOn' n10 b3; have m11 := cellOn' n11 b3; have p3 := (b3.block b0 (lt_of_block P0.out)).trans P0.out; have r0 : w3.cell? ⟨b0, 0, none⟩ = some (.int .i64 0) := blk_cell p3 0; have r1 : w3.cell? ⟨b0, 1, none⟩ = some (.int .i64 0) := blk_cell p3 1; have r2 : w3.cell? ⟨b0, 2, none⟩ = some (.bool false) := blk_cell p3 2; have r3 : w3.cell? ⟨b0, 3, none⟩ = some (.int .i64 0) := blk_cell p3 3; have r4 : w3.cell? ⟨b0, 4, none⟩ = some (.int .i64 0) := blk_cell p3 4; have r5 : w3.cell? ⟨b0, 5, none⟩ = some (.int .i64 0) := blk_cell p3 5; have r6 : w3.cell? ⟨b0, 6, none⟩ = some (.int .i64 0) := blk_cell p3 6; have r7 : w3.cell? ⟨b0, 7, none⟩ = some (.bool false) := blk_cell p3 7; have r8 : w3.cell? ⟨b0, 8, none⟩ = some (.slice none 0 0) := blk_cell p3 8; have rz : ∀ i, w3.frozen? ⟨b0, i, none⟩ = false := fun i => blk_free p3 i; have B3 := Lib.hid b3; have O3 := Lib.hid o3; clear b3 o3 p3)
    | fail)
  all_goals
    try simp only [Act.put, List.setIfInBounds_toArray, List.set_cons_zero, List.set_cons_succ]
    go_wp2_with fail
    refine bodyPost_ret (v := pdV (onP near there s) (.slice ua s.b.length uc)) ?_ rfl ?_
    · simp only [results, Hres.out]
      go_simp
      exact ⟨rfl, rfl, rfl, rfl, rfl, rfl, rfl, rfl⟩
    · clear r0 r1 r2 r3 r4 r5 r6 r7 r8 rz m3 m4 m5 m10 m11 n3 n4 n5 n10 n11
      have fin : ∀ W, Fr (fun b => b = b0) w3 W → OwnB w.heap.size W (.slice ua s.b.length uc) s.b ∧ RnA W F m c near there { s with sent := s.sent + 1, left := c.ack } ∧ Fr (fun b => b = m) w W := fun W hW => by
        have hb0 := Hb0.out
        have hl2 : b0 < W2.heap.size := lt_of_block P0.out
        have hA3 : RnA w3 F m c near there { s with sent := s.sent + 1, left := c.ack } := ⟨_, HA2.out.below ((Below.refl _ W2).drew.trans B3.out), HF.out⟩
        refine ⟨own_base (own_zero (Own.fr O3.out hW (fun g hg e => ?_))) (fun g hg => ?_), hA3.keep (fun x hx => hW.blk x (hA3.lt x hx) (fun e => ?_)), (HF2.out.drew.trans' (Fr.of_below B3.out no) (fun _ _ e => e) (fun _ _ e => False.elim e)).trans' hW (fun _ _ e => e) (fun x hx e => ?_)⟩
        · have := (O3.out.lt g hg).1
          simp at this
          omega
        · have := (O3.out.lt g hg).1
          have := HF2.out.size
          simp at *
          omega
        · have hFw : ∀ x, F x → x < w.heap.size := fun x hx => by
            rcases (HF.out x).1 hx with rfl | e
            · exact ho
            · exact own_lt H.out.own e
          have := hFw x hx
          omega
        · omega
      exact ⟨_, rfl, fin _ ((((((((((Fr.refl (fun b => b = b0) w3).setCell (p := ⟨b0, 0, none⟩) (fun _ => rfl) _).setCell (p := ⟨b0, 1, none⟩) (fun _ => rfl) _).setCell (p := ⟨b0, 2, none⟩) (fun _ => rfl) _).setCell (p := ⟨b0, 3, none⟩) (fun _ => rfl) _).setCell (p := ⟨b0, 4, none⟩) (fun _ => rfl) _).setCell (p := ⟨b0, 5, none⟩) (fun _ => rfl) _).setCell (p := ⟨b0, 6, none⟩) (fun _ => rfl) _).setCell (p := ⟨b0, 7, none⟩) (fun _ => rfl) _).setCell (p := ⟨b0, 8, none⟩) (fun _ => rfl) _)⟩
end Go.Proofs.Ytkmeklbmjdbifaa
