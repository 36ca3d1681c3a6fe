/-
  The reference's inbox: NewInbox, Put, Take, Clear.
-/
import Derived.Test.YtfibajfhaadnfaaRfb
import Derived.Test.YtfibajfhaadnfaaInb3
namespace Go.Proofs.Ytfibajfhaadnfaa
open Go.RowKit
set_option linter.unusedVariables false


theorem riNo (most : Int) (hm : most < 1 ∨ 16 < most) (w : World) :
    Calls Try.prog 15 #[.int .i64 most] w fun e w' => e = .returned (.tuple #[.pointer none, .int .i64 1]) ∧ w' = w := by
  by_cases h : most < 1
  · have d1 : decide (most < 1) = true := by simpa using h
    clear hm
    go_enter Try.func15, Try.ntmps15
    go_wp2_with fail
    go_ret2
    exact ⟨rfl, rfl⟩
  · have d1 : decide (most < 1) = false := by simpa using h
    have d2 : decide ((16 : Int) < most) = true := by simp; omega
    clear hm h
    go_enter Try.func15, Try.ntmps15
    go_wp2_with fail
    go_ret2
    exact ⟨rfl, rfl⟩
theorem riYes (most : Int) (hm : 1 ≤ most ∧ most ≤ 16) (w : World) :
    Calls Try.prog 15 #[.int .i64 most] w fun e w' => e = .returned (.tuple #[.pointer (some ⟨w.heap.size, 0, none⟩), .int .i64 0]) ∧ IsRf w' w.heap.size (.int .i64 most) (.bool false) (.slice none 0 0) [] [] ∧ Below w.heap.size w w' := by
  obtain ⟨h1, h2⟩ := hm
  have d1 : decide (most < 1) = false := by simp; omega
  have d2 : decide ((16 : Int) < most) = false := by simp; omega
  have fin : Hid (IsRf (w.alloc (.cells #[.int .i64 most, .bool false, .slice none 0 0] 45)) w.heap.size (.int .i64 most) (.bool false) (.slice none 0 0) [] [] ∧ Below w.heap.size w (w.alloc (.cells #[.int .i64 most, .bool false, .slice none 0 0] 45))) :=
    ⟨⟨heap_alloc_new' w _, Own.nil _ _ _ _ _, ItemsB.nil _⟩, (Below.refl _ w).alloc (Nat.le_refl _) _⟩
  go_enter Try.func15, Try.ntmps15
  go_wp2_with fail
  go_ret2
  exact ⟨rfl, fin.out⟩

theorem rClear {w : World} {G : Nat → Prop} {r : Nat} {c0 c1 : Value} {bs : List (List Int)} (h : RfA w G r c0 c1 bs) (hc : ∃ f : Bool, c1 = .bool f) :
    Calls Try.prog 19 #[.pointer (some ⟨r, 0, none⟩)] w fun e w' => e = .returned (.int .i64 bs.length) ∧ ∃ G', RfA w' G' r c0 (.bool false) [] ∧ Stp G G' w w' := by
  obtain ⟨full, rfl⟩ := hc
  obtain ⟨lv, l, h1, h2⟩ := h
  rw [← h1.it.1]
  obtain ⟨la, lc, rfl, _⟩ := own_shape h1.own
  have k2 := h1.cell2
  have z2 : w.frozen? ⟨r, 2, none⟩ = false := blk_free h1.blk 2
  have k1 := h1.cell1
  have z1 : w.frozen? ⟨r, 1, none⟩ = false := blk_free h1.blk 1
  obtain ⟨h3, s3⟩ := h1.clear h2
  have fin : Hid (∃ G', RfA ((w.setCell ⟨r, 2, none⟩ (.slice none 0 0)).setCell ⟨r, 1, none⟩ (.bool false)) G' r c0 (.bool false) [] ∧ Stp G G' w ((w.setCell ⟨r, 2, none⟩ (.slice none 0 0)).setCell ⟨r, 1, none⟩ (.bool false))) :=
    ⟨_, ⟨_, _, h3.set1 _, fun _ => Iff.rfl⟩, s3.trans ⟨(Fr.refl _ _).setCell (p := ⟨r, 1, none⟩) (fun _ => .inl rfl) _, fun _ e => .inl e⟩⟩
  clear h1 h3 s3
  go_enter Try.func19, Try.ntmps19
  go_wp2_with fail
  go_ret
  exact ⟨rfl, fin.out⟩

theorem rPutNo {w : World} {G : Nat → Prop} {r : Nat} {most : Int} {c1 : Value} {bs : List (List Int)} (h : RfA w G r (.int .i64 most) c1 bs) (bv : Value) (hf : most ≤ (bs.length : Int)) :
    Calls Try.prog 16 #[.pointer (some ⟨r, 0, none⟩), bv] w fun e w' => e = .returned (.tuple #[.bool false, .bool false]) ∧ Below w.heap.size w w' := by
  obtain ⟨lv, l, h1, h2⟩ := h
  obtain ⟨la, lc, rfl, _⟩ := own_shape h1.own
  have k0 := h1.cell0
  have k2 := h1.cell2
  have d1 : decide (most ≤ (l.length : Int)) = true := by rw [h1.it.1]; simpa using hf
  clear h1 h2
  go_enter Try.func16, Try.ntmps16
  go_wp2_with fail
  go_quiet (fail)
  go_wp2_with fail
  go_ret2
  exact ⟨rfl, below_drewN (Below.refl _ w) _⟩

set_option maxHeartbeats 4000000 in
theorem rPutYes {w : World} {G : Nat → Prop} {r : Nat} {most : Int} {full : Bool} {bs : List (List Int)} (h : RfA w G r (.int .i64 most) (.bool full) bs) {bv : Value} {x : List Int} (hx : RdB w bv x) (hxl : x.length ≤ 1000000) (hl : bs.length ≤ 100000) (hf : (bs.length : Int) < most) :
    Calls Try.prog 16 #[.pointer (some ⟨r, 0, none⟩), bv] w fun e w' => e = .returned (.tuple #[.bool true, .bool (((bs.length + 1 : Nat) : Int) == most)]) ∧ ∃ G', RfA w' G' r (.int .i64 most) (.bool (full || (((bs.length + 1 : Nat) : Int) == most))) (bs ++ [x]) ∧ Stp G G' w w' := by
  obtain ⟨i1, hi1, hz3, hz4, hz5⟩ := info_parts infoQB
  obtain ⟨lv, l, h1, h2⟩ := h
  obtain ⟨la, lc, rfl, _⟩ := own_shape h1.own
  have k0 := h1.cell0
  have k2 := h1.cell2
  have hll := h1.it.1
  have d1 : decide (most ≤ (l.length : Int)) = false := by rw [hll]; simpa using hf
  rw [← hll]
  have hge : ∀ b, (((l.length + 1 : Nat) : Int) == most) = b → decide (most ≤ (l.length : Int) + 1) = b := fun b e => by
    subst e
    by_cases e : ((l.length + 1 : Nat) : Int) = most
    · rw [decide_eq_true (by omega)]; simpa using e
    · rw [decide_eq_false (by omega)]; symm; simpa using e
  have Hge := Lib.hid hge
  have H := Lib.hid h1
  have HX := Lib.hid hx
  have Hll := Lib.hid hll
  clear h1 hx hll hge
  cases hb : (((l.length + 1 : Nat) : Int) == most)
  all_goals
    have d5 := Hge.out _ hb
    clear hb
    go_enter Try.func16, Try.ntmps16
    go_wp2_with fail
    go_quiet (fail)
    have HN : Hid (∀ m, IsRf (w.drewN m) r (.int .i64 most) (.bool full) (.slice la l.length lc) l bs) := fun m => H.out.below (below_drewN (Below.refl _ w) m)
    have HXN : Hid (∀ m, RdB (w.drewN m) bv x) := fun m => HX.out.fr (below_drewN (Below.refl _ w) m)
    have k2' : ∀ m, (w.drewN m).cell? ⟨r, 2, none⟩ = some (.slice la l.length lc) := fun m => (HN.out m).cell2
    go_wp2_with fail
    clear k0
    go_region_law (first
        | (go_simp; go_at_call 30; refine (copyB bv x _ (HXN.out _) hxl).mono ?_; rintro e w2 ⟨v', rfl, o2, b2⟩; have k3 := cellOn' (k2' _) b2; have hr2 := World.block_lt_of_cell? w2 _ k3; dsimp only at hr2; obtain ⟨va, vk, hv, _⟩ := own_shape o2; have O2 := Lib.hid o2; have B2 := Lib.hid b2; clear o2 b2; subst hv)
        | (refine step_app (B := 0) (v := .slice la l.length lc) rfl (.tmp 20) (.tmp 23) 32 rfl 29 i1 _ 1 _ Try.underlying32 hi1 hz3 hz4 hz5 rfl (by decide) (Nat.zero_le _) rfl rfl ((((HN.out _).below B2.out).below ((Below.refl _ w2).alloc (Nat.le_refl _) (.cells #[.slice va x.length vk] 29))).own) (Rd.new (by simp) rfl) (by intro u hu; simp at hu; subst hu; rfl) (by unfold maxLen; have := Hll.out; omega) (by have := Hll.out; omega) ?_; intro v5 w5 o5 f5 m5 n5 z5; have O5 := Lib.hid o5; have F5 := Lib.hid f5; have M5 := Lib.hid m5; have k4 : w5.cell? ⟨r, 2, none⟩ = some (.slice la l.length lc) ∧ w5.frozen? ⟨r, 2, none⟩ = false := (held_fr ⟨(((HN.out _).below B2.out).below ((Below.refl _ w2).alloc (Nat.le_refl _) (.cells #[.slice va x.length vk] 29))).cell2, blk_free (((HN.out _).below B2.out).below ((Below.refl _ w2).alloc (Nat.le_refl _) (.cells #[.slice va x.length vk] 29))).blk 2⟩ f5 (fun e => (HN.out 0).ne e)); obtain ⟨k5, k6⟩ := k4; obtain ⟨a5, c5, rfl, _⟩ := own_shape o5; clear o5 f5 m5 n5))
    all_goals
      have hal := (Below.refl w2.heap.size w2).alloc (Nat.le_refl _) (.cells #[.slice va x.length vk] 29)
      have fin := Lib.hid (H.out.put h2 (((below_drewN (Below.refl _ w) _).trans (B2.out.mono (Nat.le_refl _))).trans (hal.mono (by have := B2.out.size; simpa using this))) (Nat.le_refl _) (B := w.heap.size) (Own.fr O2.out (Fr.of_below hal no) (fun _ _ e => e)) F5.out (by simpa using M5.out) O5.out)
      clear hal k2' k3 hr2 k5 k6
      obtain ⟨G', ⟨_, h6, hG'⟩, s6⟩ := fin.out
      obtain ⟨W6, hW6⟩ : ∃ W6, W6 = w5.setCell ⟨r, 2, none⟩ (.slice a5 (l.length + 1) c5) := ⟨_, rfl⟩
      rw [← hW6] at h6 s6 ⊢
      have H6 := Lib.hid h6
      have S6 := Lib.hid s6
      have g0 := h6.cell0
      have g1 := h6.cell1
      have g2 := h6.cell2
      have z1 : W6.frozen? ⟨r, 1, none⟩ = false := blk_free h6.blk 1
      clear hW6 h6 s6 fin
      have Fin : Hid (∀ m n, (∃ G', RfA ((W6.drewN m).drewN n) G' r (.int .i64 most) (.bool (full || false)) (bs ++ [x]) ∧ Stp G G' w ((W6.drewN m).drewN n)) ∧ ∃ G', RfA (((W6.drewN m).setCell ⟨r, 1, none⟩ (.bool true)).drewN n) G' r (.int .i64 most) (.bool (full || true)) (bs ++ [x]) ∧ Stp G G' w (((W6.drewN m).setCell ⟨r, 1, none⟩ (.bool true)).drewN n)) := fun m n => by
        have b1 := below_drewN (Below.refl _ W6) m
        have h7 := H6.out.below b1
        rw [Bool.or_false, Bool.or_true]
        refine ⟨⟨G', ⟨_, _, h7.below (below_drewN (Below.refl _ _) n), hG'⟩, (S6.out.thenBelow b1).thenBelow (below_drewN (Below.refl _ _) n)⟩, G', ⟨_, _, (h7.set1 (.bool true)).below (below_drewN (Below.refl _ _) n), hG'⟩, ((S6.out.thenBelow b1).trans ⟨(Fr.refl G' _).setCell (p := ⟨r, 1, none⟩) (fun _ => (hG' r).2 (.inl rfl)) _, fun _ e => .inl e⟩).thenBelow (below_drewN (Below.refl _ _) n)⟩
      clear hG'
      go_wp2_with fail
      go_quiet (fail)
      go_wp2_with fail
      go_quiet (fail)
      go_wp2_with fail
      go_ret2
      first
      | exact ⟨rfl, (Fin.out _ _).1⟩
      | exact ⟨rfl, (Fin.out _ _).2⟩

theorem rTakeNo {w : World} {G : Nat → Prop} {r : Nat} {c0 c1 : Value} (h : RfA w G r c0 c1 []) :
    Calls Try.prog 17 #[.pointer (some ⟨r, 0, none⟩)] w fun e w' => e = .returned (.tuple #[.slice none 0 0, .bool false, .bool false]) ∧ w' = w := by
  obtain ⟨lv, l, h1, h2⟩ := h
  obtain ⟨la, lc, rfl, _⟩ := own_shape h1.own
  have k2 := h1.cell2
  have e0 : l.length = 0 := by rw [h1.it.1]; rfl
  rw [e0] at k2
  clear h1 h2 e0
  go_enter Try.func17, Try.ntmps17
  go_wp2_with fail
  go_ret3
  exact ⟨rfl, rfl⟩

set_option maxHeartbeats 4000000 in
theorem rTakeYes {w : World} {G : Nat → Prop} {r : Nat} {most : Int} {full : Bool} {y : List Int} {bs : List (List Int)} (h : RfA w G r (.int .i64 most) (.bool full) (y :: bs)) (hm : 0 ≤ most ∧ most ≤ 1000) (hl : bs.length ≤ 100000) :
    Calls Try.prog 17 #[.pointer (some ⟨r, 0, none⟩)] w fun e w' => ∃ a k, e = .returned (.tuple #[.slice a y.length k, .bool true, .bool (freeB full bs.length most)]) ∧ RdB w' (.slice a y.length k) y ∧
      ∃ G', RfA w' G' r (.int .i64 most) (.bool (full && !freeB full bs.length most)) bs ∧ Stp G G' w w' := by
  obtain ⟨i1, hi1, hz3, hz4, hz5⟩ := info_parts infoQB
  obtain ⟨lv, l, h1, h2⟩ := h
  obtain ⟨v0, l0, rfl, o0, it0⟩ := h1.it.cons'
  obtain ⟨g, lc, rfl, hgw, hc1, hc2⟩ := own_some h1.own (by simp)
  obtain ⟨xa, xk, rfl, _⟩ := own_shape o0
  have k0 := h1.cell0
  have k1 := h1.cell1
  have k2 := h1.cell2
  have z2 : w.frozen? ⟨r, 2, none⟩ = false := blk_free h1.blk 2
  have k3 : w.cell? ⟨g, 0, none⟩ = some (.slice xa y.length xk) := own_at h1.own (i := 0) (by simp)
  have hrw := lt_of_block h1.blk
  have hll : l0.length = bs.length := it0.1
  have HONE : Hid (∀ u ∈ l0.flatMap enQ, u.oneCell' = true) := enQ_ones (fun v hv => h1.it.one v (List.mem_cons_of_mem _ hv))
  have HD := Own.dropRd enQ_len h1.own (i := 1) (by simp) hc1
  have hal := (Below.refl w.heap.size w).alloc (Nat.le_refl _) (.cells #[] 29)
  have H := Lib.hid h1
  simp only [List.length_cons, Nat.mul_one, List.drop_succ_cons, List.drop_zero, Nat.add_sub_cancel] at HD hc1 k2
  have hc5 : lc ≤ 9223372036854775807 := by unfold maxLen at hc2; omega
  have i1' : (1 : Int) ≤ (l0.length : Int) + 1 := by omega
  have i2 : (l0.length : Int) + 1 ≤ (lc : Int) := by omega
  have i3 : (1 : Int) ≤ (lc : Int) := by omega
  have Hl : Hid (l0.length ≤ 100000) := by unfold Hid; rw [hll]; exact hl
  have Hll := Lib.hid hll
  -- behind the append
  have tail : ∀ (w5 : World) (v5 : Value), Own enQ 29 1 w.heap.size w5 v5 l0 → Below w.heap.size w w5 →
      w5.cell? ⟨r, 2, none⟩ = some (.slice (some ⟨g, 0, none⟩) (l0.length + 1) lc) ∧ w5.frozen? ⟨r, 2, none⟩ = false ∧
      ∃ G', (IsRf (w5.setCell ⟨r, 2, none⟩ v5) r (.int .i64 most) (.bool full) v5 l0 bs ∧ ∀ x, G' x ↔ ftRf r v5 l0 x) ∧ Stp G G' w (w5.setCell ⟨r, 2, none⟩ v5) ∧ RdB (w5.setCell ⟨r, 2, none⟩ v5) (.slice xa y.length xk) y := fun w5 v5 o5 b5 => by
    have h3 := H.out.below b5
    obtain ⟨G', ⟨_, h4, h5⟩, s4⟩ := H.out.cut h2 b5 1 (Nat.le_refl _) (by simpa using o5)
    refine ⟨by simpa using h3.cell2, blk_free h3.blk 2, G', ⟨by simpa using h4, by simpa using h5⟩, s4, ?_⟩
    have o6 := h3.it.2 0 _ y rfl rfl
    exact (o6.fr ((Fr.refl (fun x => x = r) _).setCell (p := ⟨r, 2, none⟩) (fun _ => rfl) v5) (fun g hg e => h3.apart (List.mem_cons_self ..) hg (.inl e))).rd
  have Tail := Lib.hid tail
  have HOT : Hid (∀ g, (Value.slice xa y.length xk).ownBlock = some g → ∃ _ : True, g ≠ r) := fun g hg => ⟨trivial, fun e => H.out.apart (List.mem_cons_self ..) hg (.inl e)⟩
  rw [← hll]
  clear h1 o0 it0 tail hll
  have RZ : lc = 1 → l0 = [] := fun e => List.eq_nil_of_length_eq_zero (by omega)
  go_enter Try.func17, Try.ntmps17
  by_cases hcap : lc = 1
  · subst hcap
    obtain rfl := RZ rfl
    clear RZ HD
    have RD0 : Rd (w.alloc (.cells #[] 29)) 1 (.slice (some ⟨g, 0, none⟩) 0 0) 0 [] := ⟨rfl, _, 0, rfl, fun e => (by cases e), fun ad _ j u hu => by simp at hu⟩
    clear hal
    go_wp2_with (at_builtin; refine held ?_)
    refine unheld ?_
    refine wpList_app (B := w.heap.size) (v := .slice (some ⟨w.heap.size, 0, none⟩) 0 0) (n := 0) (m := 0) (news := []) rfl (.tmp 20) (.tmp 25) 32 rfl 29 i1 _ 1 _ Try.underlying32 hi1 hz3 hz4 hz5 rfl (by decide) (by simp) rfl rfl (own_empty w _ _ _ (Nat.le_refl _)) RD0 (by first | exact HONE.out | exact (fun u hu => by cases hu)) (by have := Hl.out; unfold maxLen; omega) (by have := Hl.out; omega) ?_
    intro v5 w5 o5 f5 m5 n5 z5
    have f25 := ((Fr.refl (fun b => w.heap.size ≤ b) w).alloc (.cells #[] 29)).trans' f5 (T := fun b => w.heap.size ≤ b) (fun _ _ e => e) (fun b _ e => by simp [Value.ownBlock] at e; omega)
    have o6 : Own enQ 29 1 w.heap.size w5 v5 ([] : List Value) := by
      unfold Own
      simpa using o5
    obtain ⟨t1, t2, G', ⟨t3, t4⟩, t5, t6⟩ := Tail.out w5 v5 o6 (f25.below' (Nat.le_refl _) (fun _ e => e))
    obtain ⟨a5, c5, hv5, _⟩ := own_shape o6
    simp only [List.length_nil] at hv5
    subst hv5
    clear o5 o6 f5 f25 m5 n5 z5 k0 k1 k2 k3 z2
    obtain ⟨W6, hW6⟩ : ∃ W6, W6 = w5.setCell ⟨r, 2, none⟩ (.slice a5 0 c5) := ⟨_, rfl⟩
    have T3 := Lib.hid t3
    have T4 := Lib.hid t4
    have T5 := Lib.hid t5
    have T6 := Lib.hid t6
    clear t3 t4 t5 t6
    rw [← hW6] at T3 T5 T6
    have g0 := T3.out.cell0
    have g1 := T3.out.cell1
    have g2 := T3.out.cell2
    have z1 : W6.frozen? ⟨r, 1, none⟩ = false := blk_free T3.out.blk 1
    have Fin : Hid (∀ m, (∃ G', RfA (W6.drewN m) G' r (.int .i64 most) (.bool full) bs ∧ Stp G G' w (W6.drewN m)) ∧ RdB (W6.drewN m) (.slice xa y.length xk) y ∧ (∃ G', RfA ((W6.drewN m).setCell ⟨r, 1, none⟩ (.bool false)) G' r (.int .i64 most) (.bool false) bs ∧ Stp G G' w ((W6.drewN m).setCell ⟨r, 1, none⟩ (.bool false))) ∧ RdB ((W6.drewN m).setCell ⟨r, 1, none⟩ (.bool false)) (.slice xa y.length xk) y) := fun m => by
      have b1 := below_drewN (Below.refl _ W6) m
      have h7 := T3.out.below b1
      have rd7 := T6.out.fr b1
      refine ⟨⟨G', ⟨_, _, h7, T4.out⟩, T5.out.thenBelow b1⟩, rd7, ⟨G', ⟨_, _, h7.set1 (.bool false), T4.out⟩, (T5.out.thenBelow b1).trans ⟨(Fr.refl G' _).setCell (p := ⟨r, 1, none⟩) (fun _ => (T4.out r).2 (.inl rfl)) _, fun _ e => .inl e⟩⟩, ?_⟩
      refine Rd.fr rd7 ((Fr.refl (fun x => x = r) _).setCell (p := ⟨r, 1, none⟩) (fun _ => rfl) _) (fun g hg e => ?_)
      obtain ⟨o9, ho9⟩ := HOT.out g hg
      subst e
      exact ho9 rfl
    go_wp2_with fail
    simp only [← hW6]
    clear hW6
    cases full
    · go_quiet (fail)
      go_wp2_with fail
      go_ret3
      exact ⟨xa, xk, rfl, (Fin.out _).2.1, (Fin.out _).1⟩
    · cases hfr : decide (((([] : List Value).length : Nat) : Int) ≤ most / 2)
      · have hfb : Hid (freeB true ([] : List Value).length most = false) := by unfold Hid freeB; rw [hfr]; rfl
        have hfr' := hfr
        have hfr'' : decide ((0 : Int) ≤ most / 2) = decide (((([] : List Value).length : Nat) : Int) ≤ most / 2) := rfl
        rw [hfr] at hfr''
        go_quiet (fail)
        go_wp2_with fail
        go_ret3
        rw [hfb.out]
        exact ⟨xa, xk, rfl, (Fin.out _).2.1, (Fin.out _).1⟩
      · have hfb : Hid (freeB true ([] : List Value).length most = true) := by unfold Hid freeB; rw [hfr]; rfl
        have hfr' := hfr
        have hfr'' : decide ((0 : Int) ≤ most / 2) = decide (((([] : List Value).length : Nat) : Int) ≤ most / 2) := rfl
        rw [hfr] at hfr''
        go_quiet (fail)
        go_wp2_with fail
        go_ret3
        rw [hfb.out]
        exact ⟨xa, xk, rfl, (Fin.out _).2.2.2, (Fin.out _).2.2.1⟩
  · rw [if_neg hcap] at HD
    have HD2 := Lib.hid (HD.fr (Fr.of_below hal no) (fun _ _ e => e))
    clear RZ HD hal
    go_wp2_with (at_builtin; refine held ?_)
    refine unheld ?_
    refine wpList_app (B := w.heap.size) (v := .slice (some ⟨w.heap.size, 0, none⟩) 0 0) (n := 0) (m := l0.length) (news := l0.flatMap enQ) rfl (.tmp 20) (.tmp 25) 32 rfl 29 i1 _ 1 _ Try.underlying32 hi1 hz3 hz4 hz5 rfl (by decide) (by simp) rfl rfl (own_empty w _ _ _ (Nat.le_refl _)) HD2.out (by first | exact HONE.out | exact (fun u hu => by cases hu)) (by have := Hl.out; unfold maxLen; omega) (by have := Hl.out; omega) ?_
    intro v5 w5 o5 f5 m5 n5 z5
    have f25 := ((Fr.refl (fun b => w.heap.size ≤ b) w).alloc (.cells #[] 29)).trans' f5 (T := fun b => w.heap.size ≤ b) (fun _ _ e => e) (fun b _ e => by simp [Value.ownBlock] at e; omega)
    have o6 : Own enQ 29 1 w.heap.size w5 v5 l0 := by
      unfold Own
      simpa using o5
    obtain ⟨t1, t2, G', ⟨t3, t4⟩, t5, t6⟩ := Tail.out w5 v5 o6 (f25.below' (Nat.le_refl _) (fun _ e => e))
    obtain ⟨a5, c5, hv5, _⟩ := own_shape o6
    subst hv5
    clear o5 o6 f5 f25 m5 n5 z5 k0 k1 k2 k3 z2
    obtain ⟨W6, hW6⟩ : ∃ W6, W6 = w5.setCell ⟨r, 2, none⟩ (.slice a5 l0.length c5) := ⟨_, rfl⟩
    have T3 := Lib.hid t3
    have T4 := Lib.hid t4
    have T5 := Lib.hid t5
    have T6 := Lib.hid t6
    clear t3 t4 t5 t6
    rw [← hW6] at T3 T5 T6
    have g0 := T3.out.cell0
    have g1 := T3.out.cell1
    have g2 := T3.out.cell2
    have z1 : W6.frozen? ⟨r, 1, none⟩ = false := blk_free T3.out.blk 1
    have Fin : Hid (∀ m, (∃ G', RfA (W6.drewN m) G' r (.int .i64 most) (.bool full) bs ∧ Stp G G' w (W6.drewN m)) ∧ RdB (W6.drewN m) (.slice xa y.length xk) y ∧ (∃ G', RfA ((W6.drewN m).setCell ⟨r, 1, none⟩ (.bool false)) G' r (.int .i64 most) (.bool false) bs ∧ Stp G G' w ((W6.drewN m).setCell ⟨r, 1, none⟩ (.bool false))) ∧ RdB ((W6.drewN m).setCell ⟨r, 1, none⟩ (.bool false)) (.slice xa y.length xk) y) := fun m => by
      have b1 := below_drewN (Below.refl _ W6) m
      have h7 := T3.out.below b1
      have rd7 := T6.out.fr b1
      refine ⟨⟨G', ⟨_, _, h7, T4.out⟩, T5.out.thenBelow b1⟩, rd7, ⟨G', ⟨_, _, h7.set1 (.bool false), T4.out⟩, (T5.out.thenBelow b1).trans ⟨(Fr.refl G' _).setCell (p := ⟨r, 1, none⟩) (fun _ => (T4.out r).2 (.inl rfl)) _, fun _ e => .inl e⟩⟩, ?_⟩
      refine Rd.fr rd7 ((Fr.refl (fun x => x = r) _).setCell (p := ⟨r, 1, none⟩) (fun _ => rfl) _) (fun g hg e => ?_)
      obtain ⟨o9, ho9⟩ := HOT.out g hg
      subst e
      exact ho9 rfl
    go_wp2_with fail
    simp only [← hW6]
    clear hW6
    cases full
    · go_quiet (fail)
      go_wp2_with fail
      go_ret3
      exact ⟨xa, xk, rfl, (Fin.out _).2.1, (Fin.out _).1⟩
    · cases hfr : decide (((l0.length : Nat) : Int) ≤ most / 2)
      · have hfb : Hid (freeB true l0.length most = false) := by unfold Hid freeB; rw [hfr]; rfl
        have hfr' := hfr
        skip
        go_quiet (fail)
        go_wp2_with fail
        go_ret3
        rw [hfb.out]
        exact ⟨xa, xk, rfl, (Fin.out _).2.1, (Fin.out _).1⟩
      · have hfb : Hid (freeB true l0.length most = true) := by unfold Hid freeB; rw [hfr]; rfl
        have hfr' := hfr
        skip
        go_quiet (fail)
        go_wp2_with fail
        go_ret3
        rw [hfb.out]
        exact ⟨xa, xk, rfl, (Fin.out _).2.2.2, (Fin.out _).2.2.1⟩
end Go.Proofs.Ytfibajfhaadnfaa
