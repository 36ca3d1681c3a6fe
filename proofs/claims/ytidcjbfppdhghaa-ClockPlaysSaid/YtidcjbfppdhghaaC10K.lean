/-
  Layer 10: antiphonref10.Clock, Start and Tick.
-/
import Derived.Test.YtidcjbfppdhghaaC10J
namespace Go.Proofs.Ytidcjbfppdhghaa
open Go.RowKit

/-! ### Start -/
theorem atRb (k : Int) (m : Nat) (most now : Int) (sv : Value) (l : List TmI) (w : World) (B : Nat) (h : IsRef w B m most now sv l) :
    Calls Try.prog 32 #[.pointer (some ⟨m, 0, none⟩), .int .i64 k] w fun e w' => e = .returned (.int .i64 (fidxI k l)) ∧ Below w.heap.size w w' :=
  (atR k m most now sv l w B h).mono fun _ _ ⟨he, hw⟩ => ⟨he, by rw [hw]; exact Below.refl _ _⟩
theorem startNoR (k : Int) (n : Int) (c : Nat) (most now : Int) (sv : Value) (l : List TmI) (w : World) (B : Nat) (h : IsRef w B c most now sv l) (hno : startOkI most k n l = false) :
    Calls Try.prog 21 #[.pointer (some ⟨c, 0, none⟩), .int .i64 k, .int .i64 n] w fun e w' => e = .returned (.bool false) ∧ Below w.heap.size w w' := by
  by_cases h1 : n < 1
  · have d1 : decide (n < 1) = true := by simpa using h1
    clear hno h1 h
    go_enter Try.func21, Try.ntmps21
    go_wp2_with fail
    refine wp_region_after (by kernel_rfl) (by kernel_rfl) ?_
    repeat (go_big_quiet_step (fail))
    refine wpQuiet_nil ?_
    rintro w1 ⟨⟨_, hb⟩, rfl⟩
    go_wp2_with fail
    go_ret
    exact ⟨rfl, hb⟩
  by_cases h2 : 10000 < n
  · have d1 : decide (n < 1) = false := by simpa using h1
    have d2 : decide (10000 < n) = true := by simpa using h2
    clear hno h1 h h2
    go_enter Try.func21, Try.ntmps21
    go_wp2_with fail
    refine wp_region_after (by kernel_rfl) (by kernel_rfl) ?_
    repeat (go_big_quiet_step (fail))
    refine wpQuiet_nil ?_
    rintro w1 ⟨⟨_, hb⟩, rfl⟩
    go_wp2_with fail
    go_ret
    exact ⟨rfl, hb⟩
  have h3 : fidxI k l < 0 ∧ most ≤ (l.length : Int) := by
    simp [startOkI] at hno
    exact hno (by omega) (by omega)
  have d1 : decide (n < 1) = false := by simpa using h1
  have d2 : decide (10000 < n) = false := by simpa using h2
  have d3 : decide (fidxI k l < 0) = true := by simpa using h3.1
  have d4 : decide (most ≤ (l.length : Int)) = true := by simpa using h3.2
  have c0 : ∀ p : After w, p.w'.cell? ⟨c, 0, none⟩ = some (.int .i64 most) := fun p => p.cell (by have := blk_cell h.blk 0; simpa using this)
  have c2 : ∀ p : After w, p.w'.cell? ⟨c, 2, none⟩ = some sv := fun p => p.cell (by have := blk_cell h.blk 2; simpa using this)
  obtain ⟨a, cap, rfl, _⟩ := own_shape h.own
  have H := Lib.hid h
  clear hno h1 h h2 h3
  go_enter Try.func21, Try.ntmps21
  go_wp2_with fail
  refine wp_region_after (by kernel_rfl) (by kernel_rfl) ?_
  repeat (go_big_quiet_step ((go_at_call 32; exact Calls.after_of (atRb k c most now _ l _ B (H.out.below (After.h _))))))
  refine wpQuiet_nil ?_
  rintro w1 ⟨⟨_, hb⟩, rfl⟩
  go_wp2_with fail
  go_ret
  exact ⟨rfl, hb⟩


theorem startYesR (k : Int) (n : Int) (c : Nat) (most now : Int) (sv : Value) (l : List TmI) (w : World) (B : Nat) (hB : B ≤ w.heap.size) (h : IsRef w B c most now sv l) (hyes : startOkI most k n l = true) :
    Calls Try.prog 21 #[.pointer (some ⟨c, 0, none⟩), .int .i64 k, .int .i64 n] w fun e w' => e = .returned (.bool true) ∧ ∃ sv', IsRef w' B c most now sv' (startLI k n l) ∧ Mv w sv sv' ∧ Fr (ftp c sv) w w' := by
  obtain ⟨i0, hi0, hz0, hz1, hz2⟩ := info_parts info54
  have hy : (1 ≤ n ∧ n ≤ 10000) ∧ (fidxI k l < 0 → (l.length : Int) < most) := by
    simp [startOkI] at hyes
    exact ⟨hyes.1, fun h => by omega⟩
  have hlen : ((stopLI k l).length : Int) + 1 ≤ most := by
    have hs := h.small
    unfold stopLI
    rw [List.eraseP_eq_eraseIdx]
    rcases fidxI_cases k l with ⟨hi, hfi⟩ | ⟨i, hi, hlt, hfi⟩
    · rw [hfi]; have := hy.2 (by omega); simp; omega
    · rw [hfi]; simp [List.length_eraseIdx_of_lt hlt]; omega
  have d1 : decide (n < 1) = false := by have := hy.1; simp; omega
  have d2 : decide (10000 < n) = false := by have := hy.1; simp; omega
  have c0 : ∀ p : After w, p.w'.cell? ⟨c, 0, none⟩ = some (.int .i64 most) := fun p => p.cell (by have := blk_cell h.blk 0; simpa using this)
  have c2 : ∀ p : After w, p.w'.cell? ⟨c, 2, none⟩ = some sv := fun p => p.cell (by have := blk_cell h.blk 2; simpa using this)
  have hc := lt_of_block h.blk
  have hmx := h.mx
  have Hn := Lib.hid hy.1
  have Hlen := Lib.hid hlen
  clear hlen
  have H := Lib.hid h
  have tail : ∀ w1 : World, Below w.heap.size w w1 → Calls Try.prog 22 #[.pointer (some ⟨c, 0, none⟩), .int .i64 k] w1 fun e w' => e = .returned (.bool (decide (0 ≤ fidxI k l))) ∧ ∃ sv', IsRef w' B c most now sv' (stopLI k l) ∧ Mv w1 sv sv' ∧ Fr (ftp c sv) w1 w' :=
    fun w1 hb => (stopR k c most now sv l w1 B (Nat.le_trans hB hb.size) (H.out.below hb)).mono fun e w' ⟨he, sv', h1, h2, h3⟩ => ⟨he, sv', h1, h2, h3.mono (fun _ _ e => .inl e)⟩
  have Tail := Lib.hid tail
  clear tail
  by_cases h3 : fidxI k l < 0
  · have d3 : decide (fidxI k l < 0) = true := by simpa using h3
    have d4 : decide (most ≤ (l.length : Int)) = false := by have := hy.2 h3; simp; omega
    obtain ⟨a, cap, rfl, _⟩ := own_shape h.own
    clear h hy hyes
    go_enter Try.func21, Try.ntmps21
    go_wp2_with fail
    refine wp_region_after (by kernel_rfl) (by kernel_rfl) ?_
    repeat (go_big_quiet_step ((go_at_call 32; exact Calls.after_of (atRb k c most now _ l _ B (H.out.below (After.h _))))))
    refine wpQuiet_nil ?_
    rintro w1 ⟨⟨_, hb⟩, rfl⟩
    clear c0 c2
    go_wp2_with fail
    refine (Tail.out w1 hb).mono ?_
    rintro e w2 ⟨rfl, sv2, hk2, hm2, hf2⟩
    have b2 : w2.cell? ⟨c, 2, none⟩ = some sv2 := by have := blk_cell hk2.blk 2; simpa using this
    have hs2 := hf2.size
    have hs1 := hb.size
    have hc2 := lt_of_block hk2.blk
    have K2 := Lib.hid hk2
    clear hk2
    go_wp2_with (at_builtin; refine held ?_)
    refine unheld ?_
    refine wpList_app (B := B) (v := sv2) rfl (.tmp 38) (.tmp 42) 46 rfl 54 i0 _ 2 _ Try.underlying46 hi0 hz0 hz1 hz2 rfl (by decide) (by simp; omega) rfl rfl (K2.out.own.fr ((Fr.refl no w2).alloc _) (fun _ _ e => e)) (Rd.new rfl rfl) (by intro u hu; simp at hu; rcases hu with rfl | rfl <;> rfl) (by have := Hlen.out; unfold maxLen; omega) (by have := Hlen.out; omega) ?_
    intro v3 w3 o3 f3 m3 n3 z3
    have f23 : Fr (fun b => sv2.ownBlock = some b) w2 w3 := ((Fr.refl _ w2).alloc _).trans f3
    have b3 := f23.heap K2.out.blk (fun e => K2.out.ne e)
    have k3 : w3.cell? ⟨c, 2, none⟩ = some sv2 := by have := blk_cell b3 2; simpa using this
    have zz3 := blk_free b3 2
    obtain ⟨a3, cap3, rfl, _⟩ := own_shape o3
    have O3 := Lib.hid o3
    have B3 := Lib.hid b3
    clear o3 b3 n3
    go_wp2_with fail
    go_ret
    refine ⟨rfl, .slice a3 _ cap3, ⟨by simpa using heap_setCell_same B3.out (i := 2) (.slice a3 ((stopLI k l).length + 1) cap3), ?_, H.out.ge, ?_, hmx, ?_⟩, ?_, ?_⟩
    · exact (Own.snoc O3.out rfl).fr ((Fr.refl (fun b => b = c) _).setCell (fun _ => rfl) _) (fun g e e' => by subst e'; exact own_ne O3.out B3.out (by decide) e)
    · have := Hlen.out; simp [startLI]; omega
    · intro x hx
      simp [startLI] at hx
      rcases hx with hx | rfl
      · exact K2.out.tk x hx
      · exact Hn.out
    · exact hm2.trans' hb.size (Mv.of' (w := w2) m3 (by simp)) (by omega)
    · exact ((((Fr.of_below hb _).trans' hf2 (fun _ _ e => e) (fun _ _ e => e)).trans' f23 (fun _ _ e => e) (fun i hi e => (hm2 i e).elim .inr (fun h => by omega)))).setCell (fun _ => .inl rfl) _
  · have d3 : decide (fidxI k l < 0) = false := by simpa using h3
    obtain ⟨a, cap, rfl, _⟩ := own_shape h.own
    clear h hy hyes
    go_enter Try.func21, Try.ntmps21
    go_wp2_with fail
    refine wp_region_after (by kernel_rfl) (by kernel_rfl) ?_
    repeat (go_big_quiet_step ((go_at_call 32; exact Calls.after_of (atRb k c most now _ l _ B (H.out.below (After.h _))))))
    refine wpQuiet_nil ?_
    rintro w1 ⟨⟨_, hb⟩, rfl⟩
    clear c0 c2
    go_wp2_with fail
    refine (Tail.out w1 hb).mono ?_
    rintro e w2 ⟨rfl, sv2, hk2, hm2, hf2⟩
    have b2 : w2.cell? ⟨c, 2, none⟩ = some sv2 := by have := blk_cell hk2.blk 2; simpa using this
    have hs2 := hf2.size
    have hs1 := hb.size
    have hc2 := lt_of_block hk2.blk
    have K2 := Lib.hid hk2
    clear hk2
    go_wp2_with (at_builtin; refine held ?_)
    refine unheld ?_
    refine wpList_app (B := B) (v := sv2) rfl (.tmp 38) (.tmp 42) 46 rfl 54 i0 _ 2 _ Try.underlying46 hi0 hz0 hz1 hz2 rfl (by decide) (by simp; omega) rfl rfl (K2.out.own.fr ((Fr.refl no w2).alloc _) (fun _ _ e => e)) (Rd.new rfl rfl) (by intro u hu; simp at hu; rcases hu with rfl | rfl <;> rfl) (by have := Hlen.out; unfold maxLen; omega) (by have := Hlen.out; omega) ?_
    intro v3 w3 o3 f3 m3 n3 z3
    have f23 : Fr (fun b => sv2.ownBlock = some b) w2 w3 := ((Fr.refl _ w2).alloc _).trans f3
    have b3 := f23.heap K2.out.blk (fun e => K2.out.ne e)
    have k3 : w3.cell? ⟨c, 2, none⟩ = some sv2 := by have := blk_cell b3 2; simpa using this
    have zz3 := blk_free b3 2
    obtain ⟨a3, cap3, rfl, _⟩ := own_shape o3
    have O3 := Lib.hid o3
    have B3 := Lib.hid b3
    clear o3 b3 n3
    go_wp2_with fail
    go_ret
    refine ⟨rfl, .slice a3 _ cap3, ⟨by simpa using heap_setCell_same B3.out (i := 2) (.slice a3 ((stopLI k l).length + 1) cap3), ?_, H.out.ge, ?_, hmx, ?_⟩, ?_, ?_⟩
    · exact (Own.snoc O3.out rfl).fr ((Fr.refl (fun b => b = c) _).setCell (fun _ => rfl) _) (fun g e e' => by subst e'; exact own_ne O3.out B3.out (by decide) e)
    · have := Hlen.out; simp [startLI]; omega
    · intro x hx
      simp [startLI] at hx
      rcases hx with hx | rfl
      · exact K2.out.tk x hx
      · exact Hn.out
    · exact hm2.trans' hb.size (Mv.of' (w := w2) m3 (by simp)) (by omega)
    · exact ((((Fr.of_below hb _).trans' hf2 (fun _ _ e => e) (fun _ _ e => e)).trans' f23 (fun _ _ e => e) (fun i hi e => (hm2 i e).elim .inr (fun h => by omega)))).setCell (fun _ => .inl rfl) _

theorem startR (k : Int) (n : Int) (c : Nat) (most now : Int) (sv : Value) (l : List TmI) (w : World) (B : Nat) (hB : B ≤ w.heap.size) (h : IsRef w B c most now sv l) :
    Calls Try.prog 21 #[.pointer (some ⟨c, 0, none⟩), .int .i64 k, .int .i64 n] w fun e w' => e = .returned (.bool (startOkI most k n l)) ∧ ∃ sv', IsRef w' B c most now sv' (afterStartI most k n l) ∧ Mv w sv sv' ∧ Fr (ftp c sv) w w' := by
  unfold afterStartI
  cases hs : startOkI most k n l with
  | false => exact (startNoR k n c most now sv l w B h hs).mono fun e w' ⟨he, hb⟩ => ⟨he, sv, by simpa using h.below hb, Mv.refl _ _, Fr.of_below hb _⟩
  | true => simpa using startYesR k n c most now sv l w B hB h hs

/-! ### Tick -/
structure MidR (B c : Nat) (most now : Int) (sv : Value) (l : List TmI) (j : Nat) (w : World) (v3 v4 : Value) (wr : World) : Prop where
  over : Own encKI 3 1 w.heap.size wr v3 (overLI (l.take j))
  rest : Own encI 54 2 w.heap.size wr v4 (restLI (l.take j))
  clk : IsRef wr B c most (now + 1) sv l
  fr : Fr (fun b => b = c) w wr

set_option maxHeartbeats 2000000 in
theorem tickR (c : Nat) (most now : Int) (sv : Value) (l : List TmI) (w : World) (B : Nat) (hB : B ≤ w.heap.size) (hn : 0 ≤ now ∧ now ≤ 1000000000) (h : IsRef w B c most now sv l) :
    Calls Try.prog 23 #[.pointer (some ⟨c, 0, none⟩)] w (fun e w' => ∃ ov sv', e = .returned ov ∧ Own encKI 3 1 w.heap.size w' ov (overLI l) ∧ IsRef w' B c most (now + 1) sv' (restLI l) ∧ (∀ g, sv'.ownBlock = some g → w.heap.size ≤ g) ∧ Fr (fun b => b = c) w w') := by
  obtain ⟨i0, hi0, hz0, hz1, hz2⟩ := info_parts info54
  obtain ⟨i1, hi1, hz3, hz4, hz5⟩ := info_parts info3
  obtain ⟨a, cap, rfl, hcap, hmax, ha⟩ := own_shape h.own
  have hlen : (l.length : Int) ≤ 100000 := by have := h.small; have := h.mx; omega
  have hc := lt_of_block h.blk
  have c1 : w.cell? ⟨c, 1, none⟩ = some (.int .i64 now) := by have := blk_cell h.blk 1; simpa using this
  have c2 : w.cell? ⟨c, 2, none⟩ = some (.slice a l.length cap) := by have := blk_cell h.blk 2; simpa using this
  have z1 := blk_free h.blk 1
  have hneq : ∀ g, (Value.slice a l.length cap).ownBlock = some g → ¬ g = c := fun g e e' => h.ne (by rw [e, e'])
  have start : MidR B c most now (.slice a l.length cap) l 0 w (.slice none 0 0) (.slice none 0 0) (w.setCell ⟨c, 1, none⟩ (.int .i64 (now + 1))) := by
    have f0 : Fr (fun b => b = c) w (w.setCell ⟨c, 1, none⟩ (.int .i64 (now + 1))) := (Fr.refl (fun b => b = c) w).setCell (fun _ => rfl) _
    exact ⟨Own.nil _ _ _ _ _, Own.nil _ _ _ _ _, ⟨by simpa using heap_setCell_same h.blk (i := 1) (.int .i64 (now + 1)), h.own.fr f0 hneq, h.ge, h.small, h.mx, h.tk⟩, f0⟩
  have Start := Lib.hid start
  have Ha := Lib.hid ha
  have H := Lib.hid h
  clear h start ha hneq hcap hmax
  go_enter Try.func23, Try.ntmps23
  go_wp2_with fail
  go_loopw [3, 4, 5] (fun v3 v4 v5 wr => ∃ j : Nat, j ≤ l.length ∧ v5 = .int .i64 j ∧ MidR B c most now (.slice a l.length cap) l j w v3 v4 wr) (fun _ _ v _ => l.length - (intOf v).toNat)
  case atStart => exact ⟨0, by omega, rfl, Start.out⟩
  case round =>
    obtain ⟨j, hj, rfl, hm⟩ := hrel
    have hsz := hm.fr.size
    have M := Lib.hid hm
    clear hm
    by_cases hlt : j < l.length
    · obtain ⟨g, rfl, hg⟩ := Ha.out (by omega)
      have ht : l.take (j + 1) = l.take j ++ [l[j]] := List.take_succ_eq_append_getElem hlt
      have hk := H.out.tk l[j] (List.getElem_mem hlt)
      have hx0 : wr.cell? ⟨g, j * 2, none⟩ = some (.int .i64 l[j].1) := M.out.clk.own.cell' encI_len (Below.refl _ _) j 0 hlt (by omega)
      have hx1 : wr.cell? ⟨g, j * 2 + 1, none⟩ = some (.int .i64 l[j].2) := M.out.clk.own.cell' encI_len (Below.refl _ _) j 1 hlt (by omega)
      have hgr : g < wr.heap.size := by omega
      have c2' : wr.cell? ⟨c, 2, none⟩ = some (.slice (some ⟨g, 0, none⟩) l.length cap) := by have := blk_cell M.out.clk.blk 2; simpa using this
      have hol := overLI_le (l.take j)
      have hrl := restLI_le (l.take j)
      have htl : (l.take j).length ≤ l.length := by rw [List.length_take]; omega
      cases hx : (l[j].2 == 1) with
      | true =>
        have hx2 : (l[j].2 - 1 == 0) = true := by simp at hx ⊢; omega
        have Hov : Hid (overLI (l.take (j + 1)) = overLI (l.take j) ++ [l[j].1]) := by rw [ht, overLI_snoc, hx]; rfl
        have Hre : Hid (restLI (l.take (j + 1)) = restLI (l.take j)) := by rw [ht, restLI_snoc, hx]; rfl
        clear ht
        go_wp2_with (at_builtin; refine held ?_)
        refine unheld ?_
        refine wpList_app (B := w.heap.size) (v := u3) rfl (.tmp 37) (.tmp 40) 36 rfl 3 i1 _ 1 _ Try.underlying36 hi1 hz3 hz4 hz5 rfl (by decide) (by simp; omega) rfl rfl (M.out.over.fr (((Fr.refl no wr).alloc _).alloc _) (fun _ _ e => e)) (Rd.new (by simp) rfl) (by intro u hu; simp at hu; subst hu; rfl) (by unfold maxLen; omega) (by omega) ?_
        intro v5 w5 o5 f5 m5 n5 z5
        have f25 : Fr (fun b => u3.ownBlock = some b) wr w5 := (((Fr.refl _ wr).alloc _).alloc _).trans f5
        have fin : MidR B c most now (.slice (some ⟨g, 0, none⟩) l.length cap) l (j + 1) w v5 u4 w5 := by
          refine ⟨?_, ?_, ?_, ?_⟩
          · rw [Hov.out]; exact Own.snoc o5 rfl
          · rw [Hre.out]; exact M.out.rest.fr f25 (fun g' e => own_sep M.out.rest M.out.over (by decide) e)
          · exact M.out.clk.fr f25 (fun e => own_ne M.out.over M.out.clk.blk (by decide) e) (fun g' e => own_sep M.out.clk.own M.out.over (by decide) e)
          · exact M.out.fr.trans' f25 (fun _ _ e => e) (fun i hi e => absurd (M.out.over.lt i e).1 (by omega))
        have Fin := Lib.hid fin
        clear fin n5 m5 o5
        go_wp2_with fail
        go_roundw
        case rel => exact ⟨j + 1, by omega, by go_num, Fin.out⟩
        case measure => simp [intOf]; omega
      | false =>
        have hx2 : (l[j].2 - 1 == 0) = false := by simp at hx ⊢; omega
        have Hov : Hid (overLI (l.take (j + 1)) = overLI (l.take j)) := by rw [ht, overLI_snoc, hx]; rfl
        have Hre : Hid (restLI (l.take (j + 1)) = restLI (l.take j) ++ [(l[j].1, l[j].2 - 1)]) := by rw [ht, restLI_snoc, hx]; rfl
        clear ht
        go_wp2_with (at_builtin; refine held ?_)
        refine unheld ?_
        refine wpList_app (B := w.heap.size) (v := u4) rfl (.tmp 42) (.tmp 44) 46 rfl 54 i0 _ 2 _ Try.underlying46 hi0 hz0 hz1 hz2 rfl (by decide) (by simp; omega) rfl rfl (M.out.rest.fr (((Fr.refl no wr).alloc _).alloc _) (fun _ _ e => e)) (Rd.new (by simp) rfl) (by intro u hu; simp at hu; rcases hu with rfl | rfl <;> rfl) (by unfold maxLen; omega) (by omega) ?_
        intro v5 w5 o5 f5 m5 n5 z5
        have f25 : Fr (fun b => u4.ownBlock = some b) wr w5 := (((Fr.refl _ wr).alloc _).alloc _).trans f5
        have hnc : ∀ g', (Value.slice (some ⟨g, 0, none⟩) l.length cap).ownBlock = some g' → ¬ u4.ownBlock = some g' := fun g' e e' => by
          simp [Value.ownBlock] at e; subst e; have := (M.out.rest.lt _ e').1; omega
        have fin : MidR B c most now (.slice (some ⟨g, 0, none⟩) l.length cap) l (j + 1) w u3 v5 w5 := by
          refine ⟨?_, ?_, ?_, ?_⟩
          · rw [Hov.out]; exact M.out.over.fr f25 (fun g' e => own_sep M.out.over M.out.rest (by decide) e)
          · rw [Hre.out]; exact Own.snoc o5 rfl
          · exact M.out.clk.fr f25 (fun e => own_ne M.out.rest M.out.clk.blk (by decide) e) hnc
          · exact M.out.fr.trans' f25 (fun _ _ e => e) (fun i hi e => absurd (M.out.rest.lt i e).1 (by omega))
        have Fin := Lib.hid fin
        clear fin n5 m5 o5 hnc
        go_wp2_with fail
        go_roundw
        case rel => exact ⟨j + 1, by omega, by go_num, Fin.out⟩
        case measure => simp [intOf]; omega
    · have ht : l.take j = l := List.take_of_length_le (by omega)
      have c2' : wr.cell? ⟨c, 2, none⟩ = some (.slice a l.length cap) := by have := blk_cell M.out.clk.blk 2; simpa using this
      have zz := blk_free M.out.clk.blk 2
      have hcr : c < wr.heap.size := by omega
      obtain ⟨a4, cap4, rfl, _⟩ := own_shape M.out.rest
      have Ht := Lib.hid ht
      clear ht
      go_wp2_with fail
      go_ret
      have M' := M.out
      have f6 : Fr (fun b => b = c) wr (wr.setCell ⟨c, 2, none⟩ (.slice a4 (restLI (l.take j)).length cap4)) := (Fr.refl (fun b => b = c) wr).setCell (fun _ => rfl) _
      have hsm := M'.clk.small
      have hrl := restLI_le l
      refine ⟨u3, .slice a4 (restLI (l.take j)).length cap4, rfl, ?_, ⟨?_, ?_, M'.clk.ge, by omega, M'.clk.mx, ?_⟩, fun g hg => (M'.rest.lt g hg).1, M'.fr.trans f6⟩
      · have := M'.over
        rw [Ht.out] at this
        exact this.fr f6 (fun g e (e' : g = c) => by subst e'; exact own_ne M'.over M'.clk.blk (by decide) e)
      · simpa using heap_setCell_same M'.clk.blk (i := 2) (.slice a4 (restLI (l.take j)).length cap4)
      · have := M'.rest
        rw [Ht.out] at this f6 ⊢
        exact own_base (own_zero (this.fr f6 (fun g e (e' : g = c) => by subst e'; exact own_ne this M'.clk.blk (by decide) e))) (fun g hg => by have := (this.lt g hg).1; omega)
      · intro x hx
        simp only [restLI, List.mem_map, List.mem_filter] at hx
        obtain ⟨y, ⟨hy, hy1⟩, rfl⟩ := hx
        have := M'.clk.tk y hy
        simp at hy1
        simp only []
        omega

end Go.Proofs.Ytidcjbfppdhghaa
