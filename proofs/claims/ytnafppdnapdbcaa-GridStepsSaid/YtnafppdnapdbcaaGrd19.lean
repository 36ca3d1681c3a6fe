/-
  Layer 15: GridSteps: the walk.
-/
import Derived.Test.YtnafppdnapdbcaaGrd13
import Derived.Deep.DeepCutAuto
import Derived.Deep.CutBlock
namespace Go.Proofs.Ytnafppdnapdbcaa
open Go.RowKit


/-- A step far out: no row, told by value. -/
theorem stepFar (s : Nat) (e : Int) (hs : s < 14) (he : e < 0 ∨ 34 ≤ e) (w : World) : Calls Try.prog 11 #[.int .i64 s, .int .i64 e] w fun x w' => x = .returned (.agg #[.slice none 0 0, .int .i64 s, .bool false]) ∧ Below w.heap.size w w' := by
  have e1 : decide ((s : Int) < 0) = false := by simp
  have e2 : decide (14 ≤ (s : Int)) = false := by simp; omega
  rcases he with h | h
  · have e3 : decide (e < 0) = true := by simpa using h
    go_enter Try.func11, Try.ntmps11
    go_wp2_with fail
    refine bodyPost_ret (v := .agg #[.slice none 0 0, .int .i64 s, .bool false]) (by simp [results, Try.results11, go_sem]) rfl ?_
    exact ⟨rfl, (Below.refl _ w).alloc (Nat.le_refl _) _⟩
  · have e3 : decide (e < 0) = false := by simp; omega
    have e4 : decide (34 ≤ e) = true := by simpa using h
    go_enter Try.func11, Try.ntmps11
    go_wp2_with fail
    refine bodyPost_ret (v := .agg #[.slice none 0 0, .int .i64 s, .bool false]) (by simp [results, Try.results11, go_sem]) rfl ?_
    exact ⟨rfl, (Below.refl _ w).alloc (Nat.le_refl _) _⟩

set_option maxRecDepth 100000 in
set_option maxHeartbeats 16000000 in
theorem stepsL (s0 e0 : Int) (w : World) : Calls Try.prog 4 #[.int .i64 s0, .int .i64 e0] w fun x w' => x = .returned (.bool true) ∧ Below w.heap.size w w' := by
  go_enter Try.func4, Try.ntmps4
  go_wp2_with fail
  refine (awake w).mono ?_
  rintro x w0 ⟨rfl, hb0⟩
  go_wp2_with fail
  refine (rows w0).mono ?_
  rintro x w1 ⟨t, N, rfl, t1, hb1⟩
  obtain ⟨g, cap, r, rfl, h1, h2, h3, h4, h5⟩ := t1.ex
  have h2' : cap ≤ 9223372036854775807 := by unfold maxLen at h2; omega
  have H3 := Lib.hid h3
  have H5 := Lib.hid h5
  have HB1 : Hid (Below w.heap.size w w1) := hb0.trans (hb1.mono hb0.size)
  clear h3 h4 h5 t1 hb0 hb1
  go_wp2_with fail
  go_loopw [6] (fun v6 wr => ∃ s : Nat, s ≤ 14 ∧ v6 = .int .i64 s ∧ Hid (Below w1.heap.size w1 wr)) (fun v _ => 14 - (intOf v).toNat)
  case atStart => exact ⟨0, by omega, rfl, Below.refl _ _⟩
  case round =>
    obtain ⟨s, hs, rfl, Hw⟩ := hrel
    by_cases hlt : s < 14
    · have hd1 : decide ((s : Int) < 14) = true := by simp; omega
      have c1 := cell_on (H3.out s hlt).1 Hw.out
      obtain ⟨wo, rfl⟩ : ∃ wo : World, wo = wr := ⟨_, rfl⟩
      go_wp2_with fail
      go_loopw [7] (fun v7 wq => ∃ e : Int, -1 ≤ e ∧ e ≤ 35 ∧ v7 = .int .i64 e ∧ Hid (Below w1.heap.size w1 wq)) (fun v _ => (35 - intOf v).toNat)
      case atStart => exact ⟨-1, by omega, by omega, rfl, Hw⟩
      case round =>
        clear c1
        obtain ⟨e, he1, he2, rfl, Hq⟩ := hrel
        obtain ⟨wq, rfl⟩ : ∃ wo : World, wo = wr := ⟨_, rfl⟩
        by_cases hle : e ≤ 34
        · obtain ⟨d, n, k, hd, hl⟩ := refG_parts s e
          have Hd := Lib.hid hd
          have Hl := Lib.hid hl
          clear hd hl
          go_wp2_with fail
          refine (refStep_at s e d n k Hd.out _).mono ?_
          rintro x w4 ⟨a4, c4, rfl, r4, b4⟩
          have B4 := Lib.hid b4
          clear b4
          go_upto_region 15 with fail
          obtain ⟨b8, hb8⟩ : ∃ b, b = w4.heap.size := ⟨_, rfl⟩
          obtain ⟨W8, hW8⟩ : ∃ x, x = w4.alloc (.cells #[.slice a4 d.length c4, .int .i64 n, .bool k] 30) := ⟨_, rfl⟩
          have z0 : W8.cell? ⟨b8, 0, none⟩ = some (.slice a4 d.length c4) := by subst hW8 hb8; exact blk_cell (heap_alloc_new' w4 _) 0
          have z1 : W8.cell? ⟨b8, 1, none⟩ = some (.int .i64 n) := by subst hW8 hb8; exact blk_cell (heap_alloc_new' w4 _) 1
          have z2 : W8.cell? ⟨b8, 2, none⟩ = some (.bool k) := by subst hW8 hb8; exact blk_cell (heap_alloc_new' w4 _) 2
          have R8 : Hid (RdN 0 W8 (.slice a4 d.length c4) d) := by subst hW8; exact (r4.out.later _).mono (Nat.zero_le _)
          have B8 : Hid (Below w1.heap.size w1 W8) := by subst hW8; exact (Hq.out.trans (B4.out.mono Hq.out.size)).alloc (Nat.le_trans Hq.out.size B4.out.size) _
          rw [← hW8, ← hb8]
          clear hW8 hb8 r4 B4
          by_cases hin : 0 ≤ e ∧ e < 34
          · obtain ⟨en, rfl⟩ : ∃ m : Nat, e = m := ⟨e.toNat, by omega⟩
            have hen : en < 34 := by omega
            have y0 := cell_on (H3.out s hlt).1 B8.out
            obtain ⟨v, k1, k2, k3, k4⟩ := (H5.out s en hlt hen).ex
            have hg : gridT s en = (d, n, k) := (gridRef hlt hen).trans Hd.out
            rw [hg] at k1 k3 k4
            obtain ⟨va, vc, rfl⟩ := k1.rd.len
            have K1 := Lib.hid (k1.below B8.out)
            have y1 := cell_on k2.1 B8.out
            have y2 := cell_on k3.1 B8.out
            have y3 := cell_on k4.1 B8.out
            have g1 : decide (0 ≤ (en : Int)) = true := by simp
            have g2 : decide ((en : Int) < 34) = true := by simp; omega
            have i1 : (0 : Int) ≤ (s : Int) := by omega
            have i2 : (s : Int) < 14 := by omega
            have i3 : (0 : Int) ≤ (en : Int) := by omega
            have i4 : (en : Int) < 34 := by omega
            clear k1 k2 k3 k4 hg hin
            first
            | (go_region_held3 (fun w' => w'.cell? ⟨b8, 0, none⟩ = some (.slice a4 d.length c4) ∧ w'.cell? ⟨b8, 1, none⟩ = some (.int .i64 n) ∧ w'.cell? ⟨b8, 2, none⟩ = some (.bool k) ∧ w'.cell? ⟨g, s, none⟩ = some (.slice (some ⟨r s, 0, none⟩) 34 34) ∧ w'.cell? ⟨r s, en * 3, none⟩ = some (.slice va d.length vc) ∧ w'.cell? ⟨r s, en * 3 + 1, none⟩ = some (.int .i64 n) ∧ w'.cell? ⟨r s, en * 3 + 2, none⟩ = some (.bool k) ∧ Below W8.heap.size W8 w')
                (first | exact ⟨z0, z1, z2, y0, y1, y2, y3, (Below.refl _ W8).drew⟩ | exact keep8 (by assumption) hbb | assumption)
                (first
                  | (go_at_call 11; refine (step_at s en d n k Hd.out _).mono ?_; rintro x w5 ⟨a5, c5, rfl, r5, hbb⟩)
                  | (go_at_call 15; refine (model _ _ _ _ _ _).mono ?_; rintro x w6 ⟨rfl, hbb⟩)
                  | (go_at_call 14; refine (sameEq _ _ d n k _ _ _ (r5.out.below hbb) (R8.out.below (bel8 (by assumption))) Hl.out).mono ?_; rintro x w7 ⟨rfl, hbb⟩)
                  | (go_at_call 14; refine (sameEq _ _ d n k _ _ _ (K1.out.below (bel8 (by assumption))) (R8.out.below (bel8 (by assumption))) Hl.out).mono ?_; rintro x w7 ⟨rfl, hbb⟩)
                        | fail))
            | fail "region"
            all_goals
              have fin : Hid (Below w1.heap.size w1 _) := B8.out.trans ((bel8 (by assumption) : Below W8.heap.size W8 _).mono B8.out.size)
              clear z0 z1 z2 y0 y1 y2 y3
              go_wp2_with fail
              go_roundw
              case rel => exact ⟨en + 1, by omega, by omega, by go_num, fin⟩
              case measure => simp [intOf]; omega
          · rcases (show e = -1 ∨ e = 34 by omega) with rfl | rfl
            · clear hin
              have hz := Hd.out.symm.trans (refG_far (e := (-1)) (by decide) s)
              injection hz with hz1 hz2
              injection hz2 with hz2 hz3
              subst hz1 hz2 hz3
              simp only [List.length_nil] at z0
              have c0 : ∀ p : After W8, p.w'.cell? ⟨b8, 0, none⟩ = some (.slice a4 0 c4) := fun p => p.cell z0
              have c1 : ∀ p : After W8, p.w'.cell? ⟨b8, 1, none⟩ = some (.int .i64 s) := fun p => p.cell z1
              have c2 : ∀ p : After W8, p.w'.cell? ⟨b8, 2, none⟩ = some (.bool false) := fun p => p.cell z2
              clear z0 z1 z2
              refine wp_region_after (by kernel_rfl) (by kernel_rfl) ?_
              repeat (go_big_quiet_step ((first
                | (go_at_call 11; exact Calls.after_of (stepFar s (-1) hlt (by decide) _))
                | (go_at_call 15; exact Calls.after_of (model _ _ _ _ _ _))
                | (go_at_call 14; exact Calls.after_of (sameEq (.slice none 0 0) (.slice a4 0 c4) [] s false _ 0 0 (RdN.nil _ _) (R8.out.below (After.h _)) (by decide)))
                | fail)))
              refine wpQuiet_nil ?_
              rintro w1' ⟨⟨_, hb⟩, rfl⟩
              have fin : Hid (Below w1.heap.size w1 _) := B8.out.trans (hb.mono B8.out.size)
              clear c0 c1 c2 hb
              go_wp2_with fail
              go_roundw
              case rel => exact ⟨0, by decide, by decide, rfl, fin⟩
              case measure => simp [intOf]
            · clear hin
              have hz := Hd.out.symm.trans (refG_far (e := 34) (by decide) s)
              injection hz with hz1 hz2
              injection hz2 with hz2 hz3
              subst hz1 hz2 hz3
              simp only [List.length_nil] at z0
              have c0 : ∀ p : After W8, p.w'.cell? ⟨b8, 0, none⟩ = some (.slice a4 0 c4) := fun p => p.cell z0
              have c1 : ∀ p : After W8, p.w'.cell? ⟨b8, 1, none⟩ = some (.int .i64 s) := fun p => p.cell z1
              have c2 : ∀ p : After W8, p.w'.cell? ⟨b8, 2, none⟩ = some (.bool false) := fun p => p.cell z2
              clear z0 z1 z2
              refine wp_region_after (by kernel_rfl) (by kernel_rfl) ?_
              repeat (go_big_quiet_step ((first
                | (go_at_call 11; exact Calls.after_of (stepFar s 34 hlt (by decide) _))
                | (go_at_call 15; exact Calls.after_of (model _ _ _ _ _ _))
                | (go_at_call 14; exact Calls.after_of (sameEq (.slice none 0 0) (.slice a4 0 c4) [] s false _ 0 0 (RdN.nil _ _) (R8.out.below (After.h _)) (by decide)))
                | fail)))
              refine wpQuiet_nil ?_
              rintro w1' ⟨⟨_, hb⟩, rfl⟩
              have fin : Hid (Below w1.heap.size w1 _) := B8.out.trans (hb.mono B8.out.size)
              clear c0 c1 c2 hb
              go_wp2_with fail
              go_roundw
              case rel => exact ⟨35, by decide, by decide, rfl, fin⟩
              case measure => simp [intOf]
        · obtain rfl : e = 35 := by omega
          go_wp2_with fail
          go_roundw
          case rel => exact ⟨s + 1, by omega, by go_num, Hq⟩
          case measure => simp [intOf]; omega
    · obtain rfl : s = 14 := by omega
      have hd1 : decide ((14 : Int) < 14) = false := by decide
      obtain ⟨d, n, k, hd, hl⟩ := refG_parts s0 e0
      have Hd := Lib.hid hd
      have Hl := Lib.hid hl
      clear hd hl
      go_wp2_with fail
      refine (step_at s0 e0 d n k Hd.out _).mono ?_
      rintro x w5 ⟨a5, c5, rfl, r5, b5⟩
      have B5 := Lib.hid b5
      clear b5
      go_wp2_with fail
      refine (model _ _ _ _ _ _).mono ?_
      rintro x w6 ⟨rfl, b6⟩
      have R6 := Lib.hid (r5.out.below b6)
      have B6 := Lib.hid b6
      clear b6 r5
      go_wp2_with fail
      refine (refStep_at s0 e0 d n k Hd.out _).mono ?_
      rintro x w7 ⟨a7, c7, rfl, r7, b7⟩
      have R7 := Lib.hid (R6.out.below b7)
      have B7 := Lib.hid b7
      clear b7
      go_wp2_with fail
      refine (sameEq _ _ d n k _ _ _ R7.out r7.out Hl.out).mono ?_
      rintro x w8 ⟨rfl, b8⟩
      have B8 : Hid (Below w.heap.size w w8) := by
        have s1 := HB1.out.size
        have s2 := Hw.out.size
        have s3 := B5.out.size
        have s4 := B6.out.size
        have s5 := B7.out.size
        exact ((((HB1.out.trans (Hw.out.mono s1)).trans (B5.out.mono (by omega))).trans (B6.out.mono (by omega))).trans (B7.out.mono (by omega))).trans (b8.mono (by omega))
      clear b8
      go_wp2_with fail
      go_ret
      exact ⟨rfl, B8.out⟩
end Go.Proofs.Ytnafppdnapdbcaa
