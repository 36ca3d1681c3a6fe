/-
  Layer 5: LanAges: the walk.
-/
import Derived.Test.YteihpaikdpdglaaL5G
import Derived.Test.YteihpaikdpdglaaL5A
namespace Go.Proofs.Yteihpaikdpdglaa
open Go.RowKit
set_option linter.unusedVariables false


/-- Two stations, and what goes from the one to the other one. -/
abbrev one4 (l : FlA) (lost : Int) : LS := ([[], l, [], []], lost)
theorem lo0 : (0 : Int) ≤ 0 ∧ (0 : Int) ≤ 1000000000 := by decide
theorem rix201 : rix 2 0 1 = some 1 := by decide
theorem old4 (life : Int) (l : FlA) (lost : Int) : oldP life (one4 l lost) = (((l.length : Int) - ((agedP life l).length : Int)), one4 (agedP life l) (lost + ((l.length : Int) - ((agedP life l).length : Int)))) := by
  simp [oldP, gonesP, agedP]
theorem send4 (most : Int) (b : List Int) (l : FlA) (lost : Int) (h : (l.length : Int) < most) : sendP 2 most 0 1 b (one4 l lost) = (true, one4 (l ++ [(b, 0)]) lost) := by
  simp [sendP, rix201, h]
theorem twice4 (most : Int) (p : List Int × Int) (l : FlA) (lost : Int) (h : ((p :: l).length : Int) < most) : twiceP 2 most 0 1 (one4 (p :: l) lost) = (true, one4 (p :: p :: l) lost) := by
  simp only [twiceP, rix201, rowAt, List.getD_cons_succ, List.getD_cons_zero, if_pos h, List.set_cons_succ, List.set_cons_zero]
theorem row4 (l : FlA) (lost : Int) : rowP 2 0 1 (one4 l lost) = l := by simp [rowP, rix201]
/-- c copies of the first, and the second. -/
def agR (c : Nat) (x y : Int) : FlA := List.replicate c ([1], x) ++ [([2], y)]
theorem aged_rep (life : Int) (b : List Int) (x : Int) : ∀ c, agedP life (List.replicate c (b, x)) = if x + 1 ≤ life then List.replicate c (b, x + 1) else []
  | 0 => by simp [agedP]
  | c + 1 => by
    have ih := aged_rep life b x c
    unfold agedP at ih ⊢
    rw [List.replicate_succ, List.map_cons, List.filter_cons]
    by_cases h : x + 1 ≤ life
    · rw [if_pos h] at ih ⊢; simp only [h, decide_true, if_true]; rw [ih, List.replicate_succ]
    · rw [if_neg h] at ih ⊢; simp only [h, decide_false]; rw [ih]; rfl
theorem aged_app (life : Int) (a b : FlA) : agedP life (a ++ b) = agedP life a ++ agedP life b := by unfold agedP; rw [List.map_append, List.filter_append]
theorem aged_agR (life : Int) (c : Nat) (x y : Int) : agedP life (agR c x y) = (if x + 1 ≤ life then List.replicate c ([1], x + 1) else []) ++ (if y + 1 ≤ life then [([2], y + 1)] else []) := by
  unfold agR
  rw [aged_app, aged_rep]
  congr 1
  have := aged_rep life [2] y 1
  simpa using this

set_option maxRecDepth 100000 in
set_option maxHeartbeats 8000000 in
theorem agesL (a0 a1 : Int) (h0 : 0 ≤ a0 ∧ a0 ≤ 255) (h1 : 0 ≤ a1 ∧ a1 ≤ 255) (tw : Bool) (w : World) : Calls Try.prog 7 #[.int .u8 a0, .int .u8 a1, .bool tw] w fun e w' => e = .returned (.bool true) ∧ Below w.heap.size w w' := by
  obtain ⟨N, hN, hN1, hN2⟩ : ∃ N : Nat, 1 + a0 % 50 = (N : Int) ∧ 1 ≤ N ∧ N ≤ 50 := ⟨(1 + a0 % 50).toNat, by omega, by omega, by omega⟩
  have hc0 : IntKind.i64.wrap a0 = a0 := IntWalk.i64_in _ (by omega)
  have hc1 : IntKind.i64.wrap a1 = a1 := IntWalk.i64_in _ (by omega)
  obtain ⟨K, hK, hK1⟩ : ∃ K : Nat, a1 % ((N : Int) + 1) = (K : Int) ∧ K ≤ N := by
    have h2 := Int.emod_nonneg a1 (b := (N : Int) + 1) (by omega)
    have h3 := Int.emod_lt_of_pos a1 (b := (N : Int) + 1) (by omega)
    exact ⟨(a1 % ((N : Int) + 1)).toNat, by omega, by omega⟩
  go_enter Try.func7, Try.ntmps7
  go_wp2_with fail
  refine (awake w).mono ?_
  rintro e w0 ⟨rfl, b0⟩
  have B0 := Lib.hid b0
  clear b0
  go_wp2_with fail
  refine (gnew 2 4 (N : Int) (by decide) (by decide) ⟨by omega, by omega⟩ (Below.refl _ w0)).mono ?_
  rintro e w1 ⟨t, rfl, g1, _⟩
  have G1 : Hid (GX w0 w1 [] t 2 N 4 (one4 [] 0)) := g1
  clear g1
  go_wp2_with fail
  have g2 := G1.out.below ((Below.refl _ w1).alloc (Nat.le_refl _) (.cells #[.int .u8 1] 5))
  have c2 := gsend g2 _ [1] (rdNew w1 1) (by decide) (by decide) (by decide) 0 1
  rw [send4 4 [1] [] 0 (by decide)] at c2
  have C2 := Lib.hid c2
  clear g2 c2
  refine C2.out.mono ?_
  rintro e w2 ⟨rfl, g2⟩
  have G2 : Hid (GX w0 w2 [] t 2 N 4 (one4 (List.replicate 1 ([1], ((0 : Nat) : Int))) 0)) := g2
  clear g2 C2
  go_wp2_with fail
  --REST
  rw [hK]
  go_loopg [11] K (fun g s11 wx => ∃ j : Nat, j ≤ K ∧ s11 = .int .i64 j ∧ g = K - j ∧ Hid (GX w0 wx [] t 2 N 4 (one4 (List.replicate 1 ([1], (j : Int))) 0)))
  case atStart => exact ⟨0, Nat.zero_le _, rfl, rfl, G2⟩
  case round =>
    obtain ⟨j, hj, rfl, rfl, HX⟩ := hrel
    by_cases hlt : j < K
    · have hdl : decide ((j : Int) < (K : Int)) = true := decide_eq_true (by omega)
      have hdn : decide (j < K) = true := decide_eq_true hlt
      have c3 := gage HX.out lo0
      rw [old4, aged_rep, if_pos (show (j : Int) + 1 ≤ (N : Int) by omega)] at c3
      simp only [List.length_replicate, Int.sub_self, Int.add_zero] at c3
      have C3 := Lib.hid c3
      clear c3
      go_wp2_with fail
      refine C3.out.mono ?_
      rintro e w3 ⟨rfl, g3⟩
      have G3 := Lib.hid g3
      clear g3 C3
      go_wp2_with fail
      go_roundg (K - (j + 1))
      case measure => omega
      case rel => exact ⟨j + 1, by omega, by go_num, rfl, by simpa using G3⟩
    obtain rfl : j = K := by omega
    have hdl : decide ((j : Int) < (j : Int)) = false := by simp
    have G4 := Lib.hid HX.out
    clear HX hlt
    cases tw with
    | true =>
      have c5 := gtwice G4.out 0 1
      rw [show List.replicate 1 (([1] : List Int), (j : Int)) = [([1], (j : Int))] from rfl, twice4 4 _ [] 0 (by simp)] at c5
      have C5 := Lib.hid c5
      clear c5
      go_wp2_with fail
      refine C5.out.mono ?_
      rintro e w5 ⟨rfl, g5⟩
      have G5 : Hid (GX w0 w5 [] t 2 N 4 (one4 (List.replicate 2 ([1], (j : Int))) 0)) := g5
      clear g5 C5
      go_wp2_with fail
      have g6 := G5.out.below ((Below.refl _ w5).alloc (Nat.le_refl _) (.cells #[.int .u8 2] 5))
      have c6 := gsend g6 _ [2] (rdNew w5 2) (by decide) (by decide) lo0 0 1
      rw [send4 4 [2] _ 0 (by simp)] at c6
      have C6 := Lib.hid c6
      clear g6 c6
      refine C6.out.mono ?_
      rintro e w6 ⟨rfl, g6⟩
      have G6 : Hid (GX w0 w6 [] t 2 N 4 (one4 (agR 2 (j : Int) ((j : Int) - (j : Int))) 0)) := by unfold Hid; rw [Int.sub_self]; exact g6
      clear g6 C6
      go_wp2_with fail
      go_loopg [13] (N - j) (fun g s13 wx => ∃ i : Nat, j ≤ i ∧ i ≤ N ∧ s13 = .int .i64 i ∧ g = N - i ∧ Hid (GX w0 wx [] t 2 N 4 (one4 (agR 2 (i : Int) ((i : Int) - (j : Int))) 0)))
      case atStart => exact ⟨j, Nat.le_refl _, hK1, rfl, rfl, G6⟩
      case round =>
        obtain ⟨i, hi1, hi2, rfl, rfl, HX⟩ := hrel
        by_cases hlt : i < N
        · have hdl2 : decide ((i : Int) < (N : Int)) = true := decide_eq_true (by omega)
          have hdn2 : decide (i < N) = true := decide_eq_true hlt
          have c7 := gage HX.out lo0
          rw [old4, aged_agR, if_pos (show (i : Int) + 1 ≤ (N : Int) by omega), if_pos (show (i : Int) - (j : Int) + 1 ≤ (N : Int) by omega)] at c7
          have hl7 : ((agR 2 (i : Int) ((i : Int) - (j : Int))).length : Int) - ((List.replicate 2 (([1] : List Int), (i : Int) + 1) ++ [([2], (i : Int) - (j : Int) + 1)]).length : Int) = 0 := by simp [agR]
          rw [hl7, Int.add_zero] at c7
          have C7 := Lib.hid c7
          clear c7 hl7
          go_wp2_with fail
          refine C7.out.mono ?_
          rintro e w7 ⟨rfl, g7⟩
          have G7 : Hid (GX w0 w7 [] t 2 N 4 (one4 (agR 2 ((i + 1 : Nat) : Int) (((i + 1 : Nat) : Int) - (j : Int))) 0)) := by
            unfold Hid
            rw [show ((i + 1 : Nat) : Int) - (j : Int) = (i : Int) - (j : Int) + 1 by omega]
            exact g7
          clear g7 C7
          go_wp2_with fail
          go_roundg (N - (i + 1))
          case measure => omega
          case rel => exact ⟨i + 1, by omega, by omega, by go_num, rfl, G7⟩
        obtain rfl : i = N := by omega
        have hdl2 : decide ((i : Int) < (i : Int)) = false := by simp
        have c8 := gage HX.out lo0
        rw [old4, aged_agR, if_neg (show ¬ (i : Int) + 1 ≤ (i : Int) by omega)] at c8
        have hw9 : wrap64 ((i : Int) - (j : Int)) = (i : Int) - (j : Int) := IntWalk.wrap64_in _ (by omega)
        have hw9b : wrap64 ((i : Int) - (j : Int) + 1) = (i : Int) - (j : Int) + 1 := IntWalk.wrap64_in _ (by omega)
        by_cases hk0 : 1 ≤ j
        · rw [if_pos (show (i : Int) - (j : Int) + 1 ≤ (i : Int) by omega)] at c8
          have hl8 : ((agR 2 (i : Int) ((i : Int) - (j : Int))).length : Int) - ((([] : FlA) ++ [(([2] : List Int), (i : Int) - (j : Int) + 1)]).length : Int) = 2 := by simp [agR]
          rw [hl8] at c8
          have C8 := Lib.hid c8
          have hgt : decide ((i : Int) < (i : Int) - (j : Int) + 1) = false := decide_eq_false (by omega)
          clear c8 hl8 HX
          go_wp2_with fail
          refine C8.out.mono ?_
          rintro e w8 ⟨rfl, g8⟩
          have G8 : Hid (GX w0 w8 [] t 2 i 4 (one4 ([(([2] : List Int), (i : Int) - (j : Int) + 1)]) 2)) := g8
          clear g8 C8
          go_wp2_with fail
          refine (grow' G8.out 0 1).mono ?_
          rintro e w9 ⟨ov, fo, rfl, ho, ha, g9⟩
          rw [row4] at ha
          have G9 := Lib.hid g9
          clear g9
          match fo, ha with
          | [], ha => exact ha.elim
          | _ :: _ :: _, ha => exact ha.2.elim
          | [⟨fa, fn, fc, fg⟩], ha =>
            obtain ⟨g, cap, rfl, hg, _⟩ := own_some ho (by simp)
            have hfg : fg = (i : Int) - (j : Int) + 1 := ha.1.2
            have y0 : w9.cell? ⟨g, 0, none⟩ = some (.slice fa fn fc) := ho.cell enF_len 0 0 (by simp) (by decide)
            have y1 : w9.cell? ⟨g, 1, none⟩ = some (.int .i64 fg) := ho.cell enF_len 0 1 (by simp) (by decide)
            have HR := Lib.hid ha.1.1.rd
            obtain ⟨d, hd⟩ : ∃ d : Int, d = (i : Int) - (j : Int) + 1 := ⟨_, rfl⟩
            rw [← hd] at hw9b hgt hfg
            subst hfg
            clear ha ho
            rw [show ([⟨fa, fn, fc, fg⟩] : List Fl).length = 1 from rfl]
            go_wp2_with fail
            refine (glost G9.out).mono ?_
            rintro e w' ⟨rfl, hw'⟩
            obtain rfl := hw'.symm
            clear hw'
            go_wp2_with fail
            have G10 := Lib.hid (G9.out.below ((Below.refl _ w9).alloc (Nat.le_refl _) (.cells #[.int .u8 2] 5)))
            have y1b : (w9.alloc (.cells #[.int .u8 2] 5)).cell? ⟨g, 1, none⟩ = some (.int .i64 fg) := cellOn' y1 ((Below.refl _ w9).alloc (Nat.le_refl _) _)
            refine (sameRows _ _ [2] [2] _ (RdB.fr HR.out ((Below.refl _ w9).alloc (Nat.le_refl _) _)) (rdNew w9 2) (by decide)).mono ?_
            rintro e w10 ⟨rfl, b10⟩
            rw [sameB_self]
            have y1c : w10.cell? ⟨g, 1, none⟩ = some (.int .i64 fg) := cellOn' y1b b10
            have B10 := Lib.hid (G10.out.below b10).bel
            clear b10 y0 y1 y1b
            go_wp2_with fail
            go_ret
            exact ⟨rfl, B0.out.trans (B10.out.mono B0.out.size)⟩
        · rw [if_neg (show ¬ (i : Int) - (j : Int) + 1 ≤ (i : Int) by omega)] at c8
          have hl8 : ((agR 2 (i : Int) ((i : Int) - (j : Int))).length : Int) - ((([] : FlA) ++ ([] : FlA)).length : Int) = 3 := by simp [agR]
          rw [hl8] at c8
          have C8 := Lib.hid c8
          have hgt : decide ((i : Int) < (i : Int) - (j : Int) + 1) = true := decide_eq_true (by omega)
          clear c8 hl8 HX
          go_wp2_with fail
          refine C8.out.mono ?_
          rintro e w8 ⟨rfl, g8⟩
          have G8 : Hid (GX w0 w8 [] t 2 i 4 (one4 (([] : FlA)) 3)) := g8
          clear g8 C8
          go_wp2_with fail
          refine (grow' G8.out 0 1).mono ?_
          rintro e w9 ⟨ov, fo, rfl, ho, ha, g9⟩
          rw [row4] at ha
          have G9 := Lib.hid g9
          clear g9
          match fo, ha with
          | _ :: _, ha => exact ha.elim
          | [], ha =>
            obtain ⟨oa, oc, hov, _⟩ := own_shape ho
            subst hov
            clear ha ho
            rw [show ([] : List Fl).length = 0 from rfl]
            go_wp2_with fail
            refine (glost G9.out).mono ?_
            rintro e w' ⟨rfl, hw'⟩
            obtain rfl := hw'.symm
            clear hw'
            go_wp2_with fail
            go_ret
            exact ⟨rfl, B0.out.trans (G9.out.bel.mono B0.out.size)⟩
    | false =>
      have G5 := Lib.hid G4.out
      obtain ⟨w5, hw5⟩ : ∃ w5, w5 = wr := ⟨_, rfl⟩
      rw [← hw5] at G5 ⊢
      clear hw5
      go_wp2_with fail
      have g6 := G5.out.below ((Below.refl _ w5).alloc (Nat.le_refl _) (.cells #[.int .u8 2] 5))
      have c6 := gsend g6 _ [2] (rdNew w5 2) (by decide) (by decide) lo0 0 1
      rw [send4 4 [2] _ 0 (by simp)] at c6
      have C6 := Lib.hid c6
      clear g6 c6
      refine C6.out.mono ?_
      rintro e w6 ⟨rfl, g6⟩
      have G6 : Hid (GX w0 w6 [] t 2 N 4 (one4 (agR 1 (j : Int) ((j : Int) - (j : Int))) 0)) := by unfold Hid; rw [Int.sub_self]; exact g6
      clear g6 C6
      go_wp2_with fail
      go_loopg [13] (N - j) (fun g s13 wx => ∃ i : Nat, j ≤ i ∧ i ≤ N ∧ s13 = .int .i64 i ∧ g = N - i ∧ Hid (GX w0 wx [] t 2 N 4 (one4 (agR 1 (i : Int) ((i : Int) - (j : Int))) 0)))
      case atStart => exact ⟨j, Nat.le_refl _, hK1, rfl, rfl, G6⟩
      case round =>
        obtain ⟨i, hi1, hi2, rfl, rfl, HX⟩ := hrel
        by_cases hlt : i < N
        · have hdl2 : decide ((i : Int) < (N : Int)) = true := decide_eq_true (by omega)
          have hdn2 : decide (i < N) = true := decide_eq_true hlt
          have c7 := gage HX.out lo0
          rw [old4, aged_agR, if_pos (show (i : Int) + 1 ≤ (N : Int) by omega), if_pos (show (i : Int) - (j : Int) + 1 ≤ (N : Int) by omega)] at c7
          have hl7 : ((agR 1 (i : Int) ((i : Int) - (j : Int))).length : Int) - ((List.replicate 1 (([1] : List Int), (i : Int) + 1) ++ [([2], (i : Int) - (j : Int) + 1)]).length : Int) = 0 := by simp [agR]
          rw [hl7, Int.add_zero] at c7
          have C7 := Lib.hid c7
          clear c7 hl7
          go_wp2_with fail
          refine C7.out.mono ?_
          rintro e w7 ⟨rfl, g7⟩
          have G7 : Hid (GX w0 w7 [] t 2 N 4 (one4 (agR 1 ((i + 1 : Nat) : Int) (((i + 1 : Nat) : Int) - (j : Int))) 0)) := by
            unfold Hid
            rw [show ((i + 1 : Nat) : Int) - (j : Int) = (i : Int) - (j : Int) + 1 by omega]
            exact g7
          clear g7 C7
          go_wp2_with fail
          go_roundg (N - (i + 1))
          case measure => omega
          case rel => exact ⟨i + 1, by omega, by omega, by go_num, rfl, G7⟩
        obtain rfl : i = N := by omega
        have hdl2 : decide ((i : Int) < (i : Int)) = false := by simp
        have c8 := gage HX.out lo0
        rw [old4, aged_agR, if_neg (show ¬ (i : Int) + 1 ≤ (i : Int) by omega)] at c8
        have hw9 : wrap64 ((i : Int) - (j : Int)) = (i : Int) - (j : Int) := IntWalk.wrap64_in _ (by omega)
        have hw9b : wrap64 ((i : Int) - (j : Int) + 1) = (i : Int) - (j : Int) + 1 := IntWalk.wrap64_in _ (by omega)
        by_cases hk0 : 1 ≤ j
        · rw [if_pos (show (i : Int) - (j : Int) + 1 ≤ (i : Int) by omega)] at c8
          have hl8 : ((agR 1 (i : Int) ((i : Int) - (j : Int))).length : Int) - ((([] : FlA) ++ [(([2] : List Int), (i : Int) - (j : Int) + 1)]).length : Int) = 1 := by simp [agR]
          rw [hl8] at c8
          have C8 := Lib.hid c8
          have hgt : decide ((i : Int) < (i : Int) - (j : Int) + 1) = false := decide_eq_false (by omega)
          clear c8 hl8 HX
          go_wp2_with fail
          refine C8.out.mono ?_
          rintro e w8 ⟨rfl, g8⟩
          have G8 : Hid (GX w0 w8 [] t 2 i 4 (one4 ([(([2] : List Int), (i : Int) - (j : Int) + 1)]) 1)) := g8
          clear g8 C8
          go_wp2_with fail
          refine (grow' G8.out 0 1).mono ?_
          rintro e w9 ⟨ov, fo, rfl, ho, ha, g9⟩
          rw [row4] at ha
          have G9 := Lib.hid g9
          clear g9
          match fo, ha with
          | [], ha => exact ha.elim
          | _ :: _ :: _, ha => exact ha.2.elim
          | [⟨fa, fn, fc, fg⟩], ha =>
            obtain ⟨g, cap, rfl, hg, _⟩ := own_some ho (by simp)
            have hfg : fg = (i : Int) - (j : Int) + 1 := ha.1.2
            have y0 : w9.cell? ⟨g, 0, none⟩ = some (.slice fa fn fc) := ho.cell enF_len 0 0 (by simp) (by decide)
            have y1 : w9.cell? ⟨g, 1, none⟩ = some (.int .i64 fg) := ho.cell enF_len 0 1 (by simp) (by decide)
            have HR := Lib.hid ha.1.1.rd
            obtain ⟨d, hd⟩ : ∃ d : Int, d = (i : Int) - (j : Int) + 1 := ⟨_, rfl⟩
            rw [← hd] at hw9b hgt hfg
            subst hfg
            clear ha ho
            rw [show ([⟨fa, fn, fc, fg⟩] : List Fl).length = 1 from rfl]
            go_wp2_with fail
            refine (glost G9.out).mono ?_
            rintro e w' ⟨rfl, hw'⟩
            obtain rfl := hw'.symm
            clear hw'
            go_wp2_with fail
            have G10 := Lib.hid (G9.out.below ((Below.refl _ w9).alloc (Nat.le_refl _) (.cells #[.int .u8 2] 5)))
            have y1b : (w9.alloc (.cells #[.int .u8 2] 5)).cell? ⟨g, 1, none⟩ = some (.int .i64 fg) := cellOn' y1 ((Below.refl _ w9).alloc (Nat.le_refl _) _)
            refine (sameRows _ _ [2] [2] _ (RdB.fr HR.out ((Below.refl _ w9).alloc (Nat.le_refl _) _)) (rdNew w9 2) (by decide)).mono ?_
            rintro e w10 ⟨rfl, b10⟩
            rw [sameB_self]
            have y1c : w10.cell? ⟨g, 1, none⟩ = some (.int .i64 fg) := cellOn' y1b b10
            have B10 := Lib.hid (G10.out.below b10).bel
            clear b10 y0 y1 y1b
            go_wp2_with fail
            go_ret
            exact ⟨rfl, B0.out.trans (B10.out.mono B0.out.size)⟩
        · rw [if_neg (show ¬ (i : Int) - (j : Int) + 1 ≤ (i : Int) by omega)] at c8
          have hl8 : ((agR 1 (i : Int) ((i : Int) - (j : Int))).length : Int) - ((([] : FlA) ++ ([] : FlA)).length : Int) = 2 := by simp [agR]
          rw [hl8] at c8
          have C8 := Lib.hid c8
          have hgt : decide ((i : Int) < (i : Int) - (j : Int) + 1) = true := decide_eq_true (by omega)
          clear c8 hl8 HX
          go_wp2_with fail
          refine C8.out.mono ?_
          rintro e w8 ⟨rfl, g8⟩
          have G8 : Hid (GX w0 w8 [] t 2 i 4 (one4 (([] : FlA)) 2)) := g8
          clear g8 C8
          go_wp2_with fail
          refine (grow' G8.out 0 1).mono ?_
          rintro e w9 ⟨ov, fo, rfl, ho, ha, g9⟩
          rw [row4] at ha
          have G9 := Lib.hid g9
          clear g9
          match fo, ha with
          | _ :: _, ha => exact ha.elim
          | [], ha =>
            obtain ⟨oa, oc, hov, _⟩ := own_shape ho
            subst hov
            clear ha ho
            rw [show ([] : List Fl).length = 0 from rfl]
            go_wp2_with fail
            refine (glost G9.out).mono ?_
            rintro e w' ⟨rfl, hw'⟩
            obtain rfl := hw'.symm
            clear hw'
            go_wp2_with fail
            go_ret
            exact ⟨rfl, B0.out.trans (G9.out.bel.mono B0.out.size)⟩
end Go.Proofs.Yteihpaikdpdglaa
