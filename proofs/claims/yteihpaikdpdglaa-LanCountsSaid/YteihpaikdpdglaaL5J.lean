/-
  Layer 5: LanCounts: the walk. (Printed by gL5J.py.)
-/
import Derived.Test.YteihpaikdpdglaaL5I
import Derived.Test.YteihpaikdpdglaaL5A
namespace Go.Proofs.Yteihpaikdpdglaa
open Go.RowKit
set_option linter.unusedVariables false


/-- What a law holds: the line, what came in and went out, the deed at hand. -/
structure CX (w0 w : World) (t : Nat) (m : Int) (inn out : Int) (S : LS) : Prop where
  g : GX w0 w [] t 3 5 4 S
  c : CI inn out S
  b : inn ≤ m
theorem CX.below {w0 w w' : World} {t : Nat} {m inn out : Int} {S : LS} (h : CX w0 w t m inn out S) (hb : Below w.heap.size w w') : CX w0 w' t m inn out S := ⟨h.g.below hb, h.c, h.b⟩
theorem ite_bound (p : Prop) [Decidable p] (x : Int) : x ≤ x + (if p then 1 else 0) ∧ x + (if p then (1 : Int) else 0) ≤ x + 1 := by split <;> omega

set_option maxRecDepth 100000 in
set_option maxHeartbeats 8000000 in
theorem countsL (v : Value) (l : List De) (w : World) (hrd : Rd w 5 v l.length (l.flatMap encE)) (hok : ∀ d ∈ l, d.ok w) (hlm : l.length ≤ maxLen) :
    Calls Try.prog 9 #[v] w fun e w' => e = .returned (.bool true) ∧ Below w.heap.size w w' := by
  obtain ⟨la, lc, rfl⟩ := hrd.len
  have HRD := Lib.hid hrd
  have HOK := Lib.hid hok
  have HLM := Lib.hid hlm
  clear hrd hok hlm
  go_enter Try.func9, Try.ntmps9
  go_wp2_with fail
  refine (awake w).mono ?_
  rintro e w0 ⟨rfl, b0⟩
  have B0 := Lib.hid b0
  have RD0 := Lib.hid (Rd.fr HRD.out (Fr.of_below b0 no) (fun _ _ e => e))
  have OK0 := Lib.hid (fun d hd => (HOK.out d hd).below b0)
  clear b0
  go_wp2_with fail
  refine (room _ l 150 (by decide) w0 RD0.out OK0.out HLM.out).mono ?_
  rintro e w' ⟨rfl, hw'⟩
  obtain rfl := hw'.symm
  clear hw'
  cases hr : roomP l 150 with
  | false =>
    clear hr
    go_wp2_with fail
    go_ret
    exact ⟨rfl, B0.out⟩
  | true =>
  obtain ⟨hlen, hb200⟩ := room_true hr
  have HB2 := Lib.hid hb200
  clear hr hb200
  obtain ⟨N, hN⟩ : ∃ N, N = l.length := ⟨_, rfl⟩
  have HN := Lib.hid hN
  rw [← hN] at hlen ⊢
  clear hN
  have hN150 : N ≤ 150 := by omega
  go_wp2_with fail
  refine (gnew 3 4 5 (by decide) (by decide) (by decide) (Below.refl _ w0)).mono ?_
  rintro e w1 ⟨t, rfl, g1, _⟩
  have C1 : Hid (CX w0 w1 t 0 0 0 (empty0 3)) := ⟨g1, ci_init, Int.le_refl _⟩
  clear g1
  go_wp2_with fail
  go_loopg [5, 6, 7] N (fun g s5 s6 s7 wx => ∃ (i : Nat) (inn out : Int) (S : LS), i ≤ N ∧ s5 = .int .i64 inn ∧ s6 = .int .i64 out ∧ s7 = .int .i64 i ∧ g = N - i ∧ Hid (CX w0 wx t i inn out S))
  case atStart => exact ⟨0, 0, 0, empty0 3, Nat.zero_le _, rfl, rfl, rfl, rfl, C1⟩
  case round =>
    obtain ⟨i, inn, out, S, hi, rfl, rfl, rfl, rfl, HX⟩ := hrel
    by_cases hlt : i < N
    · have hdl : decide ((i : Int) < (N : Int)) = true := decide_eq_true (by omega)
      have hdn : decide (i < N) = true := decide_eq_true hlt
      have hil : i < l.length := by rw [← HN.out]; exact hlt
      have hi1 : (i : Int) < (N : Int) := by omega
      have rd := Rd.fr RD0.out (Fr.of_below HX.out.g.bel no) (fun _ _ e => e)
      obtain ⟨bb, o, c, hvv, _, _⟩ := Rd.some rd (by omega) (by decide)
      have hvv := hvv
      simp at hvv
      obtain ⟨rfl, hvc⟩ := hvv
      obtain ⟨y0, y1, y2, y3, y4⟩ := deedAt rd hil
      obtain ⟨d, hdd⟩ : ∃ d, d = l[i] := ⟨_, rfl⟩
      rw [← hdd] at y0 y1 y2 y3 y4
      have dok := (OK0.out d (by rw [hdd]; exact List.getElem_mem hil)).below HX.out.g.bel
      have db : d.b.length ≤ 200 := HB2.out d (by rw [hdd]; exact List.getElem_mem hil)
      have HDB := Lib.hid db
      clear hdd hvc rd db
      obtain ⟨ddw, dfr, dtg, dbit, da, dn, dc, db⟩ := d
      have DOK := Lib.hid dok
      dsimp only at y0 y1 y2 y3 y4
      obtain ⟨hlo1, hlo2⟩ : 0 ≤ S.2 ∧ S.2 ≤ 1000 := ⟨HX.out.c.lost, by have := HX.out.c.bound; have := HX.out.b; omega⟩
      clear dok
      go_upto_block 2 with (go_at_call 17; refine (glost (HX.out.g.below ((Below.refl _ _).alloc (Nat.le_refl _) _))).mono ?_; rintro e w' ⟨rfl, hw'⟩; obtain rfl := hw'.symm; clear hw')
      obtain ⟨wd, hwd⟩ : ∃ wd, wd = wr.alloc (.cells #[.int .i64 ddw, .int .i64 dfr, .int .i64 dtg, .int .i64 dbit, .slice da dn dc] 51) := ⟨_, rfl⟩
      have hbd : Below wr.heap.size wr wd := by rw [hwd]; exact (Below.refl _ wr).alloc (Nat.le_refl _) _
      obtain ⟨q, hqq⟩ : ∃ q, q = wr.heap.size := ⟨_, rfl⟩
      have hq : wd.heap[q]? = some (.cells #[.int .i64 ddw, .int .i64 dfr, .int .i64 dtg, .int .i64 dbit, .slice da dn dc] 51 (0, 0)) := by rw [hwd, hqq]; exact heap_alloc_new' wr _
      rw [← hwd, ← hqq]
      have k0 : wd.cell? ⟨q, 0, none⟩ = some (.int .i64 ddw) := blk_cell hq 0
      have k1 : wd.cell? ⟨q, 1, none⟩ = some (.int .i64 dfr) := blk_cell hq 1
      have k2 : wd.cell? ⟨q, 2, none⟩ = some (.int .i64 dtg) := blk_cell hq 2
      have k4 : wd.cell? ⟨q, 4, none⟩ = some (.slice da dn dc) := blk_cell hq 4
      have HD := Lib.hid (HX.out.below hbd)
      have DK := Lib.hid (DOK.out.below hbd)
      obtain ⟨lo, hlo⟩ : ∃ lo, lo = S.2 := ⟨_, rfl⟩
      rw [← hlo] at hlo1 hlo2 ⊢
      have HLO := Lib.hid hlo
      clear hwd hqq hq hbd y0 y1 y2 y3 y4 hlo
      have hlom : lo ≤ 1000000000 := by omega
      have HGO : Hid (0 ≤ S.2 ∧ S.2 ≤ 1000000000) := by unfold Hid; rw [← HLO.out]; omega
      have HB := HD.out.b
      have HIN : Hid (0 ≤ inn ∧ inn ≤ (i : Int) ∧ 0 ≤ out ∧ out ≤ inn) := ⟨by have := HD.out.c.bound; have := HD.out.c.lost; omega, HB, HD.out.c.out, by have := HD.out.c.eq; have := totL_nn S.1; have := HD.out.c.lost; omega⟩
      have hw1 : wrap64 (inn + 1) = inn + 1 := IntWalk.wrap64_in _ (by have := HIN.out; omega)
      have hw2 : wrap64 (out + 1) = out + 1 := IntWalk.wrap64_in _ (by have := HIN.out; omega)
      clear HB
      go_cut [5, 6] (fun v5 v6 wx => ∃ (inn' out' : Int) (S' : LS), v5 = .int .i64 inn' ∧ v6 = .int .i64 out' ∧ Hid (CX w0 wx t ((i + 1 : Nat) : Int) inn' out' S'))
      case first =>
        by_cases h0 : ddw ≤ 2
        · have d0 : decide (ddw ≤ 2) = true := by simpa using h0
          obtain ⟨⟨r1, S'⟩, hR⟩ : ∃ R, R = sendP 3 4 dfr dtg db S := ⟨_, rfl⟩
          have cc := ci_send HD.out.c dfr dtg db
          have gg := gsend HD.out.g (.slice da dn dc) db DK.out.rd (by have := HDB.out; omega) DK.out.byte HGO.out dfr dtg
          rw [← hR] at cc gg
          dsimp only at cc gg
          have GG := Lib.hid gg
          have CCx := Lib.hid cc
          clear hR gg cc
          cases r1 with
          | true =>
            go_wp2_with fail
            refine GG.out.mono ?_
            rintro e w4 ⟨rfl, g4⟩
            have HC : Hid (CX w0 w4 t ((i + 1 : Nat) : Int) (inn + 1) out S') := ⟨g4, by have := CCx.out; simpa using this, by have := HIN.out; omega⟩
            clear g4
            go_wp2_with fail
            go_meet
            exact ⟨_, _, _, by rw [hw1], rfl, HC⟩
          | false =>
            by_cases hh : lo < S'.2
            · have hhd : decide (lo < S'.2) = true := decide_eq_true hh
              have HH : Hid (S.2 < S'.2) := by unfold Hid; rw [← HLO.out]; exact hh
              clear hh
              go_wp2_with fail
              refine GG.out.mono ?_
              rintro e w4 ⟨rfl, g4⟩
              have HC : Hid (CX w0 w4 t ((i + 1 : Nat) : Int) (inn + 1) out S') := ⟨g4, by have := CCx.out; rw [decide_eq_true HH.out] at this; simpa using this, by have := HIN.out; omega⟩
              clear g4
              go_wp2_with fail
              refine (glost HC.out.g).mono ?_
              rintro e w' ⟨rfl, hw'⟩
              obtain rfl := hw'.symm
              clear hw'
              go_wp2_with fail
              go_meet
              exact ⟨_, _, _, by rw [hw1], rfl, HC⟩
            · have hhd : decide (lo < S'.2) = false := decide_eq_false hh
              have HH : Hid (decide (S.2 < S'.2) = false) := by unfold Hid; rw [← HLO.out]; exact hhd
              clear hh
              go_wp2_with fail
              refine GG.out.mono ?_
              rintro e w4 ⟨rfl, g4⟩
              have HC : Hid (CX w0 w4 t ((i + 1 : Nat) : Int) inn out S') := ⟨g4, by have := CCx.out; rw [HH.out] at this; simpa using this, by have := HIN.out; omega⟩
              clear g4
              go_wp2_with fail
              refine (glost HC.out.g).mono ?_
              rintro e w' ⟨rfl, hw'⟩
              obtain rfl := hw'.symm
              clear hw'
              go_wp2_with fail
              go_meet
              exact ⟨_, _, _, rfl, rfl, HC⟩
        have d0 : decide (ddw ≤ 2) = false := by simpa using h0
        by_cases h1 : ddw ≤ 6
        · have d1 : decide (ddw ≤ 6) = true := by simpa using h1
          obtain ⟨⟨r1, S'⟩, hR⟩ : ∃ R, R = passP 3 dfr dtg S := ⟨_, rfl⟩
          have cc := ci_pass HD.out.c dfr dtg
          have gg := gpass HD.out.g dfr dtg
          rw [← hR] at cc gg
          dsimp only at cc gg
          have GG := Lib.hid gg
          have CCx := Lib.hid cc
          clear hR gg cc
          cases r1 with
          | none =>
            go_wp2_with fail
            refine GG.out.mono ?_
            rintro e w4 ⟨va, vn, vk, rfl, _, g4⟩
            have HC : Hid (CX w0 w4 t ((i + 1 : Nat) : Int) inn out S') := ⟨g4, by have := CCx.out; simpa using this, by have := HIN.out; omega⟩
            clear g4
            dsimp only [Option.isSome]
            go_wp2_with fail
            go_meet
            exact ⟨_, _, _, rfl, rfl, HC⟩
          | some x =>
            go_wp2_with fail
            refine GG.out.mono ?_
            rintro e w4 ⟨va, vn, vk, rfl, _, g4⟩
            have HC : Hid (CX w0 w4 t ((i + 1 : Nat) : Int) inn (out + 1) S') := ⟨g4, by have := CCx.out; simpa using this, by have := HIN.out; omega⟩
            clear g4
            dsimp only [Option.isSome]
            go_wp2_with fail
            go_meet
            exact ⟨_, _, _, rfl, by rw [hw2], HC⟩
        have d1 : decide (ddw ≤ 6) = false := by simpa using h1
        by_cases h2 : ddw = 7
        · have d2 : (ddw == 7) = true := by simpa using h2
          clear h2
          go_wp2_with fail
          refine (gdrop HD.out.g HGO.out dfr dtg).mono ?_
          rintro e w4 ⟨rfl, g4⟩
          have HC : Hid (CX w0 w4 t ((i + 1 : Nat) : Int) inn out ((dropP 3 dfr dtg S).2)) := ⟨g4, ci_drop HD.out.c dfr dtg, by have := HIN.out; omega⟩
          clear g4
          go_wp2_with fail
          go_meet
          exact ⟨_, _, _, rfl, rfl, HC⟩
        have d2 : (ddw == 7) = false := by simpa using h2
        by_cases h3 : ddw = 8
        · have d3 : (ddw == 8) = true := by simpa using h3
          clear h3
          obtain ⟨⟨r1, S'⟩, hR⟩ : ∃ R, R = twiceP 3 4 dfr dtg S := ⟨_, rfl⟩
          have cc := ci_twice HD.out.c dfr dtg
          have gg := gtwice HD.out.g dfr dtg
          rw [← hR] at cc gg
          dsimp only at cc gg
          have GG := Lib.hid gg
          have CCx := Lib.hid cc
          clear hR gg cc
          cases r1 with
          | false =>
            go_wp2_with fail
            refine GG.out.mono ?_
            rintro e w4 ⟨rfl, g4⟩
            have HC : Hid (CX w0 w4 t ((i + 1 : Nat) : Int) inn out S') := ⟨g4, by have := CCx.out; simpa using this, by have := HIN.out; omega⟩
            clear g4
            go_wp2_with fail
            go_meet
            exact ⟨_, _, _, rfl, rfl, HC⟩
          | true =>
            go_wp2_with fail
            refine GG.out.mono ?_
            rintro e w4 ⟨rfl, g4⟩
            have HC : Hid (CX w0 w4 t ((i + 1 : Nat) : Int) (inn + 1) out S') := ⟨g4, by have := CCx.out; simpa using this, by have := HIN.out; omega⟩
            clear g4
            go_wp2_with fail
            go_meet
            exact ⟨_, _, _, by rw [hw1], rfl, HC⟩
        have d3 : (ddw == 8) = false := by simpa using h3
        by_cases h4 : ddw = 10
        · have d4 : (ddw == 10) = true := by simpa using h4
          clear h4
          go_wp2_with fail
          refine (gage HD.out.g HGO.out).mono ?_
          rintro e w4 ⟨rfl, g4⟩
          have HC : Hid (CX w0 w4 t ((i + 1 : Nat) : Int) inn out ((oldP 5 S).2)) := ⟨g4, ci_old HD.out.c 5, by have := HIN.out; omega⟩
          clear g4
          go_wp2_with fail
          go_meet
          exact ⟨_, _, _, rfl, rfl, HC⟩
        have d4 : (ddw == 10) = false := by simpa using h4
        by_cases h5 : ddw = 11
        · have d5 : (ddw == 11) = true := by simpa using h5
          clear h5
          go_wp2_with fail
          refine (gcut HD.out.g HGO.out dfr).mono ?_
          rintro e w4 ⟨rfl, g4⟩
          have HC : Hid (CX w0 w4 t ((i + 1 : Nat) : Int) inn out ((cutP 3 dfr S).2)) := ⟨g4, ci_cut HD.out.c dfr, by have := HIN.out; omega⟩
          clear g4
          go_wp2_with fail
          go_meet
          exact ⟨_, _, _, rfl, rfl, HC⟩
        have d5 : (ddw == 11) = false := by simpa using h5
        have HC : Hid (CX w0 wd t ((i + 1 : Nat) : Int) inn out S) := ⟨HD.out.g, HD.out.c, by have := HIN.out; omega⟩
        go_wp2_with fail
        go_meet
        exact ⟨_, _, _, rfl, rfl, HC⟩
      case rest =>
        obtain ⟨inn', out', S', rfl, rfl, HC⟩ := hcut
        clear k0 k1 k2 k4 hw1 hw2 HD DK HGO HIN hlo1 hlo2 HLO hlom
        have HF0 : Hid (∃ f : Int, firstL S'.1 0 = f ∧ f = 0) := ⟨0, rfl, rfl⟩
        have HIN : Hid (0 ≤ inn' ∧ inn' ≤ 200 ∧ 0 ≤ out' ∧ out' ≤ inn') := ⟨by have := HC.out.c.bound; have := HC.out.c.lost; omega, by have := HC.out.b; omega, HC.out.c.out, by have := HC.out.c.eq; have := totL_nn S'.1; have := HC.out.c.lost; omega⟩
        have HQ : Hid (∀ m, m < 9 → ((S'.1.getD m []).length : Int) ≤ 4) := fun m hm => by
          have hl := HC.out.c.len
          rw [getD_get (by omega)]
          exact (HC.out.g.le (by omega)).1
        have HBD := Lib.hid HC.out.b
        have HG0 := Lib.hid HC.out.g
        have HCI := Lib.hid HC.out.c
        clear HC
        go_wp2_with fail
        go_loopg [12, 13] 3 (fun g s12 s13 wx => ∃ a : Nat, a ≤ 3 ∧ s13 = .int .i64 a ∧ g = 3 - a ∧ s12 = .int .i64 (firstL S'.1 (a * 3)) ∧ Hid (0 ≤ firstL S'.1 (a * 3) ∧ firstL S'.1 (a * 3) ≤ 4 * ((a * 3 : Nat) : Int)) ∧ Hid (GX w0 wx [] t 3 5 4 S'))
        case atStart => exact ⟨0, by decide, rfl, rfl, rfl, ⟨Int.le_refl _, Int.le_refl _⟩, HG0⟩
        case round =>
          obtain ⟨a, ha, rfl, rfl, rfl, HFB, HGx⟩ := hrel
          by_cases hla : a < 3
          · have hda : decide ((a : Int) < 3) = true := decide_eq_true (by omega)
            have hdan : decide (a < 3) = true := decide_eq_true hla
            obtain ⟨f0, hf0⟩ : ∃ f0, f0 = firstL S'.1 (a * 3) := ⟨_, rfl⟩
            have ini : Hid (f0 = firstL S'.1 (a * 3 + 0) ∧ 0 ≤ f0 ∧ f0 ≤ 4 * ((a * 3 + 0 : Nat) : Int)) := ⟨hf0, by have := HFB.out; rw [← hf0] at this; omega⟩
            rw [← hf0]
            clear hf0 HFB
            go_wp2_with fail
            go_loopg [12, 14] 3 (fun g s12 s14 wx => ∃ (b : Nat) (fb : Int), b ≤ 3 ∧ s14 = .int .i64 b ∧ g = 3 - b ∧ s12 = .int .i64 fb ∧ Hid (fb = firstL S'.1 (a * 3 + b) ∧ 0 ≤ fb ∧ fb ≤ 4 * ((a * 3 + b : Nat) : Int)) ∧ Hid (GX w0 wx [] t 3 5 4 S'))
            case atStart => exact ⟨0, f0, by decide, rfl, rfl, rfl, ini, HGx⟩
            case round =>
              obtain ⟨b, fb, hb, rfl, rfl, rfl, HFB, HGy⟩ := hrel
              by_cases hlb : b < 3
              · have hdb : decide ((b : Int) < 3) = true := decide_eq_true (by omega)
                have hdbn : decide (b < 3) = true := decide_eq_true hlb
                go_wp2_with fail
                refine (grow' HGy.out a b).mono ?_
                rintro e w5 ⟨ov, fo, rfl, ho, hall, g5⟩
                have G5 := Lib.hid g5
                obtain ⟨oa, oc, hov, _⟩ := own_shape ho
                subst hov
                have hrl := forall_len hall
                rw [row_len HCI.out.dg hla hlb] at hrl
                obtain ⟨n, hn⟩ : ∃ n, n = fo.length := ⟨_, rfl⟩
                rw [← hn] at hrl ⊢
                have hq := HQ.out (a * 3 + b) (by omega)
                rw [← hrl] at hq
                have hd4 : decide ((4 : Int) < (n : Int)) = false := decide_eq_false (by omega)
                have hd4n : decide (4 < n) = false := decide_eq_false (by omega)
                have HST : Hid (fb + (n : Int) = firstL S'.1 (a * 3 + (b + 1)) ∧ 0 ≤ fb + (n : Int) ∧ fb + (n : Int) ≤ 4 * ((a * 3 + (b + 1) : Nat) : Int)) := by
                  have h9 := HFB.out
                  refine ⟨?_, by omega, by omega⟩
                  show fb + (n : Int) = firstL S'.1 (a * 3 + b) + ((S'.1.getD (a * 3 + b) []).length : Int)
                  rw [← h9.1, hrl]
                have hwf : wrap64 (fb + (n : Int)) = fb + (n : Int) := IntWalk.wrap64_in _ (by have := HST.out; omega)
                clear hn hrl hq ho hall g5
                go_wp2_with fail
                go_roundg (3 - (b + 1))
                case measure => omega
                case rel => exact ⟨b + 1, fb + (n : Int), by omega, by go_num, rfl, by rw [hwf], HST, G5⟩
              · obtain rfl : b = 3 := by omega
                have hdb : decide ((3 : Int) < 3) = false := by decide
                go_wp2_with fail
                go_roundg (3 - (a + 1))
                case measure => omega
                case rel =>
                  have h9 := HFB.out
                  have e9 : a * 3 + 3 = (a + 1) * 3 := by omega
                  rw [e9] at h9
                  exact ⟨a + 1, by omega, by go_num, rfl, by rw [h9.1], by rw [← h9.1]; exact h9.2, HGy⟩
          · obtain rfl : a = 3 := by omega
            obtain ⟨ff, hff⟩ : ∃ ff, ff = firstL S'.1 (3 * 3) := ⟨_, rfl⟩
            have hft : ff = totL S'.1 := by rw [hff, ← firstL_all S'.1, HCI.out.len]
            have HB := HFB.out
            rw [← hff] at HB ⊢
            have he := HCI.out.eq
            have hl0 := HCI.out.lost
            obtain ⟨lo, hlo⟩ : ∃ lo, lo = S'.2 := ⟨_, rfl⟩
            have GL := glost HGx.out
            rw [← hlo] at he hl0 GL
            rw [← hft] at he
            have hin := HIN.out
            have hwa : wrap64 (out' + ff) = out' + ff := IntWalk.wrap64_in _ (by omega)
            have hwb : wrap64 (out' + ff + lo) = out' + ff + lo := IntWalk.wrap64_in _ (by omega)
            have hne : (inn' == out' + ff + lo) = true := by simpa using he
            have hnb : (inn' != out' + ff + lo) = false := by simpa using he
            have GL' := Lib.hid GL
            clear hff hft HB he hl0 hlo GL hin
            go_wp2_with fail
            refine GL'.out.mono ?_
            rintro e w' ⟨rfl, hw'⟩
            obtain rfl := hw'.symm
            clear hw'
            go_wp2_with fail
            go_roundg (N - (i + 1))
            case measure => omega
            case rel => exact ⟨i + 1, inn', out', S', by omega, rfl, rfl, by go_num, rfl, HGx.out, HCI.out, HBD.out⟩
    · obtain rfl : i = N := by omega
      have hdl : decide ((i : Int) < (i : Int)) = false := by simp
      go_wp2_with fail
      go_ret
      exact ⟨rfl, B0.out.trans (HX.out.g.bel.mono B0.out.size)⟩
end Go.Proofs.Yteihpaikdpdglaa
