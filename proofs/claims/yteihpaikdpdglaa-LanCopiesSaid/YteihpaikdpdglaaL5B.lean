/-
  Layer 5: LanCopies: the walk.
-/
import Derived.Test.YteihpaikdpdglaaL5A
namespace Go.Proofs.Yteihpaikdpdglaa
open Go.RowKit
set_option linter.unusedVariables false


/-- What is sent i-th. -/
def bi (i : Nat) : List Int × Int := ([(i : Int)], 0)
/-- What is there when i have come. -/
def restB (n i : Nat) : List (List Int × Int) := ((List.range n).drop i).map bi
theorem restB_cons {n i : Nat} (h : i < n) : restB n i = bi i :: restB n (i + 1) := by
  unfold restB
  rw [List.drop_eq_getElem_cons (by simpa using h), List.map_cons]
  simp
theorem restB_end (n : Nat) : restB n n = [] := by unfold restB; rw [List.drop_of_length_le (by simp)]; rfl
theorem restB_len (n i : Nat) : (restB n i).length = n - i := by unfold restB; simp
theorem LnX.sub {w0 w : World} {t st : Nat} {life lost : Int} {c : Nat} {most : Int} {l : List (List Int × Int)} {kr kr' : List (Value × List Int)} (h : LnX w0 w t st life lost c most l kr) (hs : ∀ r ∈ kr', r ∈ kr) : LnX w0 w t st life lost c most l kr' := ⟨h.ex, h.bel, fun r hr => h.kept r (hs r hr)⟩

set_option maxHeartbeats 8000000 in
theorem copiesL (v : Value) (ts : List Int) (hts : ∀ x ∈ ts, 0 ≤ x ∧ x ≤ 255) (w : World) (hrd : RdB w v ts) : Calls Try.prog 4 #[v] w fun e w' => e = .returned (.bool true) ∧ Below w.heap.size w w' := by
  obtain ⟨la, lc, rfl⟩ := hrd.len
  have HTS := Lib.hid hts
  have HRD := Lib.hid hrd
  clear hts hrd
  go_enter Try.func4, Try.ntmps4
  go_wp2_with fail
  refine (awake w).mono ?_
  rintro e w0 ⟨rfl, b0⟩
  have B0 := Lib.hid b0
  clear b0
  by_cases h15 : 15 < ts.length
  · have hd : decide ((15 : Int) < ts.length) = true := decide_eq_true (by omega)
    have hdn : decide (15 < ts.length) = true := decide_eq_true h15
    go_wp2_with fail
    go_ret
    exact ⟨rfl, B0.out⟩
  have hd : decide ((15 : Int) < ts.length) = false := decide_eq_false (by omega)
  have hdn : decide (15 < ts.length) = false := decide_eq_false h15
  have hn15 : ts.length ≤ 15 := by omega
  clear h15
  go_wp2_with fail
  refine (newL 2 64 9 (by decide) (by decide) (by decide) w0).mono ?_
  rintro e w1 ⟨t, c, rfl, h1⟩
  have H1 := Lib.hid h1
  clear h1
  go_wp2_with fail
  go_loopw [5] (fun v wr => ∃ i : Nat, i ≤ ts.length ∧ v = .int .i64 i ∧ Hid (LnX w0 wr t 2 9 0 c 64 ((List.range i).map bi) [])) (fun v _ => ts.length - (intOf v).toNat)
  case atStart => exact ⟨0, Nat.zero_le _, rfl, H1.out⟩
  case round =>
    obtain ⟨i, hi, rfl, HX⟩ := hrel
    by_cases hlt : i < ts.length
    · have hdl : decide ((i : Int) < (ts.length : Int)) = true := decide_eq_true (by omega)
      have hw8 : (i : Int) % 256 = i := by omega
      have hi15 : (i : Int) ≤ 15 := by omega
      go_wp2_with fail
      refine (xsendYes (HX.out.below ((Below.refl _ wr).alloc (Nat.le_refl _) _)) _ [(i : Int)] (rdNew wr (i : Int)) (by simp) (by rw [List.length_map, List.length_range]; omega)).mono ?_
      rintro e w2 ⟨rfl, h2⟩
      have H2 : Hid (LnX w0 w2 t 2 9 0 c 64 ((List.range (i + 1)).map bi) []) := by
        unfold Hid
        rw [List.range_succ, List.map_append]
        exact h2
      clear h2
      go_wp2_with fail
      go_roundw
      case rel => exact ⟨i + 1, by omega, by go_num, H2⟩
      case measure => simp [intOf]; omega
    · obtain rfl : i = ts.length := by omega
      have hdl : decide ((ts.length : Int) < (ts.length : Int)) = false := by simp
      have Ini : Hid (LnX w0 wr t 2 9 0 c 64 (restB ts.length 0) []) := by unfold restB; rw [List.drop_zero]; exact HX.out
      clear HX hlt
      go_wp2_with fail
      go_loopw [6] (fun v wx => ∃ i : Nat, i ≤ ts.length ∧ v = .int .i64 i ∧ Hid (LnX w0 wx t 2 9 0 c 64 (restB ts.length i) [])) (fun v _ => ts.length - (intOf v).toNat)
      case atStart => exact ⟨0, Nat.zero_le _, rfl, Ini⟩
      case round =>
        obtain ⟨i, hi2, rfl, HX⟩ := hrel
        by_cases hlt : i < ts.length
        · have hdl2 : decide ((i : Int) < (ts.length : Int)) = true := decide_eq_true (by omega)
          have hi15 : (i : Int) ≤ 15 := by omega
          have hrr := HRD.out.fr (B0.out.trans (HX.out.bel.mono B0.out.size))
          obtain ⟨lb, lo, lc', hv, _, _⟩ := HRD.out.some (by omega) (by decide)
          simp at hv
          obtain ⟨rfl, rfl⟩ := hv
          have y := RdB.at hrr hlt
          obtain ⟨x, hx⟩ : ∃ x, x = ts[i]'hlt := ⟨_, rfl⟩
          rw [← hx] at y
          obtain ⟨hx0, hx1⟩ : 0 ≤ x ∧ x ≤ 255 := by rw [hx]; exact HTS.out _ (List.getElem_mem hlt)
          obtain ⟨m, hm, hm1, hm3⟩ : ∃ m : Nat, 1 + x % 3 = (m : Int) ∧ 1 ≤ m ∧ m ≤ 3 := ⟨(1 + x % 3).toNat, by omega, by omega, by omega⟩
          have HL : Hid (restB ts.length i = bi i :: restB ts.length (i + 1)) := restB_cons hlt
          have HLN : Hid ((restB ts.length (i + 1)).length ≤ 15) := by unfold Hid; rw [restB_len]; omega
          obtain ⟨R, hR⟩ : ∃ R, R = restB ts.length (i + 1) := ⟨_, rfl⟩
          rw [← hR] at HL HLN
          have HR := Lib.hid hR
          have Hlt := Lib.hid hlt
          have HX3 : Hid (LnX w0 wr t 2 9 0 c 64 (List.replicate 1 (bi i) ++ R) []) := by have := HX.out; rw [HL.out] at this; exact this
          clear hrr hx hR HX
          go_wp2_with fail
          go_loopw [8] (fun v wx => ∃ k : Nat, 1 ≤ k ∧ k ≤ m ∧ v = .int .i64 k ∧ Hid (LnX w0 wx t 2 9 0 c 64 (List.replicate k (bi i) ++ R) [])) (fun v _ => m - (intOf v).toNat)
          case atStart => exact ⟨1, Nat.le_refl _, hm1, rfl, HX3⟩
          case round =>
            obtain ⟨k, hk1, hk2, rfl, HX⟩ := hrel
            by_cases hkm : k < m
            · have hdk : decide ((k : Int) < (m : Int)) = true := decide_eq_true (by omega)
              obtain ⟨k', rfl⟩ : ∃ k', k = k' + 1 := ⟨k - 1, by omega⟩
              have H3 : Hid (LnX w0 wr t 2 9 0 c 64 (bi i :: (List.replicate k' (bi i) ++ R)) []) := HX
              clear HX
              go_wp2_with fail
              refine (xtwice H3.out (by have := HLN.out; simp; omega) (by unfold bi; simp)).mono ?_
              rintro e w3 ⟨rfl, h3⟩
              have H4 : Hid (LnX w0 w3 t 2 9 0 c 64 (List.replicate (k' + 1 + 1) (bi i) ++ R) []) := h3
              clear h3
              go_wp2_with fail
              go_roundw
              case rel => exact ⟨k' + 1 + 1, by omega, by omega, by go_num, H4⟩
              case measure => simp [intOf]; omega
            · obtain rfl : k = m := by omega
              have hdk : decide ((k : Int) < (k : Int)) = false := by simp
              have HX4 : Hid (LnX w0 wr t 2 9 0 c 64 (List.replicate (k - 0) (bi i) ++ R) []) := HX
              clear HX hkm
              go_wp2_with fail
              go_loopw [9] (fun v wx => ∃ q : Nat, q ≤ k ∧ v = .int .i64 q ∧ Hid (LnX w0 wx t 2 9 0 c 64 (List.replicate (k - q) (bi i) ++ R) [])) (fun v _ => k - (intOf v).toNat)
              case atStart => exact ⟨0, Nat.zero_le _, rfl, HX4⟩
              case round =>
                obtain ⟨q, hq, rfl, HX⟩ := hrel
                by_cases hqk : q < k
                · have hdq : decide ((q : Int) < (k : Int)) = true := decide_eq_true (by omega)
                  have H3 : Hid (LnX w0 wr t 2 9 0 c 64 (bi i :: (List.replicate (k - (q + 1)) (bi i) ++ R)) []) := by
                    have := HX.out
                    rw [show k - q = (k - (q + 1)) + 1 by omega] at this
                    exact this
                  clear HX
                  have hw8 : (i : Int) % 256 = i := by omega
                  go_wp2_with fail
                  refine (xpass H3.out).mono ?_
                  rintro e w3 ⟨pv, rfl, ⟨pa, pn, pk, rfl⟩, h3⟩
                  have H4 := Lib.hid h3
                  clear h3
                  go_wp2_with fail
                  have H5 := Lib.hid (H4.out.below ((Below.refl _ w3).alloc (Nat.le_refl _) (.cells #[.int .u8 (i : Int)] 5)))
                  refine (sameRows _ _ [(i : Int)] [(i : Int)] _ (H5.out.kept _ (List.mem_cons_self ..)).rd (rdNew w3 (i : Int)) (by simp)).mono ?_
                  rintro e w4 ⟨rfl, b4⟩
                  rw [sameB_self]
                  have H6 := Lib.hid ((H5.out.below b4).sub (kr' := []) (fun r hr => by cases hr))
                  clear b4
                  go_wp2_with fail
                  go_roundw
                  case rel => exact ⟨q + 1, by omega, by go_num, H6⟩
                  case measure => simp [intOf]; omega
                · obtain rfl : q = k := by omega
                  have hdq : decide ((q : Int) < (q : Int)) = false := by simp
                  have H7 : Hid (LnX w0 wr t 2 9 0 c 64 (restB ts.length (i + 1)) []) := by
                    have := HX.out
                    rw [Nat.sub_self, HR.out] at this
                    exact this
                  clear HX hqk
                  go_wp2_with fail
                  go_roundw
                  case rel => exact ⟨i + 1, by have := Hlt.out; omega, by go_num, H7⟩
                  case measure => have := Hlt.out; simp [intOf]; omega
        · obtain rfl : i = ts.length := by omega
          have hdl2 : decide ((ts.length : Int) < (ts.length : Int)) = false := by simp
          have H8 : Hid (LnX w0 wr t 2 9 0 c 64 [] []) := by have := HX.out; rw [restB_end] at this; exact this
          clear HX hlt
          go_wp2_with fail
          refine (xpassNo H8.out).mono ?_
          rintro e w9 ⟨rfl, h9⟩
          have H9 := Lib.hid h9
          clear h9
          go_wp2_with fail
          refine (xlost H9.out).mono ?_
          rintro e w10 ⟨rfl, rfl⟩
          go_wp2_with fail
          go_ret
          exact ⟨rfl, B0.out.trans (H9.out.bel.mono B0.out.size)⟩
end Go.Proofs.Yteihpaikdpdglaa
