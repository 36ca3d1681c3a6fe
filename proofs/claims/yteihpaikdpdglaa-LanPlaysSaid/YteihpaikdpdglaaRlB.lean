/-
  The reference's line: at, Line, Send.
-/
import Derived.Test.YteihpaikdpdglaaRlA
import Derived.Test.YteihpaikdpdglaaGlL
namespace Go.Proofs.Yteihpaikdpdglaa
open Go.RowKit
set_option linter.unusedVariables false


theorem infoRF : (Try.prog.info? 85).map (fun i => (i.zero, i.size, i.bytes)) = some (some (.agg #[.slice none 0 0, .int .i64 0]), 2, 32) := by kernel_rfl
/-- A row's place, as the reference has it. -/
def atV (st : Nat) (a b : Int) : Int := match rix st a b with | none => -1 | some k => (k : Int)
section
variable {w : World} {F : Nat → Prop} {r st : Nat} {life lost most : Int} {qs : List FlA} {lv : Value} {vs : List Value}
theorem RGi.cells (h : RGi w F r st life lost most qs lv vs) : w.cell? ⟨r, 0, none⟩ = some (.int .i64 st) ∧ w.cell? ⟨r, 1, none⟩ = some (.int .i64 most) ∧ w.cell? ⟨r, 2, none⟩ = some (.int .i64 life) ∧ w.cell? ⟨r, 3, none⟩ = some (.int .i64 lost) ∧ w.cell? ⟨r, 4, none⟩ = some lv :=
  ⟨blk_cell h.blk 0, blk_cell h.blk 1, blk_cell h.blk 2, blk_cell h.blk 3, blk_cell h.blk 4⟩
set_option maxHeartbeats 2000000 in
theorem rat (h : RGi w F r st life lost most qs lv vs) (a b : Int) :
    Calls Try.prog 54 #[.pointer (some ⟨r, 0, none⟩), .int .i64 a, .int .i64 b] w fun e w' => e = .returned (.int .i64 (atV st a b)) ∧ w' = w := by
  have k0 := h.cells.1
  have hst := h.sts
  clear h
  by_cases h1 : a < 0
  · have e1 : decide (a < 0) = true := decide_eq_true h1
    have HV : Hid (atV st a b = -1) := by unfold Hid atV rix; rw [if_neg (by omega)]
    clear h1
    go_enter Try.func54, Try.ntmps54
    go_wp2_with fail
    go_ret
    exact ⟨by rw [HV.out]; rfl, rfl⟩
  have e1 : decide (a < 0) = false := decide_eq_false h1
  by_cases h2 : (st : Int) ≤ a
  · have e2 : decide ((st : Int) ≤ a) = true := decide_eq_true h2
    have HV : Hid (atV st a b = -1) := by unfold Hid atV rix; rw [if_neg (by omega)]
    clear h1 h2
    go_enter Try.func54, Try.ntmps54
    go_wp2_with fail
    go_ret
    exact ⟨by rw [HV.out]; rfl, rfl⟩
  have e2 : decide ((st : Int) ≤ a) = false := decide_eq_false h2
  by_cases h3 : b < 0
  · have e3 : decide (b < 0) = true := decide_eq_true h3
    have HV : Hid (atV st a b = -1) := by unfold Hid atV rix; rw [if_neg (by omega)]
    clear h1 h2 h3
    go_enter Try.func54, Try.ntmps54
    go_wp2_with fail
    go_ret
    exact ⟨by rw [HV.out]; rfl, rfl⟩
  have e3 : decide (b < 0) = false := decide_eq_false h3
  by_cases h4 : (st : Int) ≤ b
  · have e4 : decide ((st : Int) ≤ b) = true := decide_eq_true h4
    have HV : Hid (atV st a b = -1) := by unfold Hid atV rix; rw [if_neg (by omega)]
    clear h1 h2 h3 h4
    go_enter Try.func54, Try.ntmps54
    go_wp2_with fail
    go_ret
    exact ⟨by rw [HV.out]; rfl, rfl⟩
  have e4 : decide ((st : Int) ≤ b) = false := decide_eq_false h4
  by_cases h5 : a = b
  · have e5 : (a == b) = true := by simpa using h5
    have HV : Hid (atV st a b = -1) := by unfold Hid atV rix; rw [if_neg (by omega)]
    clear h1 h2 h3 h4 h5
    go_enter Try.func54, Try.ntmps54
    go_wp2_with fail
    go_ret
    exact ⟨by rw [HV.out]; rfl, rfl⟩
  have e5 : (a == b) = false := by simpa using h5
  obtain ⟨A, rfl⟩ := Int.eq_ofNat_of_zero_le (Int.not_lt.1 h1)
  obtain ⟨B, rfl⟩ := Int.eq_ofNat_of_zero_le (Int.not_lt.1 h3)
  have hk : rix st A B = some (A * st + B) := by unfold rix; rw [if_pos ⟨by omega, by omega, by omega, by omega, h5⟩]; simp
  have HV : Hid (atV st A B = ((A * st + B : Nat) : Int)) := by unfold Hid atV; rw [hk]
  have hb : A * st ≤ 16 * 16 := Nat.mul_le_mul (by omega) hst.2
  have hm : IntKind.i64.wrap ((A : Int) * (st : Int)) = ((A * st : Nat) : Int) := by rw [← Int.natCast_mul]; exact i64_wrap_in _ (by omega)
  have hm' : wrap64 ((A : Int) * (st : Int)) = ((A * st : Nat) : Int) := by rw [← Int.natCast_mul]; exact IntWalk.wrap64_in _ (by omega)
  obtain ⟨M, hM⟩ : ∃ M, M = A * st := ⟨_, rfl⟩
  rw [← hM] at HV hm hm' hb
  have hB16 : B < 16 := by omega
  have hs : wrap64 ((M : Int) + (B : Int)) = (M : Int) + (B : Int) := IntWalk.wrap64_in _ (by omega)
  have HM := Lib.hid hM
  have h5n : ¬ A = B := by omega
  have e2n : decide (st ≤ A) = false := decide_eq_false (by omega)
  have e4n : decide (st ≤ B) = false := decide_eq_false (by omega)
  have h5i := h5
  clear h1 h2 h3 h4 hk hM
  go_enter Try.func54, Try.ntmps54
  go_wp2_with fail
  go_ret
  refine ⟨?_, rfl⟩
  rw [HV.out]
  first | rfl | (rw [show ((M + B : Nat) : Int) = (M : Int) + (B : Int) by omega]; rfl) | simp
theorem RGi.at_ (h : RGi w F r st life lost most qs lv vs) {a b : Int} {k : Nat} (hk : rix st a b = some k) :
    k < vs.length ∧ k < qs.length ∧ atV st a b = (k : Int) := by
  obtain ⟨_, _, _, _, _, _, _, _, hlt⟩ := rix_lt hk
  exact ⟨by rw [h.len]; exact hlt, by rw [h.qlen]; exact hlt, by unfold atV; rw [hk]⟩
theorem RGi.slot (h : RGi w F r st life lost most qs lv vs) {k : Nat} (hi : k < vs.length) : ∃ g cap, lv = .slice (some ⟨g, 0, none⟩) vs.length cap ∧ vs.length ≤ cap ∧ cap ≤ maxLen ∧ w.cell? ⟨g, k, none⟩ = some vs[k] ∧ w.frozen? ⟨g, k, none⟩ = false := by
  obtain ⟨g, cap, rfl, hg, hc1, hc2⟩ := own_some h.rows (by omega)
  refine ⟨g, cap, rfl, hc1, hc2, ?_, own_free h.rows k⟩
  have := h.rows.cell enV_len k 0 hi (by decide)
  simpa [enV] using this
end
end Go.Proofs.Yteihpaikdpdglaa
