/-
  Layer 5: LanSpoils: the walk.
-/
import Derived.Test.YteihpaikdpdglaaLanI
import Derived.Test.YteihpaikdpdglaaL5A
import Derived.BigQuiet
namespace Go.Proofs.Yteihpaikdpdglaa
open Go.RowKit
set_option linter.unusedVariables false


theorem flipB_twice (x : Int) (r : Nat) (hx : 0 ≤ x) : flipB (flipB x r) r = x := by
  obtain ⟨A, rfl⟩ := Int.eq_ofNat_of_zero_le hx
  unfold flipB
  rw [Int.toNat_natCast, Int.toNat_natCast, Nat.xor_assoc, Nat.xor_self, Nat.xor_zero]
theorem flipB_ne (x : Int) (r : Nat) (hx : 0 ≤ x) : flipB x r ≠ x := by
  obtain ⟨A, rfl⟩ := Int.eq_ofNat_of_zero_le hx
  unfold flipB
  rw [Int.toNat_natCast]
  intro e
  have e : A ^^^ 2 ^ r = A := by exact_mod_cast e
  have h2 : (A ^^^ 2 ^ r) ^^^ A = 0 := by rw [e, Nat.xor_self]
  rw [Nat.xor_comm A, Nat.xor_assoc, Nat.xor_self, Nat.xor_zero] at h2
  have := Nat.pow_pos (n := r) (show 0 < 2 by decide)
  omega
theorem flipB_byte (x : Int) (r : Nat) (hx : 0 ≤ x ∧ x ≤ 255) (hr : r < 8) : 0 ≤ flipB x r ∧ flipB x r ≤ 255 := by
  obtain ⟨A, rfl⟩ := Int.eq_ofNat_of_zero_le hx.1
  have hp : 2 ^ r < 2 ^ 8 := Nat.pow_lt_pow_right (by decide) hr
  have hA : A < 2 ^ 8 := by have := hx.2; omega
  have := Nat.xor_lt_two_pow hA hp
  unfold flipB
  rw [Int.toNat_natCast]
  omega
theorem getD_at {b : List Int} {i : Nat} (h : i < b.length) : b.getD i 0 = b[i] := by rw [List.getD_eq_getElem?_getD, List.getElem?_eq_getElem h]; rfl
theorem flipAt_twice (b : List Int) (k : Nat) (hk : k / 8 < b.length) (hb : ∀ x ∈ b, 0 ≤ x ∧ x ≤ 255) : flipAt (flipAt b k) k = b := by
  unfold flipAt
  rw [getD_at (b := b.set (k / 8) (flipB (b.getD (k / 8) 0) (k % 8))) (by simpa using hk), List.getElem_set_self, List.set_set, getD_at hk, flipB_twice _ _ (hb _ (List.getElem_mem hk)).1, List.set_getElem_self]
theorem flipAt_ne (b : List Int) (k : Nat) (hk : k / 8 < b.length) (hb : ∀ x ∈ b, 0 ≤ x ∧ x ≤ 255) : flipAt b k ≠ b := by
  intro e
  unfold flipAt at e
  have h : (b.set (k / 8) (flipB (b.getD (k / 8) 0) (k % 8))).getD (k / 8) 0 = b.getD (k / 8) 0 := by rw [e]
  rw [getD_at (b := b.set (k / 8) (flipB (b.getD (k / 8) 0) (k % 8))) (by simpa using hk), List.getElem_set_self, getD_at hk] at h
  exact flipB_ne _ _ (hb _ (List.getElem_mem hk)).1 h
theorem flipAt_byte (b : List Int) (k : Nat) (hk : k / 8 < b.length) (hb : ∀ x ∈ b, 0 ≤ x ∧ x ≤ 255) : ∀ x ∈ flipAt b k, 0 ≤ x ∧ x ≤ 255 := by
  intro x hx
  unfold flipAt at hx
  rcases List.mem_or_eq_of_mem_set hx with h | h
  · exact hb x h
  · rw [h, getD_at hk]
    exact flipB_byte _ _ (hb _ (List.getElem_mem hk)) (by omega)
theorem sameB_ne {a b : List Int} (h : a ≠ b) : sameB a b = false := by unfold sameB; simp [h]

set_option maxRecDepth 100000 in
set_option maxHeartbeats 8000000 in
theorem spoilsL (v : Value) (b : List Int) (bit other : Int) (hby : ∀ x ∈ b, 0 ≤ x ∧ x ≤ 255) (w : World) (hrd : RdB w v b) : Calls Try.prog 5 #[v, .int .i64 bit, .int .i64 other] w fun e w' => e = .returned (.bool true) ∧ Below w.heap.size w w' := by
  obtain ⟨la, lc, rfl⟩ := hrd.len
  have HRD := Lib.hid hrd
  have HBY := Lib.hid hby
  clear hrd hby
  go_enter Try.func5, Try.ntmps5
  go_wp2_with fail
  refine (awake w).mono ?_
  rintro e w0 ⟨rfl, b0⟩
  have B0 := Lib.hid b0
  clear b0
  by_cases h0 : b.length = 0
  · have hd : ((b.length : Int) == 0) = true := by simp [h0]
    have hdn : (b.length == 0) = true := by simp [h0]
    go_wp2_with fail
    go_ret
    exact ⟨rfl, B0.out⟩
  have hd : ((b.length : Int) == 0) = false := by rw [beq_eq_false_iff_ne]; omega
  have hdn : (b.length == 0) = false := by rw [beq_eq_false_iff_ne]; exact h0
  by_cases h200 : 200 < b.length
  · have hd2 : decide ((200 : Int) < b.length) = true := decide_eq_true (by omega)
    have hd2n : decide (200 < b.length) = true := decide_eq_true h200
    go_wp2_with fail
    go_ret
    exact ⟨rfl, B0.out⟩
  have hd2 : decide ((200 : Int) < b.length) = false := decide_eq_false (by omega)
  have hd2n : decide (200 < b.length) = false := decide_eq_false h200
  have hbl0 : 0 < b.length := by omega
  have hbl2 : b.length ≤ 200 := by omega
  obtain ⟨k, hk⟩ : ∃ k, k = kOf bit b.length := ⟨_, rfl⟩
  obtain ⟨m, hm⟩ : ∃ m, m = kOf other b.length := ⟨_, rfl⟩
  have hk8 : k / 8 < b.length := by have := (kOf_lt bit hbl0 (show b.length ≤ 1000 by omega)).2; rw [hk]; omega
  have hm8 : m / 8 < b.length := by have := (kOf_lt other hbl0 (show b.length ≤ 1000 by omega)).2; rw [hm]; omega
  have HK := Lib.hid hk
  have HM := Lib.hid hm
  obtain ⟨b1, hb1⟩ : ∃ b1, b1 = flipAt b k := ⟨_, rfl⟩
  have hl1 : b1.length = b.length := by rw [hb1, flipAt_len]
  have F1 := Lib.hid (show flipAt b1 k = b by rw [hb1]; exact flipAt_twice b k hk8 HBY.out)
  have N1 := Lib.hid (show b1 ≠ b by rw [hb1]; exact flipAt_ne b k hk8 HBY.out)
  have BY1 := Lib.hid (show ∀ x ∈ b1, 0 ≤ x ∧ x ≤ 255 by rw [hb1]; exact flipAt_byte b k hk8 HBY.out)
  have F2 := Lib.hid (flipAt_twice b m hm8 HBY.out)
  have BY2 := Lib.hid (flipAt_byte b m hm8 HBY.out)
  have HB1 := Lib.hid hb1
  have HL1 := Lib.hid hl1
  have HL0 := Lib.hid (And.intro hbl0 hbl2)
  clear hk hm hb1 hl1 hk8 hm8 h0 h200
  go_wp2_with fail
  refine (newL 2 5 9 (by decide) (by decide) (by decide) w0).mono ?_
  rintro e w1 ⟨t, c, rfl, h1⟩
  have H1 := Lib.hid h1
  clear h1
  go_wp2_with fail
  refine (xsendYes H1.out _ b (HRD.out.fr (B0.out.trans (H1.out.bel.mono B0.out.size))) (by have := HL0.out; omega) (by decide)).mono ?_
  rintro e w2 ⟨rfl, h2⟩
  have H2 := Lib.hid (show LnX w0 w2 t 2 9 0 c 5 [(b, 0)] [] from h2)
  clear h2
  go_wp2_with fail
  refine (xtwice H2.out (by simp) (by have := HL0.out; show b.length ≤ _; omega)).mono ?_
  rintro e w3 ⟨rfl, h3⟩
  have H3 := Lib.hid h3
  clear h3
  go_wp2_with fail
  refine (xspoil H3.out HL0.out HBY.out bit).mono ?_
  rintro e w4 ⟨rfl, h4⟩
  have H4 := Lib.hid (show LnX w0 w4 t 2 9 0 c 5 [(b1, 0), (b, 0)] [] by rw [HB1.out, HK.out]; exact h4)
  clear h4
  go_wp2_with fail
  refine (xtwice H4.out (by simp) (by have := HL0.out; have := HL1.out; show b1.length ≤ _; omega)).mono ?_
  rintro e w5 ⟨rfl, h5⟩
  have H5 := Lib.hid h5
  clear h5
  go_wp2_with fail
  refine (xrow H5.out (by intro q hq; have := HL0.out; have := HL1.out; simp at hq; rcases hq with rfl | rfl <;> simp <;> omega)).mono ?_
  rintro e w6 ⟨ov, fo, rfl, o6, a6, b6, h6⟩
  obtain ⟨f0, f1, f2, hfo⟩ : ∃ f0 f1 f2, fo = [f0, f1, f2] := by
    have := forall_len a6
    match fo, this with
    | [f0, f1, f2], _ => exact ⟨f0, f1, f2, rfl⟩
  subst hfo
  obtain ⟨⟨of0, _⟩, ⟨of1, _⟩, ⟨of2, _⟩, _⟩ := a6
  obtain ⟨g, cap, hov, _⟩ := own_some o6 (by simp)
  subst hov
  have c0 : w6.cell? ⟨g, 0, none⟩ = some (.slice f0.a f0.n f0.c) := o6.cell enF_len 0 0 (by simp) (by decide)
  have c1 : w6.cell? ⟨g, 2, none⟩ = some (.slice f1.a f1.n f1.c) := o6.cell enF_len 1 0 (by simp) (by decide)
  have c2 : w6.cell? ⟨g, 4, none⟩ = some (.slice f2.a f2.n f2.c) := o6.cell enF_len 2 0 (by simp) (by decide)
  have u0 : ∀ u : After w6, u.w'.cell? ⟨g, 0, none⟩ = some (.slice f0.a f0.n f0.c) := fun u => u.cell c0
  have u1 : ∀ u : After w6, u.w'.cell? ⟨g, 2, none⟩ = some (.slice f1.a f1.n f1.c) := fun u => u.cell c1
  have u2 : ∀ u : After w6, u.w'.cell? ⟨g, 4, none⟩ = some (.slice f2.a f2.n f2.c) := fun u => u.cell c2
  have H6 := Lib.hid h6
  have S0 := Lib.hid (show ∀ u : After w6, Calls Try.prog 16 #[.slice f0.a f0.n f0.c, .slice la b.length lc] u.w' fun e w' => e = .returned (.bool false) ∧ Below u.w'.heap.size u.w' w' from fun u => by
    have := sameRows _ _ b1 b u.w' ((show RdB w6 _ b1 from of0.rd).fr u.h) ((HRD.out.fr (B0.out.trans (H6.out.bel.mono B0.out.size))).fr u.h) (by have := HL0.out; have := HL1.out; omega)
    rwa [sameB_ne N1.out] at this)
  have S1 := Lib.hid (show ∀ u : After w6, Calls Try.prog 16 #[.slice f0.a f0.n f0.c, .slice f1.a f1.n f1.c] u.w' fun e w' => e = .returned (.bool true) ∧ Below u.w'.heap.size u.w' w' from fun u => by
    have := sameRows _ _ b1 b1 u.w' ((show RdB w6 _ b1 from of0.rd).fr u.h) ((show RdB w6 _ b1 from of1.rd).fr u.h) (by have := HL0.out; have := HL1.out; omega)
    rwa [sameB_self] at this)
  have S2 := Lib.hid (show ∀ u : After w6, Calls Try.prog 16 #[.slice f2.a f2.n f2.c, .slice la b.length lc] u.w' fun e w' => e = .returned (.bool true) ∧ Below u.w'.heap.size u.w' w' from fun u => by
    have := sameRows _ _ b b u.w' ((show RdB w6 _ b from of2.rd).fr u.h) ((HRD.out.fr (B0.out.trans (H6.out.bel.mono B0.out.size))).fr u.h) (by have := HL0.out; omega)
    rwa [sameB_self] at this)
  clear o6 of0 of1 of2 b6 h6 c0 c1 c2
  go_upto_region 13 with fail
  refine wp_region_after (by kernel_rfl) (by kernel_rfl) ?_
  go_big_quiet_step (fail)
  go_big_quiet_step (fail)
  go_big_quiet_step (fail)
  go_big_quiet_step (fail)
  go_big_quiet_step (fail)
  go_big_quiet_step (fail)
  go_big_quiet_step (fail)
  go_big_quiet_step (fail)
  go_big_quiet_step (fail)
  go_big_quiet_step ((go_at_call 16; exact Calls.after_of (S0.out _)))
  go_big_quiet_step (fail)
  go_big_quiet_step (fail)
  go_big_quiet_step (fail)
  go_big_quiet_step (fail)
  go_big_quiet_step (fail)
  go_big_quiet_step (fail)
  go_big_quiet_step (fail)
  go_big_quiet_step (fail)
  go_big_quiet_step (fail)
  go_big_quiet_step (fail)
  go_big_quiet_step ((go_at_call 16; exact Calls.after_of (S1.out _)))
  go_big_quiet_step (fail)
  go_big_quiet_step (fail)
  go_big_quiet_step (fail)
  go_big_quiet_step (fail)
  go_big_quiet_step (fail)
  go_big_quiet_step (fail)
  go_big_quiet_step (fail)
  go_big_quiet_step (fail)
  go_big_quiet_step ((go_at_call 16; exact Calls.after_of (S2.out _)))
  go_big_quiet_step (fail)
  go_big_quiet_step (fail)
  refine wpQuiet_nil ?_
  rintro w7 ⟨⟨_, b7⟩, rfl⟩
  have H7 := Lib.hid (H6.out.below b7)
  clear b7 u0 u1 u2
  go_wp2_with fail
  refine (xspoil H7.out (by have := HL0.out; have := HL1.out; show 0 < b1.length ∧ b1.length ≤ 200; omega) BY1.out bit).mono ?_
  rintro e w8 ⟨rfl, h8⟩
  have H8 := Lib.hid (show LnX w0 w8 t 2 9 0 c 5 [(b, 0), (b1, 0), (b, 0)] [] by
    have h : (flipAt b1 (kOf bit b1.length), (0 : Int)) = (b, 0) := by rw [HL1.out, ← HK.out, F1.out]
    rw [← show ((flipAt b1 (kOf bit b1.length), (0 : Int)) :: [(b1, 0), (b, 0)]) = [(b, 0), (b1, 0), (b, 0)] from by rw [h]]
    exact h8)
  clear h8
  go_wp2_with fail
  refine (xspoil H8.out HL0.out HBY.out other).mono ?_
  rintro e w9 ⟨rfl, h9⟩
  have H9 := Lib.hid (show LnX w0 w9 t 2 9 0 c 5 [(flipAt b m, 0), (b1, 0), (b, 0)] [] by rw [HM.out]; exact h9)
  clear h9
  go_wp2_with fail
  refine (xspoil H9.out (by have := HL0.out; have := flipAt_len b m; show 0 < (flipAt b m).length ∧ (flipAt b m).length ≤ 200; omega) BY2.out other).mono ?_
  rintro e w10 ⟨rfl, h10⟩
  have H10 := Lib.hid (show LnX w0 w10 t 2 9 0 c 5 [(b, 0), (b1, 0), (b, 0)] [] by
    have h : (flipAt (flipAt b m) (kOf other (flipAt b m).length), (0 : Int)) = (b, 0) := by rw [flipAt_len, ← HM.out, F2.out]
    rw [← show ((flipAt (flipAt b m) (kOf other (flipAt b m).length), (0 : Int)) :: [(b1, 0), (b, 0)]) = [(b, 0), (b1, 0), (b, 0)] from by rw [h]]
    exact h10)
  clear h10
  go_wp2_with fail
  refine (xpass H10.out).mono ?_
  rintro e w11 ⟨v11, rfl, ⟨a11, n11, k11, rfl⟩, h11⟩
  have H11 := Lib.hid h11
  clear h11
  go_wp2_with fail
  refine (xpass H11.out).mono ?_
  rintro e w12 ⟨v12, rfl, ⟨a12, n12, k12, rfl⟩, h12⟩
  have H12 := Lib.hid h12
  clear h12
  go_wp2_with fail
  refine (sameRows _ _ b b w12 (H12.out.kept (.slice a11 n11 k11, b) (by simp)).rd (HRD.out.fr (B0.out.trans (H12.out.bel.mono B0.out.size))) (by have := HL0.out; omega)).mono ?_
  rintro e w13 ⟨rfl, b13⟩
  rw [sameB_self]
  have H13 := Lib.hid (H12.out.below b13)
  clear b13
  go_wp2_with fail
  refine (sameRows _ _ b1 b w13 (H13.out.kept (.slice a12 n12 k12, b1) (by simp)).rd (HRD.out.fr (B0.out.trans (H13.out.bel.mono B0.out.size))) (by have := HL0.out; have := HL1.out; omega)).mono ?_
  rintro e w14 ⟨rfl, b14⟩
  rw [sameB_ne N1.out]
  have H14 := Lib.hid (H13.out.below b14)
  clear b14
  go_wp2_with fail
  refine (xspoilNo H14.out bit).mono ?_
  rintro e w15 ⟨rfl, h15⟩
  have H15 := Lib.hid h15
  clear h15
  go_wp2_with fail
  go_ret
  exact ⟨rfl, B0.out.trans (H15.out.bel.mono B0.out.size)⟩
end Go.Proofs.Yteihpaikdpdglaa
