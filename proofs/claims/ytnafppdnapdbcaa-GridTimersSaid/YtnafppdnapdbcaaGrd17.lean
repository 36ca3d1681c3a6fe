/-
  Layer 15: GridTimers: the walk.
-/
import Derived.Test.YtnafppdnapdbcaaGrd13
import Derived.Deep.DeepCutAuto
import Derived.Deep.CutBlock
namespace Go.Proofs.Ytnafppdnapdbcaa
open Go.RowKit


def timB (e : Nat) (x : List Int × Int × Bool) : Bool :=
  (hasL x.1 14 == (hasL x.1 29 || hasL x.1 30)) && (!(hasL x.1 29 || hasL x.1 30) || (hasL x.1 32 && decide (11 ≤ x.2.1))) && (!hasL x.1 21 || (hasL x.1 17 == decide (x.2.1 < 11))) &&
  (!(x.2.1 == 0) || (!hasL x.1 13 && (!hasL x.1 14 && (!hasL x.1 15 && !hasL x.1 17)))) && (hasL x.1 32 == (decide (29 ≤ e) && (decide (e ≤ 32) && x.2.2))) &&
  (!hasL x.1 0 || hasL x.1 13) && (!hasL x.1 1 || hasL x.1 13) && (!hasL x.1 34 || ((e == 29) || (decide (25 ≤ e) && decide (e ≤ 27))))
theorem tim_all : allB 14 (fun s => allB 34 (fun e => timB e (refG s e))) = true := by decide +kernel
structure TimP (e n : Int) (k : Bool) (d : List Int) : Prop where
  poll : hasL d 14 = (hasL d 29 || hasL d 30)
  poll' : (hasL d 29 || hasL d 30) = true → hasL d 32 = true ∧ 11 ≤ n
  busy : hasL d 21 = true → hasL d 17 = decide (n < 11)
  over : n = 0 → hasL d 13 = false ∧ hasL d 14 = false ∧ hasL d 15 = false ∧ hasL d 17 = false
  retry : hasL d 32 = (decide (29 ≤ e) && (decide (e ≤ 32) && k))
  sabme : hasL d 0 = true → hasL d 13 = true
  disc : hasL d 1 = true → hasL d 13 = true
  slow : hasL d 34 = true → e = 29 ∨ (25 ≤ e ∧ e ≤ 27)
theorem tim_at {s e n : Int} {d : List Int} {k : Bool} (hs : 0 ≤ s ∧ s < 14) (he : 0 ≤ e ∧ e < 34) (h : refG s e = (d, n, k)) : TimP e n k d := by
  obtain ⟨s, rfl⟩ : ∃ m : Nat, s = m := ⟨s.toNat, by omega⟩
  obtain ⟨e, rfl⟩ : ∃ m : Nat, e = m := ⟨e.toNat, by omega⟩
  have h2 := allB_at (allB_at tim_all (i := s) (by omega)) (i := e) (by omega)
  rw [h] at h2
  simp only [timB, Bool.and_eq_true] at h2
  obtain ⟨⟨⟨⟨⟨⟨⟨h1, h2⟩, h3⟩, h4⟩, h5⟩, h6⟩, h7⟩, h8⟩ := h2
  refine ⟨by simpa using h1, fun q => ?_, fun q => ?_, fun q => ?_, ?_, fun q => ?_, fun q => ?_, fun q => ?_⟩
  · rw [q] at h2; simpa using h2
  · rw [q] at h3; simpa using h3
  · have : (n == 0) = true := by simpa using q
    rw [this] at h4
    simp only [Bool.not_true, Bool.false_or, Bool.and_eq_true, Bool.not_eq_true'] at h4
    exact ⟨h4.1, h4.2.1, h4.2.2.1, h4.2.2.2⟩
  · rw [beq_iff_eq] at h5
    rw [h5]
    have a1 : decide (29 ≤ e) = decide (29 ≤ (e : Int)) := by by_cases q : 29 ≤ e <;> simp [q] <;> omega
    have a2 : decide (e ≤ 32) = decide ((e : Int) ≤ 32) := by by_cases q : e ≤ 32 <;> simp [q] <;> omega
    rw [a1, a2]
  · rw [q] at h6; simpa using h6
  · rw [q] at h7; simpa using h7
  · rw [q] at h8
    simp only [Bool.not_true, Bool.false_or, Bool.or_eq_true, beq_iff_eq, Bool.and_eq_true, decide_eq_true_eq] at h8
    omega

/-- The value of 'has', in whatever world behind this one. -/
theorem has_o (a : Int) (w0 w : World) (b : Nat) (va : Option Addr) (c : Nat) (d : List Int) (n : Int) (k : Bool) (h : Hid (RB 0 w0 w b (.slice va d.length c) (d, n, k))) (hm : d.length ≤ 1000) (p : After w) :
    Calls Try.prog 16 #[.agg #[.slice va d.length c, .int .i64 n, .bool k], .int .i64 a] p.w' fun e w' => e = .returned (.bool (hasL d a)) ∧ Below p.w'.heap.size p.w' w' :=
  has_ (.slice va d.length c) d n k a p.w' 0 (h.out.rd.below p.h) hm

theorem has_a (q : Bool) (a : Int) (w0 w : World) (b : Nat) (va : Option Addr) (c : Nat) (d : List Int) (n : Int) (k : Bool) (hq : Hid (hasL d a = q)) (h : Hid (RB 0 w0 w b (.slice va d.length c) (d, n, k))) (hm : d.length ≤ 1000) (p : After w) :
    Calls Try.prog 16 #[.agg #[.slice va d.length c, .int .i64 n, .bool k], .int .i64 a] p.w' fun e w' => e = .returned (.bool q) ∧ ∃ z : After w, w' = z.w' :=
  Calls.after_of ((has_o a w0 w b va c d n k h hm p).mono fun e w' ⟨he, hb⟩ => ⟨by rw [he, hq.out], hb⟩)

set_option maxRecDepth 100000 in
set_option maxHeartbeats 16000000 in
theorem timersL (a b : Int) (ha : 0 ≤ a ∧ a ≤ 255) (hb : 0 ≤ b ∧ b ≤ 255) (w : World) : Calls Try.prog 9 #[.int .u8 a, .int .u8 b] w fun x w' => x = .returned (.bool true) ∧ Below w.heap.size w w' := by
  obtain ⟨ha1, ha2⟩ := ha
  obtain ⟨hb1, hb2⟩ := hb
  obtain ⟨s, hs⟩ : ∃ s, s = a % 14 := ⟨_, rfl⟩
  obtain ⟨e, he⟩ : ∃ e, e = b % 34 := ⟨_, rfl⟩
  have hs1 : 0 ≤ s ∧ s < 14 := by omega
  have he1 : 0 ≤ e ∧ e < 34 := by omega
  obtain ⟨d, n, k, hd, hl⟩ := refG_parts s e
  have P := Lib.hid (tim_at hs1 he1 hd)
  have Hd := Lib.hid hd
  have Hs := Lib.hid hs
  have He := Lib.hid he
  clear hd hs he
  go_enter Try.func9, Try.ntmps9
  go_wp2_with fail
  refine (awake w).mono ?_
  rintro x w0 ⟨rfl, hb0⟩
  have HB0 := Lib.hid hb0
  clear hb0
  go_upto_region 4 with fail
  rw [← Hs.out, ← He.out]
  go_wp2_with fail
  refine (step_at s e d n k Hd.out _).mono ?_
  rintro x w5 ⟨a5, c5, rfl, r5, b5⟩
  have B5 : Hid (Below w.heap.size w w5) := HB0.out.trans (b5.mono HB0.out.size)
  clear b5
  go_upto_region 5 with fail
  obtain ⟨b8, hb8⟩ : ∃ b, b = w5.heap.size := ⟨_, rfl⟩
  obtain ⟨W8, hW8⟩ : ∃ x, x = w5.alloc (.cells #[.slice a5 d.length c5, .int .i64 n, .bool k] 25) := ⟨_, rfl⟩
  have z0 : W8.cell? ⟨b8, 0, none⟩ = some (.slice a5 d.length c5) := by subst hW8 hb8; exact blk_cell (heap_alloc_new' w5 _) 0
  have z1 : W8.cell? ⟨b8, 1, none⟩ = some (.int .i64 n) := by subst hW8 hb8; exact blk_cell (heap_alloc_new' w5 _) 1
  have z2 : W8.cell? ⟨b8, 2, none⟩ = some (.bool k) := by subst hW8 hb8; exact blk_cell (heap_alloc_new' w5 _) 2
  have RB8 : Hid (RB 0 w W8 b8 (.slice a5 d.length c5) (d, n, k)) := by
    refine ⟨?_, z0, z1, z2, ?_⟩
    · subst hW8; exact (r5.out.later _).mono (Nat.zero_le _)
    · subst hW8; exact B5.out.alloc B5.out.size _
  rw [← hW8, ← hb8]
  clear hW8 hb8 r5 B5

  clear z0 z1 z2
  have p0 := RB8.out.c0
  have p1 := RB8.out.c1
  have p2 := RB8.out.c2
  simp only at p1 p2
  obtain ⟨pp, hpp⟩ : ∃ q, q = (hasL d 29 || hasL d 30) := ⟨_, rfl⟩
  have Pp := Lib.hid hpp
  clear hpp
  go_cut [8] (fun v8 wx => v8 = .bool pp ∧ Hid (RB 0 w wx b8 (.slice a5 d.length c5) (d, n, k)))
  case first =>
    go_wp2_with fail
    refine (has_q 29 _ _ _ _ _ _ _ _ _ RB8 hl).mono ?_
    rintro x wk ⟨q, rfl, hq29, r0, r1, r2, K1⟩
    clear p0 p1 p2
    have p0 := r0
    have p1 := r1
    have p2 := r2
    clear r0 r1 r2
    cases q with
    | true =>
      have V : Hid (pp = true) := by unfold Hid; rw [Pp.out, hq29.out]; rfl
      go_wp2_with fail
      go_meet
      exact ⟨by rw [V.out], K1⟩
    | false =>
      go_wp2_with fail
      refine (has_q 30 _ _ _ _ _ _ _ _ _ K1 hl).mono ?_
      rintro x wk ⟨q, rfl, hq30, r0, r1, r2, K2⟩
      clear p0 p1 p2
      have p0 := r0
      have p1 := r1
      have p2 := r2
      clear r0 r1 r2
      have V : Hid (pp = q) := by unfold Hid; rw [Pp.out, hq29.out, hq30.out]; rfl
      cases q
      all_goals
        go_wp2_with fail
        go_meet
        exact ⟨by rw [V.out], K2⟩
  case rest =>
  obtain ⟨rfl, RA⟩ := hcut
  clear p0 p1 p2 RB8
  have p0 := RA.out.c0
  have p1 := RA.out.c1
  have p2 := RA.out.c2
  simp only at p1 p2
  have H14 : Hid (hasL d 14 = pp) := P.out.poll.trans Pp.out.symm
  go_upto_region 6 with fail
  go_cut [42] (fun v42 wx => v42 = .bool false ∧ Hid (RB 0 w wx b8 (.slice a5 d.length c5) (d, n, k)))
  case first =>
    cases pp with
    | true =>
      obtain ⟨t1, t2⟩ := P.out.poll' Pp.out.symm
      have T1 := Lib.hid t1
      have f1 : decide (n < 11) = false := by simp; omega
      clear t1
      go_wp2_with fail
      refine (has_k true 14 _ _ _ _ _ _ _ _ _ H14 RA hl).mono ?_
      rintro x wk ⟨rfl, r0, r1, r2, K3⟩
      clear p0 p1 p2
      have p0 := r0
      have p1 := r1
      have p2 := r2
      clear r0 r1 r2
      go_wp2_with fail
      refine (has_k true 32 _ _ _ _ _ _ _ _ _ T1 K3 hl).mono ?_
      rintro x wk ⟨rfl, r0, r1, r2, K4⟩
      clear p0 p1 p2
      have p0 := r0
      have p1 := r1
      have p2 := r2
      clear r0 r1 r2
      go_wp2_with fail
      go_meet
      exact ⟨rfl, K4⟩
    | false =>
      go_wp2_with fail
      refine (has_k false 14 _ _ _ _ _ _ _ _ _ H14 RA hl).mono ?_
      rintro x wk ⟨rfl, r0, r1, r2, K5⟩
      clear p0 p1 p2
      have p0 := r0
      have p1 := r1
      have p2 := r2
      clear r0 r1 r2
      go_wp2_with fail
      go_meet
      exact ⟨rfl, K5⟩
  case rest =>
  obtain ⟨rfl, RC⟩ := hcut
  clear p0 p1 p2 RA
  obtain ⟨q21, h21⟩ : ∃ q, hasL d 21 = q := ⟨_, rfl⟩
  have H21 := Lib.hid h21
  clear h21
  have By : Hid (hasL d 21 = true → hasL d 17 = decide (n < 11)) := P.out.busy
  obtain ⟨lt, hlt⟩ : ∃ q, decide (n < 11) = q := ⟨_, rfl⟩
  go_upto_region 8 with fail
  go_cut [52] (fun v52 wx => v52 = .bool false ∧ Hid (RB 0 w wx b8 (.slice a5 d.length c5) (d, n, k)))
  case first =>
    have c0 : ∀ p : After wc, p.w'.cell? ⟨b8, 0, none⟩ = some (.slice a5 d.length c5) := fun p => p.cell RC.out.c0
    have c1 : ∀ p : After wc, p.w'.cell? ⟨b8, 1, none⟩ = some (.int .i64 n) := fun p => p.cell RC.out.c1
    have c2 : ∀ p : After wc, p.w'.cell? ⟨b8, 2, none⟩ = some (.bool k) := fun p => p.cell RC.out.c2
    cases q21 with
    | true =>
      have H17 : Hid (hasL d 17 = lt) := by unfold Hid; rw [By.out H21.out, hlt]
      refine wp_region_after (by kernel_rfl) (by kernel_rfl) ?_
      repeat (go_big_quiet_step ((go_at_call 16; first | (with_reducible exact has_a true 21 _ _ _ _ _ _ _ _ H21 RC hl _) | (with_reducible exact has_a lt 17 _ _ _ _ _ _ _ _ H17 RC hl _) | fail)))
      refine wpQuiet_nil ?_
      rintro w1 ⟨⟨_, hb⟩, rfl⟩
      have RX := Lib.hid (RC.out.below hb)
      clear c0 c1 c2 hb
      go_wp2_with fail
      go_meet
      exact ⟨by cases lt <;> rfl, RX⟩
    | false =>
      refine wp_region_after (by kernel_rfl) (by kernel_rfl) ?_
      repeat (go_big_quiet_step ((go_at_call 16; first | (with_reducible exact has_a false 21 _ _ _ _ _ _ _ _ H21 RC hl _) | fail)))
      refine wpQuiet_nil ?_
      rintro w1 ⟨⟨_, hb⟩, rfl⟩
      have RX := Lib.hid (RC.out.below hb)
      clear c0 c1 c2 hb
      go_wp2_with fail
      go_meet
      exact ⟨rfl, RX⟩
  case rest =>
  obtain ⟨rfl, RD⟩ := hcut
  clear RC hlt
  have p0 := RD.out.c0
  have p1 := RD.out.c1
  have p2 := RD.out.c2
  simp only at p1 p2
  go_upto_region 10 with fail
  go_cut [71] (fun v71 wx => v71 = .bool false ∧ Hid (RB 0 w wx b8 (.slice a5 d.length c5) (d, n, k)))
  case first =>
    cases hn0 : (n == 0) with
    | true =>
      obtain ⟨t1, t2, t3, t4⟩ := P.out.over (by simpa using hn0)
      have T1 := Lib.hid t1
      have T2 := Lib.hid t2
      have T3 := Lib.hid t3
      have T4 := Lib.hid t4
      clear t1 t2 t3 t4
      go_wp2_with fail
      refine (has_k false 13 _ _ _ _ _ _ _ _ _ T1 RD hl).mono ?_
      rintro x wk ⟨rfl, r0, r1, r2, K6⟩
      clear p0 p1 p2
      have p0 := r0
      have p1 := r1
      have p2 := r2
      clear r0 r1 r2
      go_wp2_with fail
      refine (has_k false 14 _ _ _ _ _ _ _ _ _ T2 K6 hl).mono ?_
      rintro x wk ⟨rfl, r0, r1, r2, K7⟩
      clear p0 p1 p2
      have p0 := r0
      have p1 := r1
      have p2 := r2
      clear r0 r1 r2
      go_wp2_with fail
      refine (has_k false 15 _ _ _ _ _ _ _ _ _ T3 K7 hl).mono ?_
      rintro x wk ⟨rfl, r0, r1, r2, K8⟩
      clear p0 p1 p2
      have p0 := r0
      have p1 := r1
      have p2 := r2
      clear r0 r1 r2
      go_wp2_with fail
      refine (has_k false 17 _ _ _ _ _ _ _ _ _ T4 K8 hl).mono ?_
      rintro x wk ⟨rfl, r0, r1, r2, K9⟩
      clear p0 p1 p2
      have p0 := r0
      have p1 := r1
      have p2 := r2
      clear r0 r1 r2
      go_wp2_with fail
      go_meet
      exact ⟨rfl, K9⟩
    | false =>
      go_wp2_with fail
      go_meet
      exact ⟨rfl, RD⟩
  case rest =>
  obtain ⟨rfl, RE⟩ := hcut
  clear p0 p1 p2 RD
  have p0 := RE.out.c0
  have p1 := RE.out.c1
  have p2 := RE.out.c2
  simp only at p1 p2
  obtain ⟨e1, e2⟩ := he1
  obtain ⟨g1, hg1⟩ : ∃ q, decide (29 ≤ e) = q := ⟨_, rfl⟩
  obtain ⟨g2, hg2⟩ : ∃ q, decide (e ≤ 32) = q := ⟨_, rfl⟩
  have H32 : Hid (hasL d 32 = (g1 && (g2 && k))) := by unfold Hid; rw [← hg1, ← hg2]; exact P.out.retry
  go_upto_region 12 with fail
  go_cut [84] (fun v84 wx => v84 = .bool false ∧ Hid (RB 0 w wx b8 (.slice a5 d.length c5) (d, n, k)))
  case first =>
    cases g1
    all_goals cases g2
    all_goals cases k
    all_goals
      go_wp2_with fail
      refine (has_k _ 32 _ _ _ _ _ _ _ _ _ H32 RE hl).mono ?_
      rintro x wk ⟨rfl, r0, r1, r2, K10⟩
      clear p0 p1 p2
      have p0 := r0
      have p1 := r1
      have p2 := r2
      clear r0 r1 r2
      go_wp2_with fail
      go_meet
      exact ⟨rfl, K10⟩
  case rest =>
  obtain ⟨rfl, RF⟩ := hcut
  clear p0 p1 p2 RE hg1 hg2
  have p0 := RF.out.c0
  have p1 := RF.out.c1
  have p2 := RF.out.c2
  simp only at p1 p2
  have S0 : Hid (hasL d 0 = true → hasL d 13 = true) := P.out.sabme
  have S1 : Hid (hasL d 1 = true → hasL d 13 = true) := P.out.disc
  have S34 : Hid (hasL d 34 = true → e = 29 ∨ (25 ≤ e ∧ e ≤ 27)) := P.out.slow
  obtain ⟨q0, h0⟩ : ∃ q, hasL d 0 = q := ⟨_, rfl⟩
  obtain ⟨q1, h1⟩ : ∃ q, hasL d 1 = q := ⟨_, rfl⟩
  obtain ⟨q34, h34⟩ : ∃ q, hasL d 34 = q := ⟨_, rfl⟩
  have H0 := Lib.hid h0
  clear h0
  have H1 := Lib.hid h1
  clear h1
  have H34 := Lib.hid h34
  clear h34
  cases q0 with
  | false =>
    go_wp2_with fail
    refine (has_k false 0 _ _ _ _ _ _ _ _ _ H0 RF hl).mono ?_
    rintro x wk ⟨rfl, r0, r1, r2, K11⟩
    clear p0 p1 p2
    have p0 := r0
    have p1 := r1
    have p2 := r2
    clear r0 r1 r2
    cases q1 with
    | false =>
      go_wp2_with fail
      refine (has_k false 1 _ _ _ _ _ _ _ _ _ H1 K11 hl).mono ?_
      rintro x wk ⟨rfl, r0, r1, r2, K12⟩
      clear p0 p1 p2
      have p0 := r0
      have p1 := r1
      have p2 := r2
      clear r0 r1 r2
      go_wp2_with fail
      refine (has_k q34 34 _ _ _ _ _ _ _ _ _ H34 K12 hl).mono ?_
      rintro x wk ⟨rfl, r0, r1, r2, K13⟩
      clear p0 p1 p2
      have p0 := r0
      have p1 := r1
      have p2 := r2
      clear r0 r1 r2
      cases q34 with
      | false =>
        go_wp2_with fail
        go_ret
        exact ⟨rfl, K13.out.bel⟩
      | true =>
        have hx := S34.out H34.out
        by_cases e29 : e = 29
        · have x1 : (e == 29) = true := by simpa using e29
          clear hx e29
          go_wp2_with fail
          go_ret
          exact ⟨rfl, K13.out.bel⟩
        · have x1 : (e == 29) = false := by simpa using e29
          have x2 : decide (25 ≤ e) = true := by simp; omega
          have x3 : decide (e ≤ 27) = true := by simp; omega
          clear hx e29
          go_wp2_with fail
          go_ret
          exact ⟨rfl, K13.out.bel⟩
    | true =>
      have Q1 : Hid (hasL d 13 = true) := S1.out H1.out
      go_wp2_with fail
      refine (has_k true 1 _ _ _ _ _ _ _ _ _ H1 K11 hl).mono ?_
      rintro x wk ⟨rfl, r0, r1, r2, K14⟩
      clear p0 p1 p2
      have p0 := r0
      have p1 := r1
      have p2 := r2
      clear r0 r1 r2
      go_wp2_with fail
      refine (has_k true 13 _ _ _ _ _ _ _ _ _ Q1 K14 hl).mono ?_
      rintro x wk ⟨rfl, r0, r1, r2, K15⟩
      clear p0 p1 p2
      have p0 := r0
      have p1 := r1
      have p2 := r2
      clear r0 r1 r2
      go_wp2_with fail
      refine (has_k q34 34 _ _ _ _ _ _ _ _ _ H34 K15 hl).mono ?_
      rintro x wk ⟨rfl, r0, r1, r2, K16⟩
      clear p0 p1 p2
      have p0 := r0
      have p1 := r1
      have p2 := r2
      clear r0 r1 r2
      cases q34 with
      | false =>
        go_wp2_with fail
        go_ret
        exact ⟨rfl, K16.out.bel⟩
      | true =>
        have hx := S34.out H34.out
        by_cases e29 : e = 29
        · have x1 : (e == 29) = true := by simpa using e29
          clear hx e29
          go_wp2_with fail
          go_ret
          exact ⟨rfl, K16.out.bel⟩
        · have x1 : (e == 29) = false := by simpa using e29
          have x2 : decide (25 ≤ e) = true := by simp; omega
          have x3 : decide (e ≤ 27) = true := by simp; omega
          clear hx e29
          go_wp2_with fail
          go_ret
          exact ⟨rfl, K16.out.bel⟩
  | true =>
    have Q0 : Hid (hasL d 13 = true) := S0.out H0.out
    go_wp2_with fail
    refine (has_k true 0 _ _ _ _ _ _ _ _ _ H0 RF hl).mono ?_
    rintro x wk ⟨rfl, r0, r1, r2, K17⟩
    clear p0 p1 p2
    have p0 := r0
    have p1 := r1
    have p2 := r2
    clear r0 r1 r2
    go_wp2_with fail
    refine (has_k true 13 _ _ _ _ _ _ _ _ _ Q0 K17 hl).mono ?_
    rintro x wk ⟨rfl, r0, r1, r2, K18⟩
    clear p0 p1 p2
    have p0 := r0
    have p1 := r1
    have p2 := r2
    clear r0 r1 r2
    cases q1 with
    | false =>
      go_wp2_with fail
      refine (has_k false 1 _ _ _ _ _ _ _ _ _ H1 K18 hl).mono ?_
      rintro x wk ⟨rfl, r0, r1, r2, K19⟩
      clear p0 p1 p2
      have p0 := r0
      have p1 := r1
      have p2 := r2
      clear r0 r1 r2
      go_wp2_with fail
      refine (has_k q34 34 _ _ _ _ _ _ _ _ _ H34 K19 hl).mono ?_
      rintro x wk ⟨rfl, r0, r1, r2, K20⟩
      clear p0 p1 p2
      have p0 := r0
      have p1 := r1
      have p2 := r2
      clear r0 r1 r2
      cases q34 with
      | false =>
        go_wp2_with fail
        go_ret
        exact ⟨rfl, K20.out.bel⟩
      | true =>
        have hx := S34.out H34.out
        by_cases e29 : e = 29
        · have x1 : (e == 29) = true := by simpa using e29
          clear hx e29
          go_wp2_with fail
          go_ret
          exact ⟨rfl, K20.out.bel⟩
        · have x1 : (e == 29) = false := by simpa using e29
          have x2 : decide (25 ≤ e) = true := by simp; omega
          have x3 : decide (e ≤ 27) = true := by simp; omega
          clear hx e29
          go_wp2_with fail
          go_ret
          exact ⟨rfl, K20.out.bel⟩
    | true =>
      have Q1 : Hid (hasL d 13 = true) := S1.out H1.out
      go_wp2_with fail
      refine (has_k true 1 _ _ _ _ _ _ _ _ _ H1 K18 hl).mono ?_
      rintro x wk ⟨rfl, r0, r1, r2, K21⟩
      clear p0 p1 p2
      have p0 := r0
      have p1 := r1
      have p2 := r2
      clear r0 r1 r2
      go_wp2_with fail
      refine (has_k true 13 _ _ _ _ _ _ _ _ _ Q1 K21 hl).mono ?_
      rintro x wk ⟨rfl, r0, r1, r2, K22⟩
      clear p0 p1 p2
      have p0 := r0
      have p1 := r1
      have p2 := r2
      clear r0 r1 r2
      go_wp2_with fail
      refine (has_k q34 34 _ _ _ _ _ _ _ _ _ H34 K22 hl).mono ?_
      rintro x wk ⟨rfl, r0, r1, r2, K23⟩
      clear p0 p1 p2
      have p0 := r0
      have p1 := r1
      have p2 := r2
      clear r0 r1 r2
      cases q34 with
      | false =>
        go_wp2_with fail
        go_ret
        exact ⟨rfl, K23.out.bel⟩
      | true =>
        have hx := S34.out H34.out
        by_cases e29 : e = 29
        · have x1 : (e == 29) = true := by simpa using e29
          clear hx e29
          go_wp2_with fail
          go_ret
          exact ⟨rfl, K23.out.bel⟩
        · have x1 : (e == 29) = false := by simpa using e29
          have x2 : decide (25 ≤ e) = true := by simp; omega
          have x3 : decide (e ≤ 27) = true := by simp; omega
          clear hx e29
          go_wp2_with fail
          go_ret
          exact ⟨rfl, K23.out.bel⟩
end Go.Proofs.Ytnafppdnapdbcaa