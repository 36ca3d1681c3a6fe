/-
  Layer 15: GridEnds: the walk.
-/
import Derived.Test.YtnafppdnapdbcaaGrd13
import Derived.Deep.DeepCutAuto
import Derived.Deep.CutBlock
namespace Go.Proofs.Ytnafppdnapdbcaa
open Go.RowKit


def user2 (e : Int) : Bool := (e == 2) || (e == 3)
def endsB (s e : Nat) (x : List Int × Int × Bool) : Bool :=
  (x.2.2 || (x.1.length == 0 && x.2.1 == (s : Int))) && decide (0 ≤ x.2.1) && decide (x.2.1 ≤ 13) && (hasL x.1 10 == (!decide (8 ≤ s) && decide (8 ≤ x.2.1))) &&
  (decide (8 ≤ s) || (!hasL x.1 18 && !hasL x.1 31 && !hasL x.1 19)) && (!decide (8 ≤ s) || (decide (8 ≤ x.2.1) || (user2 e || (hasL x.1 7 || (hasL x.1 8 || hasL x.1 4))))) &&
  (!decide (11 ≤ x.2.1) || (decide (11 ≤ s) || hasL x.1 14)) && (!decide (11 ≤ s) || (!decide (8 ≤ x.2.1) || (decide (11 ≤ x.2.1) || hasL x.1 33))) && (!decide (8 ≤ s) || (decide (8 ≤ x.2.1) || hasL x.1 12))
theorem ends_all : allB 14 (fun s => allB 34 (fun e => endsB s e (refG s e))) = true := by decide +kernel
structure EndsP (s e n : Int) (k : Bool) (d : List Int) : Prop where
  off : k = false → d = [] ∧ n = s
  n0 : 0 ≤ n
  n1 : n ≤ 13
  clear : hasL d 10 = (!decide (8 ≤ s) && decide (8 ≤ n))
  take : s < 8 → hasL d 18 = false ∧ hasL d 31 = false ∧ hasL d 19 = false
  ends : 8 ≤ s → n < 8 → user2 e = false → (hasL d 7 || (hasL d 8 || hasL d 4)) = true
  p1 : 11 ≤ n → s < 11 → hasL d 14 = true
  p2 : 11 ≤ s → 8 ≤ n → n < 11 → hasL d 33 = true
  stop : 8 ≤ s → n < 8 → hasL d 12 = true
theorem ends_at {s e n : Int} {d : List Int} {k : Bool} (hs : 0 ≤ s ∧ s < 14) (he : 0 ≤ e ∧ e < 34) (h : refG s e = (d, n, k)) : EndsP s e n k d := by
  obtain ⟨s, rfl⟩ : ∃ m : Nat, s = m := ⟨s.toNat, by omega⟩
  obtain ⟨e, rfl⟩ : ∃ m : Nat, e = m := ⟨e.toNat, by omega⟩
  have h2 := allB_at (allB_at ends_all (i := s) (by omega)) (i := e) (by omega)
  rw [h] at h2
  simp only [endsB, Bool.and_eq_true] at h2
  obtain ⟨⟨⟨⟨⟨⟨⟨⟨h0, h1⟩, h2⟩, h3⟩, h4⟩, h5⟩, h6⟩, h7⟩, h8⟩ := h2
  simp only [decide_eq_true_eq] at h1 h2
  refine ⟨fun q => ?_, h1, h2, ?_, fun q => ?_, fun q q2 q3 => ?_, fun q q2 => ?_, fun q q2 q3 => ?_, fun q q2 => ?_⟩
  · rw [q] at h0
    simp only [Bool.false_or, Bool.and_eq_true, beq_iff_eq] at h0
    exact ⟨List.eq_nil_of_length_eq_zero h0.1, h0.2⟩
  · rw [beq_iff_eq] at h3
    rw [h3]
    have : decide (8 ≤ s) = decide (8 ≤ (s : Int)) := by simp; omega
    rw [this]
  · have : decide (8 ≤ s) = false := by simp; omega
    rw [this] at h4
    simp only [Bool.false_or, Bool.and_eq_true, Bool.not_eq_true'] at h4
    exact ⟨h4.1.1, h4.1.2, h4.2⟩
  · have a1 : decide (8 ≤ s) = true := by simp; omega
    have a2 : decide (8 ≤ n) = false := by simp; omega
    rw [a1, a2, q3] at h5
    simpa using h5
  · have a1 : decide (11 ≤ n) = true := by simp; omega
    have a2 : decide (11 ≤ s) = false := by simp; omega
    rw [a1, a2] at h6
    simpa using h6
  · have a1 : decide (11 ≤ s) = true := by simp; omega
    have a2 : decide (8 ≤ n) = true := by simp; omega
    have a3 : decide (11 ≤ n) = false := by simp; omega
    rw [a1, a2, a3] at h7
    simpa using h7
  · have a1 : decide (8 ≤ s) = true := by simp; omega
    have a2 : decide (8 ≤ n) = false := by simp; omega
    rw [a1, a2] at h8
    simpa using h8

set_option maxRecDepth 100000 in
set_option maxHeartbeats 16000000 in
theorem endsL (a b : Int) (ha : 0 ≤ a ∧ a ≤ 255) (hb : 0 ≤ b ∧ b ≤ 255) (w : World) : Calls Try.prog 5 #[.int .u8 a, .int .u8 b] w fun x w' => x = .returned (.bool true) ∧ Below w.heap.size w w' := by
  obtain ⟨ha1, ha2⟩ := ha
  obtain ⟨hb1, hb2⟩ := hb
  obtain ⟨s, hs⟩ : ∃ s, s = a % 14 := ⟨_, rfl⟩
  obtain ⟨e, he⟩ : ∃ e, e = b % 34 := ⟨_, rfl⟩
  have hs1 : 0 ≤ s ∧ s < 14 := by omega
  have he1 : 0 ≤ e ∧ e < 34 := by omega
  obtain ⟨d, n, k, hd, hl⟩ := refG_parts s e
  have P := Lib.hid (ends_at hs1 he1 hd)
  have Hd := Lib.hid hd
  have Hs := Lib.hid hs
  have He := Lib.hid he
  clear hd hs he
  go_enter Try.func5, Try.ntmps5
  go_wp2_with fail
  refine (awake w).mono ?_
  rintro x w0 ⟨rfl, hb0⟩
  have HB0 := Lib.hid hb0
  clear hb0
  go_upto_region 4 with fail
  rw [← Hs.out, ← He.out]
  go_wp2_with fail
  refine (step_at s e d n k Hd.out _).mono ?_
  rintro x w5 ⟨a5, c5, rfl, r5, b5⟩
  have B5 : Hid (Below w.heap.size w w5) := HB0.out.trans (b5.mono HB0.out.size)
  clear b5
  go_upto_region 5 with fail
  obtain ⟨b8, hb8⟩ : ∃ b, b = w5.heap.size := ⟨_, rfl⟩
  obtain ⟨W8, hW8⟩ : ∃ x, x = w5.alloc (.cells #[.slice a5 d.length c5, .int .i64 n, .bool k] 25) := ⟨_, rfl⟩
  have z0 : W8.cell? ⟨b8, 0, none⟩ = some (.slice a5 d.length c5) := by subst hW8 hb8; exact blk_cell (heap_alloc_new' w5 _) 0
  have z1 : W8.cell? ⟨b8, 1, none⟩ = some (.int .i64 n) := by subst hW8 hb8; exact blk_cell (heap_alloc_new' w5 _) 1
  have z2 : W8.cell? ⟨b8, 2, none⟩ = some (.bool k) := by subst hW8 hb8; exact blk_cell (heap_alloc_new' w5 _) 2
  have RB8 : Hid (RB 0 w W8 b8 (.slice a5 d.length c5) (d, n, k)) := by
    refine ⟨?_, z0, z1, z2, ?_⟩
    · subst hW8; exact (r5.out.later _).mono (Nat.zero_le _)
    · subst hW8; exact B5.out.alloc B5.out.size _
  rw [← hW8, ← hb8]
  clear hW8 hb8 r5 B5
  cases k with
  | false =>
    obtain ⟨rfl, rfl⟩ := P.out.off rfl
    simp only [List.length_nil] at z0
    go_wp2_with fail
    go_ret
    exact ⟨rfl, RB8.out.bel⟩
  | true =>
    have n0 := P.out.n0
    have n1 := P.out.n1
    have g1 : decide (n < 0) = false := by simp; omega
    have g2 : decide ((13 : Int) < n) = false := by simp; omega
    obtain ⟨dd, hdd⟩ : ∃ q, decide (8 ≤ s) = q := ⟨_, rfl⟩
    obtain ⟨tt, htt⟩ : ∃ q, decide (8 ≤ n) = q := ⟨_, rfl⟩
    have Clr : Hid (hasL d 10 = (!dd && tt)) := by rw [← hdd, ← htt]; exact P.out.clear
    have Hdd := Lib.hid hdd
    have Htt := Lib.hid htt
    go_upto_region 7 with fail
    go_cut [8, 9] (fun v8 v9 wx => v8 = .bool dd ∧ v9 = .bool tt ∧ Hid (RB 0 w wx b8 (.slice a5 d.length c5) (d, n, true)))
    case first =>
      go_quiet (fail)
      go_wp2_with fail
      go_meet
      exact ⟨rfl, rfl, RB8.out.below (by first | exact (Below.refl _ W8).drew | exact below_drewN (Below.refl _ W8) _)⟩
    case rest =>
      obtain ⟨rfl, rfl, RC⟩ := hcut
      clear z0 z1 z2 RB8 hdd htt
      have p0 := RC.out.c0
      have p1 := RC.out.c1
      have p2 := RC.out.c2
      simp only at p1 p2
      go_upto_region 8 with fail
      go_cut [73] (fun v73 wx => v73 = .bool false ∧ Hid (RB 0 w wx b8 (.slice a5 d.length c5) (d, n, true)))
      case first =>
        cases dd with
        | true =>
          go_wp2_with fail
          refine (has_k false 10 _ _ _ _ _ _ _ _ _ Clr RC hl).mono ?_
          rintro x w6 ⟨rfl, q0, q1, q2, R6⟩
          clear p0 p1 p2
          go_wp2_with fail
          refine (has_q 18 _ _ _ _ _ _ _ _ _ R6 hl).mono ?_
          rintro x w7 ⟨q, rfl, hq, p0, p1, p2, R7⟩
          clear q0 q1 q2 hq
          cases q with
          | true =>
            go_wp2_with fail
            go_meet
            exact ⟨rfl, R7⟩
          | false =>
            go_wp2_with fail
            refine (has_q 31 _ _ _ _ _ _ _ _ _ R7 hl).mono ?_
            rintro x w8 ⟨q, rfl, hq, q0, q1, q2, R8⟩
            clear p0 p1 p2 hq
            cases q with
            | true =>
              go_wp2_with fail
              go_meet
              exact ⟨rfl, R8⟩
            | false =>
              go_wp2_with fail
              refine (has_q 19 _ _ _ _ _ _ _ _ _ R8 hl).mono ?_
              rintro x w9 ⟨q, rfl, hq, p0, p1, p2, R9⟩
              clear q0 q1 q2 hq
              cases q
              all_goals
                go_wp2_with fail
                go_meet
                exact ⟨rfl, R9⟩
        | false =>
          have hlt : s < 8 := by have := Hdd.out; simp at this; omega
          obtain ⟨t1, t2, t3⟩ := P.out.take hlt
          have T1 := Lib.hid t1
          have T2 := Lib.hid t2
          have T3 := Lib.hid t3
          clear t1 t2 t3
          go_wp2_with fail
          refine (has_k tt 10 _ _ _ _ _ _ _ _ _ Clr RC hl).mono ?_
          rintro x w6 ⟨rfl, q0, q1, q2, R6⟩
          clear p0 p1 p2
          cases tt
          all_goals
            go_wp2_with fail
            refine (has_k false 18 _ _ _ _ _ _ _ _ _ T1 R6 hl).mono ?_
            rintro x w7 ⟨rfl, p0, p1, p2, R7⟩
            clear q0 q1 q2
            go_wp2_with fail
            refine (has_k false 31 _ _ _ _ _ _ _ _ _ T2 R7 hl).mono ?_
            rintro x w8 ⟨rfl, q0, q1, q2, R8⟩
            clear p0 p1 p2
            go_wp2_with fail
            refine (has_k false 19 _ _ _ _ _ _ _ _ _ T3 R8 hl).mono ?_
            rintro x w9 ⟨rfl, p0, p1, p2, R9⟩
            clear q0 q1 q2
            go_wp2_with fail
            go_meet
            exact ⟨rfl, R9⟩
      case rest =>
        obtain ⟨rfl, RD0⟩ := hcut
        clear p0 p1 p2 RC
        go_upto_region 10 with fail
        go_cut [10] (fun v10 wx => v10 = .bool (user2 e) ∧ Hid (RB 0 w wx b8 (.slice a5 d.length c5) (d, n, true)))
        case first =>
          cases u2 : (e == 2) with
          | true =>
            have U : Hid (user2 e = true) := by unfold Hid user2; rw [u2]; rfl
            go_wp2_with fail
            go_meet
            exact ⟨by rw [U.out], RD0⟩
          | false =>
            cases u3 : (e == 3) with
            | true =>
              have U : Hid (user2 e = true) := by unfold Hid user2; rw [u2, u3]; rfl
              go_wp2_with fail
              go_meet
              exact ⟨by rw [U.out], RD0⟩
            | false =>
              have U : Hid (user2 e = false) := by unfold Hid user2; rw [u2, u3]; rfl
              go_wp2_with fail
              go_meet
              exact ⟨by rw [U.out], RD0⟩
        case rest =>
        obtain ⟨rfl, RD⟩ := hcut
        clear RD0
        obtain ⟨uu, huu⟩ : ∃ q, q = user2 e := ⟨_, rfl⟩
        rw [← huu]
        have Huu := Lib.hid huu
        clear huu
        have p0 := RD.out.c0
        have p1 := RD.out.c1
        have p2 := RD.out.c2
        simp only at p1 p2
        have hd8 := Hdd.out
        have ht8 := Htt.out
        obtain ⟨hs1a, hs1b⟩ := hs1
        cases dd with
        | false =>
          have hlt : s < 8 := by simp at hd8; omega
          have f2 : decide (11 ≤ s) = false := by simp; omega
          have f3 : decide (s < 11) = true := by simp; omega
          by_cases h11 : 11 ≤ n
          · have f1 : decide (11 ≤ n) = true := by simpa using h11
            have Q := Lib.hid (P.out.p1 h11 (by omega))
            clear hd8 ht8
            go_wp2_with fail
            refine (has_k true 14 _ _ _ _ _ _ _ _ _ Q RD hl).mono ?_
            rintro x w6 ⟨rfl, q0, q1, q2, R6⟩
            clear p0 p1 p2
            go_wp2_with fail
            go_ret
            exact ⟨rfl, R6.out.bel⟩
          · have f1 : decide (11 ≤ n) = false := by simpa using h11
            clear hd8 ht8
            go_wp2_with fail
            go_ret
            exact ⟨rfl, RD.out.bel⟩
        | true =>
          have hge : 8 ≤ s := by simpa using hd8
          cases tt with
          | true =>
            have hge2 : 8 ≤ n := by simpa using ht8
            by_cases h11 : 11 ≤ n
            · have f1 : decide (11 ≤ n) = true := by simpa using h11
              have f4 : decide (n < 11) = false := by simp; omega
              by_cases hs11 : 11 ≤ s
              · have f2 : decide (11 ≤ s) = true := by simpa using hs11
                have f3 : decide (s < 11) = false := by simp; omega
                clear hd8
                go_wp2_with fail
                go_ret
                exact ⟨rfl, RD.out.bel⟩
              · have f2 : decide (11 ≤ s) = false := by simp; omega
                have f3 : decide (s < 11) = true := by simp; omega
                have Q := Lib.hid (P.out.p1 h11 (by omega))
                clear hd8
                go_wp2_with fail
                refine (has_k true 14 _ _ _ _ _ _ _ _ _ Q RD hl).mono ?_
                rintro x w6 ⟨rfl, q0, q1, q2, R6⟩
                clear p0 p1 p2
                go_wp2_with fail
                go_ret
                exact ⟨rfl, R6.out.bel⟩
            · have f1 : decide (11 ≤ n) = false := by simp; omega
              have f4 : decide (n < 11) = true := by simp; omega
              by_cases hs11 : 11 ≤ s
              · have f2 : decide (11 ≤ s) = true := by simpa using hs11
                have f3 : decide (s < 11) = false := by simp; omega
                have Q := Lib.hid (P.out.p2 hs11 hge2 (by omega))
                clear hd8
                go_wp2_with fail
                refine (has_k true 33 _ _ _ _ _ _ _ _ _ Q RD hl).mono ?_
                rintro x w6 ⟨rfl, q0, q1, q2, R6⟩
                clear p0 p1 p2
                go_wp2_with fail
                go_ret
                exact ⟨rfl, R6.out.bel⟩
              · have f2 : decide (11 ≤ s) = false := by simp; omega
                have f3 : decide (s < 11) = true := by simp; omega
                clear hd8
                go_wp2_with fail
                go_ret
                exact ⟨rfl, RD.out.bel⟩
          | false =>
            have hlt2 : n < 8 := by simp at ht8; omega
            have f1 : decide (11 ≤ n) = false := by simp; omega
            have St := Lib.hid (P.out.stop hge hlt2)
            obtain ⟨ss, hss⟩ : ∃ q, decide (11 ≤ s) = q := ⟨_, rfl⟩
            have f3 : decide (s < 11) = !ss := by
              rw [← hss]
              by_cases h : 11 ≤ s
              · rw [decide_eq_true h, decide_eq_false (by omega)]; rfl
              · rw [decide_eq_false h, decide_eq_true (by omega)]; rfl
            have En : Hid (user2 e = false → (hasL d 7 || (hasL d 8 || hasL d 4)) = true) := P.out.ends hge hlt2
            -- the tail, behind the test of who ended it
            cases uu with
            | true =>
              cases ss
              all_goals
                clear hd8
                go_wp2_with fail
                refine (has_k true 12 _ _ _ _ _ _ _ _ _ St RD hl).mono ?_
                rintro x w6 ⟨rfl, q0, q1, q2, R6⟩
                clear p0 p1 p2
                go_wp2_with fail
                go_ret
                exact ⟨rfl, R6.out.bel⟩
            | false =>
                have E2 : Hid ((hasL d 7 || (hasL d 8 || hasL d 4)) = true) := En.out Huu.out.symm
                clear En
                go_wp2_with fail
                refine (has_q 7 _ _ _ _ _ _ _ _ _ RD hl).mono ?_
                rintro x w6 ⟨q, rfl, hq7, q0, q1, q2, R6⟩
                clear p0 p1 p2
                cases q with
                | true =>
                  cases ss
                  all_goals
                    clear hd8
                    go_wp2_with fail
                    refine (has_k true 12 _ _ _ _ _ _ _ _ _ St R6 hl).mono ?_
                    rintro x w7 ⟨rfl, p0, p1, p2, R7⟩
                    clear q0 q1 q2
                    go_wp2_with fail
                    go_ret
                    exact ⟨rfl, R7.out.bel⟩
                | false =>
                  go_wp2_with fail
                  refine (has_q 8 _ _ _ _ _ _ _ _ _ R6 hl).mono ?_
                  rintro x w7 ⟨q, rfl, hq8, p0, p1, p2, R7⟩
                  clear q0 q1 q2
                  cases q with
                  | true =>
                    cases ss
                    all_goals
                      clear hd8
                      go_wp2_with fail
                      refine (has_k true 12 _ _ _ _ _ _ _ _ _ St R7 hl).mono ?_
                      rintro x w8 ⟨rfl, q0, q1, q2, R8⟩
                      clear p0 p1 p2
                      go_wp2_with fail
                      go_ret
                      exact ⟨rfl, R8.out.bel⟩
                  | false =>
                    have h4 : Hid (hasL d 4 = true) := by
                      have := E2.out
                      rw [hq7.out, hq8.out] at this
                      unfold Hid
                      simpa using this
                    go_wp2_with fail
                    refine (has_k true 4 _ _ _ _ _ _ _ _ _ h4 R7 hl).mono ?_
                    rintro x w8 ⟨rfl, q0, q1, q2, R8⟩
                    clear p0 p1 p2
                    cases ss
                    all_goals
                      clear hd8
                      go_wp2_with fail
                      refine (has_k true 12 _ _ _ _ _ _ _ _ _ St R8 hl).mono ?_
                      rintro x w9 ⟨rfl, p0, p1, p2, R9⟩
                      clear q0 q1 q2
                      go_wp2_with fail
                      go_ret
                      exact ⟨rfl, R9.out.bel⟩
end Go.Proofs.Ytnafppdnapdbcaa
