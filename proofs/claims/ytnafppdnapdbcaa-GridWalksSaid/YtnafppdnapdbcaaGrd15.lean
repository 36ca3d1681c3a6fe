/-
  Layer 15: GridWalks: the walk.
-/
import Derived.Test.YtnafppdnapdbcaaGrd13
import Derived.Deep.DeepCutAuto
import Derived.Deep.CutBlock
namespace Go.Proofs.Ytnafppdnapdbcaa
open Go.RowKit


def userB (e : Int) : Bool := (e == 0) || ((e == 3) || (e == 2))
def saysB (d : List Int) : Bool := hasL d 5 || (hasL d 8 || hasL d 7)
/-- What each row says of what was told. -/
def walkB (s : Nat) (e : Nat) (x : List Int × Int × Bool) : Bool :=
  decide (0 ≤ x.2.1) && decide (x.2.1 ≤ 13) && (!hasL x.1 31 || decide (8 ≤ s)) && (!decide (7 ≤ s) || !hasL x.1 10) && (!hasL x.1 10 || decide (7 ≤ x.2.1)) && (!decide (7 ≤ s) || (decide (7 ≤ x.2.1) || (userB e || saysB x.1)))
theorem walk_all : allB 14 (fun s => allB 34 (fun e => walkB s e (refG s e))) = true := by decide +kernel
structure WalkP (s e n : Int) (d : List Int) : Prop where
  n0 : 0 ≤ n
  n1 : n ≤ 13
  push : hasL d 31 = true → 8 ≤ s
  clear : 7 ≤ s → hasL d 10 = false
  clear' : hasL d 10 = true → 7 ≤ n
  told : 7 ≤ s → n < 7 → userB e = false → saysB d = true
theorem walk_at {s e n : Int} {d : List Int} {k : Bool} (hs : 0 ≤ s ∧ s < 14) (he : 0 ≤ e ∧ e < 34) (h : refG s e = (d, n, k)) : WalkP s e n d := by
  obtain ⟨s, rfl⟩ : ∃ m : Nat, s = m := ⟨s.toNat, by omega⟩
  obtain ⟨e, rfl⟩ : ∃ m : Nat, e = m := ⟨e.toNat, by omega⟩
  have h2 := allB_at (allB_at walk_all (i := s) (by omega)) (i := e) (by omega)
  rw [h] at h2
  simp only [walkB, Bool.and_eq_true, Bool.or_eq_true, decide_eq_true_eq, Bool.not_eq_true', decide_eq_false_iff_not] at h2
  obtain ⟨⟨⟨⟨⟨h1, h2⟩, h3⟩, h4⟩, h5⟩, h6⟩ := h2
  refine ⟨h1, h2, fun q => ?_, fun q => ?_, fun q => ?_, fun q q2 q3 => ?_⟩
  · rcases h3 with h3 | h3
    · rw [h3] at q; cases q
    · omega
  · rcases h4 with h4 | h4
    · omega
    · exact h4
  · rcases h5 with h5 | h5
    · rw [h5] at q; cases q
    · exact h5
  · rcases h6 with h6 | h6 | h6 | h6
    · omega
    · omega
    · rw [q3] at h6; cases h6
    · exact h6

/-- What holds at a round's head. -/
def Told (s : Int) (told : Bool) : Prop := told = true ∨ 7 ≤ s

set_option maxRecDepth 100000 in
set_option maxHeartbeats 16000000 in
theorem walkL (v : Value) (l : List Int) (w : World) (hl : Rd w 1 v l.length (l.flatMap fun z => [Value.int .u8 z])) (hok : ∀ y ∈ l, 0 ≤ y ∧ y ≤ 255) (hm : l.length ≤ maxLen) :
    Calls Try.prog 7 #[v] w fun x w' => x = .returned (.bool true) ∧ Below w.heap.size w w' := by
  obtain ⟨aa, ac, rfl⟩ := hl.len
  have hm2 : l.length ≤ 9223372036854775807 := by unfold maxLen at hm; omega
  have Hl := Lib.hid hl
  have Hok := Lib.hid hok
  clear hl hok
  by_cases hlen : 300 < l.length
  · have hd1 : decide ((300 : Int) < (l.length : Int)) = true := by simp; omega
    go_enter Try.func7, Try.ntmps7
    go_wp2_with fail
    refine (awake w).mono ?_
    rintro e w0 ⟨rfl, hb0⟩
    go_wp2_with fail
    go_ret
    exact ⟨rfl, hb0⟩
  have hd1 : decide ((300 : Int) < (l.length : Int)) = false := by simp; omega
  go_enter Try.func7, Try.ntmps7
  go_wp2_with fail
  refine (awake w).mono ?_
  rintro e w0 ⟨rfl, hb0⟩
  have HB0 := Lib.hid hb0
  clear hb0
  go_wp2_with fail
  go_loopw [3, 4, 5] (fun v3 v4 v5 wr => ∃ i : Nat, i ≤ l.length ∧ v5 = .int .i64 i ∧ (∃ s told, v3 = .int .i64 s ∧ v4 = .bool told ∧ Hid (Told s told) ∧ Hid (0 ≤ s ∧ s < 14)) ∧ Hid (Below w.heap.size w wr)) (fun _ _ v _ => l.length - (intOf v).toNat)
  case atStart => exact ⟨0, by omega, rfl, ⟨0, true, rfl, rfl, .inl rfl, by unfold Hid; omega⟩, HB0⟩
  case round =>
    obtain ⟨i, hi, rfl, ⟨s, told, rfl, rfl, Ht, Hs⟩, Hw⟩ := hrel
    by_cases hlt : i < l.length
    · obtain ⟨b1, o1, c1, e1, g1, x1⟩ := (Hl.out.fr (Fr.of_below Hw.out no) (fun _ _ e => e)).some (by omega) (by decide)
      simp at e1
      obtain ⟨rfl, rfl⟩ := e1
      have y1 := Rd.el (enc := fun z => [Value.int .u8 z]) (fun _ => rfl) x1 hlt (j := 0) (by decide) rfl
      rw [Nat.mul_one, Nat.add_zero] at y1
      have hy := Hok.out _ (List.getElem_mem hlt)
      obtain ⟨y, hyy⟩ : ∃ y, y = l[i] := ⟨_, rfl⟩
      rw [← hyy] at y1 hy
      obtain ⟨hy1, hy2⟩ := hy
      obtain ⟨e, hee⟩ : ∃ e, e = y % 34 := ⟨_, rfl⟩
      have he1 : 0 ≤ e ∧ e < 34 := by omega
      have Hee := Lib.hid hee
      obtain ⟨d, n, k, hd, hl⟩ := refG_parts s e
      have WP := Lib.hid (walk_at Hs.out he1 hd)
      have Hd := Lib.hid hd
      have He1 := Lib.hid he1
      clear x1 hyy hee hd he1
      go_upto_region 11 with fail
      rw [← Hee.out]
      go_wp2_with fail
      refine (step_at s e d n k Hd.out _).mono ?_
      rintro x w5 ⟨a5, c5, rfl, r5, b5⟩
      have B5 : Hid (Below w.heap.size w w5) := Hw.out.trans (b5.mono Hw.out.size)
      clear b5 y1
      go_upto_region 12 with fail
      obtain ⟨b8, hb8⟩ : ∃ b, b = w5.heap.size := ⟨_, rfl⟩
      obtain ⟨W8, hW8⟩ : ∃ x, x = w5.alloc (.cells #[.slice a5 d.length c5, .int .i64 n, .bool k] 25) := ⟨_, rfl⟩
      have z0 : W8.cell? ⟨b8, 0, none⟩ = some (.slice a5 d.length c5) := by subst hW8 hb8; exact blk_cell (heap_alloc_new' w5 _) 0
      have z1 : W8.cell? ⟨b8, 1, none⟩ = some (.int .i64 n) := by subst hW8 hb8; exact blk_cell (heap_alloc_new' w5 _) 1
      have z2 : W8.cell? ⟨b8, 2, none⟩ = some (.bool k) := by subst hW8 hb8; exact blk_cell (heap_alloc_new' w5 _) 2
      have RB8 : Hid (RB 0 w W8 b8 (.slice a5 d.length c5) (d, n, k)) := by
        refine ⟨?_, z0, z1, z2, ?_⟩
        · subst hW8; exact (r5.out.later _).mono (Nat.zero_le _)
        · subst hW8; exact B5.out.alloc B5.out.size _
      rw [← hW8, ← hb8]
      clear hW8 hb8 r5 B5
      -- who was told behind the row
      go_cut [49] from 13 to 71 (fun v49 wx => ∃ q : Bool, v49 = .bool q ∧ Hid ((userB e || saysB d) = q) ∧ Hid (RB 0 w wx b8 (.slice a5 d.length c5) (d, n, k)))
      case first =>
        cases u0 : (e == 0) with
        | true =>
          have Q : Hid ((userB e || saysB d) = true) := by unfold Hid userB; rw [u0]; rfl
          go_wp2_with fail
          go_meet
          exact ⟨true, rfl, Q, RB8⟩
        | false =>
          cases u3 : (e == 3) with
          | true =>
            have Q : Hid ((userB e || saysB d) = true) := by unfold Hid userB; rw [u0, u3]; rfl
            go_wp2_with fail
            go_meet
            exact ⟨true, rfl, Q, RB8⟩
          | false =>
            cases u2 : (e == 2) with
            | true =>
              have Q : Hid ((userB e || saysB d) = true) := by unfold Hid userB; rw [u0, u3, u2]; rfl
              go_wp2_with fail
              go_meet
              exact ⟨true, rfl, Q, RB8⟩
            | false =>
              have Us : Hid (userB e = false) := by unfold Hid userB; rw [u0, u3, u2]; rfl
              go_wp2_with fail
              refine (has_q 5 _ _ _ _ _ _ _ _ _ RB8 hl).mono ?_
              rintro x w6 ⟨q, rfl, hq5, p0, p1, p2, R6⟩
              cases q with
              | true =>
                have Q : Hid ((userB e || saysB d) = true) := by unfold Hid saysB; rw [Us.out, hq5.out]; rfl
                go_wp2_with fail
                go_meet
                exact ⟨true, rfl, Q, R6⟩
              | false =>
                clear z0 z1 z2
                go_wp2_with fail
                refine (has_q 8 _ _ _ _ _ _ _ _ _ R6 hl).mono ?_
                rintro x w7 ⟨q, rfl, hq8, p0', p1', p2', R7⟩
                cases q with
                | true =>
                  have Q : Hid ((userB e || saysB d) = true) := by unfold Hid saysB; rw [Us.out, hq5.out, hq8.out]; rfl
                  go_wp2_with fail
                  go_meet
                  exact ⟨true, rfl, Q, R7⟩
                | false =>
                  clear p0 p1 p2
                  go_wp2_with fail
                  refine (has_q 7 _ _ _ _ _ _ _ _ _ R7 hl).mono ?_
                  rintro x w8 ⟨q, rfl, hq7, p0, p1, p2, R8⟩
                  cases q with
                  | true =>
                    have Q : Hid ((userB e || saysB d) = true) := by unfold Hid saysB; rw [Us.out, hq5.out, hq8.out, hq7.out]; rfl
                    go_wp2_with fail
                    go_meet
                    exact ⟨true, rfl, Q, R8⟩
                  | false =>
                    have Q : Hid ((userB e || saysB d) = false) := by unfold Hid saysB; rw [Us.out, hq5.out, hq8.out, hq7.out]; rfl
                    go_wp2_with fail
                    go_meet
                    exact ⟨false, rfl, Q, R8⟩
      case rest =>
        obtain ⟨qq, rfl, Hqq, RC⟩ := hcut
        clear z0 z1 z2 RB8
        have p0 := RC.out.c0
        have p1 := RC.out.c1
        have p2 := RC.out.c2
        simp only at p1 p2
        have n0 := WP.out.n0
        have n1 := WP.out.n1
        have g1 : decide (n < 0) = false := by simp; omega
        have g2 : decide ((13 : Int) < n) = false := by simp; omega
        -- the round behind Clear: what is told then, and what stands
        have tail : ∀ (told2 : Bool) (W : World), Hid (RB 0 w W b8 (.slice a5 d.length c5) (d, n, k)) → (told2 = true ∨ 7 ≤ n) → Hid (Told n told2) := fun _ _ _ h => h
        cases qq with
        | true =>
          go_wp2_with fail
          refine (has_q 10 _ _ _ _ _ _ _ _ _ RC hl).mono ?_
          rintro x w6 ⟨q, rfl, hq10, r0, r1, r2, R6⟩
          clear p0 p1 p2
          -- what is told behind Clear
          have Hn : Hid (0 ≤ n ∧ n < 14) := ⟨n0, by omega⟩
          have push : ∀ q, hasL d 31 = q → (q = false ∨ decide (s < 8) = false) := fun q h => by
            cases q with
            | false => exact .inl rfl
            | true => right; have := WP.out.push h; simp; omega
          have Push := Lib.hid push
          clear push tail
          cases q with
          | true =>
            have h10 := hq10.out
            have T2 : Hid (Told n false) := .inr (WP.out.clear' h10)
            clear h10
            go_wp2_with fail
            refine (has_q 31 _ _ _ _ _ _ _ _ _ R6 hl).mono ?_
            rintro x w7 ⟨q, rfl, hq31, p0, p1, p2, R7⟩
            clear r0 r1 r2
            rcases Push.out _ hq31.out with hz | hz
            · subst hz
              go_wp2_with fail
              go_roundw
              case rel => exact ⟨i + 1, by omega, by go_num, ⟨n, false, rfl, rfl, T2, Hn⟩, R7.out.bel⟩
              case measure => simp [intOf]; omega
            · cases q
              all_goals
                go_wp2_with fail
                go_roundw
                case rel => exact ⟨i + 1, by omega, by go_num, ⟨n, false, rfl, rfl, T2, Hn⟩, R7.out.bel⟩
                case measure => simp [intOf]; omega
          | false =>
            have T2 : Hid (Told n true) := .inl rfl
            go_wp2_with fail
            refine (has_q 31 _ _ _ _ _ _ _ _ _ R6 hl).mono ?_
            rintro x w7 ⟨q, rfl, hq31, p0, p1, p2, R7⟩
            clear r0 r1 r2
            rcases Push.out _ hq31.out with hz | hz
            · subst hz
              go_wp2_with fail
              go_roundw
              case rel => exact ⟨i + 1, by omega, by go_num, ⟨n, true, rfl, rfl, T2, Hn⟩, R7.out.bel⟩
              case measure => simp [intOf]; omega
            · cases q
              all_goals
                go_wp2_with fail
                go_roundw
                case rel => exact ⟨i + 1, by omega, by go_num, ⟨n, true, rfl, rfl, T2, Hn⟩, R7.out.bel⟩
                case measure => simp [intOf]; omega
        | false =>
          go_wp2_with fail
          refine (has_q 10 _ _ _ _ _ _ _ _ _ RC hl).mono ?_
          rintro x w6 ⟨q, rfl, hq10, r0, r1, r2, R6⟩
          clear p0 p1 p2
          -- what is told behind Clear
          have Hn : Hid (0 ≤ n ∧ n < 14) := ⟨n0, by omega⟩
          have push : ∀ q, hasL d 31 = q → (q = false ∨ decide (s < 8) = false) := fun q h => by
            cases q with
            | false => exact .inl rfl
            | true => right; have := WP.out.push h; simp; omega
          have Push := Lib.hid push
          clear push tail
          cases q with
          | true =>
            have h10 := hq10.out
            have ht : told = true := by
              rcases Ht.out with h2 | h2
              · exact h2
              · have := WP.out.clear h2; rw [h10] at this; cases this
            subst ht
            have T2 : Hid (Told n false) := .inr (WP.out.clear' h10)
            clear h10
            go_wp2_with fail
            refine (has_q 31 _ _ _ _ _ _ _ _ _ R6 hl).mono ?_
            rintro x w7 ⟨q, rfl, hq31, p0, p1, p2, R7⟩
            clear r0 r1 r2
            rcases Push.out _ hq31.out with hz | hz
            · subst hz
              go_wp2_with fail
              go_roundw
              case rel => exact ⟨i + 1, by omega, by go_num, ⟨n, false, rfl, rfl, T2, Hn⟩, R7.out.bel⟩
              case measure => simp [intOf]; omega
            · cases q
              all_goals
                go_wp2_with fail
                go_roundw
                case rel => exact ⟨i + 1, by omega, by go_num, ⟨n, false, rfl, rfl, T2, Hn⟩, R7.out.bel⟩
                case measure => simp [intOf]; omega
          | false =>
            have T2 : Hid (Told n told) := by
              have hq := Hqq.out
              rw [Bool.or_eq_false_iff] at hq
              rcases Ht.out with h2 | h2
              · exact .inl h2
              · by_cases h7 : n < 7
                · have := WP.out.told h2 h7 hq.1; rw [hq.2] at this; cases this
                · exact .inr (by omega)
            go_wp2_with fail
            refine (has_q 31 _ _ _ _ _ _ _ _ _ R6 hl).mono ?_
            rintro x w7 ⟨q, rfl, hq31, p0, p1, p2, R7⟩
            clear r0 r1 r2
            rcases Push.out _ hq31.out with hz | hz
            · subst hz
              go_wp2_with fail
              go_roundw
              case rel => exact ⟨i + 1, by omega, by go_num, ⟨n, told, rfl, rfl, T2, Hn⟩, R7.out.bel⟩
              case measure => simp [intOf]; omega
            · cases q
              all_goals
                go_wp2_with fail
                go_roundw
                case rel => exact ⟨i + 1, by omega, by go_num, ⟨n, told, rfl, rfl, T2, Hn⟩, R7.out.bel⟩
                case measure => simp [intOf]; omega
    · go_wp2_with fail
      go_ret
      exact ⟨rfl, Hw.out⟩
end Go.Proofs.Ytnafppdnapdbcaa
