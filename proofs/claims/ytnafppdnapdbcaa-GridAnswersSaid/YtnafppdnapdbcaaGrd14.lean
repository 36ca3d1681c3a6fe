/-
  Layer 15: GridAnswers: the walk.
-/
import Derived.Test.YtnafppdnapdbcaaGrd13
namespace Go.Proofs.Ytnafppdnapdbcaa
open Go.RowKit


def isF (x : Int) : Bool := x == 24 || (x == 26 || x == 28)
def cntF (d : List Int) : Int := (d.filter isF).length
theorem cntF_le (d : List Int) : 0 ≤ cntF d ∧ cntF d ≤ d.length := by
  unfold cntF; exact ⟨by omega, by have := List.length_filter_le isF d; omega⟩
theorem cntF_yes {d : List Int} {i : Nat} (h : i < d.length) (hf : isF d[i] = true) : cntF (d.take (i + 1)) = cntF (d.take i) + 1 := by
  unfold cntF
  rw [List.take_succ_eq_append_getElem h, List.filter_append]
  simp [hf]
theorem cntF_no {d : List Int} {i : Nat} (h : i < d.length) (hf : isF d[i] = false) : cntF (d.take (i + 1)) = cntF (d.take i) := by
  unfold cntF
  rw [List.take_succ_eq_append_getElem h, List.filter_append]
  simp [hf]
def askB (e : Int) : Bool := decide (13 ≤ e) && (decide (e ≤ 27) && ((e - 13) % 3 == 1))
theorem answers_all : allB 14 (fun s => allB 34 (fun e => decide (s < 8) || cntF (refG s e).1 == if askB e = true then 1 else 0)) = true := by decide +kernel
theorem answers_at {s e : Int} (hs : 8 ≤ s ∧ s < 14) (he : 0 ≤ e ∧ e < 34) : cntF (refG s e).1 = if askB e = true then 1 else 0 := by
  obtain ⟨s, rfl⟩ : ∃ m : Nat, s = m := ⟨s.toNat, by omega⟩
  obtain ⟨e, rfl⟩ : ∃ m : Nat, e = m := ⟨e.toNat, by omega⟩
  have h := allB_at (allB_at answers_all (i := s) (by omega)) (i := e) (by omega)
  simp only [Bool.or_eq_true, decide_eq_true_eq, beq_iff_eq] at h
  rcases h with h | h
  · omega
  · exact h

set_option maxHeartbeats 8000000 in
theorem answersL (a b : Int) (ha : 0 ≤ a ∧ a ≤ 255) (hb : 0 ≤ b ∧ b ≤ 255) (w : World) : Calls Try.prog 6 #[.int .u8 a, .int .u8 b] w fun x w' => x = .returned (.bool true) ∧ Below w.heap.size w w' := by
  obtain ⟨ha1, ha2⟩ := ha
  obtain ⟨hb1, hb2⟩ := hb
  obtain ⟨s, hs⟩ : ∃ s, s = 8 + a % 6 := ⟨_, rfl⟩
  obtain ⟨e, he⟩ : ∃ e, e = b % 34 := ⟨_, rfl⟩
  have hs1 : 8 ≤ s ∧ s < 14 := by omega
  have he1 : 0 ≤ e ∧ e < 34 := by omega
  obtain ⟨d, n, k, hd, hl⟩ := refG_parts s e
  have hc := answers_at hs1 he1
  rw [hd] at hc
  have HC := Lib.hid hc
  have Hd := Lib.hid hd
  have Hs := Lib.hid hs
  have He := Lib.hid he
  have Hs1 := Lib.hid hs1
  clear hd hs he hs1 hc
  go_enter Try.func6, Try.ntmps6
  go_wp2_with fail
  refine (awake w).mono ?_
  rintro x w0 ⟨rfl, hb0⟩
  have HB0 := Lib.hid hb0
  clear hb0
  go_upto_region 4 with fail
  rw [← Hs.out, ← He.out]
  go_wp2_with fail
  refine (step_at s e d n k Hd.out _).mono ?_
  rintro x w5 ⟨a5, c5, rfl, r5, b5⟩
  have B5 : Hid (Below w.heap.size w w5) := HB0.out.trans (b5.mono HB0.out.size)
  clear b5
  go_upto_region 5 with fail
  obtain ⟨b8, hb8⟩ : ∃ b, b = w5.heap.size := ⟨_, rfl⟩
  obtain ⟨W8, hW8⟩ : ∃ x, x = w5.alloc (.cells #[.slice a5 d.length c5, .int .i64 n, .bool k] 25) := ⟨_, rfl⟩
  have z0 : W8.cell? ⟨b8, 0, none⟩ = some (.slice a5 d.length c5) := by subst hW8 hb8; exact blk_cell (heap_alloc_new' w5 _) 0
  have R8 : Hid (RdN 0 W8 (.slice a5 d.length c5) d) := by subst hW8; exact (r5.out.later _).mono (Nat.zero_le _)
  have B8 : Hid (Below w.heap.size w W8) := by subst hW8; exact B5.out.alloc B5.out.size _
  rw [← hW8, ← hb8]
  clear hW8 hb8 r5 B5
  go_wp2_with fail
  go_loop [8, 9] (fun v8 v9 => ∃ i : Nat, i ≤ d.length ∧ v9 = .int .i64 i ∧ (∃ c : Int, v8 = .int .i64 c ∧ Hid (c = cntF (d.take i)))) (fun _ v => d.length - (intOf v).toNat)
  case atStart => exact ⟨0, by omega, rfl, ⟨0, rfl, rfl⟩⟩
  case round =>
    obtain ⟨i, hi, rfl, ⟨c, rfl, Hc⟩⟩ := hrel
    have hcb : 0 ≤ c ∧ c ≤ 1000 := by
      have h1 := cntF_le (d.take i)
      have h2 : (d.take i).length ≤ d.length := by rw [List.length_take]; omega
      have := Hc.out; omega
    by_cases hlt : i < d.length
    · obtain ⟨g1, o1, c1, e1, l1, x1⟩ := R8.out.rd.some (by omega) (by decide)
      simp at e1
      obtain ⟨rfl, rfl⟩ := e1
      clear x1
      have y1 := R8.out.at hlt
      cases hf : isF d[i] with
      | true =>
        have Hc2 : Hid (c + 1 = cntF (d.take (i + 1))) := by rw [cntF_yes hlt hf, ← Hc.out]; rfl
        have hq : (d[i] == 24) = true ∨ (d[i] == 24) = false ∧ (d[i] == 26) = true ∨ (d[i] == 24) = false ∧ (d[i] == 26) = false ∧ (d[i] == 28) = true := by
          unfold isF at hf
          cases h1 : (d[i] == 24) <;> cases h2 : (d[i] == 26) <;> cases h3 : (d[i] == 28) <;> simp_all
        clear hf Hc
        rcases hq with q1 | ⟨q1, q2⟩ | ⟨q1, q2, q3⟩
        all_goals
          go_wp2_with fail
          go_round
          case rel => exact ⟨i + 1, by omega, by go_num, ⟨c + 1, rfl, Hc2⟩⟩
          case measure => simp [intOf]; omega
      | false =>
        have Hc2 : Hid (c = cntF (d.take (i + 1))) := by rw [cntF_no hlt hf, ← Hc.out]; rfl
        have hq : (d[i] == 24) = false ∧ (d[i] == 26) = false ∧ (d[i] == 28) = false := by
          unfold isF at hf
          cases h1 : (d[i] == 24) <;> cases h2 : (d[i] == 26) <;> cases h3 : (d[i] == 28) <;> simp_all
        clear hf Hc
        obtain ⟨q1, q2, q3⟩ := hq
        go_wp2_with fail
        go_round
        case rel => exact ⟨i + 1, by omega, by go_num, ⟨c, rfl, Hc2⟩⟩
        case measure => simp [intOf]; omega
    · have hc2 : c = if askB e = true then 1 else 0 := by
        have := Hc.out
        rw [List.take_of_length_le (by omega)] at this
        rw [this]; exact HC.out
      clear Hc
      obtain ⟨e1, e2⟩ := he1
      by_cases h1 : 13 ≤ e
      · have g1 : decide (13 ≤ e) = true := by simpa using h1
        by_cases h2 : e ≤ 27
        · have g2 : decide (e ≤ 27) = true := by simpa using h2
          cases g3 : ((e - 13) % 3 == 1) with
          | true =>
            obtain rfl : c = 1 := by rw [hc2]; simp only [askB, g1, g2, g3]; rfl
            clear hc2
            go_wp2_with fail
            go_ret
            exact ⟨rfl, B8.out⟩
          | false =>
            obtain rfl : c = 0 := by rw [hc2]; simp only [askB, g1, g2, g3]; rfl
            clear hc2
            go_wp2_with fail
            go_ret
            exact ⟨rfl, B8.out⟩
        · have g2 : decide (e ≤ 27) = false := by simpa using h2
          obtain rfl : c = 0 := by rw [hc2]; simp only [askB, g1, g2]; rfl
          clear hc2
          go_wp2_with fail
          go_ret
          exact ⟨rfl, B8.out⟩
      · have g1 : decide (13 ≤ e) = false := by simpa using h1
        obtain rfl : c = 0 := by rw [hc2]; simp only [askB, g1]; rfl
        clear hc2
        go_wp2_with fail
        go_ret
        exact ⟨rfl, B8.out⟩
end Go.Proofs.Ytnafppdnapdbcaa
