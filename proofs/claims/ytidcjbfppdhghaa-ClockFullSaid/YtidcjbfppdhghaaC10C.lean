/-
  Layer 10: ClockFull: the plain law on lists, and the walk.
-/
import Derived.Test.YtidcjbfppdhghaaC10A
import Derived.KernelRfl
namespace Go.Proofs.Ytidcjbfppdhghaa
open Go.RowKit


/-- The timers that the loop has started. -/
def fullL (i : Nat) : List TmI := (List.range i).map fun (j : Nat) => ((j : Int), 5 + (j : Int))
def fullStep (n i : Nat) : Bool := startOkI (max (n : Int) 0) i (5 + (i : Int)) (fullL i) && decide (afterStartI (max (n : Int) 0) i (5 + (i : Int)) (fullL i) = fullL (i + 1))
def fullL1 (n k : Nat) : List TmI := afterStartI (max (n : Int) 0) k 9 (fullL n)
def fullL2 (n k : Nat) : List TmI := stopLI k (fullL1 n k)
def fullL3 (n k : Nat) : List TmI := afterStartI (max (n : Int) 0) n 3 (fullL2 n k)
def fullEnd (n k : Nat) : Bool :=
  !(startOkI (max (n : Int) 0) n 3 (fullL n)) && decide (afterStartI (max (n : Int) 0) n 3 (fullL n) = fullL n) && startOkI (max (n : Int) 0) k 9 (fullL n) &&
  decide (leftLI k (fullL1 n k) = 9) && decide (0 ≤ fidxI k (fullL1 n k)) && !(decide (0 ≤ fidxI k (fullL2 n k))) && decide (stopLI k (fullL2 n k) = fullL2 n k) &&
  startOkI (max (n : Int) 0) n 3 (fullL2 n k) && decide (leftLI n (fullL3 n k) = 3) && decide (leftLI k (fullL3 n k) = 0) && decide ((fullL3 n k).length = n)
theorem full_all : ((List.range 41).all fun n => (List.range n).all fun i => fullStep n i && fullEnd n i) = true := by kernel_rfl
theorem full_at {n i : Nat} (hn : n < 41) (hi : i < n) : fullStep n i = true ∧ fullEnd n i = true := by
  have h := List.all_eq_true.1 (List.all_eq_true.1 full_all n (List.mem_range.2 hn)) i (List.mem_range.2 hi)
  simpa using h

set_option maxHeartbeats 4000000 in
theorem full (a0 a1 : Int) (h0 : 0 ≤ a0 ∧ a0 ≤ 255) (h1 : 0 ≤ a1 ∧ a1 ≤ 255) (w : World) : Calls Try.prog 6 #[.int .u8 a0, .int .u8 a1] w fun e w' => e = .returned (.bool true) ∧ Below w.heap.size w w' := by
  obtain ⟨h00, h01⟩ := h0
  obtain ⟨h10, h11⟩ := h1
  go_enter Try.func6, Try.ntmps6
  go_wp2_with fail
  refine (awake w).mono ?_
  rintro e w0 ⟨rfl, hb0⟩
  go_wp2_with fail
  obtain ⟨n, hn⟩ := Int.eq_ofNat_of_zero_le (show (0 : Int) ≤ 1 + a0 % 40 by omega)
  have hn1 : 1 ≤ n := by omega
  have hn2 : n ≤ 40 := by omega
  rw [hn]
  clear hn
  refine (newI' n w0 (by omega)).mono ?_
  rintro e w1 ⟨rfl, hk1, hb1⟩
  obtain ⟨c, hc⟩ : ∃ c, c = w0.heap.size := ⟨_, rfl⟩
  rw [← hc] at hk1 ⊢
  have hcs : w.heap.size ≤ c := by rw [hc]; exact hb0.size
  have hbc : Below w.heap.size w w1 := hb0.trans (hb1.mono hb0.size)
  have K1 := Lib.hid hk1
  clear hc hb0 hb1 hk1 h00 h01
  go_wp2_with fail
  go_loopw [7] (fun v wr => ∃ i : Nat, i ≤ n ∧ v = .int .i64 i ∧ Hid (ClkI wr c c (max (n : Int) 0) 0 (fullL i)) ∧ Below w.heap.size w wr) (fun v _ => n - (intOf v).toNat)
  case atStart => exact ⟨0, by omega, rfl, K1, hbc⟩
  case round =>
    obtain ⟨i, hi, rfl, hk, hb⟩ := hrel
    by_cases hlt : i < n
    · have hst := (full_at (n := n) (i := i) (by omega) hlt).1
      unfold fullStep at hst
      simp only [Bool.and_eq_true, decide_eq_true_eq] at hst
      have H1 := Lib.hid hst.1
      have H2 := Lib.hid hst.2
      clear hst
      go_wp2_with fail
      refine (startI' i (5 + i) c _ _ _ wr c hk.out).mono ?_
      rw [H1.out, H2.out]
      rintro e w2 ⟨rfl, hk2, hb2⟩
      go_wp2_with fail
      go_roundw
      case rel => exact ⟨i + 1, by omega, by go_num, hk2, hb.trans (hb2.mono hcs)⟩
      case measure => simp [intOf]; omega
    · obtain rfl : i = n := by omega
      clear hlt
      obtain ⟨k, hkk⟩ := Int.eq_ofNat_of_zero_le (Int.emod_nonneg a1 (show (i : Int) ≠ 0 by omega))
      have hki : k < i := by have := Int.emod_lt_of_pos a1 (show (0 : Int) < i by omega); omega
      have hend := (full_at (n := i) (i := k) (by omega) hki).2
      unfold fullEnd at hend
      simp only [Bool.and_eq_true, decide_eq_true_eq, Bool.not_eq_true'] at hend
      have E := Lib.hid hend
      have HK := Lib.hid hkk
      clear hend hkk
      go_wp2_with fail
      rw [HK.out]
      refine (startI' i 3 c _ _ _ wr c hk.out).mono ?_
      rw [E.out.1.1.1.1.1.1.1.1.1.1, E.out.1.1.1.1.1.1.1.1.1.2]
      rintro e w2 ⟨rfl, hk2, hb2⟩
      go_wp2_with fail
      refine (startI' k 9 c _ _ _ w2 c hk2).mono ?_
      rw [E.out.1.1.1.1.1.1.1.1.2]
      rintro e w3 ⟨rfl, hk3, hb3⟩
      have hl3 : Calls Try.prog 20 #[.pointer (some ⟨c, 0, none⟩), .int .i64 k] w3 fun e w' => e = .returned (.int .i64 9) ∧ Below w3.heap.size w3 w' := by
        obtain ⟨_, sv, hk⟩ := hk3
        have := leftI k c _ _ sv _ w3 c hk
        rwa [show leftLI k (afterStartI (max (i : Int) 0) k 9 (fullL i)) = 9 from E.out.1.1.1.1.1.1.1.2] at this
      have HL3 := Lib.hid hl3
      clear hl3 hk2
      go_wp2_with fail
      refine HL3.out.mono ?_
      rintro e w4 ⟨rfl, hb4⟩
      go_wp2_with fail
      refine (stopI' k c _ _ _ w4 c (hk3.below hb4)).mono ?_
      rw [show decide (0 ≤ fidxI k (afterStartI (max (i : Int) 0) k 9 (fullL i))) = true from decide_eq_true E.out.1.1.1.1.1.1.2]
      rintro e w5 ⟨rfl, hk5, hb5⟩
      go_wp2_with fail
      refine (stopI' k c _ _ _ w5 c hk5).mono ?_
      rw [show decide (0 ≤ fidxI k (stopLI k (afterStartI (max (i : Int) 0) k 9 (fullL i)))) = false from E.out.1.1.1.1.1.2, show stopLI k (stopLI k (afterStartI (max (i : Int) 0) k 9 (fullL i))) = fullL2 i k from E.out.1.1.1.1.2]
      rintro e w6 ⟨rfl, hk6, hb6⟩
      go_wp2_with fail
      refine (startI' i 3 c _ _ _ w6 c hk6).mono ?_
      rw [E.out.1.1.1.2]
      rintro e w7 ⟨rfl, hk7, hb7⟩
      have hl7 : ∀ w' : World, Below w7.heap.size w7 w' → Calls Try.prog 20 #[.pointer (some ⟨c, 0, none⟩), .int .i64 i] w' (fun e w'' => e = .returned (.int .i64 3) ∧ Below w'.heap.size w' w'') ∧
          Calls Try.prog 20 #[.pointer (some ⟨c, 0, none⟩), .int .i64 k] w' (fun e w'' => e = .returned (.int .i64 0) ∧ Below w'.heap.size w' w'') ∧
          Calls Try.prog 19 #[.pointer (some ⟨c, 0, none⟩)] w' (fun e w'' => e = .returned (.int .i64 i) ∧ Below w'.heap.size w' w'') := by
        intro w' hb
        obtain ⟨_, sv, hk⟩ := hk7
        have h1 := leftI i c _ _ sv _ w' c (hk.below hb)
        have h2 := leftI k c _ _ sv _ w' c (hk.below hb)
        have h3 := lenI c _ _ sv _ w' c (hk.below hb)
        rw [show leftLI i (afterStartI (max (i : Int) 0) i 3 (fullL2 i k)) = 3 from E.out.1.1.2] at h1
        rw [show leftLI k (afterStartI (max (i : Int) 0) i 3 (fullL2 i k)) = 0 from E.out.1.2] at h2
        rw [show (afterStartI (max (i : Int) 0) i 3 (fullL2 i k)).length = i from E.out.2] at h3
        exact ⟨h1, h2, h3⟩
      have H7 := Lib.hid hl7
      have hall : Below w.heap.size w w7 := hb.trans (((((hb2.trans hb3).trans (hb4.mono hk3.1)).trans (hb5.trans hb6)).trans hb7).mono hcs)
      clear hl7 hk3 hk5 hk6 hk7 hb2 hb3 hb4 hb5 hb6 hb7
      go_wp2_with fail
      refine (H7.out w7 (Below.refl _ _)).1.mono ?_
      rintro e w8 ⟨rfl, hb8⟩
      go_wp2_with fail
      refine (H7.out w8 hb8).2.1.mono ?_
      rintro e w9 ⟨rfl, hb9⟩
      have hb79 := hb8.trans (hb9.mono hb8.size)
      go_wp2_with fail
      refine (H7.out w9 hb79).2.2.mono ?_
      rintro e wx ⟨rfl, hbx⟩
      go_wp2_with fail
      go_ret
      exact ⟨rfl, hall.trans ((hb79.trans (hbx.mono hb79.size)).mono hall.size)⟩
end Go.Proofs.Ytidcjbfppdhghaa
