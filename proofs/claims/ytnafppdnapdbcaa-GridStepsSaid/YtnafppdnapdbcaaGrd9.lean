/-
  Package grid: Rows, Step.
-/
import Derived.Test.YtnafppdnapdbcaaGrd4
import Derived.Test.YtnafppdnapdbcaaGrd5
import Derived.Test.YtnafppdnapdbcaaGrd6
import Derived.Test.YtnafppdnapdbcaaGrd7
import Derived.Test.YtnafppdnapdbcaaGrd8
namespace Go.Proofs.Ytnafppdnapdbcaa
open Go.RowKit


abbrev pairCs : Array Value := #[.int .i64 8, .int .i64 11, .int .i64 23, .int .i64 24, .int .i64 29, .int .i64 9, .int .i64 12, .int .i64 25, .int .i64 26, .int .i64 30, .int .i64 10, .int .i64 13, .int .i64 23, .int .i64 24, .int .i64 29]
def pairG : Nat → GT → GT
  | 0, T => T
  | 1, T => answersT 8 11 24 29 T
  | 2, T => answersT 9 12 26 30 (answersT 8 11 24 29 T)
  | _, T => answersT 10 13 24 29 (answersT 9 12 26 30 (answersT 8 11 24 29 T))
theorem pairAt (i : Nat) (h : i < 3) : ∃ o a sd k p : Int, pairCs[i * 5]? = some (.int .i64 o) ∧ pairCs[i * 5 + 1]? = some (.int .i64 a) ∧ pairCs[i * 5 + 2]? = some (.int .i64 sd) ∧ pairCs[i * 5 + 3]? = some (.int .i64 k) ∧ pairCs[i * 5 + 4]? = some (.int .i64 p) ∧
    (0 ≤ o ∧ o < 14) ∧ (0 ≤ a ∧ a < 14) ∧ ∀ T, pairG (i + 1) T = answersT o a k p (pairG i T) := by
  rcases (show i = 0 ∨ i = 1 ∨ i = 2 by omega) with rfl | rfl | rfl
  · exact ⟨8, 11, 23, 24, 29, rfl, rfl, rfl, rfl, rfl, by decide, by decide, fun _ => rfl⟩
  · exact ⟨9, 12, 25, 26, 30, rfl, rfl, rfl, rfl, rfl, by decide, by decide, fun _ => rfl⟩
  · exact ⟨10, 13, 23, 24, 29, rfl, rfl, rfl, rfl, rfl, by decide, by decide, fun _ => rfl⟩
def gridT : GT := infosT (pairG 3 (busyT (sharedT (setupT blankT))))

set_option maxRecDepth 100000 in
set_option maxHeartbeats 4000000 in
theorem rows (w : World) : Calls Try.prog 12 #[] w fun x w' => ∃ v N, x = .returned v ∧ Tab w.heap.size N w' v gridT ∧ Below w.heap.size w w' := by
  go_enter Try.func12, Try.ntmps12
  go_wp2_with fail
  refine (blank w).mono ?_
  rintro e w1 ⟨t, N, rfl, t1, b1⟩
  obtain ⟨g, cap, r, rfl, _⟩ := t1.ex
  have hB := b1.size
  have H1 := Lib.hid t1
  have HB1 := Lib.hid b1
  clear t1 b1
  go_wp2_with fail
  refine (setup_walk _ _ _ _ _ H1.out).mono ?_
  rintro x w2 ⟨rfl, t2, k2⟩
  have H2 := Lib.hid t2
  have K2 : Hid (Kp w.heap.size N w1 w2) := k2
  clear t2 k2 H1
  go_wp2_with fail
  refine (shared_walk _ _ _ _ _ H2.out).mono ?_
  rintro x w3 ⟨rfl, t3, k3⟩
  have H3 := Lib.hid t3
  have K3 : Hid (Kp w.heap.size N w1 w3) := K2.out.trans k3
  clear t3 k3 H2 K2
  go_wp2_with fail
  refine (busy_walk _ _ _ _ _ H3.out).mono ?_
  rintro x w4 ⟨rfl, t4, k4⟩
  have H4 := Lib.hid t4
  have K4 : Hid (Kp w.heap.size N w1 w4) := K3.out.trans k4
  clear t4 k4 H3 K3
  go_wp2_with fail
  refine (pairs w4).mono ?_
  rintro x w5 ⟨rfl, e5⟩
  have hN4 := H4.out.size
  obtain ⟨b5, hb5⟩ : ∃ b, b = w4.heap.size := ⟨_, rfl⟩
  have hp5 : w5.heap[b5]? = some (.cells pairCs 45 (0, 0)) := by subst e5 hb5; exact heap_alloc_new' w4 _
  have H5 : Hid (Tab w.heap.size N w5 (.slice (some ⟨g, 0, none⟩) 14 cap) (pairG 0 (busyT (sharedT (setupT blankT)))) ∧ Kp w.heap.size N w1 w5) := by subst e5; exact ⟨H4.out.later _, K4.out.alloc _⟩
  have hbN : N ≤ b5 := by omega
  rw [← hb5]
  have HP := Lib.hid hp5
  clear e5 hb5 H4 K4 hN4 hp5
  go_wp2_with fail
  go_loopw [13] (fun v13 wr => ∃ i : Nat, i ≤ 3 ∧ v13 = .int .i64 i ∧ Hid (Tab w.heap.size N wr (.slice (some ⟨g, 0, none⟩) 14 cap) (pairG i (busyT (sharedT (setupT blankT)))) ∧ Kp w.heap.size N w1 wr) ∧ Hid (wr.heap[b5]? = some (.cells pairCs 45 (0, 0)))) (fun v _ => 3 - (intOf v).toNat)
  case atStart => exact ⟨0, by omega, rfl, H5, HP⟩
  case round =>
    clear H5 HP
    obtain ⟨i, hi, rfl, H, HP⟩ := hrel
    have hN := H.out.1.size
    by_cases hlt : i < 3
    · obtain ⟨o, a, sd, k, p, y0, y1, y2, y3, y4, ho, ha, hg⟩ := pairAt i hlt
      have hd1 : decide ((i : Int) < 3) = true := by simp; omega
      have z0 := (blk_cell HP.out (i * 5)).trans y0
      have z1 := (blk_cell HP.out (i * 5 + 1)).trans y1
      have z2 := (blk_cell HP.out (i * 5 + 2)).trans y2
      have z3 := (blk_cell HP.out (i * 5 + 3)).trans y3
      have z4 := (blk_cell HP.out (i * 5 + 4)).trans y4
      have Hg := Lib.hid hg
      have Ho := Lib.hid ho
      have Ha := Lib.hid ha
      clear y0 y1 y2 y3 y4 hg ho ha
      go_wp2_with fail
      refine (answers_walk o a sd k p Ho.out Ha.out _ _ _ N _ (H.out.1.later _)).mono ?_
      rintro x w6 ⟨rfl, t6, k6⟩
      have H6 : Hid (Tab w.heap.size N w6 (.slice (some ⟨g, 0, none⟩) 14 cap) (pairG (i + 1) (busyT (sharedT (setupT blankT)))) ∧ Kp w.heap.size N w1 w6) := ⟨by rw [Hg.out]; exact t6, (H.out.2.alloc _).trans k6⟩
      have HP6 : Hid (w6.heap[b5]? = some (.cells pairCs 45 (0, 0))) := k6.heap ((heap_alloc_lt wr _ (lt_of_block HP.out)).trans HP.out) (fun e => by omega)
      clear t6 k6
      go_wp2_with fail
      go_roundw
      case rel => exact ⟨i + 1, by omega, by go_num, H6, HP6⟩
      case measure => simp [intOf]; omega
    · obtain rfl : i = 3 := by omega
      have hd1 : decide ((3 : Int) < 3) = false := by decide
      go_wp2_with fail
      refine (infos_walk _ _ _ N _ H.out.1).mono ?_
      rintro x w7 ⟨rfl, t7, k7⟩
      have H7 := Lib.hid t7
      have K7 : Hid (Kp w.heap.size N w1 w7) := H.out.2.trans k7
      clear t7 k7
      go_wp2_with fail
      go_ret
      exact ⟨_, N, rfl, H7.out, HB1.out.trans (K7.out.below' hB (fun k e => e.1))⟩
end Go.Proofs.Ytnafppdnapdbcaa
