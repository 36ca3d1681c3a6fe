/-
  The document's own answer for chapter 15, state by state.
-/
import Derived.Test.YtnafppdnapdbcaaGv
namespace Go.Proofs.Ytnafppdnapdbcaa
open Go.RowKit



def r15inBusy (e : Int) : List Int × Int × Bool :=
  if (e == 3) = true then ([12, 0, 33, 13], 3, true) else
  if (e == 2) = true then ([12, 1, 33, 13], 6, true) else
  if (e == 8) = true then ([12, 8], 4, true) else
  if (e == 9) = true then ([12, 2, 7], 0, true) else
  if (e == 11) = true then ([12, 7], 0, true) else
  if (e == 12) = true then ([12, 8], 5, true) else
  if (e == 28) = true then ([12, 4, 33, 13], 7, true) else
  if (e == 33) = true then ([12, 8], 5, true) else
  if (e == 5) = true then ([31], 9, true) else
  if (e == 7) = true then ([23], 8, true) else
  if (e == 13) = true then ([19, 25, 31], 9, true) else
  if (e == 16) = true then ([19, 25, 31], 9, true) else
  if (e == 19) = true then ([20, 19, 31], 9, true) else
  if (e == 22) = true then ([19, 21, 17], 9, true) else
  if (e == 25) = true then ([20, 19, 22, 34, 31], 9, true) else
  if (e == 14) = true then ([19, 26, 31], 9, true) else
  if (e == 17) = true then ([19, 26, 31], 9, true) else
  if (e == 20) = true then ([20, 19, 26, 31], 9, true) else
  if (e == 23) = true then ([19, 21, 17, 26], 9, true) else
  if (e == 26) = true then ([20, 19, 22, 34, 26, 31], 9, true) else
  if (e == 29) = true then ([30, 14, 32, 34], 12, true) else
  if (e == 32) = true then ([30, 14, 32], 12, true) else
  ([], 9, false)

set_option maxRecDepth 100000 in
set_option maxHeartbeats 16000000 in
theorem r15inBusy_walk (e : Int) (w : World) : Calls Try.prog 34 #[.int .i64 e] w (Gives (r15inBusy e) w) := by
  go_enter Try.func34, Try.ntmps34
  go_wp2_with (go_at_call 45; refine (refRow _ _ _ _ _).mono ?_; rintro x w' ⟨rfl, rfl⟩)
  · refine bodyPost_ret (v := .agg #[.slice (some ⟨w.heap.size + 1, 0, none⟩) 4 4, .int .i64 3, .bool true]) (by simp [results, Try.results34, go_sem]) rfl ?_
    exact Gives.lit (d := [12, 0, 33, 13]) (nx := 3) (by simp [r15inBusy, *]) rfl rfl
  · refine bodyPost_ret (v := .agg #[.slice (some ⟨w.heap.size + 1, 0, none⟩) 4 4, .int .i64 6, .bool true]) (by simp [results, Try.results34, go_sem]) rfl ?_
    exact Gives.lit (d := [12, 1, 33, 13]) (nx := 6) (by simp [r15inBusy, *]) rfl rfl
  · refine bodyPost_ret (v := .agg #[.slice (some ⟨w.heap.size + 1, 0, none⟩) 2 2, .int .i64 4, .bool true]) (by simp [results, Try.results34, go_sem]) rfl ?_
    exact Gives.lit (d := [12, 8]) (nx := 4) (by simp [r15inBusy, *]) rfl rfl
  · refine bodyPost_ret (v := .agg #[.slice (some ⟨w.heap.size + 1, 0, none⟩) 3 3, .int .i64 0, .bool true]) (by simp [results, Try.results34, go_sem]) rfl ?_
    exact Gives.lit (d := [12, 2, 7]) (nx := 0) (by simp [r15inBusy, *]) rfl rfl
  · refine bodyPost_ret (v := .agg #[.slice (some ⟨w.heap.size + 1, 0, none⟩) 2 2, .int .i64 0, .bool true]) (by simp [results, Try.results34, go_sem]) rfl ?_
    exact Gives.lit (d := [12, 7]) (nx := 0) (by simp [r15inBusy, *]) rfl rfl
  · refine bodyPost_ret (v := .agg #[.slice (some ⟨w.heap.size + 1, 0, none⟩) 2 2, .int .i64 5, .bool true]) (by simp [results, Try.results34, go_sem]) rfl ?_
    exact Gives.lit (d := [12, 8]) (nx := 5) (by simp [r15inBusy, *]) rfl rfl
  · refine bodyPost_ret (v := .agg #[.slice (some ⟨w.heap.size + 1, 0, none⟩) 4 4, .int .i64 7, .bool true]) (by simp [results, Try.results34, go_sem]) rfl ?_
    exact Gives.lit (d := [12, 4, 33, 13]) (nx := 7) (by simp [r15inBusy, *]) rfl rfl
  · refine bodyPost_ret (v := .agg #[.slice (some ⟨w.heap.size + 1, 0, none⟩) 2 2, .int .i64 5, .bool true]) (by simp [results, Try.results34, go_sem]) rfl ?_
    exact Gives.lit (d := [12, 8]) (nx := 5) (by simp [r15inBusy, *]) rfl rfl
  · refine bodyPost_ret (v := .agg #[.slice (some ⟨w.heap.size + 1, 0, none⟩) 1 1, .int .i64 9, .bool true]) (by simp [results, Try.results34, go_sem]) rfl ?_
    exact Gives.lit (d := [31]) (nx := 9) (by simp [r15inBusy, *]) rfl rfl
  · refine bodyPost_ret (v := .agg #[.slice (some ⟨w.heap.size + 1, 0, none⟩) 1 1, .int .i64 8, .bool true]) (by simp [results, Try.results34, go_sem]) rfl ?_
    exact Gives.lit (d := [23]) (nx := 8) (by simp [r15inBusy, *]) rfl rfl
  · refine bodyPost_ret (v := .agg #[.slice (some ⟨w.heap.size + 1, 0, none⟩) 3 3, .int .i64 9, .bool true]) (by simp [results, Try.results34, go_sem]) rfl ?_
    exact Gives.lit (d := [19, 25, 31]) (nx := 9) (by simp [r15inBusy, *]) rfl rfl
  · refine bodyPost_ret (v := .agg #[.slice (some ⟨w.heap.size + 1, 0, none⟩) 3 3, .int .i64 9, .bool true]) (by simp [results, Try.results34, go_sem]) rfl ?_
    exact Gives.lit (d := [19, 25, 31]) (nx := 9) (by simp [r15inBusy, *]) rfl rfl
  · refine bodyPost_ret (v := .agg #[.slice (some ⟨w.heap.size + 1, 0, none⟩) 3 3, .int .i64 9, .bool true]) (by simp [results, Try.results34, go_sem]) rfl ?_
    exact Gives.lit (d := [20, 19, 31]) (nx := 9) (by simp [r15inBusy, *]) rfl rfl
  · refine bodyPost_ret (v := .agg #[.slice (some ⟨w.heap.size + 1, 0, none⟩) 3 3, .int .i64 9, .bool true]) (by simp [results, Try.results34, go_sem]) rfl ?_
    exact Gives.lit (d := [19, 21, 17]) (nx := 9) (by simp [r15inBusy, *]) rfl rfl
  · refine bodyPost_ret (v := .agg #[.slice (some ⟨w.heap.size + 1, 0, none⟩) 5 5, .int .i64 9, .bool true]) (by simp [results, Try.results34, go_sem]) rfl ?_
    exact Gives.lit (d := [20, 19, 22, 34, 31]) (nx := 9) (by simp [r15inBusy, *]) rfl rfl
  · refine bodyPost_ret (v := .agg #[.slice (some ⟨w.heap.size + 1, 0, none⟩) 3 3, .int .i64 9, .bool true]) (by simp [results, Try.results34, go_sem]) rfl ?_
    exact Gives.lit (d := [19, 26, 31]) (nx := 9) (by simp [r15inBusy, *]) rfl rfl
  · refine bodyPost_ret (v := .agg #[.slice (some ⟨w.heap.size + 1, 0, none⟩) 3 3, .int .i64 9, .bool true]) (by simp [results, Try.results34, go_sem]) rfl ?_
    exact Gives.lit (d := [19, 26, 31]) (nx := 9) (by simp [r15inBusy, *]) rfl rfl
  · refine bodyPost_ret (v := .agg #[.slice (some ⟨w.heap.size + 1, 0, none⟩) 4 4, .int .i64 9, .bool true]) (by simp [results, Try.results34, go_sem]) rfl ?_
    exact Gives.lit (d := [20, 19, 26, 31]) (nx := 9) (by simp [r15inBusy, *]) rfl rfl
  · refine bodyPost_ret (v := .agg #[.slice (some ⟨w.heap.size + 1, 0, none⟩) 4 4, .int .i64 9, .bool true]) (by simp [results, Try.results34, go_sem]) rfl ?_
    exact Gives.lit (d := [19, 21, 17, 26]) (nx := 9) (by simp [r15inBusy, *]) rfl rfl
  · refine bodyPost_ret (v := .agg #[.slice (some ⟨w.heap.size + 1, 0, none⟩) 6 6, .int .i64 9, .bool true]) (by simp [results, Try.results34, go_sem]) rfl ?_
    exact Gives.lit (d := [20, 19, 22, 34, 26, 31]) (nx := 9) (by simp [r15inBusy, *]) rfl rfl
  · refine bodyPost_ret (v := .agg #[.slice (some ⟨w.heap.size + 1, 0, none⟩) 4 4, .int .i64 12, .bool true]) (by simp [results, Try.results34, go_sem]) rfl ?_
    exact Gives.lit (d := [30, 14, 32, 34]) (nx := 12) (by simp [r15inBusy, *]) rfl rfl
  · refine bodyPost_ret (v := .agg #[.slice (some ⟨w.heap.size + 1, 0, none⟩) 3 3, .int .i64 12, .bool true]) (by simp [results, Try.results34, go_sem]) rfl ?_
    exact Gives.lit (d := [30, 14, 32]) (nx := 12) (by simp [r15inBusy, *]) rfl rfl
  · refine bodyPost_ret (v := .agg #[.slice none 0 0, .int .i64 9, .bool false]) (by simp [results, Try.results34, go_sem]) rfl ?_
    exact Gives.mk (x := ([], 9, false)) (by simp [r15inBusy, *]) (RdN.nil _ _) ((Below.refl _ w).alloc (Nat.le_refl _) _)

def r15inReject (e : Int) : List Int × Int × Bool :=
  if (e == 3) = true then ([12, 0, 33, 13], 3, true) else
  if (e == 2) = true then ([12, 1, 33, 13], 6, true) else
  if (e == 8) = true then ([12, 8], 4, true) else
  if (e == 9) = true then ([12, 2, 7], 0, true) else
  if (e == 11) = true then ([12, 7], 0, true) else
  if (e == 12) = true then ([12, 8], 5, true) else
  if (e == 28) = true then ([12, 4, 33, 13], 7, true) else
  if (e == 33) = true then ([12, 8], 5, true) else
  if (e == 5) = true then ([31], 10, true) else
  if (e == 6) = true then ([16, 25], 9, true) else
  if (e == 13) = true then ([19, 18, 16, 23, 31], 8, true) else
  if (e == 16) = true then ([19, 31], 10, true) else
  if (e == 19) = true then ([20, 19, 31], 10, true) else
  if (e == 22) = true then ([19, 21, 17], 10, true) else
  if (e == 25) = true then ([20, 19, 22, 34, 31], 10, true) else
  if (e == 14) = true then ([19, 18, 16, 24, 31], 8, true) else
  if (e == 17) = true then ([19, 24, 31], 10, true) else
  if (e == 20) = true then ([20, 19, 24, 31], 10, true) else
  if (e == 23) = true then ([19, 21, 17, 24], 10, true) else
  if (e == 26) = true then ([20, 19, 22, 34, 24, 31], 10, true) else
  if (e == 29) = true then ([29, 14, 32, 34], 13, true) else
  if (e == 32) = true then ([29, 14, 32], 13, true) else
  if (e == 31) = true then ([29, 14, 32], 13, true) else
  ([], 10, false)

set_option maxRecDepth 100000 in
set_option maxHeartbeats 16000000 in
theorem r15inReject_walk (e : Int) (w : World) : Calls Try.prog 35 #[.int .i64 e] w (Gives (r15inReject e) w) := by
  go_enter Try.func35, Try.ntmps35
  go_wp2_with (go_at_call 45; refine (refRow _ _ _ _ _).mono ?_; rintro x w' ⟨rfl, rfl⟩)
  · refine bodyPost_ret (v := .agg #[.slice (some ⟨w.heap.size + 1, 0, none⟩) 4 4, .int .i64 3, .bool true]) (by simp [results, Try.results35, go_sem]) rfl ?_
    exact Gives.lit (d := [12, 0, 33, 13]) (nx := 3) (by simp [r15inReject, *]) rfl rfl
  · refine bodyPost_ret (v := .agg #[.slice (some ⟨w.heap.size + 1, 0, none⟩) 4 4, .int .i64 6, .bool true]) (by simp [results, Try.results35, go_sem]) rfl ?_
    exact Gives.lit (d := [12, 1, 33, 13]) (nx := 6) (by simp [r15inReject, *]) rfl rfl
  · refine bodyPost_ret (v := .agg #[.slice (some ⟨w.heap.size + 1, 0, none⟩) 2 2, .int .i64 4, .bool true]) (by simp [results, Try.results35, go_sem]) rfl ?_
    exact Gives.lit (d := [12, 8]) (nx := 4) (by simp [r15inReject, *]) rfl rfl
  · refine bodyPost_ret (v := .agg #[.slice (some ⟨w.heap.size + 1, 0, none⟩) 3 3, .int .i64 0, .bool true]) (by simp [results, Try.results35, go_sem]) rfl ?_
    exact Gives.lit (d := [12, 2, 7]) (nx := 0) (by simp [r15inReject, *]) rfl rfl
  · refine bodyPost_ret (v := .agg #[.slice (some ⟨w.heap.size + 1, 0, none⟩) 2 2, .int .i64 0, .bool true]) (by simp [results, Try.results35, go_sem]) rfl ?_
    exact Gives.lit (d := [12, 7]) (nx := 0) (by simp [r15inReject, *]) rfl rfl
  · refine bodyPost_ret (v := .agg #[.slice (some ⟨w.heap.size + 1, 0, none⟩) 2 2, .int .i64 5, .bool true]) (by simp [results, Try.results35, go_sem]) rfl ?_
    exact Gives.lit (d := [12, 8]) (nx := 5) (by simp [r15inReject, *]) rfl rfl
  · refine bodyPost_ret (v := .agg #[.slice (some ⟨w.heap.size + 1, 0, none⟩) 4 4, .int .i64 7, .bool true]) (by simp [results, Try.results35, go_sem]) rfl ?_
    exact Gives.lit (d := [12, 4, 33, 13]) (nx := 7) (by simp [r15inReject, *]) rfl rfl
  · refine bodyPost_ret (v := .agg #[.slice (some ⟨w.heap.size + 1, 0, none⟩) 2 2, .int .i64 5, .bool true]) (by simp [results, Try.results35, go_sem]) rfl ?_
    exact Gives.lit (d := [12, 8]) (nx := 5) (by simp [r15inReject, *]) rfl rfl
  · refine bodyPost_ret (v := .agg #[.slice (some ⟨w.heap.size + 1, 0, none⟩) 1 1, .int .i64 10, .bool true]) (by simp [results, Try.results35, go_sem]) rfl ?_
    exact Gives.lit (d := [31]) (nx := 10) (by simp [r15inReject, *]) rfl rfl
  · refine bodyPost_ret (v := .agg #[.slice (some ⟨w.heap.size + 1, 0, none⟩) 2 2, .int .i64 9, .bool true]) (by simp [results, Try.results35, go_sem]) rfl ?_
    exact Gives.lit (d := [16, 25]) (nx := 9) (by simp [r15inReject, *]) rfl rfl
  · refine bodyPost_ret (v := .agg #[.slice (some ⟨w.heap.size + 1, 0, none⟩) 5 5, .int .i64 8, .bool true]) (by simp [results, Try.results35, go_sem]) rfl ?_
    exact Gives.lit (d := [19, 18, 16, 23, 31]) (nx := 8) (by simp [r15inReject, *]) rfl rfl
  · refine bodyPost_ret (v := .agg #[.slice (some ⟨w.heap.size + 1, 0, none⟩) 2 2, .int .i64 10, .bool true]) (by simp [results, Try.results35, go_sem]) rfl ?_
    exact Gives.lit (d := [19, 31]) (nx := 10) (by simp [r15inReject, *]) rfl rfl
  · refine bodyPost_ret (v := .agg #[.slice (some ⟨w.heap.size + 1, 0, none⟩) 3 3, .int .i64 10, .bool true]) (by simp [results, Try.results35, go_sem]) rfl ?_
    exact Gives.lit (d := [20, 19, 31]) (nx := 10) (by simp [r15inReject, *]) rfl rfl
  · refine bodyPost_ret (v := .agg #[.slice (some ⟨w.heap.size + 1, 0, none⟩) 3 3, .int .i64 10, .bool true]) (by simp [results, Try.results35, go_sem]) rfl ?_
    exact Gives.lit (d := [19, 21, 17]) (nx := 10) (by simp [r15inReject, *]) rfl rfl
  · refine bodyPost_ret (v := .agg #[.slice (some ⟨w.heap.size + 1, 0, none⟩) 5 5, .int .i64 10, .bool true]) (by simp [results, Try.results35, go_sem]) rfl ?_
    exact Gives.lit (d := [20, 19, 22, 34, 31]) (nx := 10) (by simp [r15inReject, *]) rfl rfl
  · refine bodyPost_ret (v := .agg #[.slice (some ⟨w.heap.size + 1, 0, none⟩) 5 5, .int .i64 8, .bool true]) (by simp [results, Try.results35, go_sem]) rfl ?_
    exact Gives.lit (d := [19, 18, 16, 24, 31]) (nx := 8) (by simp [r15inReject, *]) rfl rfl
  · refine bodyPost_ret (v := .agg #[.slice (some ⟨w.heap.size + 1, 0, none⟩) 3 3, .int .i64 10, .bool true]) (by simp [results, Try.results35, go_sem]) rfl ?_
    exact Gives.lit (d := [19, 24, 31]) (nx := 10) (by simp [r15inReject, *]) rfl rfl
  · refine bodyPost_ret (v := .agg #[.slice (some ⟨w.heap.size + 1, 0, none⟩) 4 4, .int .i64 10, .bool true]) (by simp [results, Try.results35, go_sem]) rfl ?_
    exact Gives.lit (d := [20, 19, 24, 31]) (nx := 10) (by simp [r15inReject, *]) rfl rfl
  · refine bodyPost_ret (v := .agg #[.slice (some ⟨w.heap.size + 1, 0, none⟩) 4 4, .int .i64 10, .bool true]) (by simp [results, Try.results35, go_sem]) rfl ?_
    exact Gives.lit (d := [19, 21, 17, 24]) (nx := 10) (by simp [r15inReject, *]) rfl rfl
  · refine bodyPost_ret (v := .agg #[.slice (some ⟨w.heap.size + 1, 0, none⟩) 6 6, .int .i64 10, .bool true]) (by simp [results, Try.results35, go_sem]) rfl ?_
    exact Gives.lit (d := [20, 19, 22, 34, 24, 31]) (nx := 10) (by simp [r15inReject, *]) rfl rfl
  · refine bodyPost_ret (v := .agg #[.slice (some ⟨w.heap.size + 1, 0, none⟩) 4 4, .int .i64 13, .bool true]) (by simp [results, Try.results35, go_sem]) rfl ?_
    exact Gives.lit (d := [29, 14, 32, 34]) (nx := 13) (by simp [r15inReject, *]) rfl rfl
  · refine bodyPost_ret (v := .agg #[.slice (some ⟨w.heap.size + 1, 0, none⟩) 3 3, .int .i64 13, .bool true]) (by simp [results, Try.results35, go_sem]) rfl ?_
    exact Gives.lit (d := [29, 14, 32]) (nx := 13) (by simp [r15inReject, *]) rfl rfl
  · refine bodyPost_ret (v := .agg #[.slice (some ⟨w.heap.size + 1, 0, none⟩) 3 3, .int .i64 13, .bool true]) (by simp [results, Try.results35, go_sem]) rfl ?_
    exact Gives.lit (d := [29, 14, 32]) (nx := 13) (by simp [r15inReject, *]) rfl rfl
  · refine bodyPost_ret (v := .agg #[.slice none 0 0, .int .i64 10, .bool false]) (by simp [results, Try.results35, go_sem]) rfl ?_
    exact Gives.mk (x := ([], 10, false)) (by simp [r15inReject, *]) (RdN.nil _ _) ((Below.refl _ w).alloc (Nat.le_refl _) _)

end Go.Proofs.Ytnafppdnapdbcaa
