/-
  The document's own answer for chapter 15, state by state.
-/
import Derived.Test.YtnafppdnapdbcaaGv
namespace Go.Proofs.Ytnafppdnapdbcaa
open Go.RowKit



def r15inAdm (e : Int) : List Int × Int × Bool :=
  if (e == 0) = true then ([0, 33, 13], 2, true) else
  if (e == 8) = true then ([5], 1, true) else
  if (e == 9) = true then ([3], 0, true) else
  if (e == 20) = true then ([3], 0, true) else
  ([], 0, false)

set_option maxRecDepth 100000 in
set_option maxHeartbeats 16000000 in
theorem r15inAdm_walk (e : Int) (w : World) : Calls Try.prog 25 #[.int .i64 e] w (Gives (r15inAdm e) w) := by
  go_enter Try.func25, Try.ntmps25
  go_wp2_with (go_at_call 45; refine (refRow _ _ _ _ _).mono ?_; rintro x w' ⟨rfl, rfl⟩)
  · refine bodyPost_ret (v := .agg #[.slice (some ⟨w.heap.size + 1, 0, none⟩) 3 3, .int .i64 2, .bool true]) (by simp [results, Try.results25, go_sem]) rfl ?_
    exact Gives.lit (d := [0, 33, 13]) (nx := 2) (by simp [r15inAdm, *]) rfl rfl
  · refine bodyPost_ret (v := .agg #[.slice (some ⟨w.heap.size + 1, 0, none⟩) 1 1, .int .i64 1, .bool true]) (by simp [results, Try.results25, go_sem]) rfl ?_
    exact Gives.lit (d := [5]) (nx := 1) (by simp [r15inAdm, *]) rfl rfl
  · refine bodyPost_ret (v := .agg #[.slice (some ⟨w.heap.size + 1, 0, none⟩) 1 1, .int .i64 0, .bool true]) (by simp [results, Try.results25, go_sem]) rfl ?_
    exact Gives.lit (d := [3]) (nx := 0) (by simp [r15inAdm, *]) rfl rfl
  · refine bodyPost_ret (v := .agg #[.slice (some ⟨w.heap.size + 1, 0, none⟩) 1 1, .int .i64 0, .bool true]) (by simp [results, Try.results25, go_sem]) rfl ?_
    exact Gives.lit (d := [3]) (nx := 0) (by simp [r15inAdm, *]) rfl rfl
  · refine bodyPost_ret (v := .agg #[.slice none 0 0, .int .i64 0, .bool false]) (by simp [results, Try.results25, go_sem]) rfl ?_
    exact Gives.mk (x := ([], 0, false)) (by simp [r15inAdm, *]) (RdN.nil _ _) ((Below.refl _ w).alloc (Nat.le_refl _) _)

def r15inConn (e : Int) : List Int × Int × Bool :=
  if (e == 1) = true then ([2, 10], 8, true) else
  if (e == 2) = true then ([3], 0, true) else
  if (e == 9) = true then ([2, 7], 0, true) else
  ([], 1, false)

set_option maxRecDepth 100000 in
set_option maxHeartbeats 16000000 in
theorem r15inConn_walk (e : Int) (w : World) : Calls Try.prog 26 #[.int .i64 e] w (Gives (r15inConn e) w) := by
  go_enter Try.func26, Try.ntmps26
  go_wp2_with (go_at_call 45; refine (refRow _ _ _ _ _).mono ?_; rintro x w' ⟨rfl, rfl⟩)
  · refine bodyPost_ret (v := .agg #[.slice (some ⟨w.heap.size + 1, 0, none⟩) 2 2, .int .i64 8, .bool true]) (by simp [results, Try.results26, go_sem]) rfl ?_
    exact Gives.lit (d := [2, 10]) (nx := 8) (by simp [r15inConn, *]) rfl rfl
  · refine bodyPost_ret (v := .agg #[.slice (some ⟨w.heap.size + 1, 0, none⟩) 1 1, .int .i64 0, .bool true]) (by simp [results, Try.results26, go_sem]) rfl ?_
    exact Gives.lit (d := [3]) (nx := 0) (by simp [r15inConn, *]) rfl rfl
  · refine bodyPost_ret (v := .agg #[.slice (some ⟨w.heap.size + 1, 0, none⟩) 2 2, .int .i64 0, .bool true]) (by simp [results, Try.results26, go_sem]) rfl ?_
    exact Gives.lit (d := [2, 7]) (nx := 0) (by simp [r15inConn, *]) rfl rfl
  · refine bodyPost_ret (v := .agg #[.slice none 0 0, .int .i64 1, .bool false]) (by simp [results, Try.results26, go_sem]) rfl ?_
    exact Gives.mk (x := ([], 1, false)) (by simp [r15inConn, *]) (RdN.nil _ _) ((Below.refl _ w).alloc (Nat.le_refl _) _)

def r15inSetup (e : Int) : List Int × Int × Bool :=
  if (e == 10) = true then ([12, 10, 6], 8, true) else
  if (e == 11) = true then ([12, 7], 0, true) else
  if (e == 8) = true then ([2], 2, true) else
  if (e == 9) = true then ([3, 12, 7], 0, true) else
  if (e == 2) = true then ([1, 33, 13], 6, true) else
  if (e == 29) = true then ([0, 32, 13], 2, true) else
  if (e == 33) = true then ([12, 7], 0, true) else
  ([], 2, false)

set_option maxRecDepth 100000 in
set_option maxHeartbeats 16000000 in
theorem r15inSetup_walk (e : Int) (w : World) : Calls Try.prog 27 #[.int .i64 e] w (Gives (r15inSetup e) w) := by
  go_enter Try.func27, Try.ntmps27
  go_wp2_with (go_at_call 45; refine (refRow _ _ _ _ _).mono ?_; rintro x w' ⟨rfl, rfl⟩)
  · refine bodyPost_ret (v := .agg #[.slice (some ⟨w.heap.size + 1, 0, none⟩) 3 3, .int .i64 8, .bool true]) (by simp [results, Try.results27, go_sem]) rfl ?_
    exact Gives.lit (d := [12, 10, 6]) (nx := 8) (by simp [r15inSetup, *]) rfl rfl
  · refine bodyPost_ret (v := .agg #[.slice (some ⟨w.heap.size + 1, 0, none⟩) 2 2, .int .i64 0, .bool true]) (by simp [results, Try.results27, go_sem]) rfl ?_
    exact Gives.lit (d := [12, 7]) (nx := 0) (by simp [r15inSetup, *]) rfl rfl
  · refine bodyPost_ret (v := .agg #[.slice (some ⟨w.heap.size + 1, 0, none⟩) 1 1, .int .i64 2, .bool true]) (by simp [results, Try.results27, go_sem]) rfl ?_
    exact Gives.lit (d := [2]) (nx := 2) (by simp [r15inSetup, *]) rfl rfl
  · refine bodyPost_ret (v := .agg #[.slice (some ⟨w.heap.size + 1, 0, none⟩) 3 3, .int .i64 0, .bool true]) (by simp [results, Try.results27, go_sem]) rfl ?_
    exact Gives.lit (d := [3, 12, 7]) (nx := 0) (by simp [r15inSetup, *]) rfl rfl
  · refine bodyPost_ret (v := .agg #[.slice (some ⟨w.heap.size + 1, 0, none⟩) 3 3, .int .i64 6, .bool true]) (by simp [results, Try.results27, go_sem]) rfl ?_
    exact Gives.lit (d := [1, 33, 13]) (nx := 6) (by simp [r15inSetup, *]) rfl rfl
  · refine bodyPost_ret (v := .agg #[.slice (some ⟨w.heap.size + 1, 0, none⟩) 3 3, .int .i64 2, .bool true]) (by simp [results, Try.results27, go_sem]) rfl ?_
    exact Gives.lit (d := [0, 32, 13]) (nx := 2) (by simp [r15inSetup, *]) rfl rfl
  · refine bodyPost_ret (v := .agg #[.slice (some ⟨w.heap.size + 1, 0, none⟩) 2 2, .int .i64 0, .bool true]) (by simp [results, Try.results27, go_sem]) rfl ?_
    exact Gives.lit (d := [12, 7]) (nx := 0) (by simp [r15inSetup, *]) rfl rfl
  · refine bodyPost_ret (v := .agg #[.slice none 0 0, .int .i64 2, .bool false]) (by simp [results, Try.results27, go_sem]) rfl ?_
    exact Gives.mk (x := ([], 2, false)) (by simp [r15inSetup, *]) (RdN.nil _ _) ((Below.refl _ w).alloc (Nat.le_refl _) _)

def r15inReset (e : Int) : List Int × Int × Bool :=
  if (e == 10) = true then ([12, 10, 9], 8, true) else
  if (e == 11) = true then ([12, 7], 0, true) else
  if (e == 8) = true then ([2], 3, true) else
  if (e == 9) = true then ([3, 12, 7], 0, true) else
  if (e == 2) = true then ([1, 33, 13], 6, true) else
  if (e == 29) = true then ([0, 32, 13], 3, true) else
  if (e == 33) = true then ([12, 7], 0, true) else
  ([], 3, false)

set_option maxRecDepth 100000 in
set_option maxHeartbeats 16000000 in
theorem r15inReset_walk (e : Int) (w : World) : Calls Try.prog 28 #[.int .i64 e] w (Gives (r15inReset e) w) := by
  go_enter Try.func28, Try.ntmps28
  go_wp2_with (go_at_call 45; refine (refRow _ _ _ _ _).mono ?_; rintro x w' ⟨rfl, rfl⟩)
  · refine bodyPost_ret (v := .agg #[.slice (some ⟨w.heap.size + 1, 0, none⟩) 3 3, .int .i64 8, .bool true]) (by simp [results, Try.results28, go_sem]) rfl ?_
    exact Gives.lit (d := [12, 10, 9]) (nx := 8) (by simp [r15inReset, *]) rfl rfl
  · refine bodyPost_ret (v := .agg #[.slice (some ⟨w.heap.size + 1, 0, none⟩) 2 2, .int .i64 0, .bool true]) (by simp [results, Try.results28, go_sem]) rfl ?_
    exact Gives.lit (d := [12, 7]) (nx := 0) (by simp [r15inReset, *]) rfl rfl
  · refine bodyPost_ret (v := .agg #[.slice (some ⟨w.heap.size + 1, 0, none⟩) 1 1, .int .i64 3, .bool true]) (by simp [results, Try.results28, go_sem]) rfl ?_
    exact Gives.lit (d := [2]) (nx := 3) (by simp [r15inReset, *]) rfl rfl
  · refine bodyPost_ret (v := .agg #[.slice (some ⟨w.heap.size + 1, 0, none⟩) 3 3, .int .i64 0, .bool true]) (by simp [results, Try.results28, go_sem]) rfl ?_
    exact Gives.lit (d := [3, 12, 7]) (nx := 0) (by simp [r15inReset, *]) rfl rfl
  · refine bodyPost_ret (v := .agg #[.slice (some ⟨w.heap.size + 1, 0, none⟩) 3 3, .int .i64 6, .bool true]) (by simp [results, Try.results28, go_sem]) rfl ?_
    exact Gives.lit (d := [1, 33, 13]) (nx := 6) (by simp [r15inReset, *]) rfl rfl
  · refine bodyPost_ret (v := .agg #[.slice (some ⟨w.heap.size + 1, 0, none⟩) 3 3, .int .i64 3, .bool true]) (by simp [results, Try.results28, go_sem]) rfl ?_
    exact Gives.lit (d := [0, 32, 13]) (nx := 3) (by simp [r15inReset, *]) rfl rfl
  · refine bodyPost_ret (v := .agg #[.slice (some ⟨w.heap.size + 1, 0, none⟩) 2 2, .int .i64 0, .bool true]) (by simp [results, Try.results28, go_sem]) rfl ?_
    exact Gives.lit (d := [12, 7]) (nx := 0) (by simp [r15inReset, *]) rfl rfl
  · refine bodyPost_ret (v := .agg #[.slice none 0 0, .int .i64 3, .bool false]) (by simp [results, Try.results28, go_sem]) rfl ?_
    exact Gives.mk (x := ([], 3, false)) (by simp [r15inReset, *]) (RdN.nil _ _) ((Below.refl _ w).alloc (Nat.le_refl _) _)

def r15inResetCheck (e : Int) : List Int × Int × Bool :=
  if (e == 4) = true then ([2, 10], 8, true) else
  if (e == 2) = true then ([3], 0, true) else
  if (e == 9) = true then ([2, 7], 0, true) else
  if (e == 11) = true then ([7], 0, true) else
  ([], 4, false)

set_option maxRecDepth 100000 in
set_option maxHeartbeats 16000000 in
theorem r15inResetCheck_walk (e : Int) (w : World) : Calls Try.prog 29 #[.int .i64 e] w (Gives (r15inResetCheck e) w) := by
  go_enter Try.func29, Try.ntmps29
  go_wp2_with (go_at_call 45; refine (refRow _ _ _ _ _).mono ?_; rintro x w' ⟨rfl, rfl⟩)
  · refine bodyPost_ret (v := .agg #[.slice (some ⟨w.heap.size + 1, 0, none⟩) 2 2, .int .i64 8, .bool true]) (by simp [results, Try.results29, go_sem]) rfl ?_
    exact Gives.lit (d := [2, 10]) (nx := 8) (by simp [r15inResetCheck, *]) rfl rfl
  · refine bodyPost_ret (v := .agg #[.slice (some ⟨w.heap.size + 1, 0, none⟩) 1 1, .int .i64 0, .bool true]) (by simp [results, Try.results29, go_sem]) rfl ?_
    exact Gives.lit (d := [3]) (nx := 0) (by simp [r15inResetCheck, *]) rfl rfl
  · refine bodyPost_ret (v := .agg #[.slice (some ⟨w.heap.size + 1, 0, none⟩) 2 2, .int .i64 0, .bool true]) (by simp [results, Try.results29, go_sem]) rfl ?_
    exact Gives.lit (d := [2, 7]) (nx := 0) (by simp [r15inResetCheck, *]) rfl rfl
  · refine bodyPost_ret (v := .agg #[.slice (some ⟨w.heap.size + 1, 0, none⟩) 1 1, .int .i64 0, .bool true]) (by simp [results, Try.results29, go_sem]) rfl ?_
    exact Gives.lit (d := [7]) (nx := 0) (by simp [r15inResetCheck, *]) rfl rfl
  · refine bodyPost_ret (v := .agg #[.slice none 0 0, .int .i64 4, .bool false]) (by simp [results, Try.results29, go_sem]) rfl ?_
    exact Gives.mk (x := ([], 4, false)) (by simp [r15inResetCheck, *]) (RdN.nil _ _) ((Below.refl _ w).alloc (Nat.le_refl _) _)

def r15inResetWait (e : Int) : List Int × Int × Bool :=
  if (e == 3) = true then ([0, 33, 13], 3, true) else
  if (e == 2) = true then ([1, 33, 13], 6, true) else
  if (e == 8) = true then ([8], 4, true) else
  if (e == 9) = true then ([2, 7], 0, true) else
  if (e == 11) = true then ([7], 0, true) else
  ([], 5, false)

set_option maxRecDepth 100000 in
set_option maxHeartbeats 16000000 in
theorem r15inResetWait_walk (e : Int) (w : World) : Calls Try.prog 30 #[.int .i64 e] w (Gives (r15inResetWait e) w) := by
  go_enter Try.func30, Try.ntmps30
  go_wp2_with (go_at_call 45; refine (refRow _ _ _ _ _).mono ?_; rintro x w' ⟨rfl, rfl⟩)
  · refine bodyPost_ret (v := .agg #[.slice (some ⟨w.heap.size + 1, 0, none⟩) 3 3, .int .i64 3, .bool true]) (by simp [results, Try.results30, go_sem]) rfl ?_
    exact Gives.lit (d := [0, 33, 13]) (nx := 3) (by simp [r15inResetWait, *]) rfl rfl
  · refine bodyPost_ret (v := .agg #[.slice (some ⟨w.heap.size + 1, 0, none⟩) 3 3, .int .i64 6, .bool true]) (by simp [results, Try.results30, go_sem]) rfl ?_
    exact Gives.lit (d := [1, 33, 13]) (nx := 6) (by simp [r15inResetWait, *]) rfl rfl
  · refine bodyPost_ret (v := .agg #[.slice (some ⟨w.heap.size + 1, 0, none⟩) 1 1, .int .i64 4, .bool true]) (by simp [results, Try.results30, go_sem]) rfl ?_
    exact Gives.lit (d := [8]) (nx := 4) (by simp [r15inResetWait, *]) rfl rfl
  · refine bodyPost_ret (v := .agg #[.slice (some ⟨w.heap.size + 1, 0, none⟩) 2 2, .int .i64 0, .bool true]) (by simp [results, Try.results30, go_sem]) rfl ?_
    exact Gives.lit (d := [2, 7]) (nx := 0) (by simp [r15inResetWait, *]) rfl rfl
  · refine bodyPost_ret (v := .agg #[.slice (some ⟨w.heap.size + 1, 0, none⟩) 1 1, .int .i64 0, .bool true]) (by simp [results, Try.results30, go_sem]) rfl ?_
    exact Gives.lit (d := [7]) (nx := 0) (by simp [r15inResetWait, *]) rfl rfl
  · refine bodyPost_ret (v := .agg #[.slice none 0 0, .int .i64 5, .bool false]) (by simp [results, Try.results30, go_sem]) rfl ?_
    exact Gives.mk (x := ([], 5, false)) (by simp [r15inResetWait, *]) (RdN.nil _ _) ((Below.refl _ w).alloc (Nat.le_refl _) _)

def r15inDConn (e : Int) : List Int × Int × Bool :=
  if (e == 10) = true then ([12], 0, true) else
  if (e == 11) = true then ([12], 0, true) else
  if (e == 8) = true then ([3, 12], 0, true) else
  if (e == 9) = true then ([2], 6, true) else
  if (e == 29) = true then ([1, 32, 13], 6, true) else
  if (e == 33) = true then ([12], 0, true) else
  ([], 6, false)

set_option maxRecDepth 100000 in
set_option maxHeartbeats 16000000 in
theorem r15inDConn_walk (e : Int) (w : World) : Calls Try.prog 31 #[.int .i64 e] w (Gives (r15inDConn e) w) := by
  go_enter Try.func31, Try.ntmps31
  go_wp2_with (go_at_call 45; refine (refRow _ _ _ _ _).mono ?_; rintro x w' ⟨rfl, rfl⟩)
  · refine bodyPost_ret (v := .agg #[.slice (some ⟨w.heap.size + 1, 0, none⟩) 1 1, .int .i64 0, .bool true]) (by simp [results, Try.results31, go_sem]) rfl ?_
    exact Gives.lit (d := [12]) (nx := 0) (by simp [r15inDConn, *]) rfl rfl
  · refine bodyPost_ret (v := .agg #[.slice (some ⟨w.heap.size + 1, 0, none⟩) 1 1, .int .i64 0, .bool true]) (by simp [results, Try.results31, go_sem]) rfl ?_
    exact Gives.lit (d := [12]) (nx := 0) (by simp [r15inDConn, *]) rfl rfl
  · refine bodyPost_ret (v := .agg #[.slice (some ⟨w.heap.size + 1, 0, none⟩) 2 2, .int .i64 0, .bool true]) (by simp [results, Try.results31, go_sem]) rfl ?_
    exact Gives.lit (d := [3, 12]) (nx := 0) (by simp [r15inDConn, *]) rfl rfl
  · refine bodyPost_ret (v := .agg #[.slice (some ⟨w.heap.size + 1, 0, none⟩) 1 1, .int .i64 6, .bool true]) (by simp [results, Try.results31, go_sem]) rfl ?_
    exact Gives.lit (d := [2]) (nx := 6) (by simp [r15inDConn, *]) rfl rfl
  · refine bodyPost_ret (v := .agg #[.slice (some ⟨w.heap.size + 1, 0, none⟩) 3 3, .int .i64 6, .bool true]) (by simp [results, Try.results31, go_sem]) rfl ?_
    exact Gives.lit (d := [1, 32, 13]) (nx := 6) (by simp [r15inDConn, *]) rfl rfl
  · refine bodyPost_ret (v := .agg #[.slice (some ⟨w.heap.size + 1, 0, none⟩) 1 1, .int .i64 0, .bool true]) (by simp [results, Try.results31, go_sem]) rfl ?_
    exact Gives.lit (d := [12]) (nx := 0) (by simp [r15inDConn, *]) rfl rfl
  · refine bodyPost_ret (v := .agg #[.slice none 0 0, .int .i64 6, .bool false]) (by simp [results, Try.results31, go_sem]) rfl ?_
    exact Gives.mk (x := ([], 6, false)) (by simp [r15inDConn, *]) (RdN.nil _ _) ((Below.refl _ w).alloc (Nat.le_refl _) _)

def r15inError (e : Int) : List Int × Int × Bool :=
  if (e == 8) = true then ([12, 8], 4, true) else
  if (e == 9) = true then ([2, 12, 7], 0, true) else
  if (e == 11) = true then ([12, 7], 0, true) else
  if (e == 12) = true then ([12, 8], 5, true) else
  if (e == 20) = true then ([4], 7, true) else
  if (e == 29) = true then ([4, 32, 13], 7, true) else
  if (e == 33) = true then ([12, 8], 5, true) else
  if (e == 3) = true then ([12, 0, 33, 13], 3, true) else
  if (e == 2) = true then ([12, 1, 33, 13], 6, true) else
  ([], 7, false)

set_option maxRecDepth 100000 in
set_option maxHeartbeats 16000000 in
theorem r15inError_walk (e : Int) (w : World) : Calls Try.prog 32 #[.int .i64 e] w (Gives (r15inError e) w) := by
  go_enter Try.func32, Try.ntmps32
  go_wp2_with (go_at_call 45; refine (refRow _ _ _ _ _).mono ?_; rintro x w' ⟨rfl, rfl⟩)
  · refine bodyPost_ret (v := .agg #[.slice (some ⟨w.heap.size + 1, 0, none⟩) 2 2, .int .i64 4, .bool true]) (by simp [results, Try.results32, go_sem]) rfl ?_
    exact Gives.lit (d := [12, 8]) (nx := 4) (by simp [r15inError, *]) rfl rfl
  · refine bodyPost_ret (v := .agg #[.slice (some ⟨w.heap.size + 1, 0, none⟩) 3 3, .int .i64 0, .bool true]) (by simp [results, Try.results32, go_sem]) rfl ?_
    exact Gives.lit (d := [2, 12, 7]) (nx := 0) (by simp [r15inError, *]) rfl rfl
  · refine bodyPost_ret (v := .agg #[.slice (some ⟨w.heap.size + 1, 0, none⟩) 2 2, .int .i64 0, .bool true]) (by simp [results, Try.results32, go_sem]) rfl ?_
    exact Gives.lit (d := [12, 7]) (nx := 0) (by simp [r15inError, *]) rfl rfl
  · refine bodyPost_ret (v := .agg #[.slice (some ⟨w.heap.size + 1, 0, none⟩) 2 2, .int .i64 5, .bool true]) (by simp [results, Try.results32, go_sem]) rfl ?_
    exact Gives.lit (d := [12, 8]) (nx := 5) (by simp [r15inError, *]) rfl rfl
  · refine bodyPost_ret (v := .agg #[.slice (some ⟨w.heap.size + 1, 0, none⟩) 1 1, .int .i64 7, .bool true]) (by simp [results, Try.results32, go_sem]) rfl ?_
    exact Gives.lit (d := [4]) (nx := 7) (by simp [r15inError, *]) rfl rfl
  · refine bodyPost_ret (v := .agg #[.slice (some ⟨w.heap.size + 1, 0, none⟩) 3 3, .int .i64 7, .bool true]) (by simp [results, Try.results32, go_sem]) rfl ?_
    exact Gives.lit (d := [4, 32, 13]) (nx := 7) (by simp [r15inError, *]) rfl rfl
  · refine bodyPost_ret (v := .agg #[.slice (some ⟨w.heap.size + 1, 0, none⟩) 2 2, .int .i64 5, .bool true]) (by simp [results, Try.results32, go_sem]) rfl ?_
    exact Gives.lit (d := [12, 8]) (nx := 5) (by simp [r15inError, *]) rfl rfl
  · refine bodyPost_ret (v := .agg #[.slice (some ⟨w.heap.size + 1, 0, none⟩) 4 4, .int .i64 3, .bool true]) (by simp [results, Try.results32, go_sem]) rfl ?_
    exact Gives.lit (d := [12, 0, 33, 13]) (nx := 3) (by simp [r15inError, *]) rfl rfl
  · refine bodyPost_ret (v := .agg #[.slice (some ⟨w.heap.size + 1, 0, none⟩) 4 4, .int .i64 6, .bool true]) (by simp [results, Try.results32, go_sem]) rfl ?_
    exact Gives.lit (d := [12, 1, 33, 13]) (nx := 6) (by simp [r15inError, *]) rfl rfl
  · refine bodyPost_ret (v := .agg #[.slice none 0 0, .int .i64 7, .bool false]) (by simp [results, Try.results32, go_sem]) rfl ?_
    exact Gives.mk (x := ([], 7, false)) (by simp [r15inError, *]) (RdN.nil _ _) ((Below.refl _ w).alloc (Nat.le_refl _) _)

end Go.Proofs.Ytnafppdnapdbcaa
