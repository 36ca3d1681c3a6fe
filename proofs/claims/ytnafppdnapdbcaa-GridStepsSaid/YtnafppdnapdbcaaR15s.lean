/-
  The document's own answer for chapter 15: Step.
-/
import Derived.Test.YtnafppdnapdbcaaR15a
import Derived.Test.YtnafppdnapdbcaaR15b
import Derived.Test.YtnafppdnapdbcaaR15c
import Derived.Test.YtnafppdnapdbcaaR15d
import Derived.Test.YtnafppdnapdbcaaGrd7
namespace Go.Proofs.Ytnafppdnapdbcaa
open Go.RowKit


def refG (s e : Int) : List Int × Int × Bool :=
  if (s == 0) = true then r15inAdm e else
  if (s == 1) = true then r15inConn e else
  if (s == 2) = true then r15inSetup e else
  if (s == 3) = true then r15inReset e else
  if (s == 4) = true then r15inResetCheck e else
  if (s == 5) = true then r15inResetWait e else
  if (s == 6) = true then r15inDConn e else
  if (s == 7) = true then r15inError e else
  if (s == 8) = true then r15inNormal e else
  if (s == 9) = true then r15inBusy e else
  if (s == 10) = true then r15inReject e else
  if (s == 11) = true then r15inAwait e else
  if (s == 12) = true then r15inAwaitBusy e else
  if (s == 13) = true then r15inAwaitReject e else
  ([], s, false)

set_option maxRecDepth 100000 in
set_option maxHeartbeats 4000000 in
theorem r15step0 (e : Int) (w : World) : Calls Try.prog 13 #[.int .i64 0, .int .i64 e] w (Gives (refG 0 e) w) := by
  have E : Hid (refG 0 e = r15inAdm e) := by unfold Hid; simp [refG]
  go_enter Try.func13, Try.ntmps13
  go_wp2_with fail
  refine (r15inAdm_walk e _).mono ?_
  rintro x w2 ⟨v, rfl, hr, hb⟩
  obtain ⟨va, vl, vc, rfl⟩ : ∃ a n c, v = .slice a n c := by obtain ⟨a, c, h⟩ := hr.rd.len; exact ⟨a, _, c, h⟩
  have hcf : ∀ (i : Nat) (u : Value), (#[Value.slice none 0 0, .int .i64 0, .bool false] : Array Value)[i]? = some u → CF w2 w.heap.size i u := fun i u hu =>
    (show CF (w.alloc (.cells #[Value.slice none 0 0, .int .i64 0, .bool false] 30)) w.heap.size i u from ⟨(blk_cell (heap_alloc_new' w _) i).trans hu, blk_free (heap_alloc_new' w _) i⟩).below hb
  obtain ⟨q0, q0'⟩ := hcf 0 _ rfl
  obtain ⟨q1, q1'⟩ := hcf 1 _ rfl
  obtain ⟨q2, q2'⟩ := hcf 2 _ rfl
  have hlt : w.heap.size < (w.alloc (.cells #[Value.slice none 0 0, .int .i64 0, .bool false] 30)).heap.size := by simp
  have fin := Lib.hid (fun x y z => (((hr.set hlt _).set hlt _).set hlt _ : RdN _ (((w2.setCell ⟨w.heap.size, 0, none⟩ x).setCell ⟨w.heap.size, 1, none⟩ y).setCell ⟨w.heap.size, 2, none⟩ z) _ _))
  have bel := Lib.hid (fun x y z => ((((((Below.refl _ w).alloc (Nat.le_refl _) _).trans (hb.mono (by simp))).setCell (Nat.le_refl _) _).setCell (Nat.le_refl _) _).setCell (Nat.le_refl _) _ : Below w.heap.size w (((w2.setCell ⟨w.heap.size, 0, none⟩ x).setCell ⟨w.heap.size, 1, none⟩ y).setCell ⟨w.heap.size, 2, none⟩ z)))
  obtain ⟨x1, hx1⟩ : ∃ x, x = (r15inAdm e).2.1 := ⟨_, rfl⟩
  obtain ⟨x2, hx2⟩ : ∃ x, x = (r15inAdm e).2.2 := ⟨_, rfl⟩
  rw [← hx1, ← hx2]
  have X1 := Lib.hid hx1
  have X2 := Lib.hid hx2
  clear hcf hlt hr hb hx1 hx2
  go_wp2_with fail
  refine bodyPost_ret (v := .agg #[.slice va vl vc, .int .i64 x1, .bool x2]) (by simp [results, Try.results13, go_sem, *]) rfl ?_
  refine ⟨_, ?_, (by rw [E.out]; exact (fin.out _ _ _).mono (by simp)), bel.out _ _ _⟩
  rw [E.out, ← X1.out, ← X2.out]

set_option maxRecDepth 100000 in
set_option maxHeartbeats 4000000 in
theorem r15step1 (e : Int) (w : World) : Calls Try.prog 13 #[.int .i64 1, .int .i64 e] w (Gives (refG 1 e) w) := by
  have E : Hid (refG 1 e = r15inConn e) := by unfold Hid; simp [refG]
  go_enter Try.func13, Try.ntmps13
  go_wp2_with fail
  refine (r15inConn_walk e _).mono ?_
  rintro x w2 ⟨v, rfl, hr, hb⟩
  obtain ⟨va, vl, vc, rfl⟩ : ∃ a n c, v = .slice a n c := by obtain ⟨a, c, h⟩ := hr.rd.len; exact ⟨a, _, c, h⟩
  have hcf : ∀ (i : Nat) (u : Value), (#[Value.slice none 0 0, .int .i64 0, .bool false] : Array Value)[i]? = some u → CF w2 w.heap.size i u := fun i u hu =>
    (show CF (w.alloc (.cells #[Value.slice none 0 0, .int .i64 0, .bool false] 30)) w.heap.size i u from ⟨(blk_cell (heap_alloc_new' w _) i).trans hu, blk_free (heap_alloc_new' w _) i⟩).below hb
  obtain ⟨q0, q0'⟩ := hcf 0 _ rfl
  obtain ⟨q1, q1'⟩ := hcf 1 _ rfl
  obtain ⟨q2, q2'⟩ := hcf 2 _ rfl
  have hlt : w.heap.size < (w.alloc (.cells #[Value.slice none 0 0, .int .i64 0, .bool false] 30)).heap.size := by simp
  have fin := Lib.hid (fun x y z => (((hr.set hlt _).set hlt _).set hlt _ : RdN _ (((w2.setCell ⟨w.heap.size, 0, none⟩ x).setCell ⟨w.heap.size, 1, none⟩ y).setCell ⟨w.heap.size, 2, none⟩ z) _ _))
  have bel := Lib.hid (fun x y z => ((((((Below.refl _ w).alloc (Nat.le_refl _) _).trans (hb.mono (by simp))).setCell (Nat.le_refl _) _).setCell (Nat.le_refl _) _).setCell (Nat.le_refl _) _ : Below w.heap.size w (((w2.setCell ⟨w.heap.size, 0, none⟩ x).setCell ⟨w.heap.size, 1, none⟩ y).setCell ⟨w.heap.size, 2, none⟩ z)))
  obtain ⟨x1, hx1⟩ : ∃ x, x = (r15inConn e).2.1 := ⟨_, rfl⟩
  obtain ⟨x2, hx2⟩ : ∃ x, x = (r15inConn e).2.2 := ⟨_, rfl⟩
  rw [← hx1, ← hx2]
  have X1 := Lib.hid hx1
  have X2 := Lib.hid hx2
  clear hcf hlt hr hb hx1 hx2
  go_wp2_with fail
  refine bodyPost_ret (v := .agg #[.slice va vl vc, .int .i64 x1, .bool x2]) (by simp [results, Try.results13, go_sem, *]) rfl ?_
  refine ⟨_, ?_, (by rw [E.out]; exact (fin.out _ _ _).mono (by simp)), bel.out _ _ _⟩
  rw [E.out, ← X1.out, ← X2.out]

set_option maxRecDepth 100000 in
set_option maxHeartbeats 4000000 in
theorem r15step2 (e : Int) (w : World) : Calls Try.prog 13 #[.int .i64 2, .int .i64 e] w (Gives (refG 2 e) w) := by
  have E : Hid (refG 2 e = r15inSetup e) := by unfold Hid; simp [refG]
  go_enter Try.func13, Try.ntmps13
  go_wp2_with fail
  refine (r15inSetup_walk e _).mono ?_
  rintro x w2 ⟨v, rfl, hr, hb⟩
  obtain ⟨va, vl, vc, rfl⟩ : ∃ a n c, v = .slice a n c := by obtain ⟨a, c, h⟩ := hr.rd.len; exact ⟨a, _, c, h⟩
  have hcf : ∀ (i : Nat) (u : Value), (#[Value.slice none 0 0, .int .i64 0, .bool false] : Array Value)[i]? = some u → CF w2 w.heap.size i u := fun i u hu =>
    (show CF (w.alloc (.cells #[Value.slice none 0 0, .int .i64 0, .bool false] 30)) w.heap.size i u from ⟨(blk_cell (heap_alloc_new' w _) i).trans hu, blk_free (heap_alloc_new' w _) i⟩).below hb
  obtain ⟨q0, q0'⟩ := hcf 0 _ rfl
  obtain ⟨q1, q1'⟩ := hcf 1 _ rfl
  obtain ⟨q2, q2'⟩ := hcf 2 _ rfl
  have hlt : w.heap.size < (w.alloc (.cells #[Value.slice none 0 0, .int .i64 0, .bool false] 30)).heap.size := by simp
  have fin := Lib.hid (fun x y z => (((hr.set hlt _).set hlt _).set hlt _ : RdN _ (((w2.setCell ⟨w.heap.size, 0, none⟩ x).setCell ⟨w.heap.size, 1, none⟩ y).setCell ⟨w.heap.size, 2, none⟩ z) _ _))
  have bel := Lib.hid (fun x y z => ((((((Below.refl _ w).alloc (Nat.le_refl _) _).trans (hb.mono (by simp))).setCell (Nat.le_refl _) _).setCell (Nat.le_refl _) _).setCell (Nat.le_refl _) _ : Below w.heap.size w (((w2.setCell ⟨w.heap.size, 0, none⟩ x).setCell ⟨w.heap.size, 1, none⟩ y).setCell ⟨w.heap.size, 2, none⟩ z)))
  obtain ⟨x1, hx1⟩ : ∃ x, x = (r15inSetup e).2.1 := ⟨_, rfl⟩
  obtain ⟨x2, hx2⟩ : ∃ x, x = (r15inSetup e).2.2 := ⟨_, rfl⟩
  rw [← hx1, ← hx2]
  have X1 := Lib.hid hx1
  have X2 := Lib.hid hx2
  clear hcf hlt hr hb hx1 hx2
  go_wp2_with fail
  refine bodyPost_ret (v := .agg #[.slice va vl vc, .int .i64 x1, .bool x2]) (by simp [results, Try.results13, go_sem, *]) rfl ?_
  refine ⟨_, ?_, (by rw [E.out]; exact (fin.out _ _ _).mono (by simp)), bel.out _ _ _⟩
  rw [E.out, ← X1.out, ← X2.out]

set_option maxRecDepth 100000 in
set_option maxHeartbeats 4000000 in
theorem r15step3 (e : Int) (w : World) : Calls Try.prog 13 #[.int .i64 3, .int .i64 e] w (Gives (refG 3 e) w) := by
  have E : Hid (refG 3 e = r15inReset e) := by unfold Hid; simp [refG]
  go_enter Try.func13, Try.ntmps13
  go_wp2_with fail
  refine (r15inReset_walk e _).mono ?_
  rintro x w2 ⟨v, rfl, hr, hb⟩
  obtain ⟨va, vl, vc, rfl⟩ : ∃ a n c, v = .slice a n c := by obtain ⟨a, c, h⟩ := hr.rd.len; exact ⟨a, _, c, h⟩
  have hcf : ∀ (i : Nat) (u : Value), (#[Value.slice none 0 0, .int .i64 0, .bool false] : Array Value)[i]? = some u → CF w2 w.heap.size i u := fun i u hu =>
    (show CF (w.alloc (.cells #[Value.slice none 0 0, .int .i64 0, .bool false] 30)) w.heap.size i u from ⟨(blk_cell (heap_alloc_new' w _) i).trans hu, blk_free (heap_alloc_new' w _) i⟩).below hb
  obtain ⟨q0, q0'⟩ := hcf 0 _ rfl
  obtain ⟨q1, q1'⟩ := hcf 1 _ rfl
  obtain ⟨q2, q2'⟩ := hcf 2 _ rfl
  have hlt : w.heap.size < (w.alloc (.cells #[Value.slice none 0 0, .int .i64 0, .bool false] 30)).heap.size := by simp
  have fin := Lib.hid (fun x y z => (((hr.set hlt _).set hlt _).set hlt _ : RdN _ (((w2.setCell ⟨w.heap.size, 0, none⟩ x).setCell ⟨w.heap.size, 1, none⟩ y).setCell ⟨w.heap.size, 2, none⟩ z) _ _))
  have bel := Lib.hid (fun x y z => ((((((Below.refl _ w).alloc (Nat.le_refl _) _).trans (hb.mono (by simp))).setCell (Nat.le_refl _) _).setCell (Nat.le_refl _) _).setCell (Nat.le_refl _) _ : Below w.heap.size w (((w2.setCell ⟨w.heap.size, 0, none⟩ x).setCell ⟨w.heap.size, 1, none⟩ y).setCell ⟨w.heap.size, 2, none⟩ z)))
  obtain ⟨x1, hx1⟩ : ∃ x, x = (r15inReset e).2.1 := ⟨_, rfl⟩
  obtain ⟨x2, hx2⟩ : ∃ x, x = (r15inReset e).2.2 := ⟨_, rfl⟩
  rw [← hx1, ← hx2]
  have X1 := Lib.hid hx1
  have X2 := Lib.hid hx2
  clear hcf hlt hr hb hx1 hx2
  go_wp2_with fail
  refine bodyPost_ret (v := .agg #[.slice va vl vc, .int .i64 x1, .bool x2]) (by simp [results, Try.results13, go_sem, *]) rfl ?_
  refine ⟨_, ?_, (by rw [E.out]; exact (fin.out _ _ _).mono (by simp)), bel.out _ _ _⟩
  rw [E.out, ← X1.out, ← X2.out]

set_option maxRecDepth 100000 in
set_option maxHeartbeats 4000000 in
theorem r15step4 (e : Int) (w : World) : Calls Try.prog 13 #[.int .i64 4, .int .i64 e] w (Gives (refG 4 e) w) := by
  have E : Hid (refG 4 e = r15inResetCheck e) := by unfold Hid; simp [refG]
  go_enter Try.func13, Try.ntmps13
  go_wp2_with fail
  refine (r15inResetCheck_walk e _).mono ?_
  rintro x w2 ⟨v, rfl, hr, hb⟩
  obtain ⟨va, vl, vc, rfl⟩ : ∃ a n c, v = .slice a n c := by obtain ⟨a, c, h⟩ := hr.rd.len; exact ⟨a, _, c, h⟩
  have hcf : ∀ (i : Nat) (u : Value), (#[Value.slice none 0 0, .int .i64 0, .bool false] : Array Value)[i]? = some u → CF w2 w.heap.size i u := fun i u hu =>
    (show CF (w.alloc (.cells #[Value.slice none 0 0, .int .i64 0, .bool false] 30)) w.heap.size i u from ⟨(blk_cell (heap_alloc_new' w _) i).trans hu, blk_free (heap_alloc_new' w _) i⟩).below hb
  obtain ⟨q0, q0'⟩ := hcf 0 _ rfl
  obtain ⟨q1, q1'⟩ := hcf 1 _ rfl
  obtain ⟨q2, q2'⟩ := hcf 2 _ rfl
  have hlt : w.heap.size < (w.alloc (.cells #[Value.slice none 0 0, .int .i64 0, .bool false] 30)).heap.size := by simp
  have fin := Lib.hid (fun x y z => (((hr.set hlt _).set hlt _).set hlt _ : RdN _ (((w2.setCell ⟨w.heap.size, 0, none⟩ x).setCell ⟨w.heap.size, 1, none⟩ y).setCell ⟨w.heap.size, 2, none⟩ z) _ _))
  have bel := Lib.hid (fun x y z => ((((((Below.refl _ w).alloc (Nat.le_refl _) _).trans (hb.mono (by simp))).setCell (Nat.le_refl _) _).setCell (Nat.le_refl _) _).setCell (Nat.le_refl _) _ : Below w.heap.size w (((w2.setCell ⟨w.heap.size, 0, none⟩ x).setCell ⟨w.heap.size, 1, none⟩ y).setCell ⟨w.heap.size, 2, none⟩ z)))
  obtain ⟨x1, hx1⟩ : ∃ x, x = (r15inResetCheck e).2.1 := ⟨_, rfl⟩
  obtain ⟨x2, hx2⟩ : ∃ x, x = (r15inResetCheck e).2.2 := ⟨_, rfl⟩
  rw [← hx1, ← hx2]
  have X1 := Lib.hid hx1
  have X2 := Lib.hid hx2
  clear hcf hlt hr hb hx1 hx2
  go_wp2_with fail
  refine bodyPost_ret (v := .agg #[.slice va vl vc, .int .i64 x1, .bool x2]) (by simp [results, Try.results13, go_sem, *]) rfl ?_
  refine ⟨_, ?_, (by rw [E.out]; exact (fin.out _ _ _).mono (by simp)), bel.out _ _ _⟩
  rw [E.out, ← X1.out, ← X2.out]

set_option maxRecDepth 100000 in
set_option maxHeartbeats 4000000 in
theorem r15step5 (e : Int) (w : World) : Calls Try.prog 13 #[.int .i64 5, .int .i64 e] w (Gives (refG 5 e) w) := by
  have E : Hid (refG 5 e = r15inResetWait e) := by unfold Hid; simp [refG]
  go_enter Try.func13, Try.ntmps13
  go_wp2_with fail
  refine (r15inResetWait_walk e _).mono ?_
  rintro x w2 ⟨v, rfl, hr, hb⟩
  obtain ⟨va, vl, vc, rfl⟩ : ∃ a n c, v = .slice a n c := by obtain ⟨a, c, h⟩ := hr.rd.len; exact ⟨a, _, c, h⟩
  have hcf : ∀ (i : Nat) (u : Value), (#[Value.slice none 0 0, .int .i64 0, .bool false] : Array Value)[i]? = some u → CF w2 w.heap.size i u := fun i u hu =>
    (show CF (w.alloc (.cells #[Value.slice none 0 0, .int .i64 0, .bool false] 30)) w.heap.size i u from ⟨(blk_cell (heap_alloc_new' w _) i).trans hu, blk_free (heap_alloc_new' w _) i⟩).below hb
  obtain ⟨q0, q0'⟩ := hcf 0 _ rfl
  obtain ⟨q1, q1'⟩ := hcf 1 _ rfl
  obtain ⟨q2, q2'⟩ := hcf 2 _ rfl
  have hlt : w.heap.size < (w.alloc (.cells #[Value.slice none 0 0, .int .i64 0, .bool false] 30)).heap.size := by simp
  have fin := Lib.hid (fun x y z => (((hr.set hlt _).set hlt _).set hlt _ : RdN _ (((w2.setCell ⟨w.heap.size, 0, none⟩ x).setCell ⟨w.heap.size, 1, none⟩ y).setCell ⟨w.heap.size, 2, none⟩ z) _ _))
  have bel := Lib.hid (fun x y z => ((((((Below.refl _ w).alloc (Nat.le_refl _) _).trans (hb.mono (by simp))).setCell (Nat.le_refl _) _).setCell (Nat.le_refl _) _).setCell (Nat.le_refl _) _ : Below w.heap.size w (((w2.setCell ⟨w.heap.size, 0, none⟩ x).setCell ⟨w.heap.size, 1, none⟩ y).setCell ⟨w.heap.size, 2, none⟩ z)))
  obtain ⟨x1, hx1⟩ : ∃ x, x = (r15inResetWait e).2.1 := ⟨_, rfl⟩
  obtain ⟨x2, hx2⟩ : ∃ x, x = (r15inResetWait e).2.2 := ⟨_, rfl⟩
  rw [← hx1, ← hx2]
  have X1 := Lib.hid hx1
  have X2 := Lib.hid hx2
  clear hcf hlt hr hb hx1 hx2
  go_wp2_with fail
  refine bodyPost_ret (v := .agg #[.slice va vl vc, .int .i64 x1, .bool x2]) (by simp [results, Try.results13, go_sem, *]) rfl ?_
  refine ⟨_, ?_, (by rw [E.out]; exact (fin.out _ _ _).mono (by simp)), bel.out _ _ _⟩
  rw [E.out, ← X1.out, ← X2.out]

set_option maxRecDepth 100000 in
set_option maxHeartbeats 4000000 in
theorem r15step6 (e : Int) (w : World) : Calls Try.prog 13 #[.int .i64 6, .int .i64 e] w (Gives (refG 6 e) w) := by
  have E : Hid (refG 6 e = r15inDConn e) := by unfold Hid; simp [refG]
  go_enter Try.func13, Try.ntmps13
  go_wp2_with fail
  refine (r15inDConn_walk e _).mono ?_
  rintro x w2 ⟨v, rfl, hr, hb⟩
  obtain ⟨va, vl, vc, rfl⟩ : ∃ a n c, v = .slice a n c := by obtain ⟨a, c, h⟩ := hr.rd.len; exact ⟨a, _, c, h⟩
  have hcf : ∀ (i : Nat) (u : Value), (#[Value.slice none 0 0, .int .i64 0, .bool false] : Array Value)[i]? = some u → CF w2 w.heap.size i u := fun i u hu =>
    (show CF (w.alloc (.cells #[Value.slice none 0 0, .int .i64 0, .bool false] 30)) w.heap.size i u from ⟨(blk_cell (heap_alloc_new' w _) i).trans hu, blk_free (heap_alloc_new' w _) i⟩).below hb
  obtain ⟨q0, q0'⟩ := hcf 0 _ rfl
  obtain ⟨q1, q1'⟩ := hcf 1 _ rfl
  obtain ⟨q2, q2'⟩ := hcf 2 _ rfl
  have hlt : w.heap.size < (w.alloc (.cells #[Value.slice none 0 0, .int .i64 0, .bool false] 30)).heap.size := by simp
  have fin := Lib.hid (fun x y z => (((hr.set hlt _).set hlt _).set hlt _ : RdN _ (((w2.setCell ⟨w.heap.size, 0, none⟩ x).setCell ⟨w.heap.size, 1, none⟩ y).setCell ⟨w.heap.size, 2, none⟩ z) _ _))
  have bel := Lib.hid (fun x y z => ((((((Below.refl _ w).alloc (Nat.le_refl _) _).trans (hb.mono (by simp))).setCell (Nat.le_refl _) _).setCell (Nat.le_refl _) _).setCell (Nat.le_refl _) _ : Below w.heap.size w (((w2.setCell ⟨w.heap.size, 0, none⟩ x).setCell ⟨w.heap.size, 1, none⟩ y).setCell ⟨w.heap.size, 2, none⟩ z)))
  obtain ⟨x1, hx1⟩ : ∃ x, x = (r15inDConn e).2.1 := ⟨_, rfl⟩
  obtain ⟨x2, hx2⟩ : ∃ x, x = (r15inDConn e).2.2 := ⟨_, rfl⟩
  rw [← hx1, ← hx2]
  have X1 := Lib.hid hx1
  have X2 := Lib.hid hx2
  clear hcf hlt hr hb hx1 hx2
  go_wp2_with fail
  refine bodyPost_ret (v := .agg #[.slice va vl vc, .int .i64 x1, .bool x2]) (by simp [results, Try.results13, go_sem, *]) rfl ?_
  refine ⟨_, ?_, (by rw [E.out]; exact (fin.out _ _ _).mono (by simp)), bel.out _ _ _⟩
  rw [E.out, ← X1.out, ← X2.out]

set_option maxRecDepth 100000 in
set_option maxHeartbeats 4000000 in
theorem r15step7 (e : Int) (w : World) : Calls Try.prog 13 #[.int .i64 7, .int .i64 e] w (Gives (refG 7 e) w) := by
  have E : Hid (refG 7 e = r15inError e) := by unfold Hid; simp [refG]
  go_enter Try.func13, Try.ntmps13
  go_wp2_with fail
  refine (r15inError_walk e _).mono ?_
  rintro x w2 ⟨v, rfl, hr, hb⟩
  obtain ⟨va, vl, vc, rfl⟩ : ∃ a n c, v = .slice a n c := by obtain ⟨a, c, h⟩ := hr.rd.len; exact ⟨a, _, c, h⟩
  have hcf : ∀ (i : Nat) (u : Value), (#[Value.slice none 0 0, .int .i64 0, .bool false] : Array Value)[i]? = some u → CF w2 w.heap.size i u := fun i u hu =>
    (show CF (w.alloc (.cells #[Value.slice none 0 0, .int .i64 0, .bool false] 30)) w.heap.size i u from ⟨(blk_cell (heap_alloc_new' w _) i).trans hu, blk_free (heap_alloc_new' w _) i⟩).below hb
  obtain ⟨q0, q0'⟩ := hcf 0 _ rfl
  obtain ⟨q1, q1'⟩ := hcf 1 _ rfl
  obtain ⟨q2, q2'⟩ := hcf 2 _ rfl
  have hlt : w.heap.size < (w.alloc (.cells #[Value.slice none 0 0, .int .i64 0, .bool false] 30)).heap.size := by simp
  have fin := Lib.hid (fun x y z => (((hr.set hlt _).set hlt _).set hlt _ : RdN _ (((w2.setCell ⟨w.heap.size, 0, none⟩ x).setCell ⟨w.heap.size, 1, none⟩ y).setCell ⟨w.heap.size, 2, none⟩ z) _ _))
  have bel := Lib.hid (fun x y z => ((((((Below.refl _ w).alloc (Nat.le_refl _) _).trans (hb.mono (by simp))).setCell (Nat.le_refl _) _).setCell (Nat.le_refl _) _).setCell (Nat.le_refl _) _ : Below w.heap.size w (((w2.setCell ⟨w.heap.size, 0, none⟩ x).setCell ⟨w.heap.size, 1, none⟩ y).setCell ⟨w.heap.size, 2, none⟩ z)))
  obtain ⟨x1, hx1⟩ : ∃ x, x = (r15inError e).2.1 := ⟨_, rfl⟩
  obtain ⟨x2, hx2⟩ : ∃ x, x = (r15inError e).2.2 := ⟨_, rfl⟩
  rw [← hx1, ← hx2]
  have X1 := Lib.hid hx1
  have X2 := Lib.hid hx2
  clear hcf hlt hr hb hx1 hx2
  go_wp2_with fail
  refine bodyPost_ret (v := .agg #[.slice va vl vc, .int .i64 x1, .bool x2]) (by simp [results, Try.results13, go_sem, *]) rfl ?_
  refine ⟨_, ?_, (by rw [E.out]; exact (fin.out _ _ _).mono (by simp)), bel.out _ _ _⟩
  rw [E.out, ← X1.out, ← X2.out]

set_option maxRecDepth 100000 in
set_option maxHeartbeats 4000000 in
theorem r15step8 (e : Int) (w : World) : Calls Try.prog 13 #[.int .i64 8, .int .i64 e] w (Gives (refG 8 e) w) := by
  have E : Hid (refG 8 e = r15inNormal e) := by unfold Hid; simp [refG]
  go_enter Try.func13, Try.ntmps13
  go_wp2_with fail
  refine (r15inNormal_walk e _).mono ?_
  rintro x w2 ⟨v, rfl, hr, hb⟩
  obtain ⟨va, vl, vc, rfl⟩ : ∃ a n c, v = .slice a n c := by obtain ⟨a, c, h⟩ := hr.rd.len; exact ⟨a, _, c, h⟩
  have hcf : ∀ (i : Nat) (u : Value), (#[Value.slice none 0 0, .int .i64 0, .bool false] : Array Value)[i]? = some u → CF w2 w.heap.size i u := fun i u hu =>
    (show CF (w.alloc (.cells #[Value.slice none 0 0, .int .i64 0, .bool false] 30)) w.heap.size i u from ⟨(blk_cell (heap_alloc_new' w _) i).trans hu, blk_free (heap_alloc_new' w _) i⟩).below hb
  obtain ⟨q0, q0'⟩ := hcf 0 _ rfl
  obtain ⟨q1, q1'⟩ := hcf 1 _ rfl
  obtain ⟨q2, q2'⟩ := hcf 2 _ rfl
  have hlt : w.heap.size < (w.alloc (.cells #[Value.slice none 0 0, .int .i64 0, .bool false] 30)).heap.size := by simp
  have fin := Lib.hid (fun x y z => (((hr.set hlt _).set hlt _).set hlt _ : RdN _ (((w2.setCell ⟨w.heap.size, 0, none⟩ x).setCell ⟨w.heap.size, 1, none⟩ y).setCell ⟨w.heap.size, 2, none⟩ z) _ _))
  have bel := Lib.hid (fun x y z => ((((((Below.refl _ w).alloc (Nat.le_refl _) _).trans (hb.mono (by simp))).setCell (Nat.le_refl _) _).setCell (Nat.le_refl _) _).setCell (Nat.le_refl _) _ : Below w.heap.size w (((w2.setCell ⟨w.heap.size, 0, none⟩ x).setCell ⟨w.heap.size, 1, none⟩ y).setCell ⟨w.heap.size, 2, none⟩ z)))
  obtain ⟨x1, hx1⟩ : ∃ x, x = (r15inNormal e).2.1 := ⟨_, rfl⟩
  obtain ⟨x2, hx2⟩ : ∃ x, x = (r15inNormal e).2.2 := ⟨_, rfl⟩
  rw [← hx1, ← hx2]
  have X1 := Lib.hid hx1
  have X2 := Lib.hid hx2
  clear hcf hlt hr hb hx1 hx2
  go_wp2_with fail
  refine bodyPost_ret (v := .agg #[.slice va vl vc, .int .i64 x1, .bool x2]) (by simp [results, Try.results13, go_sem, *]) rfl ?_
  refine ⟨_, ?_, (by rw [E.out]; exact (fin.out _ _ _).mono (by simp)), bel.out _ _ _⟩
  rw [E.out, ← X1.out, ← X2.out]

set_option maxRecDepth 100000 in
set_option maxHeartbeats 4000000 in
theorem r15step9 (e : Int) (w : World) : Calls Try.prog 13 #[.int .i64 9, .int .i64 e] w (Gives (refG 9 e) w) := by
  have E : Hid (refG 9 e = r15inBusy e) := by unfold Hid; simp [refG]
  go_enter Try.func13, Try.ntmps13
  go_wp2_with fail
  refine (r15inBusy_walk e _).mono ?_
  rintro x w2 ⟨v, rfl, hr, hb⟩
  obtain ⟨va, vl, vc, rfl⟩ : ∃ a n c, v = .slice a n c := by obtain ⟨a, c, h⟩ := hr.rd.len; exact ⟨a, _, c, h⟩
  have hcf : ∀ (i : Nat) (u : Value), (#[Value.slice none 0 0, .int .i64 0, .bool false] : Array Value)[i]? = some u → CF w2 w.heap.size i u := fun i u hu =>
    (show CF (w.alloc (.cells #[Value.slice none 0 0, .int .i64 0, .bool false] 30)) w.heap.size i u from ⟨(blk_cell (heap_alloc_new' w _) i).trans hu, blk_free (heap_alloc_new' w _) i⟩).below hb
  obtain ⟨q0, q0'⟩ := hcf 0 _ rfl
  obtain ⟨q1, q1'⟩ := hcf 1 _ rfl
  obtain ⟨q2, q2'⟩ := hcf 2 _ rfl
  have hlt : w.heap.size < (w.alloc (.cells #[Value.slice none 0 0, .int .i64 0, .bool false] 30)).heap.size := by simp
  have fin := Lib.hid (fun x y z => (((hr.set hlt _).set hlt _).set hlt _ : RdN _ (((w2.setCell ⟨w.heap.size, 0, none⟩ x).setCell ⟨w.heap.size, 1, none⟩ y).setCell ⟨w.heap.size, 2, none⟩ z) _ _))
  have bel := Lib.hid (fun x y z => ((((((Below.refl _ w).alloc (Nat.le_refl _) _).trans (hb.mono (by simp))).setCell (Nat.le_refl _) _).setCell (Nat.le_refl _) _).setCell (Nat.le_refl _) _ : Below w.heap.size w (((w2.setCell ⟨w.heap.size, 0, none⟩ x).setCell ⟨w.heap.size, 1, none⟩ y).setCell ⟨w.heap.size, 2, none⟩ z)))
  obtain ⟨x1, hx1⟩ : ∃ x, x = (r15inBusy e).2.1 := ⟨_, rfl⟩
  obtain ⟨x2, hx2⟩ : ∃ x, x = (r15inBusy e).2.2 := ⟨_, rfl⟩
  rw [← hx1, ← hx2]
  have X1 := Lib.hid hx1
  have X2 := Lib.hid hx2
  clear hcf hlt hr hb hx1 hx2
  go_wp2_with fail
  refine bodyPost_ret (v := .agg #[.slice va vl vc, .int .i64 x1, .bool x2]) (by simp [results, Try.results13, go_sem, *]) rfl ?_
  refine ⟨_, ?_, (by rw [E.out]; exact (fin.out _ _ _).mono (by simp)), bel.out _ _ _⟩
  rw [E.out, ← X1.out, ← X2.out]

set_option maxRecDepth 100000 in
set_option maxHeartbeats 4000000 in
theorem r15step10 (e : Int) (w : World) : Calls Try.prog 13 #[.int .i64 10, .int .i64 e] w (Gives (refG 10 e) w) := by
  have E : Hid (refG 10 e = r15inReject e) := by unfold Hid; simp [refG]
  go_enter Try.func13, Try.ntmps13
  go_wp2_with fail
  refine (r15inReject_walk e _).mono ?_
  rintro x w2 ⟨v, rfl, hr, hb⟩
  obtain ⟨va, vl, vc, rfl⟩ : ∃ a n c, v = .slice a n c := by obtain ⟨a, c, h⟩ := hr.rd.len; exact ⟨a, _, c, h⟩
  have hcf : ∀ (i : Nat) (u : Value), (#[Value.slice none 0 0, .int .i64 0, .bool false] : Array Value)[i]? = some u → CF w2 w.heap.size i u := fun i u hu =>
    (show CF (w.alloc (.cells #[Value.slice none 0 0, .int .i64 0, .bool false] 30)) w.heap.size i u from ⟨(blk_cell (heap_alloc_new' w _) i).trans hu, blk_free (heap_alloc_new' w _) i⟩).below hb
  obtain ⟨q0, q0'⟩ := hcf 0 _ rfl
  obtain ⟨q1, q1'⟩ := hcf 1 _ rfl
  obtain ⟨q2, q2'⟩ := hcf 2 _ rfl
  have hlt : w.heap.size < (w.alloc (.cells #[Value.slice none 0 0, .int .i64 0, .bool false] 30)).heap.size := by simp
  have fin := Lib.hid (fun x y z => (((hr.set hlt _).set hlt _).set hlt _ : RdN _ (((w2.setCell ⟨w.heap.size, 0, none⟩ x).setCell ⟨w.heap.size, 1, none⟩ y).setCell ⟨w.heap.size, 2, none⟩ z) _ _))
  have bel := Lib.hid (fun x y z => ((((((Below.refl _ w).alloc (Nat.le_refl _) _).trans (hb.mono (by simp))).setCell (Nat.le_refl _) _).setCell (Nat.le_refl _) _).setCell (Nat.le_refl _) _ : Below w.heap.size w (((w2.setCell ⟨w.heap.size, 0, none⟩ x).setCell ⟨w.heap.size, 1, none⟩ y).setCell ⟨w.heap.size, 2, none⟩ z)))
  obtain ⟨x1, hx1⟩ : ∃ x, x = (r15inReject e).2.1 := ⟨_, rfl⟩
  obtain ⟨x2, hx2⟩ : ∃ x, x = (r15inReject e).2.2 := ⟨_, rfl⟩
  rw [← hx1, ← hx2]
  have X1 := Lib.hid hx1
  have X2 := Lib.hid hx2
  clear hcf hlt hr hb hx1 hx2
  go_wp2_with fail
  refine bodyPost_ret (v := .agg #[.slice va vl vc, .int .i64 x1, .bool x2]) (by simp [results, Try.results13, go_sem, *]) rfl ?_
  refine ⟨_, ?_, (by rw [E.out]; exact (fin.out _ _ _).mono (by simp)), bel.out _ _ _⟩
  rw [E.out, ← X1.out, ← X2.out]

set_option maxRecDepth 100000 in
set_option maxHeartbeats 4000000 in
theorem r15step11 (e : Int) (w : World) : Calls Try.prog 13 #[.int .i64 11, .int .i64 e] w (Gives (refG 11 e) w) := by
  have E : Hid (refG 11 e = r15inAwait e) := by unfold Hid; simp [refG]
  go_enter Try.func13, Try.ntmps13
  go_wp2_with fail
  refine (r15inAwait_walk e _).mono ?_
  rintro x w2 ⟨v, rfl, hr, hb⟩
  obtain ⟨va, vl, vc, rfl⟩ : ∃ a n c, v = .slice a n c := by obtain ⟨a, c, h⟩ := hr.rd.len; exact ⟨a, _, c, h⟩
  have hcf : ∀ (i : Nat) (u : Value), (#[Value.slice none 0 0, .int .i64 0, .bool false] : Array Value)[i]? = some u → CF w2 w.heap.size i u := fun i u hu =>
    (show CF (w.alloc (.cells #[Value.slice none 0 0, .int .i64 0, .bool false] 30)) w.heap.size i u from ⟨(blk_cell (heap_alloc_new' w _) i).trans hu, blk_free (heap_alloc_new' w _) i⟩).below hb
  obtain ⟨q0, q0'⟩ := hcf 0 _ rfl
  obtain ⟨q1, q1'⟩ := hcf 1 _ rfl
  obtain ⟨q2, q2'⟩ := hcf 2 _ rfl
  have hlt : w.heap.size < (w.alloc (.cells #[Value.slice none 0 0, .int .i64 0, .bool false] 30)).heap.size := by simp
  have fin := Lib.hid (fun x y z => (((hr.set hlt _).set hlt _).set hlt _ : RdN _ (((w2.setCell ⟨w.heap.size, 0, none⟩ x).setCell ⟨w.heap.size, 1, none⟩ y).setCell ⟨w.heap.size, 2, none⟩ z) _ _))
  have bel := Lib.hid (fun x y z => ((((((Below.refl _ w).alloc (Nat.le_refl _) _).trans (hb.mono (by simp))).setCell (Nat.le_refl _) _).setCell (Nat.le_refl _) _).setCell (Nat.le_refl _) _ : Below w.heap.size w (((w2.setCell ⟨w.heap.size, 0, none⟩ x).setCell ⟨w.heap.size, 1, none⟩ y).setCell ⟨w.heap.size, 2, none⟩ z)))
  obtain ⟨x1, hx1⟩ : ∃ x, x = (r15inAwait e).2.1 := ⟨_, rfl⟩
  obtain ⟨x2, hx2⟩ : ∃ x, x = (r15inAwait e).2.2 := ⟨_, rfl⟩
  rw [← hx1, ← hx2]
  have X1 := Lib.hid hx1
  have X2 := Lib.hid hx2
  clear hcf hlt hr hb hx1 hx2
  go_wp2_with fail
  refine bodyPost_ret (v := .agg #[.slice va vl vc, .int .i64 x1, .bool x2]) (by simp [results, Try.results13, go_sem, *]) rfl ?_
  refine ⟨_, ?_, (by rw [E.out]; exact (fin.out _ _ _).mono (by simp)), bel.out _ _ _⟩
  rw [E.out, ← X1.out, ← X2.out]

set_option maxRecDepth 100000 in
set_option maxHeartbeats 4000000 in
theorem r15step12 (e : Int) (w : World) : Calls Try.prog 13 #[.int .i64 12, .int .i64 e] w (Gives (refG 12 e) w) := by
  have E : Hid (refG 12 e = r15inAwaitBusy e) := by unfold Hid; simp [refG]
  go_enter Try.func13, Try.ntmps13
  go_wp2_with fail
  refine (r15inAwaitBusy_walk e _).mono ?_
  rintro x w2 ⟨v, rfl, hr, hb⟩
  obtain ⟨va, vl, vc, rfl⟩ : ∃ a n c, v = .slice a n c := by obtain ⟨a, c, h⟩ := hr.rd.len; exact ⟨a, _, c, h⟩
  have hcf : ∀ (i : Nat) (u : Value), (#[Value.slice none 0 0, .int .i64 0, .bool false] : Array Value)[i]? = some u → CF w2 w.heap.size i u := fun i u hu =>
    (show CF (w.alloc (.cells #[Value.slice none 0 0, .int .i64 0, .bool false] 30)) w.heap.size i u from ⟨(blk_cell (heap_alloc_new' w _) i).trans hu, blk_free (heap_alloc_new' w _) i⟩).below hb
  obtain ⟨q0, q0'⟩ := hcf 0 _ rfl
  obtain ⟨q1, q1'⟩ := hcf 1 _ rfl
  obtain ⟨q2, q2'⟩ := hcf 2 _ rfl
  have hlt : w.heap.size < (w.alloc (.cells #[Value.slice none 0 0, .int .i64 0, .bool false] 30)).heap.size := by simp
  have fin := Lib.hid (fun x y z => (((hr.set hlt _).set hlt _).set hlt _ : RdN _ (((w2.setCell ⟨w.heap.size, 0, none⟩ x).setCell ⟨w.heap.size, 1, none⟩ y).setCell ⟨w.heap.size, 2, none⟩ z) _ _))
  have bel := Lib.hid (fun x y z => ((((((Below.refl _ w).alloc (Nat.le_refl _) _).trans (hb.mono (by simp))).setCell (Nat.le_refl _) _).setCell (Nat.le_refl _) _).setCell (Nat.le_refl _) _ : Below w.heap.size w (((w2.setCell ⟨w.heap.size, 0, none⟩ x).setCell ⟨w.heap.size, 1, none⟩ y).setCell ⟨w.heap.size, 2, none⟩ z)))
  obtain ⟨x1, hx1⟩ : ∃ x, x = (r15inAwaitBusy e).2.1 := ⟨_, rfl⟩
  obtain ⟨x2, hx2⟩ : ∃ x, x = (r15inAwaitBusy e).2.2 := ⟨_, rfl⟩
  rw [← hx1, ← hx2]
  have X1 := Lib.hid hx1
  have X2 := Lib.hid hx2
  clear hcf hlt hr hb hx1 hx2
  go_wp2_with fail
  refine bodyPost_ret (v := .agg #[.slice va vl vc, .int .i64 x1, .bool x2]) (by simp [results, Try.results13, go_sem, *]) rfl ?_
  refine ⟨_, ?_, (by rw [E.out]; exact (fin.out _ _ _).mono (by simp)), bel.out _ _ _⟩
  rw [E.out, ← X1.out, ← X2.out]

set_option maxRecDepth 100000 in
set_option maxHeartbeats 4000000 in
theorem r15step13 (e : Int) (w : World) : Calls Try.prog 13 #[.int .i64 13, .int .i64 e] w (Gives (refG 13 e) w) := by
  have E : Hid (refG 13 e = r15inAwaitReject e) := by unfold Hid; simp [refG]
  go_enter Try.func13, Try.ntmps13
  go_wp2_with fail
  refine (r15inAwaitReject_walk e _).mono ?_
  rintro x w2 ⟨v, rfl, hr, hb⟩
  obtain ⟨va, vl, vc, rfl⟩ : ∃ a n c, v = .slice a n c := by obtain ⟨a, c, h⟩ := hr.rd.len; exact ⟨a, _, c, h⟩
  have hcf : ∀ (i : Nat) (u : Value), (#[Value.slice none 0 0, .int .i64 0, .bool false] : Array Value)[i]? = some u → CF w2 w.heap.size i u := fun i u hu =>
    (show CF (w.alloc (.cells #[Value.slice none 0 0, .int .i64 0, .bool false] 30)) w.heap.size i u from ⟨(blk_cell (heap_alloc_new' w _) i).trans hu, blk_free (heap_alloc_new' w _) i⟩).below hb
  obtain ⟨q0, q0'⟩ := hcf 0 _ rfl
  obtain ⟨q1, q1'⟩ := hcf 1 _ rfl
  obtain ⟨q2, q2'⟩ := hcf 2 _ rfl
  have hlt : w.heap.size < (w.alloc (.cells #[Value.slice none 0 0, .int .i64 0, .bool false] 30)).heap.size := by simp
  have fin := Lib.hid (fun x y z => (((hr.set hlt _).set hlt _).set hlt _ : RdN _ (((w2.setCell ⟨w.heap.size, 0, none⟩ x).setCell ⟨w.heap.size, 1, none⟩ y).setCell ⟨w.heap.size, 2, none⟩ z) _ _))
  have bel := Lib.hid (fun x y z => ((((((Below.refl _ w).alloc (Nat.le_refl _) _).trans (hb.mono (by simp))).setCell (Nat.le_refl _) _).setCell (Nat.le_refl _) _).setCell (Nat.le_refl _) _ : Below w.heap.size w (((w2.setCell ⟨w.heap.size, 0, none⟩ x).setCell ⟨w.heap.size, 1, none⟩ y).setCell ⟨w.heap.size, 2, none⟩ z)))
  obtain ⟨x1, hx1⟩ : ∃ x, x = (r15inAwaitReject e).2.1 := ⟨_, rfl⟩
  obtain ⟨x2, hx2⟩ : ∃ x, x = (r15inAwaitReject e).2.2 := ⟨_, rfl⟩
  rw [← hx1, ← hx2]
  have X1 := Lib.hid hx1
  have X2 := Lib.hid hx2
  clear hcf hlt hr hb hx1 hx2
  go_wp2_with fail
  refine bodyPost_ret (v := .agg #[.slice va vl vc, .int .i64 x1, .bool x2]) (by simp [results, Try.results13, go_sem, *]) rfl ?_
  refine ⟨_, ?_, (by rw [E.out]; exact (fin.out _ _ _).mono (by simp)), bel.out _ _ _⟩
  rw [E.out, ← X1.out, ← X2.out]

theorem r15stepOut (s e : Int) (h : s < 0 ∨ 14 ≤ s) (w : World) : Calls Try.prog 13 #[.int .i64 s, .int .i64 e] w (Gives (refG s e) w) := by
  have n0 : (s == 0) = false := by simp; omega
  have n1 : (s == 1) = false := by simp; omega
  have n2 : (s == 2) = false := by simp; omega
  have n3 : (s == 3) = false := by simp; omega
  have n4 : (s == 4) = false := by simp; omega
  have n5 : (s == 5) = false := by simp; omega
  have n6 : (s == 6) = false := by simp; omega
  have n7 : (s == 7) = false := by simp; omega
  have n8 : (s == 8) = false := by simp; omega
  have n9 : (s == 9) = false := by simp; omega
  have n10 : (s == 10) = false := by simp; omega
  have n11 : (s == 11) = false := by simp; omega
  have n12 : (s == 12) = false := by simp; omega
  have n13 : (s == 13) = false := by simp; omega
  have E : Hid (refG s e = ([], s, false)) := by unfold Hid; simp only [refG, n0, n1, n2, n3, n4, n5, n6, n7, n8, n9, n10, n11, n12, n13]; rfl
  clear h
  go_enter Try.func13, Try.ntmps13
  go_wp2_with fail
  refine bodyPost_ret (v := .agg #[.slice none 0 0, .int .i64 s, .bool false]) (by simp [results, Try.results13, go_sem]) rfl ?_
  exact Gives.mk (x := ([], s, false)) E.out (RdN.nil _ _) ((Below.refl _ w).alloc (Nat.le_refl _) _)

theorem refStep (s e : Int) (w : World) : Calls Try.prog 13 #[.int .i64 s, .int .i64 e] w (Gives (refG s e) w) := by
  by_cases h : s < 0 ∨ 14 ≤ s
  · exact r15stepOut s e h w
  · rcases (show s = 0 ∨ s = 1 ∨ s = 2 ∨ s = 3 ∨ s = 4 ∨ s = 5 ∨ s = 6 ∨ s = 7 ∨ s = 8 ∨ s = 9 ∨ s = 10 ∨ s = 11 ∨ s = 12 ∨ s = 13 by omega) with rfl | rfl | rfl | rfl | rfl | rfl | rfl | rfl | rfl | rfl | rfl | rfl | rfl | rfl
    · exact r15step0 e w
    · exact r15step1 e w
    · exact r15step2 e w
    · exact r15step3 e w
    · exact r15step4 e w
    · exact r15step5 e w
    · exact r15step6 e w
    · exact r15step7 e w
    · exact r15step8 e w
    · exact r15step9 e w
    · exact r15step10 e w
    · exact r15step11 e w
    · exact r15step12 e w
    · exact r15step13 e w

end Go.Proofs.Ytnafppdnapdbcaa
