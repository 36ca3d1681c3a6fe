/-
  The reference's Hear, where it is no answer.
-/
import Derived.Test.YtkmeklbmjdbifaaOnr10
import Derived.Test.YtkmeklbmjdbifaaOnc6
namespace Go.Proofs.Ytkmeklbmjdbifaa
open Go.RowKit
set_option linter.unusedVariables false


section
variable {w : World} {F : Nat → Prop} {m : Nat} {c : Cf} {near there : Int} {s : Sk}

set_option maxHeartbeats 4000000 in
set_option maxRecDepth 100000 in
theorem rhearNo0 (h : RnA w F m c near there s) (dt fr : Int) (resp : Bool) (form kind ns nr : Int) (poll : Bool) (pa : Option Addr) (n k : Nat) (ha : s.asks = false) :
    Calls Try.prog 21 #[.pointer (some ⟨m, 0, none⟩), .agg #[.int .i64 dt, .int .i64 fr, .bool resp, .int .i64 form, .int .i64 kind, .int .i64 ns, .int .i64 nr, .bool poll, .slice pa n k]] w fun e w' => e = .returned (resV false 0 (.slice none 0 0)) ∧ Below w.heap.size w w' := by
  have h' := h
  obtain ⟨v, h, hF⟩ := h
  have ho := lt_of_block h.blk
  obtain ⟨W2, hW2⟩ : ∃ W2, W2 = (w.alloc (.cells #[.int .i64 dt, .int .i64 fr, .bool resp, .int .i64 form, .int .i64 kind, .int .i64 ns, .int .i64 nr, .bool poll, .slice pa n k] 33)).alloc (.cells res0 56) := ⟨_, rfl⟩
  have hal : Below w.heap.size w W2 := by rw [hW2]; exact ((Below.refl _ w).alloc (Nat.le_refl _) _).alloc (by simp) _
  obtain ⟨b0, hb0⟩ : ∃ b, b = w.heap.size := ⟨_, rfl⟩
  have hp := (hal.block m ho).trans h.blk
  have hp0 : W2.heap[b0]? = some (.cells #[.int .i64 dt, .int .i64 fr, .bool resp, .int .i64 form, .int .i64 kind, .int .i64 ns, .int .i64 nr, .bool poll, .slice pa n k] 33 (0, 0)) := by
    rw [hW2, hb0]
    exact (heap_alloc_lt _ _ (by simp)).trans (heap_alloc_new' w _)
  have hp1 : W2.heap[b0 + 1]? = some (.cells res0 56 (0, 0)) := by
    rw [hW2, hb0]
    have := heap_alloc_new' (w.alloc (.cells #[.int .i64 dt, .int .i64 fr, .bool resp, .int .i64 form, .int .i64 kind, .int .i64 ns, .int .i64 nr, .bool poll, .slice pa n k] 33)) (.cells res0 56)
    simpa using this
  have f9 : ∀ x : After W2, x.w'.cell? ⟨m, 9, none⟩ = some (.bool false) := fun x => by rw [← ha]; exact x.cell (blk_cell hp 9)
  have g0 : ∀ x : After W2, x.w'.cell? ⟨b0, 0, none⟩ = some (.int .i64 dt) := fun x => x.cell (blk_cell hp0 0)
  have g1 : ∀ x : After W2, x.w'.cell? ⟨b0, 1, none⟩ = some (.int .i64 fr) := fun x => x.cell (blk_cell hp0 1)
  have g2 : ∀ x : After W2, x.w'.cell? ⟨b0, 2, none⟩ = some (.bool resp) := fun x => x.cell (blk_cell hp0 2)
  have g3 : ∀ x : After W2, x.w'.cell? ⟨b0, 3, none⟩ = some (.int .i64 form) := fun x => x.cell (blk_cell hp0 3)
  have g4 : ∀ x : After W2, x.w'.cell? ⟨b0, 4, none⟩ = some (.int .i64 kind) := fun x => x.cell (blk_cell hp0 4)
  have g5 : ∀ x : After W2, x.w'.cell? ⟨b0, 5, none⟩ = some (.int .i64 ns) := fun x => x.cell (blk_cell hp0 5)
  have g6 : ∀ x : After W2, x.w'.cell? ⟨b0, 6, none⟩ = some (.int .i64 nr) := fun x => x.cell (blk_cell hp0 6)
  have g7 : ∀ x : After W2, x.w'.cell? ⟨b0, 7, none⟩ = some (.bool poll) := fun x => x.cell (blk_cell hp0 7)
  have g8 : ∀ x : After W2, x.w'.cell? ⟨b0, 8, none⟩ = some (.slice pa n k) := fun x => x.cell (blk_cell hp0 8)
  have HB := Lib.hid hal
  have P0 := Lib.hid hp0
  have P1 := Lib.hid hp1
  have Hb0 := Lib.hid hb0
  have hres : Try.f21.results = #[.cell 4 56] := by kernel_rfl
  have Hres := Lib.hid hres
  clear hres h' h hF hp hp0 hp1 hal ha
  go_enter Try.func21, Try.ntmps21
  go_upto_region 1 with fail
  rw [← hW2, ← hb0]
  clear hW2 hb0
  refine wp_region_after (by kernel_rfl) (by kernel_rfl) ?_
  repeat (go_big_quiet_step ((fail)))
  refine wpQuiet_nil ?_
  rintro w1 ⟨⟨_, hb⟩, rfl⟩
  have p1 := (hb.block (b0 + 1) (lt_of_block P1.out)).trans P1.out
  have u0 : w1.cell? ⟨b0 + 1, 0, none⟩ = some (.bool false) := blk_cell p1 0
  have u1 : w1.cell? ⟨b0 + 1, 1, none⟩ = some (.int .i64 0) := blk_cell p1 1
  have u2 : w1.cell? ⟨b0 + 1, 2, none⟩ = some (.slice none 0 0) := blk_cell p1 2
  have uz : ∀ i, w1.frozen? ⟨b0 + 1, i, none⟩ = false := fun i => blk_free p1 i
  have hlt : b0 + 1 < w1.heap.size := lt_of_block p1
  have Bel : Hid (Below w.heap.size w w1) := HB.out.trans (hb.mono HB.out.size)
  clear p1 hb g0 g1 g2 g3 g4 g5 g6 g7 g8 f9
  go_wp2_with fail
  refine bodyPost_ret (v := resV false 0 (.slice none 0 0)) ?_ rfl ?_
  · simp only [results, Hres.out]
    go_simp
  · exact ⟨rfl, below_set (below_set (below_set Bel.out (by have := Hb0.out; show w.heap.size ≤ b0 + 1; omega) _) (by have := Hb0.out; show w.heap.size ≤ b0 + 1; omega) _) (by have := Hb0.out; show w.heap.size ≤ b0 + 1; omega) _⟩

set_option maxHeartbeats 4000000 in
set_option maxRecDepth 100000 in
theorem rhearNo1 (h : RnA w F m c near there s) (dt fr : Int) (resp : Bool) (form kind ns nr : Int) (poll : Bool) (pa : Option Addr) (n k : Nat) (ha : s.asks = true) (Hm : Hid (∀ W : World, Calls Try.prog 24 #[.agg #[.int .i64 dt, .int .i64 fr, .bool resp, .int .i64 form, .int .i64 kind, .int .i64 ns, .int .i64 nr, .bool poll, .slice pa n k]] W fun e w' => e = .returned (.bool false) ∧ Below W.heap.size W w')) :
    Calls Try.prog 21 #[.pointer (some ⟨m, 0, none⟩), .agg #[.int .i64 dt, .int .i64 fr, .bool resp, .int .i64 form, .int .i64 kind, .int .i64 ns, .int .i64 nr, .bool poll, .slice pa n k]] w fun e w' => e = .returned (resV false 0 (.slice none 0 0)) ∧ Below w.heap.size w w' := by
  have h' := h
  obtain ⟨v, h, hF⟩ := h
  have ho := lt_of_block h.blk
  obtain ⟨W2, hW2⟩ : ∃ W2, W2 = (w.alloc (.cells #[.int .i64 dt, .int .i64 fr, .bool resp, .int .i64 form, .int .i64 kind, .int .i64 ns, .int .i64 nr, .bool poll, .slice pa n k] 33)).alloc (.cells res0 56) := ⟨_, rfl⟩
  have hal : Below w.heap.size w W2 := by rw [hW2]; exact ((Below.refl _ w).alloc (Nat.le_refl _) _).alloc (by simp) _
  obtain ⟨b0, hb0⟩ : ∃ b, b = w.heap.size := ⟨_, rfl⟩
  have hp := (hal.block m ho).trans h.blk
  have hp0 : W2.heap[b0]? = some (.cells #[.int .i64 dt, .int .i64 fr, .bool resp, .int .i64 form, .int .i64 kind, .int .i64 ns, .int .i64 nr, .bool poll, .slice pa n k] 33 (0, 0)) := by
    rw [hW2, hb0]
    exact (heap_alloc_lt _ _ (by simp)).trans (heap_alloc_new' w _)
  have hp1 : W2.heap[b0 + 1]? = some (.cells res0 56 (0, 0)) := by
    rw [hW2, hb0]
    have := heap_alloc_new' (w.alloc (.cells #[.int .i64 dt, .int .i64 fr, .bool resp, .int .i64 form, .int .i64 kind, .int .i64 ns, .int .i64 nr, .bool poll, .slice pa n k] 33)) (.cells res0 56)
    simpa using this
  have f9 : ∀ x : After W2, x.w'.cell? ⟨m, 9, none⟩ = some (.bool true) := fun x => by rw [← ha]; exact x.cell (blk_cell hp 9)
  have g0 : ∀ x : After W2, x.w'.cell? ⟨b0, 0, none⟩ = some (.int .i64 dt) := fun x => x.cell (blk_cell hp0 0)
  have g1 : ∀ x : After W2, x.w'.cell? ⟨b0, 1, none⟩ = some (.int .i64 fr) := fun x => x.cell (blk_cell hp0 1)
  have g2 : ∀ x : After W2, x.w'.cell? ⟨b0, 2, none⟩ = some (.bool resp) := fun x => x.cell (blk_cell hp0 2)
  have g3 : ∀ x : After W2, x.w'.cell? ⟨b0, 3, none⟩ = some (.int .i64 form) := fun x => x.cell (blk_cell hp0 3)
  have g4 : ∀ x : After W2, x.w'.cell? ⟨b0, 4, none⟩ = some (.int .i64 kind) := fun x => x.cell (blk_cell hp0 4)
  have g5 : ∀ x : After W2, x.w'.cell? ⟨b0, 5, none⟩ = some (.int .i64 ns) := fun x => x.cell (blk_cell hp0 5)
  have g6 : ∀ x : After W2, x.w'.cell? ⟨b0, 6, none⟩ = some (.int .i64 nr) := fun x => x.cell (blk_cell hp0 6)
  have g7 : ∀ x : After W2, x.w'.cell? ⟨b0, 7, none⟩ = some (.bool poll) := fun x => x.cell (blk_cell hp0 7)
  have g8 : ∀ x : After W2, x.w'.cell? ⟨b0, 8, none⟩ = some (.slice pa n k) := fun x => x.cell (blk_cell hp0 8)
  have HB := Lib.hid hal
  have P0 := Lib.hid hp0
  have P1 := Lib.hid hp1
  have Hb0 := Lib.hid hb0
  have hres : Try.f21.results = #[.cell 4 56] := by kernel_rfl
  have Hres := Lib.hid hres
  clear hres h' h hF hp hp0 hp1 hal ha
  go_enter Try.func21, Try.ntmps21
  go_upto_region 1 with fail
  rw [← hW2, ← hb0]
  clear hW2 hb0
  refine wp_region_after (by kernel_rfl) (by kernel_rfl) ?_
  repeat (go_big_quiet_step ((go_at_call 24; exact Calls.after_of (Hm.out _))))
  refine wpQuiet_nil ?_
  rintro w1 ⟨⟨_, hb⟩, rfl⟩
  have p1 := (hb.block (b0 + 1) (lt_of_block P1.out)).trans P1.out
  have u0 : w1.cell? ⟨b0 + 1, 0, none⟩ = some (.bool false) := blk_cell p1 0
  have u1 : w1.cell? ⟨b0 + 1, 1, none⟩ = some (.int .i64 0) := blk_cell p1 1
  have u2 : w1.cell? ⟨b0 + 1, 2, none⟩ = some (.slice none 0 0) := blk_cell p1 2
  have uz : ∀ i, w1.frozen? ⟨b0 + 1, i, none⟩ = false := fun i => blk_free p1 i
  have hlt : b0 + 1 < w1.heap.size := lt_of_block p1
  have Bel : Hid (Below w.heap.size w w1) := HB.out.trans (hb.mono HB.out.size)
  clear p1 hb g0 g1 g2 g3 g4 g5 g6 g7 g8 f9
  go_wp2_with fail
  refine bodyPost_ret (v := resV false 0 (.slice none 0 0)) ?_ rfl ?_
  · simp only [results, Hres.out]
    go_simp
  · exact ⟨rfl, below_set (below_set (below_set Bel.out (by have := Hb0.out; show w.heap.size ≤ b0 + 1; omega) _) (by have := Hb0.out; show w.heap.size ≤ b0 + 1; omega) _) (by have := Hb0.out; show w.heap.size ≤ b0 + 1; omega) _⟩

set_option maxHeartbeats 4000000 in
set_option maxRecDepth 100000 in
theorem rhearNo2 (h : RnA w F m c near there s) (dt fr : Int) (resp : Bool) (form kind ns nr : Int) (poll : Bool) (pa : Option Addr) (n k : Nat) (ha : s.asks = true) (Hm : Hid (∀ W : World, Calls Try.prog 24 #[.agg #[.int .i64 dt, .int .i64 fr, .bool resp, .int .i64 form, .int .i64 kind, .int .i64 ns, .int .i64 nr, .bool poll, .slice pa n k]] W fun e w' => e = .returned (.bool true) ∧ Below W.heap.size W w')) (d0 : (dt != near) = true) :
    Calls Try.prog 21 #[.pointer (some ⟨m, 0, none⟩), .agg #[.int .i64 dt, .int .i64 fr, .bool resp, .int .i64 form, .int .i64 kind, .int .i64 ns, .int .i64 nr, .bool poll, .slice pa n k]] w fun e w' => e = .returned (resV false 0 (.slice none 0 0)) ∧ Below w.heap.size w w' := by
  have h' := h
  obtain ⟨v, h, hF⟩ := h
  have ho := lt_of_block h.blk
  obtain ⟨W2, hW2⟩ : ∃ W2, W2 = (w.alloc (.cells #[.int .i64 dt, .int .i64 fr, .bool resp, .int .i64 form, .int .i64 kind, .int .i64 ns, .int .i64 nr, .bool poll, .slice pa n k] 33)).alloc (.cells res0 56) := ⟨_, rfl⟩
  have hal : Below w.heap.size w W2 := by rw [hW2]; exact ((Below.refl _ w).alloc (Nat.le_refl _) _).alloc (by simp) _
  obtain ⟨b0, hb0⟩ : ∃ b, b = w.heap.size := ⟨_, rfl⟩
  have hp := (hal.block m ho).trans h.blk
  have hp0 : W2.heap[b0]? = some (.cells #[.int .i64 dt, .int .i64 fr, .bool resp, .int .i64 form, .int .i64 kind, .int .i64 ns, .int .i64 nr, .bool poll, .slice pa n k] 33 (0, 0)) := by
    rw [hW2, hb0]
    exact (heap_alloc_lt _ _ (by simp)).trans (heap_alloc_new' w _)
  have hp1 : W2.heap[b0 + 1]? = some (.cells res0 56 (0, 0)) := by
    rw [hW2, hb0]
    have := heap_alloc_new' (w.alloc (.cells #[.int .i64 dt, .int .i64 fr, .bool resp, .int .i64 form, .int .i64 kind, .int .i64 ns, .int .i64 nr, .bool poll, .slice pa n k] 33)) (.cells res0 56)
    simpa using this
  have f9 : ∀ x : After W2, x.w'.cell? ⟨m, 9, none⟩ = some (.bool true) := fun x => by rw [← ha]; exact x.cell (blk_cell hp 9)
  have f3 : ∀ x : After W2, x.w'.cell? ⟨m, 3, none⟩ = some (.int .i64 near) := fun x => x.cell (blk_cell hp 3)
  have g0 : ∀ x : After W2, x.w'.cell? ⟨b0, 0, none⟩ = some (.int .i64 dt) := fun x => x.cell (blk_cell hp0 0)
  have g1 : ∀ x : After W2, x.w'.cell? ⟨b0, 1, none⟩ = some (.int .i64 fr) := fun x => x.cell (blk_cell hp0 1)
  have g2 : ∀ x : After W2, x.w'.cell? ⟨b0, 2, none⟩ = some (.bool resp) := fun x => x.cell (blk_cell hp0 2)
  have g3 : ∀ x : After W2, x.w'.cell? ⟨b0, 3, none⟩ = some (.int .i64 form) := fun x => x.cell (blk_cell hp0 3)
  have g4 : ∀ x : After W2, x.w'.cell? ⟨b0, 4, none⟩ = some (.int .i64 kind) := fun x => x.cell (blk_cell hp0 4)
  have g5 : ∀ x : After W2, x.w'.cell? ⟨b0, 5, none⟩ = some (.int .i64 ns) := fun x => x.cell (blk_cell hp0 5)
  have g6 : ∀ x : After W2, x.w'.cell? ⟨b0, 6, none⟩ = some (.int .i64 nr) := fun x => x.cell (blk_cell hp0 6)
  have g7 : ∀ x : After W2, x.w'.cell? ⟨b0, 7, none⟩ = some (.bool poll) := fun x => x.cell (blk_cell hp0 7)
  have g8 : ∀ x : After W2, x.w'.cell? ⟨b0, 8, none⟩ = some (.slice pa n k) := fun x => x.cell (blk_cell hp0 8)
  have HB := Lib.hid hal
  have P0 := Lib.hid hp0
  have P1 := Lib.hid hp1
  have Hb0 := Lib.hid hb0
  have hres : Try.f21.results = #[.cell 4 56] := by kernel_rfl
  have Hres := Lib.hid hres
  clear hres h' h hF hp hp0 hp1 hal ha
  go_enter Try.func21, Try.ntmps21
  go_upto_region 1 with fail
  rw [← hW2, ← hb0]
  clear hW2 hb0
  refine wp_region_after (by kernel_rfl) (by kernel_rfl) ?_
  repeat (go_big_quiet_step ((go_at_call 24; exact Calls.after_of (Hm.out _))))
  refine wpQuiet_nil ?_
  rintro w1 ⟨⟨_, hb⟩, rfl⟩
  have p1 := (hb.block (b0 + 1) (lt_of_block P1.out)).trans P1.out
  have u0 : w1.cell? ⟨b0 + 1, 0, none⟩ = some (.bool false) := blk_cell p1 0
  have u1 : w1.cell? ⟨b0 + 1, 1, none⟩ = some (.int .i64 0) := blk_cell p1 1
  have u2 : w1.cell? ⟨b0 + 1, 2, none⟩ = some (.slice none 0 0) := blk_cell p1 2
  have uz : ∀ i, w1.frozen? ⟨b0 + 1, i, none⟩ = false := fun i => blk_free p1 i
  have hlt : b0 + 1 < w1.heap.size := lt_of_block p1
  have Bel : Hid (Below w.heap.size w w1) := HB.out.trans (hb.mono HB.out.size)
  clear p1 hb g0 g1 g2 g3 g4 g5 g6 g7 g8 f3 f9
  go_wp2_with fail
  refine bodyPost_ret (v := resV false 0 (.slice none 0 0)) ?_ rfl ?_
  · simp only [results, Hres.out]
    go_simp
  · exact ⟨rfl, below_set (below_set (below_set Bel.out (by have := Hb0.out; show w.heap.size ≤ b0 + 1; omega) _) (by have := Hb0.out; show w.heap.size ≤ b0 + 1; omega) _) (by have := Hb0.out; show w.heap.size ≤ b0 + 1; omega) _⟩

set_option maxHeartbeats 4000000 in
set_option maxRecDepth 100000 in
theorem rhearNo3 (h : RnA w F m c near there s) (dt fr : Int) (resp : Bool) (form kind ns nr : Int) (poll : Bool) (pa : Option Addr) (n k : Nat) (ha : s.asks = true) (Hm : Hid (∀ W : World, Calls Try.prog 24 #[.agg #[.int .i64 dt, .int .i64 fr, .bool resp, .int .i64 form, .int .i64 kind, .int .i64 ns, .int .i64 nr, .bool poll, .slice pa n k]] W fun e w' => e = .returned (.bool true) ∧ Below W.heap.size W w')) (d0 : (dt != near) = false) (d1 : (fr != there) = true) :
    Calls Try.prog 21 #[.pointer (some ⟨m, 0, none⟩), .agg #[.int .i64 dt, .int .i64 fr, .bool resp, .int .i64 form, .int .i64 kind, .int .i64 ns, .int .i64 nr, .bool poll, .slice pa n k]] w fun e w' => e = .returned (resV false 0 (.slice none 0 0)) ∧ Below w.heap.size w w' := by
  have h' := h
  obtain ⟨v, h, hF⟩ := h
  have ho := lt_of_block h.blk
  obtain ⟨W2, hW2⟩ : ∃ W2, W2 = (w.alloc (.cells #[.int .i64 dt, .int .i64 fr, .bool resp, .int .i64 form, .int .i64 kind, .int .i64 ns, .int .i64 nr, .bool poll, .slice pa n k] 33)).alloc (.cells res0 56) := ⟨_, rfl⟩
  have hal : Below w.heap.size w W2 := by rw [hW2]; exact ((Below.refl _ w).alloc (Nat.le_refl _) _).alloc (by simp) _
  obtain ⟨b0, hb0⟩ : ∃ b, b = w.heap.size := ⟨_, rfl⟩
  have hp := (hal.block m ho).trans h.blk
  have hp0 : W2.heap[b0]? = some (.cells #[.int .i64 dt, .int .i64 fr, .bool resp, .int .i64 form, .int .i64 kind, .int .i64 ns, .int .i64 nr, .bool poll, .slice pa n k] 33 (0, 0)) := by
    rw [hW2, hb0]
    exact (heap_alloc_lt _ _ (by simp)).trans (heap_alloc_new' w _)
  have hp1 : W2.heap[b0 + 1]? = some (.cells res0 56 (0, 0)) := by
    rw [hW2, hb0]
    have := heap_alloc_new' (w.alloc (.cells #[.int .i64 dt, .int .i64 fr, .bool resp, .int .i64 form, .int .i64 kind, .int .i64 ns, .int .i64 nr, .bool poll, .slice pa n k] 33)) (.cells res0 56)
    simpa using this
  have f9 : ∀ x : After W2, x.w'.cell? ⟨m, 9, none⟩ = some (.bool true) := fun x => by rw [← ha]; exact x.cell (blk_cell hp 9)
  have f3 : ∀ x : After W2, x.w'.cell? ⟨m, 3, none⟩ = some (.int .i64 near) := fun x => x.cell (blk_cell hp 3)
  have f4 : ∀ x : After W2, x.w'.cell? ⟨m, 4, none⟩ = some (.int .i64 there) := fun x => x.cell (blk_cell hp 4)
  have g0 : ∀ x : After W2, x.w'.cell? ⟨b0, 0, none⟩ = some (.int .i64 dt) := fun x => x.cell (blk_cell hp0 0)
  have g1 : ∀ x : After W2, x.w'.cell? ⟨b0, 1, none⟩ = some (.int .i64 fr) := fun x => x.cell (blk_cell hp0 1)
  have g2 : ∀ x : After W2, x.w'.cell? ⟨b0, 2, none⟩ = some (.bool resp) := fun x => x.cell (blk_cell hp0 2)
  have g3 : ∀ x : After W2, x.w'.cell? ⟨b0, 3, none⟩ = some (.int .i64 form) := fun x => x.cell (blk_cell hp0 3)
  have g4 : ∀ x : After W2, x.w'.cell? ⟨b0, 4, none⟩ = some (.int .i64 kind) := fun x => x.cell (blk_cell hp0 4)
  have g5 : ∀ x : After W2, x.w'.cell? ⟨b0, 5, none⟩ = some (.int .i64 ns) := fun x => x.cell (blk_cell hp0 5)
  have g6 : ∀ x : After W2, x.w'.cell? ⟨b0, 6, none⟩ = some (.int .i64 nr) := fun x => x.cell (blk_cell hp0 6)
  have g7 : ∀ x : After W2, x.w'.cell? ⟨b0, 7, none⟩ = some (.bool poll) := fun x => x.cell (blk_cell hp0 7)
  have g8 : ∀ x : After W2, x.w'.cell? ⟨b0, 8, none⟩ = some (.slice pa n k) := fun x => x.cell (blk_cell hp0 8)
  have HB := Lib.hid hal
  have P0 := Lib.hid hp0
  have P1 := Lib.hid hp1
  have Hb0 := Lib.hid hb0
  have hres : Try.f21.results = #[.cell 4 56] := by kernel_rfl
  have Hres := Lib.hid hres
  clear hres h' h hF hp hp0 hp1 hal ha
  go_enter Try.func21, Try.ntmps21
  go_upto_region 1 with fail
  rw [← hW2, ← hb0]
  clear hW2 hb0
  refine wp_region_after (by kernel_rfl) (by kernel_rfl) ?_
  repeat (go_big_quiet_step ((go_at_call 24; exact Calls.after_of (Hm.out _))))
  refine wpQuiet_nil ?_
  rintro w1 ⟨⟨_, hb⟩, rfl⟩
  have p1 := (hb.block (b0 + 1) (lt_of_block P1.out)).trans P1.out
  have u0 : w1.cell? ⟨b0 + 1, 0, none⟩ = some (.bool false) := blk_cell p1 0
  have u1 : w1.cell? ⟨b0 + 1, 1, none⟩ = some (.int .i64 0) := blk_cell p1 1
  have u2 : w1.cell? ⟨b0 + 1, 2, none⟩ = some (.slice none 0 0) := blk_cell p1 2
  have uz : ∀ i, w1.frozen? ⟨b0 + 1, i, none⟩ = false := fun i => blk_free p1 i
  have hlt : b0 + 1 < w1.heap.size := lt_of_block p1
  have Bel : Hid (Below w.heap.size w w1) := HB.out.trans (hb.mono HB.out.size)
  clear p1 hb g0 g1 g2 g3 g4 g5 g6 g7 g8 f3 f4 f9
  go_wp2_with fail
  refine bodyPost_ret (v := resV false 0 (.slice none 0 0)) ?_ rfl ?_
  · simp only [results, Hres.out]
    go_simp
  · exact ⟨rfl, below_set (below_set (below_set Bel.out (by have := Hb0.out; show w.heap.size ≤ b0 + 1; omega) _) (by have := Hb0.out; show w.heap.size ≤ b0 + 1; omega) _) (by have := Hb0.out; show w.heap.size ≤ b0 + 1; omega) _⟩

set_option maxHeartbeats 4000000 in
set_option maxRecDepth 100000 in
theorem rhearNo4 (h : RnA w F m c near there s) (dt fr : Int) (form kind ns nr : Int) (poll : Bool) (pa : Option Addr) (n k : Nat) (ha : s.asks = true) (Hm : Hid (∀ W : World, Calls Try.prog 24 #[.agg #[.int .i64 dt, .int .i64 fr, .bool false, .int .i64 form, .int .i64 kind, .int .i64 ns, .int .i64 nr, .bool poll, .slice pa n k]] W fun e w' => e = .returned (.bool true) ∧ Below W.heap.size W w')) (d0 : (dt != near) = false) (d1 : (fr != there) = false) :
    Calls Try.prog 21 #[.pointer (some ⟨m, 0, none⟩), .agg #[.int .i64 dt, .int .i64 fr, .bool false, .int .i64 form, .int .i64 kind, .int .i64 ns, .int .i64 nr, .bool poll, .slice pa n k]] w fun e w' => e = .returned (resV false 0 (.slice none 0 0)) ∧ Below w.heap.size w w' := by
  have h' := h
  obtain ⟨v, h, hF⟩ := h
  have ho := lt_of_block h.blk
  obtain ⟨W2, hW2⟩ : ∃ W2, W2 = (w.alloc (.cells #[.int .i64 dt, .int .i64 fr, .bool false, .int .i64 form, .int .i64 kind, .int .i64 ns, .int .i64 nr, .bool poll, .slice pa n k] 33)).alloc (.cells res0 56) := ⟨_, rfl⟩
  have hal : Below w.heap.size w W2 := by rw [hW2]; exact ((Below.refl _ w).alloc (Nat.le_refl _) _).alloc (by simp) _
  obtain ⟨b0, hb0⟩ : ∃ b, b = w.heap.size := ⟨_, rfl⟩
  have hp := (hal.block m ho).trans h.blk
  have hp0 : W2.heap[b0]? = some (.cells #[.int .i64 dt, .int .i64 fr, .bool false, .int .i64 form, .int .i64 kind, .int .i64 ns, .int .i64 nr, .bool poll, .slice pa n k] 33 (0, 0)) := by
    rw [hW2, hb0]
    exact (heap_alloc_lt _ _ (by simp)).trans (heap_alloc_new' w _)
  have hp1 : W2.heap[b0 + 1]? = some (.cells res0 56 (0, 0)) := by
    rw [hW2, hb0]
    have := heap_alloc_new' (w.alloc (.cells #[.int .i64 dt, .int .i64 fr, .bool false, .int .i64 form, .int .i64 kind, .int .i64 ns, .int .i64 nr, .bool poll, .slice pa n k] 33)) (.cells res0 56)
    simpa using this
  have f9 : ∀ x : After W2, x.w'.cell? ⟨m, 9, none⟩ = some (.bool true) := fun x => by rw [← ha]; exact x.cell (blk_cell hp 9)
  have f3 : ∀ x : After W2, x.w'.cell? ⟨m, 3, none⟩ = some (.int .i64 near) := fun x => x.cell (blk_cell hp 3)
  have f4 : ∀ x : After W2, x.w'.cell? ⟨m, 4, none⟩ = some (.int .i64 there) := fun x => x.cell (blk_cell hp 4)
  have g0 : ∀ x : After W2, x.w'.cell? ⟨b0, 0, none⟩ = some (.int .i64 dt) := fun x => x.cell (blk_cell hp0 0)
  have g1 : ∀ x : After W2, x.w'.cell? ⟨b0, 1, none⟩ = some (.int .i64 fr) := fun x => x.cell (blk_cell hp0 1)
  have g2 : ∀ x : After W2, x.w'.cell? ⟨b0, 2, none⟩ = some (.bool false) := fun x => x.cell (blk_cell hp0 2)
  have g3 : ∀ x : After W2, x.w'.cell? ⟨b0, 3, none⟩ = some (.int .i64 form) := fun x => x.cell (blk_cell hp0 3)
  have g4 : ∀ x : After W2, x.w'.cell? ⟨b0, 4, none⟩ = some (.int .i64 kind) := fun x => x.cell (blk_cell hp0 4)
  have g5 : ∀ x : After W2, x.w'.cell? ⟨b0, 5, none⟩ = some (.int .i64 ns) := fun x => x.cell (blk_cell hp0 5)
  have g6 : ∀ x : After W2, x.w'.cell? ⟨b0, 6, none⟩ = some (.int .i64 nr) := fun x => x.cell (blk_cell hp0 6)
  have g7 : ∀ x : After W2, x.w'.cell? ⟨b0, 7, none⟩ = some (.bool poll) := fun x => x.cell (blk_cell hp0 7)
  have g8 : ∀ x : After W2, x.w'.cell? ⟨b0, 8, none⟩ = some (.slice pa n k) := fun x => x.cell (blk_cell hp0 8)
  have HB := Lib.hid hal
  have P0 := Lib.hid hp0
  have P1 := Lib.hid hp1
  have Hb0 := Lib.hid hb0
  have hres : Try.f21.results = #[.cell 4 56] := by kernel_rfl
  have Hres := Lib.hid hres
  clear hres h' h hF hp hp0 hp1 hal ha
  go_enter Try.func21, Try.ntmps21
  go_upto_region 1 with fail
  rw [← hW2, ← hb0]
  clear hW2 hb0
  refine wp_region_after (by kernel_rfl) (by kernel_rfl) ?_
  repeat (go_big_quiet_step ((go_at_call 24; exact Calls.after_of (Hm.out _))))
  refine wpQuiet_nil ?_
  rintro w1 ⟨⟨_, hb⟩, rfl⟩
  have p1 := (hb.block (b0 + 1) (lt_of_block P1.out)).trans P1.out
  have u0 : w1.cell? ⟨b0 + 1, 0, none⟩ = some (.bool false) := blk_cell p1 0
  have u1 : w1.cell? ⟨b0 + 1, 1, none⟩ = some (.int .i64 0) := blk_cell p1 1
  have u2 : w1.cell? ⟨b0 + 1, 2, none⟩ = some (.slice none 0 0) := blk_cell p1 2
  have uz : ∀ i, w1.frozen? ⟨b0 + 1, i, none⟩ = false := fun i => blk_free p1 i
  have hlt : b0 + 1 < w1.heap.size := lt_of_block p1
  have Bel : Hid (Below w.heap.size w w1) := HB.out.trans (hb.mono HB.out.size)
  clear p1 hb g0 g1 g2 g3 g4 g5 g6 g7 g8 f3 f4 f9
  go_wp2_with fail
  refine bodyPost_ret (v := resV false 0 (.slice none 0 0)) ?_ rfl ?_
  · simp only [results, Hres.out]
    go_simp
  · exact ⟨rfl, below_set (below_set (below_set Bel.out (by have := Hb0.out; show w.heap.size ≤ b0 + 1; omega) _) (by have := Hb0.out; show w.heap.size ≤ b0 + 1; omega) _) (by have := Hb0.out; show w.heap.size ≤ b0 + 1; omega) _⟩

set_option maxHeartbeats 4000000 in
set_option maxRecDepth 100000 in
theorem rhearNo5 (h : RnA w F m c near there s) (dt fr : Int) (form kind ns nr : Int) (poll : Bool) (pa : Option Addr) (n k : Nat) (ha : s.asks = true) (Hm : Hid (∀ W : World, Calls Try.prog 24 #[.agg #[.int .i64 dt, .int .i64 fr, .bool true, .int .i64 form, .int .i64 kind, .int .i64 ns, .int .i64 nr, .bool poll, .slice pa n k]] W fun e w' => e = .returned (.bool true) ∧ Below W.heap.size W w')) (d0 : (dt != near) = false) (d1 : (fr != there) = false) (d2 : (form != 2) = true) :
    Calls Try.prog 21 #[.pointer (some ⟨m, 0, none⟩), .agg #[.int .i64 dt, .int .i64 fr, .bool true, .int .i64 form, .int .i64 kind, .int .i64 ns, .int .i64 nr, .bool poll, .slice pa n k]] w fun e w' => e = .returned (resV false 0 (.slice none 0 0)) ∧ Below w.heap.size w w' := by
  have h' := h
  obtain ⟨v, h, hF⟩ := h
  have ho := lt_of_block h.blk
  obtain ⟨W2, hW2⟩ : ∃ W2, W2 = (w.alloc (.cells #[.int .i64 dt, .int .i64 fr, .bool true, .int .i64 form, .int .i64 kind, .int .i64 ns, .int .i64 nr, .bool poll, .slice pa n k] 33)).alloc (.cells res0 56) := ⟨_, rfl⟩
  have hal : Below w.heap.size w W2 := by rw [hW2]; exact ((Below.refl _ w).alloc (Nat.le_refl _) _).alloc (by simp) _
  obtain ⟨b0, hb0⟩ : ∃ b, b = w.heap.size := ⟨_, rfl⟩
  have hp := (hal.block m ho).trans h.blk
  have hp0 : W2.heap[b0]? = some (.cells #[.int .i64 dt, .int .i64 fr, .bool true, .int .i64 form, .int .i64 kind, .int .i64 ns, .int .i64 nr, .bool poll, .slice pa n k] 33 (0, 0)) := by
    rw [hW2, hb0]
    exact (heap_alloc_lt _ _ (by simp)).trans (heap_alloc_new' w _)
  have hp1 : W2.heap[b0 + 1]? = some (.cells res0 56 (0, 0)) := by
    rw [hW2, hb0]
    have := heap_alloc_new' (w.alloc (.cells #[.int .i64 dt, .int .i64 fr, .bool true, .int .i64 form, .int .i64 kind, .int .i64 ns, .int .i64 nr, .bool poll, .slice pa n k] 33)) (.cells res0 56)
    simpa using this
  have f9 : ∀ x : After W2, x.w'.cell? ⟨m, 9, none⟩ = some (.bool true) := fun x => by rw [← ha]; exact x.cell (blk_cell hp 9)
  have f3 : ∀ x : After W2, x.w'.cell? ⟨m, 3, none⟩ = some (.int .i64 near) := fun x => x.cell (blk_cell hp 3)
  have f4 : ∀ x : After W2, x.w'.cell? ⟨m, 4, none⟩ = some (.int .i64 there) := fun x => x.cell (blk_cell hp 4)
  have g0 : ∀ x : After W2, x.w'.cell? ⟨b0, 0, none⟩ = some (.int .i64 dt) := fun x => x.cell (blk_cell hp0 0)
  have g1 : ∀ x : After W2, x.w'.cell? ⟨b0, 1, none⟩ = some (.int .i64 fr) := fun x => x.cell (blk_cell hp0 1)
  have g2 : ∀ x : After W2, x.w'.cell? ⟨b0, 2, none⟩ = some (.bool true) := fun x => x.cell (blk_cell hp0 2)
  have g3 : ∀ x : After W2, x.w'.cell? ⟨b0, 3, none⟩ = some (.int .i64 form) := fun x => x.cell (blk_cell hp0 3)
  have g4 : ∀ x : After W2, x.w'.cell? ⟨b0, 4, none⟩ = some (.int .i64 kind) := fun x => x.cell (blk_cell hp0 4)
  have g5 : ∀ x : After W2, x.w'.cell? ⟨b0, 5, none⟩ = some (.int .i64 ns) := fun x => x.cell (blk_cell hp0 5)
  have g6 : ∀ x : After W2, x.w'.cell? ⟨b0, 6, none⟩ = some (.int .i64 nr) := fun x => x.cell (blk_cell hp0 6)
  have g7 : ∀ x : After W2, x.w'.cell? ⟨b0, 7, none⟩ = some (.bool poll) := fun x => x.cell (blk_cell hp0 7)
  have g8 : ∀ x : After W2, x.w'.cell? ⟨b0, 8, none⟩ = some (.slice pa n k) := fun x => x.cell (blk_cell hp0 8)
  have HB := Lib.hid hal
  have P0 := Lib.hid hp0
  have P1 := Lib.hid hp1
  have Hb0 := Lib.hid hb0
  have hres : Try.f21.results = #[.cell 4 56] := by kernel_rfl
  have Hres := Lib.hid hres
  clear hres h' h hF hp hp0 hp1 hal ha
  go_enter Try.func21, Try.ntmps21
  go_upto_region 1 with fail
  rw [← hW2, ← hb0]
  clear hW2 hb0
  refine wp_region_after (by kernel_rfl) (by kernel_rfl) ?_
  repeat (go_big_quiet_step ((go_at_call 24; exact Calls.after_of (Hm.out _))))
  refine wpQuiet_nil ?_
  rintro w1 ⟨⟨_, hb⟩, rfl⟩
  have p1 := (hb.block (b0 + 1) (lt_of_block P1.out)).trans P1.out
  have u0 : w1.cell? ⟨b0 + 1, 0, none⟩ = some (.bool false) := blk_cell p1 0
  have u1 : w1.cell? ⟨b0 + 1, 1, none⟩ = some (.int .i64 0) := blk_cell p1 1
  have u2 : w1.cell? ⟨b0 + 1, 2, none⟩ = some (.slice none 0 0) := blk_cell p1 2
  have uz : ∀ i, w1.frozen? ⟨b0 + 1, i, none⟩ = false := fun i => blk_free p1 i
  have hlt : b0 + 1 < w1.heap.size := lt_of_block p1
  have Bel : Hid (Below w.heap.size w w1) := HB.out.trans (hb.mono HB.out.size)
  clear p1 hb g0 g1 g2 g3 g4 g5 g6 g7 g8 f3 f4 f9
  go_wp2_with fail
  refine bodyPost_ret (v := resV false 0 (.slice none 0 0)) ?_ rfl ?_
  · simp only [results, Hres.out]
    go_simp
  · exact ⟨rfl, below_set (below_set (below_set Bel.out (by have := Hb0.out; show w.heap.size ≤ b0 + 1; omega) _) (by have := Hb0.out; show w.heap.size ≤ b0 + 1; omega) _) (by have := Hb0.out; show w.heap.size ≤ b0 + 1; omega) _⟩

set_option maxHeartbeats 4000000 in
set_option maxRecDepth 100000 in
theorem rhearNo6 (h : RnA w F m c near there s) (dt fr : Int) (form kind ns nr : Int) (poll : Bool) (pa : Option Addr) (n k : Nat) (ha : s.asks = true) (Hm : Hid (∀ W : World, Calls Try.prog 24 #[.agg #[.int .i64 dt, .int .i64 fr, .bool true, .int .i64 form, .int .i64 kind, .int .i64 ns, .int .i64 nr, .bool poll, .slice pa n k]] W fun e w' => e = .returned (.bool true) ∧ Below W.heap.size W w')) (d0 : (dt != near) = false) (d1 : (fr != there) = false) (d2 : (form != 2) = false) (d3 : (kind != 8 + s.bit) = true) :
    Calls Try.prog 21 #[.pointer (some ⟨m, 0, none⟩), .agg #[.int .i64 dt, .int .i64 fr, .bool true, .int .i64 form, .int .i64 kind, .int .i64 ns, .int .i64 nr, .bool poll, .slice pa n k]] w fun e w' => e = .returned (resV false 0 (.slice none 0 0)) ∧ Below w.heap.size w w' := by
  have h' := h
  obtain ⟨v, h, hF⟩ := h
  have ho := lt_of_block h.blk
  obtain ⟨W2, hW2⟩ : ∃ W2, W2 = (w.alloc (.cells #[.int .i64 dt, .int .i64 fr, .bool true, .int .i64 form, .int .i64 kind, .int .i64 ns, .int .i64 nr, .bool poll, .slice pa n k] 33)).alloc (.cells res0 56) := ⟨_, rfl⟩
  have hal : Below w.heap.size w W2 := by rw [hW2]; exact ((Below.refl _ w).alloc (Nat.le_refl _) _).alloc (by simp) _
  obtain ⟨b0, hb0⟩ : ∃ b, b = w.heap.size := ⟨_, rfl⟩
  have hp := (hal.block m ho).trans h.blk
  have hp0 : W2.heap[b0]? = some (.cells #[.int .i64 dt, .int .i64 fr, .bool true, .int .i64 form, .int .i64 kind, .int .i64 ns, .int .i64 nr, .bool poll, .slice pa n k] 33 (0, 0)) := by
    rw [hW2, hb0]
    exact (heap_alloc_lt _ _ (by simp)).trans (heap_alloc_new' w _)
  have hp1 : W2.heap[b0 + 1]? = some (.cells res0 56 (0, 0)) := by
    rw [hW2, hb0]
    have := heap_alloc_new' (w.alloc (.cells #[.int .i64 dt, .int .i64 fr, .bool true, .int .i64 form, .int .i64 kind, .int .i64 ns, .int .i64 nr, .bool poll, .slice pa n k] 33)) (.cells res0 56)
    simpa using this
  have f9 : ∀ x : After W2, x.w'.cell? ⟨m, 9, none⟩ = some (.bool true) := fun x => by rw [← ha]; exact x.cell (blk_cell hp 9)
  have f3 : ∀ x : After W2, x.w'.cell? ⟨m, 3, none⟩ = some (.int .i64 near) := fun x => x.cell (blk_cell hp 3)
  have f4 : ∀ x : After W2, x.w'.cell? ⟨m, 4, none⟩ = some (.int .i64 there) := fun x => x.cell (blk_cell hp 4)
  have f5 : ∀ x : After W2, x.w'.cell? ⟨m, 5, none⟩ = some (.int .i64 s.bit) := fun x => x.cell (blk_cell hp 5)
  have g0 : ∀ x : After W2, x.w'.cell? ⟨b0, 0, none⟩ = some (.int .i64 dt) := fun x => x.cell (blk_cell hp0 0)
  have g1 : ∀ x : After W2, x.w'.cell? ⟨b0, 1, none⟩ = some (.int .i64 fr) := fun x => x.cell (blk_cell hp0 1)
  have g2 : ∀ x : After W2, x.w'.cell? ⟨b0, 2, none⟩ = some (.bool true) := fun x => x.cell (blk_cell hp0 2)
  have g3 : ∀ x : After W2, x.w'.cell? ⟨b0, 3, none⟩ = some (.int .i64 form) := fun x => x.cell (blk_cell hp0 3)
  have g4 : ∀ x : After W2, x.w'.cell? ⟨b0, 4, none⟩ = some (.int .i64 kind) := fun x => x.cell (blk_cell hp0 4)
  have g5 : ∀ x : After W2, x.w'.cell? ⟨b0, 5, none⟩ = some (.int .i64 ns) := fun x => x.cell (blk_cell hp0 5)
  have g6 : ∀ x : After W2, x.w'.cell? ⟨b0, 6, none⟩ = some (.int .i64 nr) := fun x => x.cell (blk_cell hp0 6)
  have g7 : ∀ x : After W2, x.w'.cell? ⟨b0, 7, none⟩ = some (.bool poll) := fun x => x.cell (blk_cell hp0 7)
  have g8 : ∀ x : After W2, x.w'.cell? ⟨b0, 8, none⟩ = some (.slice pa n k) := fun x => x.cell (blk_cell hp0 8)
  have HB := Lib.hid hal
  have P0 := Lib.hid hp0
  have P1 := Lib.hid hp1
  have Hb0 := Lib.hid hb0
  have hres : Try.f21.results = #[.cell 4 56] := by kernel_rfl
  have Hres := Lib.hid hres
  have hwb : IntKind.i64.wrap (8 + s.bit) = 8 + s.bit := IntWalk.i64_in _ (by have := h.s.1; omega)
  clear hres h' h hF hp hp0 hp1 hal ha
  go_enter Try.func21, Try.ntmps21
  go_upto_region 1 with fail
  rw [← hW2, ← hb0]
  clear hW2 hb0
  refine wp_region_after (by kernel_rfl) (by kernel_rfl) ?_
  repeat (go_big_quiet_step ((go_at_call 24; exact Calls.after_of (Hm.out _))))
  refine wpQuiet_nil ?_
  rintro w1 ⟨⟨_, hb⟩, rfl⟩
  have p1 := (hb.block (b0 + 1) (lt_of_block P1.out)).trans P1.out
  have u0 : w1.cell? ⟨b0 + 1, 0, none⟩ = some (.bool false) := blk_cell p1 0
  have u1 : w1.cell? ⟨b0 + 1, 1, none⟩ = some (.int .i64 0) := blk_cell p1 1
  have u2 : w1.cell? ⟨b0 + 1, 2, none⟩ = some (.slice none 0 0) := blk_cell p1 2
  have uz : ∀ i, w1.frozen? ⟨b0 + 1, i, none⟩ = false := fun i => blk_free p1 i
  have hlt : b0 + 1 < w1.heap.size := lt_of_block p1
  have Bel : Hid (Below w.heap.size w w1) := HB.out.trans (hb.mono HB.out.size)
  clear p1 hb g0 g1 g2 g3 g4 g5 g6 g7 g8 f3 f4 f5 f9
  go_wp2_with fail
  refine bodyPost_ret (v := resV false 0 (.slice none 0 0)) ?_ rfl ?_
  · simp only [results, Hres.out]
    go_simp
  · exact ⟨rfl, below_set (below_set (below_set Bel.out (by have := Hb0.out; show w.heap.size ≤ b0 + 1; omega) _) (by have := Hb0.out; show w.heap.size ≤ b0 + 1; omega) _) (by have := Hb0.out; show w.heap.size ≤ b0 + 1; omega) _⟩

set_option maxHeartbeats 4000000 in
set_option maxRecDepth 100000 in
theorem rhearNo7 (h : RnA w F m c near there s) (dt fr : Int) (form kind ns nr : Int) (poll : Bool) (pa : Option Addr) (n k : Nat) (ha : s.asks = true) (Hm : Hid (∀ W : World, Calls Try.prog 24 #[.agg #[.int .i64 dt, .int .i64 fr, .bool true, .int .i64 form, .int .i64 kind, .int .i64 ns, .int .i64 nr, .bool poll, .slice pa n k]] W fun e w' => e = .returned (.bool true) ∧ Below W.heap.size W w')) (d0 : (dt != near) = false) (d1 : (fr != there) = false) (d2 : (form != 2) = false) (d3 : (kind != 8 + s.bit) = false) (d4 : (poll != s.poll) = true) (e7 : (poll == s.poll) = false) :
    Calls Try.prog 21 #[.pointer (some ⟨m, 0, none⟩), .agg #[.int .i64 dt, .int .i64 fr, .bool true, .int .i64 form, .int .i64 kind, .int .i64 ns, .int .i64 nr, .bool poll, .slice pa n k]] w fun e w' => e = .returned (resV false 0 (.slice none 0 0)) ∧ Below w.heap.size w w' := by
  have h' := h
  obtain ⟨v, h, hF⟩ := h
  have ho := lt_of_block h.blk
  obtain ⟨W2, hW2⟩ : ∃ W2, W2 = (w.alloc (.cells #[.int .i64 dt, .int .i64 fr, .bool true, .int .i64 form, .int .i64 kind, .int .i64 ns, .int .i64 nr, .bool poll, .slice pa n k] 33)).alloc (.cells res0 56) := ⟨_, rfl⟩
  have hal : Below w.heap.size w W2 := by rw [hW2]; exact ((Below.refl _ w).alloc (Nat.le_refl _) _).alloc (by simp) _
  obtain ⟨b0, hb0⟩ : ∃ b, b = w.heap.size := ⟨_, rfl⟩
  have hp := (hal.block m ho).trans h.blk
  have hp0 : W2.heap[b0]? = some (.cells #[.int .i64 dt, .int .i64 fr, .bool true, .int .i64 form, .int .i64 kind, .int .i64 ns, .int .i64 nr, .bool poll, .slice pa n k] 33 (0, 0)) := by
    rw [hW2, hb0]
    exact (heap_alloc_lt _ _ (by simp)).trans (heap_alloc_new' w _)
  have hp1 : W2.heap[b0 + 1]? = some (.cells res0 56 (0, 0)) := by
    rw [hW2, hb0]
    have := heap_alloc_new' (w.alloc (.cells #[.int .i64 dt, .int .i64 fr, .bool true, .int .i64 form, .int .i64 kind, .int .i64 ns, .int .i64 nr, .bool poll, .slice pa n k] 33)) (.cells res0 56)
    simpa using this
  have f9 : ∀ x : After W2, x.w'.cell? ⟨m, 9, none⟩ = some (.bool true) := fun x => by rw [← ha]; exact x.cell (blk_cell hp 9)
  have f3 : ∀ x : After W2, x.w'.cell? ⟨m, 3, none⟩ = some (.int .i64 near) := fun x => x.cell (blk_cell hp 3)
  have f4 : ∀ x : After W2, x.w'.cell? ⟨m, 4, none⟩ = some (.int .i64 there) := fun x => x.cell (blk_cell hp 4)
  have f5 : ∀ x : After W2, x.w'.cell? ⟨m, 5, none⟩ = some (.int .i64 s.bit) := fun x => x.cell (blk_cell hp 5)
  have f10 : ∀ x : After W2, x.w'.cell? ⟨m, 10, none⟩ = some (.bool s.poll) := fun x => x.cell (blk_cell hp 10)
  have g0 : ∀ x : After W2, x.w'.cell? ⟨b0, 0, none⟩ = some (.int .i64 dt) := fun x => x.cell (blk_cell hp0 0)
  have g1 : ∀ x : After W2, x.w'.cell? ⟨b0, 1, none⟩ = some (.int .i64 fr) := fun x => x.cell (blk_cell hp0 1)
  have g2 : ∀ x : After W2, x.w'.cell? ⟨b0, 2, none⟩ = some (.bool true) := fun x => x.cell (blk_cell hp0 2)
  have g3 : ∀ x : After W2, x.w'.cell? ⟨b0, 3, none⟩ = some (.int .i64 form) := fun x => x.cell (blk_cell hp0 3)
  have g4 : ∀ x : After W2, x.w'.cell? ⟨b0, 4, none⟩ = some (.int .i64 kind) := fun x => x.cell (blk_cell hp0 4)
  have g5 : ∀ x : After W2, x.w'.cell? ⟨b0, 5, none⟩ = some (.int .i64 ns) := fun x => x.cell (blk_cell hp0 5)
  have g6 : ∀ x : After W2, x.w'.cell? ⟨b0, 6, none⟩ = some (.int .i64 nr) := fun x => x.cell (blk_cell hp0 6)
  have g7 : ∀ x : After W2, x.w'.cell? ⟨b0, 7, none⟩ = some (.bool poll) := fun x => x.cell (blk_cell hp0 7)
  have g8 : ∀ x : After W2, x.w'.cell? ⟨b0, 8, none⟩ = some (.slice pa n k) := fun x => x.cell (blk_cell hp0 8)
  have HB := Lib.hid hal
  have P0 := Lib.hid hp0
  have P1 := Lib.hid hp1
  have Hb0 := Lib.hid hb0
  have hres : Try.f21.results = #[.cell 4 56] := by kernel_rfl
  have Hres := Lib.hid hres
  have hwb : IntKind.i64.wrap (8 + s.bit) = 8 + s.bit := IntWalk.i64_in _ (by have := h.s.1; omega)
  clear hres h' h hF hp hp0 hp1 hal ha
  go_enter Try.func21, Try.ntmps21
  go_upto_region 1 with fail
  rw [← hW2, ← hb0]
  clear hW2 hb0
  refine wp_region_after (by kernel_rfl) (by kernel_rfl) ?_
  repeat (go_big_quiet_step ((go_at_call 24; exact Calls.after_of (Hm.out _))))
  refine wpQuiet_nil ?_
  rintro w1 ⟨⟨_, hb⟩, rfl⟩
  have p1 := (hb.block (b0 + 1) (lt_of_block P1.out)).trans P1.out
  have u0 : w1.cell? ⟨b0 + 1, 0, none⟩ = some (.bool false) := blk_cell p1 0
  have u1 : w1.cell? ⟨b0 + 1, 1, none⟩ = some (.int .i64 0) := blk_cell p1 1
  have u2 : w1.cell? ⟨b0 + 1, 2, none⟩ = some (.slice none 0 0) := blk_cell p1 2
  have uz : ∀ i, w1.frozen? ⟨b0 + 1, i, none⟩ = false := fun i => blk_free p1 i
  have hlt : b0 + 1 < w1.heap.size := lt_of_block p1
  have Bel : Hid (Below w.heap.size w w1) := HB.out.trans (hb.mono HB.out.size)
  clear p1 hb g0 g1 g2 g3 g4 g5 g6 g7 g8 f3 f4 f5 f10 f9
  go_wp2_with fail
  refine bodyPost_ret (v := resV false 0 (.slice none 0 0)) ?_ rfl ?_
  · simp only [results, Hres.out]
    go_simp
  · exact ⟨rfl, below_set (below_set (below_set Bel.out (by have := Hb0.out; show w.heap.size ≤ b0 + 1; omega) _) (by have := Hb0.out; show w.heap.size ≤ b0 + 1; omega) _) (by have := Hb0.out; show w.heap.size ≤ b0 + 1; omega) _⟩

theorem rhearNo (h : RnA w F m c near there s) (p : Pd) (pa : Option Addr) (k : Nat) (hk : hearOk near there s p = false) :
    Calls Try.prog 21 #[.pointer (some ⟨m, 0, none⟩), pdV p (.slice pa p.info.length k)] w fun e w' => e = .returned (resV false 0 (.slice none 0 0)) ∧ Below w.heap.size w w' := by
  obtain ⟨dt, fr, resp, form, kind, ns, nr, poll, info⟩ := p
  have hm : ∀ W : World, Calls Try.prog 24 #[.agg #[.int .i64 dt, .int .i64 fr, .bool resp, .int .i64 form, .int .i64 kind, .int .i64 ns, .int .i64 nr, .bool poll, .slice pa info.length k]] W fun e w' => e = .returned (.bool (mayP ⟨dt, fr, resp, form, kind, ns, nr, poll, info⟩)) ∧ Below W.heap.size W w' := fun W => rmay ⟨dt, fr, resp, form, kind, ns, nr, poll, info⟩ pa k W
  show Calls Try.prog 21 #[.pointer (some ⟨m, 0, none⟩), .agg #[.int .i64 dt, .int .i64 fr, .bool resp, .int .i64 form, .int .i64 kind, .int .i64 ns, .int .i64 nr, .bool poll, .slice pa info.length k]] w _
  unfold hearOk at hk
  cases e0 : s.asks with
  | false => exact rhearNo0 h dt fr resp form kind ns nr poll pa _ k e0
  | true =>
    cases e1 : mayP ⟨dt, fr, resp, form, kind, ns, nr, poll, info⟩ with
    | false => rw [e1] at hm; exact rhearNo1 h dt fr resp form kind ns nr poll pa _ k e0 hm
    | true =>
      rw [e1] at hm
      cases e2 : (dt == near) with
      | false => exact rhearNo2 h dt fr resp form kind ns nr poll pa _ k e0 hm (by rw [bne, e2]; rfl)
      | true =>
        have d2 : (dt != near) = false := by rw [bne, e2]; rfl
        cases e3 : (fr == there) with
        | false => exact rhearNo3 h dt fr resp form kind ns nr poll pa _ k e0 hm d2 (by rw [bne, e3]; rfl)
        | true =>
          have d3 : (fr != there) = false := by rw [bne, e3]; rfl
          cases resp with
          | false => exact rhearNo4 h dt fr form kind ns nr poll pa _ k e0 hm d2 d3
          | true =>
            cases e5 : (form == 2) with
            | false => exact rhearNo5 h dt fr form kind ns nr poll pa _ k e0 hm d2 d3 (by rw [bne, e5]; rfl)
            | true =>
              have d5 : (form != 2) = false := by rw [bne, e5]; rfl
              cases e6 : (kind == 8 + s.bit) with
              | false => exact rhearNo6 h dt fr form kind ns nr poll pa _ k e0 hm d2 d3 d5 (by rw [bne, e6]; rfl)
              | true =>
                have d6 : (kind != 8 + s.bit) = false := by rw [bne, e6]; rfl
                cases e7 : (poll == s.poll) with
                | false => exact rhearNo7 h dt fr form kind ns nr poll pa _ k e0 hm d2 d3 d5 d6 (by rw [bne, e7]; rfl) e7
                | true => exact absurd hk (by simp [e0, e1, e2, e3, e5, e6, e7])
end
end Go.Proofs.Ytkmeklbmjdbifaa
