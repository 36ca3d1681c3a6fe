/-
  The reference's once: May, Sap, NewOnce.
-/
import Derived.Test.YtkmeklbmjdbifaaOnc4
namespace Go.Proofs.Ytkmeklbmjdbifaa
open Go.RowKit
set_option linter.unusedVariables false


/-- The reference's Once at m. -/
structure RnI (w : World) (m : Nat) (c : Cf) (near there : Int) (s : Sk) (v : Value) : Prop where
  blk : w.heap[m]? = some (.cells #[.int .i64 c.tries, .int .i64 c.ack, .int .i64 c.quiet, .int .i64 near, .int .i64 there, .int .i64 s.bit, .int .i64 s.sent, .int .i64 s.left, .int .i64 s.wait, .bool s.asks, .bool s.poll, v] 55 (0, 0))
  own : OwnB 0 w v s.b
  c : c.ok
  s : s.ok
def RnA (w : World) (F : Nat → Prop) (m : Nat) (c : Cf) (near there : Int) (s : Sk) : Prop := ∃ v, RnI w m c near there s v ∧ ∀ x, F x ↔ (x = m ∨ v.ownBlock = some x)

section
variable {w w' : World} {F : Nat → Prop} {m : Nat} {c : Cf} {near there : Int} {s : Sk} {v : Value}
theorem RnI.keep (h : RnI w m c near there s v) (h1 : w'.heap[m]? = w.heap[m]?) (h2 : ∀ g, v.ownBlock = some g → w'.heap[g]? = w.heap[g]?) : RnI w' m c near there s v := ⟨h1.trans h.blk, h.own.keep h2, h.c, h.s⟩
theorem RnI.below (h : RnI w m c near there s v) (hb : Below w.heap.size w w') : RnI w' m c near there s v := h.keep (hb.block m (lt_of_block h.blk)) (fun g hg => hb.block g (own_lt h.own hg))
theorem RnA.keep (h : RnA w F m c near there s) (hk : ∀ x, F x → w'.heap[x]? = w.heap[x]?) : RnA w' F m c near there s := by
  obtain ⟨v, h, hF⟩ := h
  exact ⟨v, h.keep (hk m ((hF m).2 (.inl rfl))) (fun g hg => hk g ((hF g).2 (.inr hg))), hF⟩
theorem RnA.below (h : RnA w F m c near there s) (hb : Below w.heap.size w w') : RnA w' F m c near there s := by
  obtain ⟨v, h, hF⟩ := h
  exact ⟨v, h.below hb, hF⟩
theorem RnA.lt (h : RnA w F m c near there s) : ∀ x, F x → x < w.heap.size := by
  obtain ⟨v, h, hF⟩ := h
  intro x hx
  rcases (hF x).1 hx with rfl | e
  · exact lt_of_block h.blk
  · exact own_lt h.own e
end

theorem rsap (x : Int) (h : SapI x) (w : World) : Calls Try.prog 32 #[.int .i64 x] w fun e w' => e = .returned (.bool true) ∧ w' = w := by
  obtain ⟨h1, h2, h3⟩ := h
  have d1 : decide (2 ≤ x) = true := by simpa using h1
  have d2 : decide (x ≤ 254) = true := by simpa using h2
  have h0 : 0 ≤ x := by omega
  go_enter Try.func32, Try.ntmps32
  go_wp2_with fail
  go_ret
  exact ⟨rfl, rfl⟩
theorem rmayYes (c : Cf) (hc : c.ok) (w : World) : Calls Try.prog 31 #[.agg #[.int .i64 c.tries, .int .i64 c.ack, .int .i64 c.quiet]] w fun e w' => e = .returned (.bool true) ∧ Below w.heap.size w w' := by
  have d1 : decide (1 ≤ c.tries) = true := by have := hc.1; simp; omega
  have d2 : decide (c.tries ≤ 100) = true := by have := hc.1; simp; omega
  have d3 : decide (1 ≤ c.ack) = true := by have := hc.2.1; simp; omega
  have d4 : decide (c.ack ≤ 10000) = true := by have := hc.2.1; simp; omega
  have d5 : decide (0 ≤ c.quiet) = true := by have := hc.2.2; simp; omega
  have d6 : decide (c.quiet ≤ 10000) = true := by have := hc.2.2; simp; omega
  clear hc
  go_enter Try.func31, Try.ntmps31
  go_wp2_with fail
  go_ret
  exact ⟨rfl, (Below.refl _ w).alloc (Nat.le_refl _) _⟩
theorem rmayNo (c : Cf) (hc : ¬ c.ok) (w : World) : Calls Try.prog 31 #[.agg #[.int .i64 c.tries, .int .i64 c.ack, .int .i64 c.quiet]] w fun e w' => e = .returned (.bool false) ∧ Below w.heap.size w w' := by
  by_cases h0 : 1 ≤ c.tries
  rotate_left
  · have e0 : decide (1 ≤ c.tries) = false := by simpa using h0
    clear hc h0
    go_enter Try.func31, Try.ntmps31
    go_wp2_with fail
    go_ret
    exact ⟨rfl, (Below.refl _ w).alloc (Nat.le_refl _) _⟩
  have e0 : decide (1 ≤ c.tries) = true := by simpa using h0
  by_cases h1 : c.tries ≤ 100
  rotate_left
  · have e1 : decide (c.tries ≤ 100) = false := by simpa using h1
    clear hc h1
    go_enter Try.func31, Try.ntmps31
    go_wp2_with fail
    go_ret
    exact ⟨rfl, (Below.refl _ w).alloc (Nat.le_refl _) _⟩
  have e1 : decide (c.tries ≤ 100) = true := by simpa using h1
  by_cases h2 : 1 ≤ c.ack
  rotate_left
  · have e2 : decide (1 ≤ c.ack) = false := by simpa using h2
    clear hc h2
    go_enter Try.func31, Try.ntmps31
    go_wp2_with fail
    go_ret
    exact ⟨rfl, (Below.refl _ w).alloc (Nat.le_refl _) _⟩
  have e2 : decide (1 ≤ c.ack) = true := by simpa using h2
  by_cases h3 : c.ack ≤ 10000
  rotate_left
  · have e3 : decide (c.ack ≤ 10000) = false := by simpa using h3
    clear hc h3
    go_enter Try.func31, Try.ntmps31
    go_wp2_with fail
    go_ret
    exact ⟨rfl, (Below.refl _ w).alloc (Nat.le_refl _) _⟩
  have e3 : decide (c.ack ≤ 10000) = true := by simpa using h3
  by_cases h4 : 0 ≤ c.quiet
  rotate_left
  · have e4 : decide (0 ≤ c.quiet) = false := by simpa using h4
    clear hc h4
    go_enter Try.func31, Try.ntmps31
    go_wp2_with fail
    go_ret
    exact ⟨rfl, (Below.refl _ w).alloc (Nat.le_refl _) _⟩
  have e4 : decide (0 ≤ c.quiet) = true := by simpa using h4
  by_cases h5 : c.quiet ≤ 10000
  rotate_left
  · have e5 : decide (c.quiet ≤ 10000) = false := by simpa using h5
    clear hc h5
    go_enter Try.func31, Try.ntmps31
    go_wp2_with fail
    go_ret
    exact ⟨rfl, (Below.refl _ w).alloc (Nat.le_refl _) _⟩
  have e5 : decide (c.quiet ≤ 10000) = true := by simpa using h5
  exact absurd ⟨⟨h0, h1⟩, ⟨h2, h3⟩, ⟨h4, h5⟩⟩ hc
theorem rnewYes (c : Cf) (near there : Int) (hc : c.ok) (hn : SapI near) (ht : SapI there) (w : World) :
    Calls Try.prog 16 #[.agg #[.int .i64 c.tries, .int .i64 c.ack, .int .i64 c.quiet], .int .i64 near, .int .i64 there] w fun e w' => ∃ m, e = .returned (.tuple #[.pointer (some ⟨m, 0, none⟩), .int .i64 0]) ∧ RnA w' (fun x => x = m) m c near there sk0 ∧ w.heap.size ≤ m ∧ Below w.heap.size w w' := by
  have Hn := Lib.hid hn
  have Ht := Lib.hid ht
  have Hc := Lib.hid hc
  clear hn ht hc
  go_enter Try.func16, Try.ntmps16
  go_wp2_with fail
  refine (rmayYes c Hc.out _).mono ?_
  rintro e w1 ⟨rfl, b1⟩
  have k0 : w1.cell? ⟨w.heap.size, 0, none⟩ = some (.int .i64 c.tries) := (b1.cell (by simp)).trans (by simp)
  have k1 : w1.cell? ⟨w.heap.size, 1, none⟩ = some (.int .i64 c.ack) := (b1.cell (by simp)).trans (by simp)
  have k2 : w1.cell? ⟨w.heap.size, 2, none⟩ = some (.int .i64 c.quiet) := (b1.cell (by simp)).trans (by simp)
  have B1 : Hid (Below w.heap.size w w1) := ((Below.refl _ w).alloc (Nat.le_refl _) _).trans (b1.mono (by simp))
  clear b1
  go_wp2_with fail
  refine (rsap near Hn.out _).mono ?_
  rintro e w2 ⟨rfl, rfl⟩
  go_wp2_with fail
  refine (rsap there Ht.out _).mono ?_
  rintro e w2 ⟨rfl, rfl⟩
  go_wp2_with fail
  go_ret2
  refine ⟨_, rfl, ⟨.slice none 0 0, ⟨?_, Own.nil _ _ _ _ _, Hc.out, ?_⟩, fun x => by simp [Value.ownBlock]⟩, ?_, ?_⟩
  · exact hnew' rfl
  · exact ⟨.inl rfl, ⟨by decide, by decide⟩, ⟨by decide, by decide⟩, ⟨by decide, by decide⟩, by decide⟩
  · exact B1.out.size
  · exact B1.out.alloc B1.out.size _
theorem rnewNo (c : Cf) (near there : Int) (hc : ¬ c.ok) (w : World) :
    Calls Try.prog 16 #[.agg #[.int .i64 c.tries, .int .i64 c.ack, .int .i64 c.quiet], .int .i64 near, .int .i64 there] w fun e w' => e = .returned (.tuple #[.pointer none, .int .i64 1]) ∧ Below w.heap.size w w' := by
  have Hc := Lib.hid hc
  clear hc
  go_enter Try.func16, Try.ntmps16
  go_wp2_with fail
  refine (rmayNo c Hc.out _).mono ?_
  rintro e w1 ⟨rfl, b1⟩
  have B1 : Hid (Below w.heap.size w w1) := ((Below.refl _ w).alloc (Nat.le_refl _) _).trans (b1.mono (by simp))
  clear b1
  go_wp2_with fail
  go_ret2
  exact ⟨rfl, B1.out⟩
end Go.Proofs.Ytkmeklbmjdbifaa
