/-
  Layer 15: antiphonref15.Same of one and the same row; GridSteps: the walk.
-/
import Derived.Test.YtnafppdnapdbcaaGrd11
namespace Go.Proofs.Ytnafppdnapdbcaa
open Go.RowKit


set_option maxHeartbeats 4000000 in
theorem sameEq (va vb : Value) (d : List Int) (n : Int) (k : Bool) (w : World) (N M : Nat) (h1 : RdN N w va d) (h2 : RdN M w vb d) (hm : d.length ≤ 1000) :
    Calls Try.prog 14 #[.agg #[va, .int .i64 n, .bool k], .agg #[vb, .int .i64 n, .bool k]] w fun e w' => e = .returned (.bool true) ∧ Below w.heap.size w w' := by
  obtain ⟨aa, ac, rfl⟩ := h1.rd.len
  obtain ⟨ba, bc, rfl⟩ := h2.rd.len
  have H1 := Lib.hid h1
  have H2 := Lib.hid h2
  clear h1 h2
  go_enter Try.func14, Try.ntmps14
  go_upto_region 1 with fail
  obtain ⟨pb, hpb⟩ : ∃ b, b = w.heap.size + 1 := ⟨_, rfl⟩
  obtain ⟨pa, hpa⟩ : ∃ b, b = w.heap.size := ⟨_, rfl⟩
  obtain ⟨W, hW⟩ : ∃ x, x = (w.alloc (.cells #[.slice aa d.length ac, .int .i64 n, .bool k] 30)).alloc (.cells #[.slice ba d.length bc, .int .i64 n, .bool k] 30) := ⟨_, rfl⟩
  have qa : ∀ i, W.cell? ⟨pa, i, none⟩ = (#[.slice aa d.length ac, .int .i64 n, .bool k] : Array Value)[i]? := fun i => by
    subst hW hpa
    have h0 := heap_alloc_new' w (.cells #[.slice aa d.length ac, .int .i64 n, .bool k] 30)
    exact blk_cell ((heap_alloc_lt _ _ (lt_of_block h0)).trans h0) i
  have qb : ∀ i, W.cell? ⟨pb, i, none⟩ = (#[.slice ba d.length bc, .int .i64 n, .bool k] : Array Value)[i]? := fun i => by
    subst hW hpb
    have h0 := heap_alloc_new' (w.alloc (.cells #[.slice aa d.length ac, .int .i64 n, .bool k] 30)) (.cells #[.slice ba d.length bc, .int .i64 n, .bool k] 30)
    first
    | (simp; done)
    | (have := blk_cell h0 i; simpa using this)
  have a0 : W.cell? ⟨pa, 0, none⟩ = some (.slice aa d.length ac) := qa 0
  have a1 : W.cell? ⟨pa, 1, none⟩ = some (.int .i64 n) := qa 1
  have a2 : W.cell? ⟨pa, 2, none⟩ = some (.bool k) := qa 2
  have b0 : W.cell? ⟨pb, 0, none⟩ = some (.slice ba d.length bc) := qb 0
  have b1 : W.cell? ⟨pb, 1, none⟩ = some (.int .i64 n) := qb 1
  have b2 : W.cell? ⟨pb, 2, none⟩ = some (.bool k) := qb 2
  have HB : Hid (Below w.heap.size w W) := by subst hW; exact ((Below.refl _ w).alloc (Nat.le_refl _) _).alloc (by simp) _
  have G1 : Hid (RdN N W (.slice aa d.length ac) d) := by subst hW; exact (H1.out.later _).later _
  have G2 : Hid (RdN M W (.slice ba d.length bc) d) := by subst hW; exact (H2.out.later _).later _
  rw [← hW, ← hpb, ← hpa]
  clear qa qb hW hpa hpb H1 H2
  go_wp2_with fail
  go_loopw [5] (fun v5 wr => ∃ i : Nat, i ≤ d.length ∧ v5 = .int .i64 i ∧ Hid (Below W.heap.size W wr)) (fun v _ => d.length - (intOf v).toNat)
  case atStart => exact ⟨0, by omega, rfl, Below.refl _ _⟩
  case round =>
    obtain ⟨i, hi, rfl, Hw⟩ := hrel
    have x1 := cell_on a0 Hw.out
    have x2 := cell_on b0 Hw.out
    by_cases hlt : i < d.length
    · obtain ⟨g1, o1, c1, e1, l1, z1⟩ := (G1.out.below Hw.out).rd.some (by omega) (by decide)
      obtain ⟨g2, o2, c2, e2, l2, z2⟩ := (G2.out.below Hw.out).rd.some (by omega) (by decide)
      simp at e1 e2
      obtain ⟨rfl, rfl⟩ := e1
      obtain ⟨rfl, rfl⟩ := e2
      clear z1 z2
      have y1 := (G1.out.below Hw.out).at hlt
      have y2 := (G2.out.below Hw.out).at hlt
      clear a0 a1 a2 b0 b1 b2
      go_wp2_with fail
      go_quiet (fail)
      go_wp2_with fail
      go_roundw
      case rel => exact ⟨i + 1, by omega, by go_num, below_drewN Hw.out _⟩
      case measure => simp [intOf]; omega
    · clear a0 a1 a2 b0 b1 b2
      go_wp2_with fail
      go_ret
      exact ⟨rfl, HB.out.trans (Hw.out.mono HB.out.size)⟩

/-- What a row's function gives, at one and the same row. -/
theorem refStep' (s e : Int) (w : World) : Calls Try.prog 13 #[.int .i64 s, .int .i64 e] w fun x w' => ∃ a c, x = .returned (.agg #[.slice a (refG s e).1.length c, .int .i64 (refG s e).2.1, .bool (refG s e).2.2]) ∧ Hid (RdN w.heap.size w' (.slice a (refG s e).1.length c) (refG s e).1) ∧ Below w.heap.size w w' :=
  (refStep s e w).mono fun x w' ⟨v, he, hr, hb⟩ => by
    obtain ⟨a, c, rfl⟩ := hr.rd.len
    exact ⟨a, c, he, hr, hb⟩
theorem step' (s e : Int) (w : World) : Calls Try.prog 11 #[.int .i64 s, .int .i64 e] w fun x w' => ∃ a c, x = .returned (.agg #[.slice a (refG s e).1.length c, .int .i64 (refG s e).2.1, .bool (refG s e).2.2]) ∧ Hid (RdN w.heap.size w' (.slice a (refG s e).1.length c) (refG s e).1) ∧ Below w.heap.size w w' :=
  (step s e w).mono fun x w' ⟨v, he, hr, hb⟩ => by
    rw [stepG_eq] at he hr
    obtain ⟨a, c, rfl⟩ := hr.rd.len
    exact ⟨a, c, he, hr, hb⟩
theorem refG_len (s e : Int) : (refG s e).1.length ≤ 1000 := by
  by_cases h1 : s < 0 ∨ 14 ≤ s
  · rw [refG_out h1]; exact Nat.zero_le 1000
  · by_cases h2 : e < 0 ∨ 34 ≤ e
    · rw [refG_far h2]; exact Nat.zero_le 1000
    · have h : allB 14 (fun s => allB 34 (fun e => decide ((refG s e).1.length ≤ 1000))) = true := by decide +kernel
      obtain ⟨s, rfl⟩ : ∃ m : Nat, s = m := ⟨s.toNat, by omega⟩
      obtain ⟨e, rfl⟩ : ∃ m : Nat, e = m := ⟨e.toNat, by omega⟩
      exact of_decide_eq_true (allB_at (allB_at h (by omega)) (by omega))
/-- A row, its parts as letters. -/
theorem refG_parts (s e : Int) : ∃ d n k, refG s e = (d, n, k) ∧ d.length ≤ 1000 := ⟨_, _, _, rfl, refG_len s e⟩
theorem refStep_at (s e : Int) (d : List Int) (n : Int) (k : Bool) (h : refG s e = (d, n, k)) (w : World) : Calls Try.prog 13 #[.int .i64 s, .int .i64 e] w fun x w' => ∃ a c, x = .returned (.agg #[.slice a d.length c, .int .i64 n, .bool k]) ∧ Hid (RdN w.heap.size w' (.slice a d.length c) d) ∧ Below w.heap.size w w' :=
  (refStep' s e w).mono fun x w' ⟨a, c, he, hr, hb⟩ => by
    rw [h] at he hr
    exact ⟨a, c, he, hr, hb⟩

theorem keep4 {w0 w1 w2 : World} {a b c : Addr} {x y z : Value} (h : w1.cell? a = some x ∧ w1.cell? b = some y ∧ w1.cell? c = some z ∧ Below w0.heap.size w0 w1) (hb : Below w1.heap.size w1 w2) :
    w2.cell? a = some x ∧ w2.cell? b = some y ∧ w2.cell? c = some z ∧ Below w0.heap.size w0 w2 := ⟨cell_on h.1 hb, cell_on h.2.1 hb, cell_on h.2.2.1 hb, h.2.2.2.trans (hb.mono h.2.2.2.size)⟩
theorem keep8 {w0 w1 w2 : World} {a b c a1 a2 a3 a4 : Addr} {x y z x1 x2 x3 x4 : Value} (h : w1.cell? a = some x ∧ w1.cell? b = some y ∧ w1.cell? c = some z ∧ w1.cell? a1 = some x1 ∧ w1.cell? a2 = some x2 ∧ w1.cell? a3 = some x3 ∧ w1.cell? a4 = some x4 ∧ Below w0.heap.size w0 w1) (hb : Below w1.heap.size w1 w2) :
    w2.cell? a = some x ∧ w2.cell? b = some y ∧ w2.cell? c = some z ∧ w2.cell? a1 = some x1 ∧ w2.cell? a2 = some x2 ∧ w2.cell? a3 = some x3 ∧ w2.cell? a4 = some x4 ∧ Below w0.heap.size w0 w2 :=
  ⟨cell_on h.1 hb, cell_on h.2.1 hb, cell_on h.2.2.1 hb, cell_on h.2.2.2.1 hb, cell_on h.2.2.2.2.1 hb, cell_on h.2.2.2.2.2.1 hb, cell_on h.2.2.2.2.2.2.1 hb, h.2.2.2.2.2.2.2.trans (hb.mono h.2.2.2.2.2.2.2.size)⟩
theorem bel8 {A B C D E F G H : Prop} (h : A ∧ B ∧ C ∧ D ∧ E ∧ F ∧ G ∧ H) : H := h.2.2.2.2.2.2.2

end Go.Proofs.Ytnafppdnapdbcaa
