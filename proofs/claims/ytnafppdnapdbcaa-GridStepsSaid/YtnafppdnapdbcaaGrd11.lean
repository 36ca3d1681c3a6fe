/-
  Layer 15: the table is the document's; has, model, Same, known, awake.
-/
import Derived.Test.YtnafppdnapdbcaaGrd10
import Derived.Test.YtnafppdnapdbcaaR15s
namespace Go.Proofs.Ytnafppdnapdbcaa
open Go.RowKit
set_option linter.unusedVariables false


def rowEq (a b : List Int × Int × Bool) : Bool := a.1 == b.1 && a.2.1 == b.2.1 && a.2.2 == b.2.2
theorem rowEq_eq {a b : List Int × Int × Bool} (h : rowEq a b = true) : a = b := by
  simp only [rowEq, Bool.and_eq_true, beq_iff_eq] at h
  obtain ⟨⟨h1, h2⟩, h3⟩ := h
  cases a with | mk a1 a2 => cases a2; cases b with | mk b1 b2 => cases b2; simp_all
def allB (n : Nat) (p : Nat → Bool) : Bool := (List.range n).all p
theorem allB_at {n : Nat} {p : Nat → Bool} (h : allB n p = true) {i : Nat} (hi : i < n) : p i = true := by
  unfold allB at h
  rw [List.all_eq_true] at h
  exact h i (List.mem_range.2 hi)
theorem grid_all : allB 14 (fun s => allB 34 (fun e => rowEq (gridT s e) (refG s e))) = true := by decide +kernel
theorem gridRef {s e : Nat} (hs : s < 14) (he : e < 34) : gridT s e = refG s e := rowEq_eq (allB_at (allB_at grid_all hs) he)

theorem refG_far {e : Int} (h : e < 0 ∨ 34 ≤ e) (s : Int) : refG s e = ([], s, false) := by
  have f : ∀ k : Int, 0 ≤ k → k < 34 → (e == k) = false := fun k h0 h1 => by simp; omega
  by_cases hs : s < 0 ∨ 14 ≤ s
  · have g : ∀ k : Int, 0 ≤ k → k < 14 → (s == k) = false := fun k h0 h1 => by simp; omega
    simp [refG, g]
  · rcases (show s = 0 ∨ s = 1 ∨ s = 2 ∨ s = 3 ∨ s = 4 ∨ s = 5 ∨ s = 6 ∨ s = 7 ∨ s = 8 ∨ s = 9 ∨ s = 10 ∨ s = 11 ∨ s = 12 ∨ s = 13 by omega) with rfl | rfl | rfl | rfl | rfl | rfl | rfl | rfl | rfl | rfl | rfl | rfl | rfl | rfl
    all_goals simp [refG, r15inAdm, r15inConn, r15inSetup, r15inReset, r15inResetCheck, r15inResetWait, r15inDConn, r15inError, r15inNormal, r15inBusy, r15inReject, r15inAwait, r15inAwaitBusy, r15inAwaitReject, f]
theorem refG_out {s : Int} (h : s < 0 ∨ 14 ≤ s) (e : Int) : refG s e = ([], s, false) := by
  have f : ∀ k : Int, 0 ≤ k → k < 14 → (s == k) = false := fun k h0 h1 => by simp; omega
  simp [refG, f]
theorem stepG_eq (s e : Int) : stepG s e = refG s e := by
  by_cases h : s < 0 ∨ 14 ≤ s ∨ e < 0 ∨ 34 ≤ e
  · rw [stepG_out h]
    by_cases h1 : s < 0 ∨ 14 ≤ s
    · rw [refG_out h1]
    · rw [refG_far (by omega)]
  · obtain ⟨s, rfl⟩ : ∃ m : Nat, s = m := ⟨s.toNat, by omega⟩
    obtain ⟨e, rfl⟩ : ∃ m : Nat, e = m := ⟨e.toNat, by omega⟩
    rw [stepG_in (by omega) (by omega), gridRef (by omega) (by omega)]

/-- A row that lies in a variable. -/
structure RB (N : Nat) (w0 w : World) (b : Nat) (v : Value) (x : List Int × Int × Bool) : Prop where
  rd : RdN N w v x.1
  c0 : w.cell? ⟨b, 0, none⟩ = some v
  c1 : w.cell? ⟨b, 1, none⟩ = some (.int .i64 x.2.1)
  c2 : w.cell? ⟨b, 2, none⟩ = some (.bool x.2.2)
  bel : Below w0.heap.size w0 w
theorem RB.below {N : Nat} {w0 w w' : World} {b : Nat} {v : Value} {x : List Int × Int × Bool} (h : RB N w0 w b v x) (hb : Below w.heap.size w w') : RB N w0 w' b v x :=
  ⟨h.rd.below hb, cell_on h.c0 hb, cell_on h.c1 hb, cell_on h.c2 hb, h.bel.trans (hb.mono h.bel.size)⟩

/-- Has a row an action? -/
def hasL (d : List Int) (a : Int) : Bool := d.any (· == a)
theorem hasL_yes {d : List Int} {a : Int} {i : Nat} (h : i < d.length) (he : (d[i] == a) = true) : hasL d a = true := by
  unfold hasL; rw [List.any_eq_true]; exact ⟨_, List.getElem_mem h, he⟩
theorem hasL_no {d : List Int} {a : Int} (h : ∀ i, (h : i < d.length) → (d[i] == a) = false) : hasL d a = false := by
  unfold hasL; rw [List.any_eq_false]
  intro x hx
  obtain ⟨i, hi, rfl⟩ := List.getElem_of_mem hx
  simp [h i hi]

set_option maxHeartbeats 2000000 in
theorem has_ (v : Value) (d : List Int) (n : Int) (k : Bool) (a : Int) (w : World) (N : Nat) (h : RdN N w v d) (hm : d.length ≤ 1000) :
    Calls Try.prog 16 #[.agg #[v, .int .i64 n, .bool k], .int .i64 a] w fun e w' => e = .returned (.bool (hasL d a)) ∧ Below w.heap.size w w' := by
  obtain ⟨va, vc, rfl⟩ := h.rd.len
  have H := Lib.hid h
  clear h
  go_enter Try.func16, Try.ntmps16
  go_upto_region 1 with fail
  obtain ⟨b, hb⟩ : ∃ b, b = w.heap.size := ⟨_, rfl⟩
  obtain ⟨W, hW⟩ : ∃ x, x = w.alloc (.cells #[.slice va d.length vc, .int .i64 n, .bool k] 25) := ⟨_, rfl⟩
  have q0 : W.cell? ⟨b, 0, none⟩ = some (.slice va d.length vc) := by subst hW hb; exact blk_cell (heap_alloc_new' w _) 0
  have HW : Hid (RdN N W (.slice va d.length vc) d) := by subst hW; exact H.out.later _
  have HB : Hid (Below w.heap.size w W) := by subst hW; exact (Below.refl _ w).alloc (Nat.le_refl _) _
  rw [← hW, ← hb]
  clear hW hb
  go_wp2_with fail
  go_loop [5] (fun v5 => ∃ i : Nat, i ≤ d.length ∧ v5 = .int .i64 i ∧ Hid (∀ j, j < i → (h : j < d.length) → (d[j] == a) = false)) (fun v => d.length - (intOf v).toNat)
  case atStart => exact ⟨0, by omega, rfl, fun j hj => by omega⟩
  case round =>
    obtain ⟨i, hi, rfl, Hj⟩ := hrel
    by_cases hlt : i < d.length
    · obtain ⟨b1, o1, c1, e1, g1, x1⟩ := HW.out.rd.some (by omega) (by decide)
      simp at e1
      obtain ⟨rfl, rfl⟩ := e1
      clear x1
      have y1 := HW.out.at hlt
      cases hq : (d[i] == a) with
      | true =>
        have E := Lib.hid (hasL_yes hlt hq)
        go_wp2_with fail
        go_ret
        exact ⟨by rw [E.out]; rfl, HB.out⟩
      | false =>
        have Hj2 : Hid (∀ j, j < i + 1 → (h : j < d.length) → (d[j] == a) = false) := fun j hj h => by
          by_cases e : j = i
          · subst e; exact hq
          · exact Hj.out j (by omega) h
        go_wp2_with fail
        go_round
        case rel => exact ⟨i + 1, by omega, by go_num, Hj2⟩
        case measure => simp [intOf]; omega
    · have E := Lib.hid (hasL_no (a := a) (d := d) (fun j h => Hj.out j (by omega) h))
      go_wp2_with fail
      go_ret
      exact ⟨by rw [E.out]; rfl, HB.out⟩

theorem has_rb (N : Nat) (w0 w : World) (b : Nat) (v : Value) (x : List Int × Int × Bool) (a : Int) (h : Hid (RB N w0 w b v x)) (hm : x.1.length ≤ 1000) :
    Calls Try.prog 16 #[.agg #[v, .int .i64 x.2.1, .bool x.2.2], .int .i64 a] w fun e w' => e = .returned (.bool (hasL x.1 a)) ∧ w'.cell? ⟨b, 0, none⟩ = some v ∧ w'.cell? ⟨b, 1, none⟩ = some (.int .i64 x.2.1) ∧ w'.cell? ⟨b, 2, none⟩ = some (.bool x.2.2) ∧ Hid (RB N w0 w' b v x) :=
  (has_ v x.1 x.2.1 x.2.2 a w N h.out.rd hm).mono fun e w' ⟨he, hb⟩ => ⟨he, (h.out.below hb).c0, (h.out.below hb).c1, (h.out.below hb).c2, h.out.below hb⟩

/-- As 'has_rb', the answer a letter. -/
theorem has_q (a : Int) (N : Nat) (w0 w : World) (b : Nat) (va : Option Addr) (c : Nat) (d : List Int) (n : Int) (k : Bool) (h : Hid (RB N w0 w b (.slice va d.length c) (d, n, k))) (hm : d.length ≤ 1000) :
    Calls Try.prog 16 #[.agg #[.slice va d.length c, .int .i64 n, .bool k], .int .i64 a] w fun e w' => ∃ q, e = .returned (.bool q) ∧ Hid (hasL d a = q) ∧ w'.cell? ⟨b, 0, none⟩ = some (.slice va d.length c) ∧ w'.cell? ⟨b, 1, none⟩ = some (.int .i64 n) ∧ w'.cell? ⟨b, 2, none⟩ = some (.bool k) ∧ Hid (RB N w0 w' b (.slice va d.length c) (d, n, k)) :=
  (has_rb N w0 w b (.slice va d.length c) (d, n, k) a h hm).mono fun e w' ⟨he, h0, h1, h2, h3⟩ => ⟨_, he, rfl, h0, h1, h2, h3⟩
/-- As 'has_rb', the answer known. -/
theorem has_k (q : Bool) (a : Int) (N : Nat) (w0 w : World) (b : Nat) (va : Option Addr) (c : Nat) (d : List Int) (n : Int) (k : Bool) (hq : Hid (hasL d a = q)) (h : Hid (RB N w0 w b (.slice va d.length c) (d, n, k))) (hm : d.length ≤ 1000) :
    Calls Try.prog 16 #[.agg #[.slice va d.length c, .int .i64 n, .bool k], .int .i64 a] w fun e w' => e = .returned (.bool q) ∧ w'.cell? ⟨b, 0, none⟩ = some (.slice va d.length c) ∧ w'.cell? ⟨b, 1, none⟩ = some (.int .i64 n) ∧ w'.cell? ⟨b, 2, none⟩ = some (.bool k) ∧ Hid (RB N w0 w' b (.slice va d.length c) (d, n, k)) :=
  (has_rb N w0 w b (.slice va d.length c) (d, n, k) a h hm).mono fun e w' ⟨he, h0, h1, h2, h3⟩ => ⟨by rw [he, hq.out], h0, h1, h2, h3⟩

theorem model (va : Option Addr) (vl vc : Nat) (n : Int) (k : Bool) (w : World) :
    Calls Try.prog 15 #[.agg #[.slice va vl vc, .int .i64 n, .bool k]] w fun e w' => e = .returned (.agg #[.slice va vl vc, .int .i64 n, .bool k]) ∧ Below w.heap.size w w' := by
  go_enter Try.func15, Try.ntmps15
  go_wp2_with fail
  refine bodyPost_ret (v := .agg #[.slice va vl vc, .int .i64 n, .bool k]) (by simp [results, Try.results15, go_sem]) rfl ⟨rfl, ?_⟩
  exact ((Below.refl _ w).alloc (Nat.le_refl _) _).alloc (by simp) _

theorem known_ (s e : Int) (w : World) : Calls Try.prog 17 #[.int .i64 s, .int .i64 e] w fun x w' => x = .returned (.bool (stepG s e).2.2) ∧ Below w.heap.size w w' := by
  go_enter Try.func17, Try.ntmps17
  go_wp2_with fail
  refine (step s e w).mono ?_
  rintro x w2 ⟨v, rfl, hr, hb⟩
  obtain ⟨va, vc, rfl⟩ := hr.rd.len
  have Hb := Lib.hid hb
  clear hr hb
  obtain ⟨x0, hx0⟩ : ∃ x, x = (stepG s e).1.length := ⟨_, rfl⟩
  obtain ⟨x1, hx1⟩ : ∃ x, x = (stepG s e).2.1 := ⟨_, rfl⟩
  obtain ⟨x2, hx2⟩ : ∃ x, x = (stepG s e).2.2 := ⟨_, rfl⟩
  rw [← hx0, ← hx1, ← hx2]
  have X2 := Lib.hid hx2
  clear hx0 hx1 hx2
  have hf : ∀ W : World, (Instr.field 25 (.agg #[.slice va x0 vc, .int .i64 x1, .bool x2]) 2).run Try.prog W = .ok (.bool x2) W := fun W => by kernel_rfl
  go_wp2_with fail
  go_ret
  exact ⟨by rw [← X2.out]; rfl, Hb.out⟩

theorem known_at (s e : Int) (b : Bool) (h : (refG s e).2.2 = b) (w : World) : Calls Try.prog 17 #[.int .i64 s, .int .i64 e] w fun x w' => x = .returned (.bool b) ∧ Below w.heap.size w w' := by
  subst h; rw [← stepG_eq]; exact known_ s e w
theorem step_at (s e : Int) (d : List Int) (n : Int) (k : Bool) (h : refG s e = (d, n, k)) (w : World) : Calls Try.prog 11 #[.int .i64 s, .int .i64 e] w fun x w' => ∃ a c, x = .returned (.agg #[.slice a d.length c, .int .i64 n, .bool k]) ∧ Hid (RdN w.heap.size w' (.slice a d.length c) d) ∧ Below w.heap.size w w' :=
  (step s e w).mono fun x w' ⟨v, he, hr, hb⟩ => by
    rw [stepG_eq, h] at he hr
    obtain ⟨a, c, rfl⟩ := hr.rd.len
    exact ⟨a, c, he, hr, hb⟩

theorem awake (w : World) : Calls Try.prog 10 #[] w fun x w' => x = .returned (.bool true) ∧ Below w.heap.size w w' := by
  have E : stepG 0 0 = ([0, 33, 13], 2, true) := by
    rw [stepG_eq]; rfl
  go_enter Try.func10, Try.ntmps10
  go_wp2_with fail
  refine (step 0 0 w).mono ?_
  rintro x w2 ⟨v, rfl, hr, hb⟩
  rw [E] at hr ⊢
  obtain ⟨b1, o1, c1, rfl, g1, x1⟩ := hr.rd.some (by decide) (by decide)
  have y1 := hr.at (i := 0) (by decide)
  rw [Nat.add_zero] at y1
  have ne : ¬ b1 = w2.heap.size := by omega
  have ne' := World.new_ne w2 _ y1
  have Hb := Lib.hid hb
  clear hr x1 hb E
  simp only [List.length_cons, List.length_nil, Nat.reduceAdd, List.getElem_cons_zero] at y1 ⊢
  go_wp2_with fail
  go_ret
  exact ⟨rfl, Hb.out.alloc Hb.out.size _⟩
end Go.Proofs.Ytnafppdnapdbcaa
