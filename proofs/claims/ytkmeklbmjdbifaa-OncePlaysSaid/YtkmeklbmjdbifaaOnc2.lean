/-
  Package once: Ask.
-/
import Derived.Test.YtkmeklbmjdbifaaOnc
import Derived.Deep.RegionHeld3
namespace Go.Proofs.Ytkmeklbmjdbifaa
open Go.RowKit
set_option linter.unusedVariables false


abbrev zeroPd : Pd := ⟨0, 0, false, 0, 0, 0, 0, false, []⟩
/-- A new block of a PDU's nine cells. -/
abbrev pd0 : Array Value := #[.int .i64 0, .int .i64 0, .bool false, .int .i64 0, .int .i64 0, .int .i64 0, .int .i64 0, .bool false, .slice none 0 0]
theorem hnew' {w : World} {o : Obj} {b : Nat} (hb : b = w.heap.size) : (w.alloc o).heap[b]? = some o := by subst hb; exact heap_alloc_new' w o
theorem below_set {w W : World} (h : Below w.heap.size w W) {p : Addr} (hp : w.heap.size ≤ p.block) (u : Value) : Below w.heap.size w (W.setCell p u) := ((Fr.of_below h no).setCell (fun hb => absurd hb (by omega)) u).below
theorem below_sets9 {w W : World} (h : Below w.heap.size w W) {b : Nat} (hp : w.heap.size ≤ b) (v0 v1 v2 v3 v4 v5 v6 v7 v8 : Value) :
    Below w.heap.size w (((((((((W.setCell ⟨b, 0, none⟩ v0).setCell ⟨b, 1, none⟩ v1).setCell ⟨b, 2, none⟩ v2).setCell ⟨b, 3, none⟩ v3).setCell ⟨b, 4, none⟩ v4).setCell ⟨b, 5, none⟩ v5).setCell ⟨b, 6, none⟩ v6).setCell ⟨b, 7, none⟩ v7).setCell ⟨b, 8, none⟩ v8) :=
  below_set (below_set (below_set (below_set (below_set (below_set (below_set (below_set (below_set h hp _) hp _) hp _) hp _) hp _) hp _) hp _) hp _) hp _

/-- What Ask says. -/
def askE (s : Sk) (n : Nat) : Int := if s.asks = true then 10 else if 0 < s.wait then 11 else if 1024 < n then 3 else 0
def askS (c : Cf) (s : Sk) (b : List Int) (poll : Bool) : Sk := { s with asks := true, sent := 1, left := c.ack, poll := poll, b := b }

set_option maxHeartbeats 2000000 in
theorem oaskNo {w : World} {F : Nat → Prop} {o : Nat} {c : Cf} {near there : Int} {s : Sk} (h : OnA w F o c near there s) (ba : Option Addr) (n bc : Nat) (poll : Bool) (he : askE s n ≠ 0) :
    Calls Try.prog 11 #[.pointer (some ⟨o, 0, none⟩), .slice ba n bc, .bool poll] w fun e w' => e = .returned (.tuple #[pdV zeroPd (.slice none 0 0), .int .i64 (askE s n)]) ∧ Below w.heap.size w w' := by
  obtain ⟨q, v, h, hF⟩ := h
  have c0 : w.cell? ⟨o, 0, none⟩ = some (.int .i64 c.tries) := blk_cell h.blk 0
  have c6 : w.cell? ⟨o, 6, none⟩ = some (.bool s.asks) := blk_cell h.blk 6
  have c18 : w.cell? ⟨o, 18, none⟩ = some (.int .i64 s.wait) := blk_cell h.blk 18
  have ho := lt_of_block h.blk
  have ht : ¬ c.tries = 0 := by have := h.c.1; omega
  have hres : Try.f11.results = #[.cell 6 33, .tmp 7] := by kernel_rfl
  have Hres := Lib.hid hres
  clear h hF hres
  cases ha : s.asks with
  | true =>
    have e1 : askE s n = 10 := by unfold askE; rw [if_pos ha]
    rw [ha] at c6
    rw [e1]
    clear he e1 ha
    go_enter Try.func11, Try.ntmps11
    go_wp2_with fail
    refine bodyPost_ret (v := .tuple #[pdV zeroPd (.slice none 0 0), .int .i64 10]) ?_ rfl ?_
    · simp only [results, Hres.out]
      go_simp
    · exact ⟨rfl, (Below.refl _ w).alloc (Nat.le_refl _) _⟩
  | false =>
    rw [ha] at c6
    by_cases hw : 0 < s.wait
    · have e1 : askE s n = 11 := by unfold askE; rw [if_neg (by simp [ha]), if_pos hw]
      have hd : decide (0 < s.wait) = true := by simpa using hw
      rw [e1]
      clear he e1 ha hw
      go_enter Try.func11, Try.ntmps11
      go_wp2_with fail
      refine bodyPost_ret (v := .tuple #[pdV zeroPd (.slice none 0 0), .int .i64 11]) ?_ rfl ?_
      · simp only [results, Hres.out]
        go_simp
      · exact ⟨rfl, (Below.refl _ w).alloc (Nat.le_refl _) _⟩
    · have hd : decide (0 < s.wait) = false := by simpa using hw
      by_cases hn : 1024 < n
      · have e1 : askE s n = 3 := by unfold askE; rw [if_neg (by simp [ha]), if_neg hw, if_pos hn]
        have hd2 : decide ((1024 : Int) < (n : Int)) = true := by simp; omega
        rw [e1]
        clear he e1 ha hw
        go_enter Try.func11, Try.ntmps11
        go_wp2_with fail
        refine bodyPost_ret (v := .tuple #[pdV zeroPd (.slice none 0 0), .int .i64 3]) ?_ rfl ?_
        · simp only [results, Hres.out]
          go_simp
        · exact ⟨rfl, (Below.refl _ w).alloc (Nat.le_refl _) _⟩
      · exact absurd (by unfold askE; rw [if_neg (by simp [ha]), if_neg hw, if_neg hn]) he

theorem rd_but {w w' : World} {o k n : Nat} {v : Value} {xs : List Value} (h : Rd w k v n xs) (hf : Fr (fun b => b = o) w w') (hd : ∀ g, v.ownBlock = some g → g ≠ o) : Rd w' k v n xs := Rd.fr h hf (fun g hg e => hd g hg e)
/-- The nine cells of its PDU are laid. -/
theorem sets_p {W : World} {o : Nat} {a0 a1 a2 a3 a4 a5 a6 a7 a8 a9 a10 a11 a12 a13 a14 a15 a16 a17 a18 : Value} (h : W.heap[o]? = some (.cells #[a0, a1, a2, a3, a4, a5, a6, a7, a8, a9, a10, a11, a12, a13, a14, a15, a16, a17, a18] 70 (0, 0))) (u0 u1 u2 u3 u4 u5 u6 u7 u8 : Value) :
    (((((((((W.setCell ⟨o, 7, none⟩ u0).setCell ⟨o, 8, none⟩ u1).setCell ⟨o, 9, none⟩ u2).setCell ⟨o, 10, none⟩ u3).setCell ⟨o, 11, none⟩ u4).setCell ⟨o, 12, none⟩ u5).setCell ⟨o, 13, none⟩ u6).setCell ⟨o, 14, none⟩ u7).setCell ⟨o, 15, none⟩ u8).heap[o]? = some (.cells #[a0, a1, a2, a3, a4, a5, a6, u0, u1, u2, u3, u4, u5, u6, u7, u8, a16, a17, a18] 70 (0, 0)) ∧ Fr (fun b => b = o) W (((((((((W.setCell ⟨o, 7, none⟩ u0).setCell ⟨o, 8, none⟩ u1).setCell ⟨o, 9, none⟩ u2).setCell ⟨o, 10, none⟩ u3).setCell ⟨o, 11, none⟩ u4).setCell ⟨o, 12, none⟩ u5).setCell ⟨o, 13, none⟩ u6).setCell ⟨o, 14, none⟩ u7).setCell ⟨o, 15, none⟩ u8) := by
  refine ⟨?_, (((((((((Fr.refl (fun b => b = o) W).setCell (p := ⟨o, 7, none⟩) (fun _ => rfl) u0).setCell (p := ⟨o, 8, none⟩) (fun _ => rfl) u1).setCell (p := ⟨o, 9, none⟩) (fun _ => rfl) u2).setCell (p := ⟨o, 10, none⟩) (fun _ => rfl) u3).setCell (p := ⟨o, 11, none⟩) (fun _ => rfl) u4).setCell (p := ⟨o, 12, none⟩) (fun _ => rfl) u5).setCell (p := ⟨o, 13, none⟩) (fun _ => rfl) u6).setCell (p := ⟨o, 14, none⟩) (fun _ => rfl) u7).setCell (p := ⟨o, 15, none⟩) (fun _ => rfl) u8⟩
  have h0 := heap_setCell_same h (i := 7) u0
  have h1 := heap_setCell_same h0 (i := 8) u1
  have h2 := heap_setCell_same h1 (i := 9) u2
  have h3 := heap_setCell_same h2 (i := 10) u3
  have h4 := heap_setCell_same h3 (i := 11) u4
  have h5 := heap_setCell_same h4 (i := 12) u5
  have h6 := heap_setCell_same h5 (i := 13) u6
  have h7 := heap_setCell_same h6 (i := 14) u7
  have h8 := heap_setCell_same h7 (i := 15) u8
  simpa using h8

theorem set_off {o i j : Nat} (h : j ≠ i) (W : World) (u : Value) : (W.setCell ⟨o, j, none⟩ u).cell? ⟨o, i, none⟩ = W.cell? ⟨o, i, none⟩ := World.cell?_setCell_other (w := W) (a := ⟨o, j, none⟩) (b := ⟨o, i, none⟩) u (fun e => h (by injection e))
theorem sets_345 {W : World} {o : Nat} {a b c : Value} (h3 : W.cell? ⟨o, 3, none⟩ = some a) (h4 : W.cell? ⟨o, 4, none⟩ = some b) (h5 : W.cell? ⟨o, 5, none⟩ = some c) (u0 u1 u2 u3 u4 u5 u6 u7 u8 : Value) :
    (((((((((W.setCell ⟨o, 7, none⟩ u0).setCell ⟨o, 8, none⟩ u1).setCell ⟨o, 9, none⟩ u2).setCell ⟨o, 10, none⟩ u3).setCell ⟨o, 11, none⟩ u4).setCell ⟨o, 12, none⟩ u5).setCell ⟨o, 13, none⟩ u6).setCell ⟨o, 14, none⟩ u7).setCell ⟨o, 15, none⟩ u8).cell? ⟨o, 3, none⟩ = some a ∧ (((((((((W.setCell ⟨o, 7, none⟩ u0).setCell ⟨o, 8, none⟩ u1).setCell ⟨o, 9, none⟩ u2).setCell ⟨o, 10, none⟩ u3).setCell ⟨o, 11, none⟩ u4).setCell ⟨o, 12, none⟩ u5).setCell ⟨o, 13, none⟩ u6).setCell ⟨o, 14, none⟩ u7).setCell ⟨o, 15, none⟩ u8).cell? ⟨o, 4, none⟩ = some b ∧ (((((((((W.setCell ⟨o, 7, none⟩ u0).setCell ⟨o, 8, none⟩ u1).setCell ⟨o, 9, none⟩ u2).setCell ⟨o, 10, none⟩ u3).setCell ⟨o, 11, none⟩ u4).setCell ⟨o, 12, none⟩ u5).setCell ⟨o, 13, none⟩ u6).setCell ⟨o, 14, none⟩ u7).setCell ⟨o, 15, none⟩ u8).cell? ⟨o, 5, none⟩ = some c := by
  exact ⟨(set_off (by decide) _ _).trans ((set_off (by decide) _ _).trans ((set_off (by decide) _ _).trans ((set_off (by decide) _ _).trans ((set_off (by decide) _ _).trans ((set_off (by decide) _ _).trans ((set_off (by decide) _ _).trans ((set_off (by decide) _ _).trans ((set_off (by decide) _ _).trans (h3))))))))), (set_off (by decide) _ _).trans ((set_off (by decide) _ _).trans ((set_off (by decide) _ _).trans ((set_off (by decide) _ _).trans ((set_off (by decide) _ _).trans ((set_off (by decide) _ _).trans ((set_off (by decide) _ _).trans ((set_off (by decide) _ _).trans ((set_off (by decide) _ _).trans (h4))))))))), (set_off (by decide) _ _).trans ((set_off (by decide) _ _).trans ((set_off (by decide) _ _).trans ((set_off (by decide) _ _).trans ((set_off (by decide) _ _).trans ((set_off (by decide) _ _).trans ((set_off (by decide) _ _).trans ((set_off (by decide) _ _).trans ((set_off (by decide) _ _).trans (h5)))))))))⟩

set_option maxHeartbeats 4000000 in
theorem oaskYes {w : World} {F : Nat → Prop} {o : Nat} {c : Cf} {near there : Int} {s : Sk} (h : OnA w F o c near there s) (bv : Value) (b : List Int) (hs : ∀ W', Fr (fun x => x = o) w W' → RdB W' bv b) (poll : Bool) (he : askE s b.length = 0) :
    Calls Try.prog 11 #[.pointer (some ⟨o, 0, none⟩), bv, .bool poll] w fun e w' => ∃ v F', e = .returned (.tuple #[pdV (onP near there (askS c s b poll)) v, .int .i64 0]) ∧ OnA w' F' o c near there (askS c s b poll) ∧ Stp F F' w w' ∧ OwnB w.heap.size w' v b ∧ ∀ g, v.ownBlock = some g → ¬ F' g := by
  have hb := hs w (Fr.refl _ _)
  obtain ⟨q, v, h, hF⟩ := h
  have ha : s.asks = false := by
    cases hx : s.asks with
    | false => rfl
    | true => unfold askE at he; rw [if_pos hx] at he; omega
  have hw : ¬ 0 < s.wait := fun hx => by unfold askE at he; rw [if_neg (by simp [ha]), if_pos hx] at he; omega
  have hn : ¬ 1024 < b.length := fun hx => by unfold askE at he; rw [if_neg (by simp [ha]), if_neg hw, if_pos hx] at he; omega
  obtain ⟨ba, bc, rfl⟩ := hb.len
  have hd1 : decide (0 < s.wait) = false := by simpa using hw
  have hd2 : decide ((1024 : Int) < (b.length : Int)) = false := by simp; omega
  have c0 : w.cell? ⟨o, 0, none⟩ = some (.int .i64 c.tries) := blk_cell h.blk 0
  have c6 : w.cell? ⟨o, 6, none⟩ = some (.bool false) := by rw [← ha]; exact blk_cell h.blk 6
  have c16 : w.cell? ⟨o, 16, none⟩ = some (.int .i64 s.sent) := blk_cell h.blk 16
  have c18 : w.cell? ⟨o, 18, none⟩ = some (.int .i64 s.wait) := blk_cell h.blk 18
  have z6 : w.frozen? ⟨o, 6, none⟩ = false := blk_free h.blk 6
  have z16 : w.frozen? ⟨o, 16, none⟩ = false := blk_free h.blk 16
  have ho := lt_of_block h.blk
  have ht : ¬ c.tries = 0 := by have := h.c.1; omega
  have hres : Try.f11.results = #[.cell 6 33, .tmp 7] := by kernel_rfl
  have Hres := Lib.hid hres
  have H := Lib.hid h
  have HF := Lib.hid hF
  have HB := Lib.hid hb
  have HD := Lib.hid hs
  have Hn := Lib.hid hn
  clear h hF hres hb he hw hn ha hs
  go_enter Try.func11, Try.ntmps11
  go_upto_region 10 with fail
  obtain ⟨S1, hS1⟩ : ∃ S1, S1 = (w.setCell ⟨o, 6, none⟩ (.bool true)).setCell ⟨o, 16, none⟩ (.int .i64 0) := ⟨_, rfl⟩
  rw [← hS1]
  have hsz : w.heap.size = S1.heap.size := by rw [hS1]; simp
  have hf1 : Fr (fun b => b = o) w S1 := by rw [hS1]; exact ((Fr.refl (fun b => b = o) w).setCell (p := ⟨o, 6, none⟩) (fun _ => rfl) _).setCell (p := ⟨o, 16, none⟩) (fun _ => rfl) _
  have p1 : S1.heap[o]? = some (.cells #[.int .i64 c.tries, .int .i64 c.ack, .int .i64 c.quiet, .int .i64 near, .int .i64 there, .int .i64 s.bit, .bool true, .int .i64 q.dt, .int .i64 q.fr, .bool q.resp, .int .i64 q.form, .int .i64 q.kind, .int .i64 q.ns, .int .i64 q.nr, .bool q.poll, v, .int .i64 0, .int .i64 s.left, .int .i64 s.wait] 70 (0, 0)) := by
    rw [hS1]
    have e1 := heap_setCell_same H.out.blk (i := 6) (.bool true)
    have e2 := heap_setCell_same e1 (i := 16) (.int .i64 0)
    simpa using e2
  obtain ⟨b0, hb0⟩ : ∃ b, b = w.heap.size := ⟨_, rfl⟩
  obtain ⟨W2, hW2⟩ : ∃ W2, W2 = S1.alloc (.cells pd0 33) := ⟨_, rfl⟩
  rw [← hW2, ← hb0]
  have hal : Below S1.heap.size S1 W2 := by rw [hW2]; exact (Below.refl _ S1).alloc (Nat.le_refl _) _
  have p2 := (hal.block o (lt_of_block p1)).trans p1
  have p0 : W2.heap[b0]? = some (.cells pd0 33 (0, 0)) := by rw [hW2, hb0, hsz]; exact heap_alloc_new' S1 _
  have hno : ∀ g, (Value.slice ba b.length bc).ownBlock = some g → True := fun _ _ => trivial
  have HF2 : Hid (Fr (fun b => b = o) w W2) := hf1.trans' (Fr.of_below hal no) (fun _ _ e => e) (fun _ _ e => e.elim)
  have Hb0 := Lib.hid hb0
  have hb2 : b0 < W2.heap.size := lt_of_block p0
  have k3 : W2.cell? ⟨o, 3, none⟩ = some (.int .i64 near) := blk_cell p2 3
  have k4 : W2.cell? ⟨o, 4, none⟩ = some (.int .i64 there) := blk_cell p2 4
  have k5 : W2.cell? ⟨o, 5, none⟩ = some (.int .i64 s.bit) := blk_cell p2 5
  have n3 : W2.drew.cell? ⟨o, 3, none⟩ = some (.int .i64 near) := k3
  have n4 : W2.drew.cell? ⟨o, 4, none⟩ = some (.int .i64 there) := k4
  have n5 : W2.drew.cell? ⟨o, 5, none⟩ = some (.int .i64 s.bit) := k5
  have P2 := Lib.hid p2
  have P0 := Lib.hid p0
  have Hbit : Hid (0 ≤ s.bit ∧ s.bit ≤ 1000) := by unfold Hid; have := H.out.s.1; omega
  clear hS1 hW2 hsz hf1 p1 hb0 hal p2 p0 hno c0 c6 c16 c18 z6 z16 hd1 hd2 ht
  -- the bytes that are asked are no block of its own
  have HB2 : Hid (RdB W2.drew (.slice ba b.length bc) b) := by
    exact HD.out _ HF2.out.drew
  go_region_held3 (fun w' => w'.cell? ⟨o, 3, none⟩ = some (.int .i64 near) ∧ w'.cell? ⟨o, 4, none⟩ = some (.int .i64 there) ∧ w'.cell? ⟨o, 5, none⟩ = some (.int .i64 s.bit)) (first | with_reducible assumption | with_reducible exact ⟨n3, n4, n5⟩ | with_reducible exact ⟨m3, m4, m5⟩ | with_reducible exact sets_345 m3 m4 m5 _ _ _ _ _ _ _ _ _) (first
    | (go_at_call 26; refine (okind s.bit Hbit.out _).mono ?_; rintro e w2 ⟨rfl, rfl⟩)
    | (go_at_call 27; refine (cloneB _ b W2.drew HB2.out (by have := Hn.out; omega)).mono ?_; rintro e w3 ⟨v', rfl, o3, b3⟩; obtain ⟨ua, uc, hu, _⟩ := own_shape o3; subst hu; have p3 := (b3.block o (lt_of_block P2.out)).trans P2.out; have m3 : w3.cell? ⟨o, 3, none⟩ = some (.int .i64 near) := blk_cell p3 3; have m4 : w3.cell? ⟨o, 4, none⟩ = some (.int .i64 there) := blk_cell p3 4; have m5 : w3.cell? ⟨o, 5, none⟩ = some (.int .i64 s.bit) := blk_cell p3 5; have m7 : w3.cell? ⟨o, 7, none⟩ = some (.int .i64 q.dt) := blk_cell p3 7; have m8 : w3.cell? ⟨o, 8, none⟩ = some (.int .i64 q.fr) := blk_cell p3 8; have m9 : w3.cell? ⟨o, 9, none⟩ = some (.bool q.resp) := blk_cell p3 9; have m10 : w3.cell? ⟨o, 10, none⟩ = some (.int .i64 q.form) := blk_cell p3 10; have m11 : w3.cell? ⟨o, 11, none⟩ = some (.int .i64 q.kind) := blk_cell p3 11; have m12 : w3.cell? ⟨o, 12, none⟩ = some (.int .i64 q.ns) := blk_cell p3 12; have m13 : w3.cell? ⟨o, 13, none⟩ = some (.int .i64 q.nr) := blk_cell p3 13; have m14 : w3.cell? ⟨o, 14, none⟩ = some (.bool q.poll) := blk_cell p3 14; have m15 : w3.cell? ⟨o, 15, none⟩ = some v := blk_cell p3 15; have mz : ∀ i, w3.frozen? ⟨o, i, none⟩ = false := fun i => blk_free p3 i; have B3 := Lib.hid b3; have O3 := Lib.hid o3; have P3 := Lib.hid p3; clear b3 o3 p3)
    | fail)
  all_goals
    have hset := sets_p P3.out (.int .i64 there) (.int .i64 near) (.bool false) (.int .i64 2) (.int .i64 (8 + s.bit)) (.int .i64 0) (.int .i64 0) (.bool poll) (.slice ua b.length uc)
    obtain ⟨W4, hW4⟩ : ∃ W4, W4 = (((((((((w3.setCell ⟨o, 7, none⟩ (.int .i64 there)).setCell ⟨o, 8, none⟩ (.int .i64 near)).setCell ⟨o, 9, none⟩ (.bool false)).setCell ⟨o, 10, none⟩ (.int .i64 2)).setCell ⟨o, 11, none⟩ (.int .i64 (8 + s.bit))).setCell ⟨o, 12, none⟩ (.int .i64 0)).setCell ⟨o, 13, none⟩ (.int .i64 0)).setCell ⟨o, 14, none⟩ (.bool poll)).setCell ⟨o, 15, none⟩ (.slice ua b.length uc)) := ⟨_, rfl⟩
    rw [← hW4] at hset ⊢
    clear hW4 m3 m4 m5 m7 m8 m9 m10 m11 m12 m13 m14 m15 mz k3 k4 k5 n3 n4 n5
    obtain ⟨hb4, hf4⟩ := hset
    have hwn : w.heap.size ≤ W2.heap.size := HF2.out.size
    have hnu : ¬ (Value.slice ua b.length uc).ownBlock = some o := fun e => by have := (O3.out.lt o e).1; simp at this; have := lt_of_block H.out.blk; omega
    have ha4 : OnI W4 o c near there { s with asks := true, sent := 0, poll := poll, b := b } (onP near there (askS c s b poll)) (.slice ua b.length uc) := by
      refine ⟨hb4, own_zero (Own.fr O3.out hf4 (fun g hg (e : g = o) => hnu (by rw [← e]; exact hg))), fun _ => rfl, H.out.c, ?_, by have := Hn.out; show b.length ≤ 1024; omega⟩
      obtain ⟨h1, h2, h3, h4, h5⟩ := H.out.s
      exact ⟨h1, ⟨by show (0 : Int) ≤ 0; decide, by show (0 : Int) ≤ 1000; decide⟩, h3, h4, by have := Hn.out; show b.length ≤ 1024; omega⟩
    have ha5 : Hid (OnA W4 (fun x => x = o ∨ (Value.slice ua b.length uc).ownBlock = some x) o c near there { s with asks := true, sent := 0, poll := poll, b := b }) := ⟨_, _, ha4, fun x => Iff.rfl⟩
    have p4 : W4.heap[b0]? = some (.cells pd0 33 (0, 0)) := by
      have hbo : b0 ≠ o := fun e => by have := Hb0.out; have := lt_of_block H.out.blk; omega
      exact hf4.heap ((B3.out.block b0 (by simpa using hb2)).trans P0.out) hbo
    have hs24 : Hid (W2.heap.size ≤ W4.heap.size) := by unfold Hid; have := B3.out.size; have := hf4.size; simp at *; omega
    have H34 : Hid (w3.heap.size ≤ W4.heap.size) := hf4.size
    have F4 : Hid (Fr (fun b => b = o) w W4) := (HF2.out.drew.trans' (Fr.of_below B3.out no) (fun _ _ e => e) (fun _ _ e => False.elim e)).trans hf4
    have U3 : Hid (∀ g, (Value.slice ua b.length uc).ownBlock = some g → w.heap.size ≤ g) := fun g hg => by have := (O3.out.lt g hg).1; simp at this; omega
    have P4 := Lib.hid p4
    clear ha4 hb4 hf4 p4 hnu hwn
    go_wp2_with fail
    refine (osend ha5.out rfl (by show (0 : Int) ≤ 999; decide)).mono ?_
    rintro e w5 ⟨v5, rfl, o5, a5, f5⟩
    have hbo : b0 ≠ o := fun e => by have := Hb0.out; have := lt_of_block H.out.blk; omega
    have p5 := f5.heap P4.out hbo
    obtain ⟨xa, xc, hx, _⟩ := own_shape o5
    have A5 : Hid (OnA w5 (fun x => x = o ∨ (Value.slice ua b.length uc).ownBlock = some x) o c near there (askS c s b poll)) := a5
    have q0 : ∀ i, w5.frozen? ⟨b0, i, none⟩ = false := fun i => blk_free p5 i
    have r0 : w5.cell? ⟨b0, 0, none⟩ = some (.int .i64 0) := blk_cell p5 0
    have r1 : w5.cell? ⟨b0, 1, none⟩ = some (.int .i64 0) := blk_cell p5 1
    have r2 : w5.cell? ⟨b0, 2, none⟩ = some (.bool false) := blk_cell p5 2
    have r3 : w5.cell? ⟨b0, 3, none⟩ = some (.int .i64 0) := blk_cell p5 3
    have r4 : w5.cell? ⟨b0, 4, none⟩ = some (.int .i64 0) := blk_cell p5 4
    have r5 : w5.cell? ⟨b0, 5, none⟩ = some (.int .i64 0) := blk_cell p5 5
    have r6 : w5.cell? ⟨b0, 6, none⟩ = some (.int .i64 0) := blk_cell p5 6
    have r7 : w5.cell? ⟨b0, 7, none⟩ = some (.bool false) := blk_cell p5 7
    have r8 : w5.cell? ⟨b0, 8, none⟩ = some (.slice none 0 0) := blk_cell p5 8
    have O5 := Lib.hid o5
    have F5 := Lib.hid f5
    subst hx
    clear p5 o5 a5 f5
    go_wp2_with fail
    refine bodyPost_ret (v := .tuple #[pdV (onP near there (askS c s b poll)) (.slice xa b.length xc), .int .i64 0]) ?_ rfl ?_
    · simp only [results, Hres.out]
      go_simp
      exact ⟨rfl, rfl, rfl, rfl, rfl, rfl, rfl, rfl⟩
    · clear r0 r1 r2 r3 r4 r5 r6 r7 r8 q0
      have fin : ∀ W, Fr (fun b => b = b0) w5 W → Hid (∃ F', OnA W F' o c near there (askS c s b poll) ∧ Stp F F' w W ∧ OwnB w.heap.size W (.slice xa b.length xc) b ∧ ∀ g, (Value.slice xa b.length xc).ownBlock = some g → ¬ F' g) := fun W hW => by
        have hb0 := Hb0.out
        have hsz4 := F4.out.size
        have h24 := hs24.out
        have hw2 := HF2.out.size
        have hW4 : W4.heap.size ≤ w5.heap.size := F5.out.size
        have ho := lt_of_block H.out.blk
        refine ⟨_, A5.out.keep (fun x hx => ?_), ⟨?_, ?_⟩, own_base (own_zero (Own.fr O5.out hW (fun g hg (e : g = b0) => ?_))) (fun g hg => ?_), fun g hg hx => ?_⟩
        · refine hW.blk x (A5.out.lt x hx) (fun e => ?_)
          rcases hx with hx | hx
          · omega
          · have := U3.out x hx
            have := (O3.out.lt x hx).1
            simp at this
            omega
        · refine ((F4.out.trans F5.out).trans' hW (T := F) (fun x hx e => ?_) (fun x hx e => ?_))
          · rw [e]; exact (HF.out o).2 (.inl rfl)
          · omega
        · intro x hx
          rcases hx with hx | hx
          · rw [hx]; exact .inl ((HF.out o).2 (.inl rfl))
          · exact .inr (U3.out x hx)
        · have := (O5.out.lt g hg).1
          omega
        · have := (O5.out.lt g hg).1
          omega
        · rcases hx with hx | hx
          · have := (O5.out.lt g hg).1
            omega
          · have := (O5.out.lt g hg).1
            have := own_lt O3.out hx
            have := H34.out
            omega
      have Fin := Lib.hid fin
      clear fin
      obtain ⟨F', h1⟩ := (Fin.out _ ((((((((((Fr.refl (fun b => b = b0) w5).setCell (p := ⟨b0, 0, none⟩) (fun _ => rfl) _).setCell (p := ⟨b0, 1, none⟩) (fun _ => rfl) _).setCell (p := ⟨b0, 2, none⟩) (fun _ => rfl) _).setCell (p := ⟨b0, 3, none⟩) (fun _ => rfl) _).setCell (p := ⟨b0, 4, none⟩) (fun _ => rfl) _).setCell (p := ⟨b0, 5, none⟩) (fun _ => rfl) _).setCell (p := ⟨b0, 6, none⟩) (fun _ => rfl) _).setCell (p := ⟨b0, 7, none⟩) (fun _ => rfl) _).setCell (p := ⟨b0, 8, none⟩) (fun _ => rfl) _)).out
      exact ⟨_, F', rfl, h1⟩
end Go.Proofs.Ytkmeklbmjdbifaa
