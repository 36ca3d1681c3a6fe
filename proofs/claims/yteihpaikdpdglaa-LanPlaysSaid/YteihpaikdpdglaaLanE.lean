/-
  Package lan: New.
-/
import Derived.Test.YteihpaikdpdglaaLanD
namespace Go.Proofs.Yteihpaikdpdglaa
open Go.RowKit
set_option linter.unusedVariables false


theorem infoP : (Try.prog.info? 70).map (fun i => (i.zero, i.size, i.bytes)) = some (some (.pointer none), 1, 8) := by kernel_rfl
theorem newBadL (row life : Int) (w : World) :
    Calls Try.prog 12 #[.int .i64 0, .int .i64 row, .int .i64 life] w fun e w' => e = .returned (.tuple #[.pointer none, .int .i64 1]) ∧ w' = w := by
  go_enter Try.func12, Try.ntmps12
  go_wp2_with fail
  go_ret2
  exact ⟨rfl, rfl⟩

/-- What New has made when i rows are there. -/
structure NewI (w0 w : World) (t st : Nat) (life row : Int) (rv : Value) (ps : List Nat) : Prop where
  blk : w.heap[t]? = some (.cells #[.int .i64 st, .int .i64 life, .int .i64 0, rv] 69 (0, 0))
  ge : w0.heap.size ≤ t
  rows : Own enP 70 1 w0.heap.size w rv ps
  qs : ∀ c ∈ ps, w0.heap.size ≤ c ∧ w.heap[c]? = some (.cells #[.int .i64 row, .slice none 0 0] 88 (0, 0))
  bel : Below w0.heap.size w0 w
  nd : ps.Nodup

theorem NewI.below {w0 w w' : World} {t st : Nat} {life row : Int} {rv : Value} {ps : List Nat} (h : NewI w0 w t st life row rv ps) (hb : Below w.heap.size w w') : NewI w0 w' t st life row rv ps :=
  ⟨(hb.block t (lt_of_block h.blk)).trans h.blk, h.ge, h.rows.keep (fun g hg => hb.block g (own_lt h.rows hg)), fun c hc => ⟨(h.qs c hc).1, (hb.block c (lt_of_block (h.qs c hc).2)).trans (h.qs c hc).2⟩, h.bel.trans (hb.mono h.bel.size), h.nd⟩
theorem rd_oneP {w : World} {b c : Nat} (h : w.heap[b]? = some (.cells #[.pointer (some ⟨c, 0, none⟩)] 70 (0, 0))) : Rd w 1 (.slice (some ⟨b, 0, none⟩) 1 1) 1 (enP c) := by
  refine ⟨rfl, _, _, rfl, fun e => (by cases e), fun ad e j u hu => ?_⟩
  cases e
  rw [Addr.add_lit, Nat.zero_add, blk_cell h]
  simpa using hu
theorem enP_one (c : Nat) : ∀ u ∈ enP c, u.oneCell' = true := by intro u hu; simp at hu; subst hu; rfl
theorem rd_drewL {w : World} {k n : Nat} {v : Value} {xs : List Value} (h : Rd w k v n xs) : Rd w.drew k v n xs := h
theorem heap_drewL {w : World} {b : Nat} {o : Obj} (h : w.heap[b]? = some o) : w.drew.heap[b]? = some o := h
/-- One row more. -/
theorem new_fin {w0 w W w5 : World} {t st c : Nat} {life row : Int} {rv v5 : Value} {ps : List Nat} (h : NewI w0 w t st life row rv ps) (hb : Below w.heap.size w W) (hc : w.heap.size ≤ c) (hq : W.heap[c]? = some (.cells #[.int .i64 row, .slice none 0 0] 88 (0, 0)))
    (o5 : w5.ownsRow w0.heap.size 70 1 v5 (ps.length + 1) (ps.flatMap enP ++ enP c)) (f5 : Fr (fun b => rv.ownBlock = some b) W w5) :
    w5.heap[t]? = some (.cells #[.int .i64 st, .int .i64 life, .int .i64 0, rv] 69 (0, 0)) ∧ NewI w0 (w5.setCell ⟨t, 3, none⟩ v5) t st life row v5 (ps ++ [c]) := by
  have hW := h.below hb
  have hbt := f5.heap hW.blk (fun e => own_ne hW.rows hW.blk (by decide) e)
  have fs : Fr (fun b => b = t) w5 (w5.setCell ⟨t, 3, none⟩ v5) := (Fr.refl (fun b => b = t) w5).setCell (p := ⟨t, 3, none⟩) (fun _ => rfl) _
  have o6 : Own enP 70 1 w0.heap.size w5 v5 (ps ++ [c]) := Own.snoc (x := c) o5 rfl
  refine ⟨hbt, by have := set_heap_same hbt (i := 3) v5; simpa using this, h.ge, o6.fr fs (fun g hg (e : g = t) => by subst e; exact own_ne o6 hbt (by decide) hg), fun x hx => ?_, ?_, ?_⟩
  · rcases List.mem_append.1 hx with hx | hx
    · obtain ⟨g1, g2⟩ := hW.qs x hx
      have g3 := f5.heap g2 (fun e => own_ne hW.rows g2 (by decide) e)
      exact ⟨g1, fs.heap g3 (fun (e : x = t) => by subst e; rw [hbt] at g3; cases g3)⟩
    · rw [List.mem_singleton.1 hx]
      have g3 := f5.heap hq (fun e => own_ne hW.rows hq (by decide) e)
      exact ⟨Nat.le_trans h.bel.size hc, fs.heap g3 (fun (e : c = t) => by subst e; rw [hbt] at g3; cases g3)⟩
  · exact (hW.bel.trans (f5.below' hW.bel.size (fun b e => (hW.rows.lt b e).1))).trans (fs.below' (Nat.le_trans hW.bel.size f5.size) (fun b (e : b = t) => by rw [e]; exact h.ge))
  · rw [List.nodup_append]
    refine ⟨h.nd, by simp, fun a ha b hb e => ?_⟩
    rw [List.mem_singleton.1 hb] at e
    have := lt_of_block (h.qs a ha).2
    omega

set_option maxHeartbeats 4000000 in
theorem newL (st : Nat) (row life : Int) (hst : 2 ≤ st ∧ st ≤ 16) (hrow : 1 ≤ row ∧ row ≤ 64) (hlife : 1 ≤ life ∧ life ≤ 10000) (w : World) :
    Calls Try.prog 12 #[.int .i64 st, .int .i64 row, .int .i64 life] w fun e w' => ∃ t c, e = .returned (.tuple #[.pointer (some ⟨t, 0, none⟩), .int .i64 0]) ∧ LnX w w' t st life 0 c row [] [] := by
  obtain ⟨i0, hi0, hz0, hz1, hz2⟩ := info_parts infoP
  obtain ⟨hs0, hs1⟩ := hst
  obtain ⟨hr0, hr1⟩ := hrow
  obtain ⟨hl0, hl1⟩ := hlife
  obtain ⟨N, hN⟩ : ∃ N, N = st * st := ⟨_, rfl⟩
  have hN4 : 4 ≤ N := by rw [hN]; exact Nat.mul_le_mul hs0 hs0
  have hN256 : N ≤ 256 := by rw [hN]; exact Nat.mul_le_mul hs1 hs1
  have hNw : IntKind.i64.wrap ((st : Int) * (st : Int)) = (N : Int) := by
    rw [hN, IntWalk.i64_in]
    · simp
    · rw [← Int.natCast_mul, ← hN]; omega
  have e1 : decide ((st : Int) < 1) = false := decide_eq_false (by omega)
  have e2 : decide ((16 : Int) < (st : Int)) = false := decide_eq_false (by omega)
  have e3 : decide (row < 1) = false := decide_eq_false (by omega)
  have e4 : decide (64 < row) = false := decide_eq_false (by omega)
  have e5 : decide (life < 1) = false := decide_eq_false (by omega)
  have e6 : decide (10000 < life) = false := decide_eq_false (by omega)
  have e7 : decide (st < 1) = false := decide_eq_false (by omega)
  have e8 : decide (16 < st) = false := decide_eq_false (by omega)
  have HN := Lib.hid hN
  clear hN
  have ini : NewI w (w.alloc (.cells #[.int .i64 st, .int .i64 life, .int .i64 0, .slice none 0 0] 69)) w.heap.size st life row (.slice none 0 0) [] :=
    ⟨heap_alloc_new' w _, Nat.le_refl _, Own.nil _ _ _ _ _, fun c hc => (by cases hc), (Below.refl _ w).alloc (Nat.le_refl _) _, List.nodup_nil⟩
  have Ini := Lib.hid ini
  clear ini
  obtain ⟨t, ht⟩ : ∃ t, t = w.heap.size := ⟨_, rfl⟩
  go_enter Try.func12, Try.ntmps12
  go_wp2_with fail
  rw [← ht] at Ini ⊢
  have HT := Lib.hid ht
  clear ht
  go_loopw [38] (fun v wr => ∃ i : Nat, i ≤ N ∧ v = .int .i64 i ∧ Hid (∃ rv ps, ps.length = i ∧ NewI w wr t st life row rv ps)) (fun v _ => N - (intOf v).toNat)
  case atStart => exact ⟨0, Nat.zero_le _, rfl, _, [], rfl, Ini.out⟩
  case round =>
    obtain ⟨i, hi, rfl, HX⟩ := hrel
    by_cases hlt : i < N
    · obtain ⟨rv, ps, hpl, hI⟩ := HX.out
      obtain ⟨a, cap, hrv, _⟩ := own_shape hI.rows
      rw [hpl] at hrv
      subst hrv
      have HI := Lib.hid hI
      have HPL := Lib.hid hpl
      have k3 : wr.cell? ⟨t, 3, none⟩ = some (.slice a i cap) := blk_cell hI.blk 3
      have htl : t < wr.heap.size := lt_of_block hI.blk
      have hdl : decide ((i : Int) < (N : Int)) = true := by simpa using hlt
      clear hI hpl HX
      have hB8 : Below wr.heap.size wr ((wr.alloc (.cells #[.int .i64 row, .slice none 0 0] 88)).alloc (.cells #[.pointer (some ⟨wr.heap.size, 0, none⟩)] 70)).drew := (((Below.refl _ wr).alloc (Nat.le_refl _) _).alloc (by simp) _).drew
      have hP8 : ((wr.alloc (.cells #[.int .i64 row, .slice none 0 0] 88)).alloc (.cells #[.pointer (some ⟨wr.heap.size, 0, none⟩)] 70)).drew.heap[wr.heap.size + 1]? = some (.cells #[.pointer (some ⟨wr.heap.size, 0, none⟩)] 70 (0, 0)) := by
        have := heap_alloc_new' (wr.alloc (.cells #[.int .i64 row, .slice none 0 0] 88)) (.cells #[.pointer (some ⟨wr.heap.size, 0, none⟩)] 70)
        exact heap_drewL (by simpa using this)
      have hQ8 : ((wr.alloc (.cells #[.int .i64 row, .slice none 0 0] 88)).alloc (.cells #[.pointer (some ⟨wr.heap.size, 0, none⟩)] 70)).drew.heap[wr.heap.size]? = some (.cells #[.int .i64 row, .slice none 0 0] 88 (0, 0)) := heap_drewL ((heap_alloc_lt _ _ (by simp)).trans (heap_alloc_new' _ _))
      have hO8 : ((wr.alloc (.cells #[.int .i64 row, .slice none 0 0] 88)).alloc (.cells #[.pointer (some ⟨wr.heap.size, 0, none⟩)] 70)).drew.ownsRow w.heap.size 70 1 (.slice a i cap) i (ps.flatMap enP) := by have := (HI.out.below hB8).rows; unfold Own at this; rw [HPL.out] at this; exact this
      have hS8 : w.heap.size ≤ ((wr.alloc (.cells #[.int .i64 row, .slice none 0 0] 88)).alloc (.cells #[.pointer (some ⟨wr.heap.size, 0, none⟩)] 70)).drew.heap.size := (HI.out.below hB8).bel.size
      have H8 := Lib.hid (And.intro hB8 (And.intro hP8 (And.intro hQ8 (And.intro hO8 hS8))))
      clear hB8 hP8 hQ8 hO8 hS8
      go_upto_region 6 with fail
      go_region_law (first
        | (go_simp; go_at_call 30; refine (newF row ⟨by omega, by omega⟩ _).mono ?_; rintro e w' ⟨rfl, rfl⟩)
        | (refine step_app (B := w.heap.size) (v := .slice a i cap) (n := i) (m := 1) rfl (.tmp 44) (.tmp 47) 67 rfl 70 i0 _ 1 _ Try.underlying67 hi0 hz0 hz1 hz2 rfl (by decide) H8.out.2.2.2.2 rfl rfl H8.out.2.2.2.1 (rd_oneP H8.out.2.1) (enP_one _) (by unfold maxLen; omega) (by omega) ?_; intro v5 w5 o5 f5 m5 n5 z5; have fin5 := Lib.hid (new_fin HI.out H8.out.1 (Nat.le_refl _) H8.out.2.2.1 (by rw [HPL.out]; exact o5) f5); have k5 : w5.cell? ⟨t, 3, none⟩ = some (.slice a i cap) := blk_cell fin5.out.1 3; have z5' : w5.frozen? ⟨t, 3, none⟩ = false := blk_free fin5.out.1 3; obtain ⟨a5, c5, hv5, _⟩ := own_shape o5; subst hv5; clear o5 f5 m5 n5 z5)
        | fail)
      all_goals
        clear k3 k5 z5'
        try simp only [Act.put, List.setIfInBounds_toArray, List.set_cons_zero, List.set_cons_succ]
        go_wp2_with fail
        go_roundw
        case rel => exact ⟨i + 1, by omega, by go_num, _, ps ++ [wr.heap.size], by rw [List.length_append, HPL.out]; rfl, fin5.out.2⟩
        case measure => simp [intOf]; omega
    · obtain rfl : i = N := by omega
      obtain ⟨rv, ps, hpl, hI⟩ := HX.out
      have hlen : 1 < ps.length := by omega
      have fin : Hid (LnX w wr t st life 0 (ps[1]'hlen) row [] []) := by
        have hq := hI.qs _ (List.getElem_mem hlen)
        refine ⟨⟨rv, ps, .slice none 0 0, [], ⟨hI.blk, own_zero hI.rows, ⟨hs0, hs1⟩, by rw [hpl, HN.out], List.getElem?_eq_getElem hlen, ⟨hq.2, Own.nil _ _ _ _ _, ⟨by omega, by omega⟩, by simp; omega⟩, ?_⟩, fun b hb => ?_, trivial, List.Pairwise.nil, fun u hu => (by cases hu)⟩, hI.bel, fun r hr => (by cases hr)⟩
        · have hst2 : st < ps.length := by rw [hpl, HN.out]; exact Nat.lt_mul_self_iff.2 (by omega)
          have hq2 := hI.qs _ (List.getElem_mem hst2)
          exact ⟨_, List.getElem?_eq_getElem hst2, fun e => by have := (List.getElem_inj hI.nd).1 e; omega, hq2.2⟩
        rcases hb with rfl | rfl | e
        · exact hI.ge
        · exact hq.1
        · simp [Value.ownBlock] at e
      clear hI
      go_wp2_with fail
      go_ret2
      exact ⟨_, _, rfl, fin.out⟩
end Go.Proofs.Yteihpaikdpdglaa
