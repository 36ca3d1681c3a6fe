/-
  Package queue at lan.Flying: a row that is nil; Most; Each's iterator at any pointer.
-/
import Derived.Test.YteihpaikdpdglaaLanF
namespace Go.Proofs.Yteihpaikdpdglaa
open Go.RowKit
set_option linter.unusedVariables false
attribute [local go_sem] Oper.semAt_some


theorem itemsNil (w : World) : Calls Try.prog 58 #[.pointer none] w fun e w' => e = .returned (.slice none 0 0) ∧ w' = w := by
  go_enter Try.func58, Try.ntmps58
  go_wp2_with fail
  go_ret
  exact ⟨rfl, rfl⟩
theorem lenNil (w : World) : Calls Try.prog 45 #[.pointer none] w fun e w' => e = .returned (.int .i64 0) ∧ w' = w := by
  go_enter Try.func45, Try.ntmps45
  go_wp2_with fail
  refine (itemsNil w).mono ?_
  rintro e w' ⟨rfl, rfl⟩
  go_wp2_with fail
  go_ret
  exact ⟨rfl, rfl⟩
theorem peekNil (w : World) :
    Calls Try.prog 34 #[.pointer none, .int .i64 0] w fun e w' => e = .returned (.tuple #[.agg #[.slice none 0 0, .int .i64 0], .bool false]) ∧ Below w.heap.size w w' := by
  obtain ⟨W, hW⟩ : ∃ W, W = w.alloc (.cells #[.slice none 0 0, .int .i64 0] 39) := ⟨_, rfl⟩
  have hb : Below w.heap.size w W := by rw [hW]; exact (Below.refl _ w).alloc (Nat.le_refl _) _
  obtain ⟨b, hbb⟩ : ∃ b, b = w.heap.size := ⟨_, rfl⟩
  have hn : W.heap[b]? = some (.cells #[.slice none 0 0, .int .i64 0] 39 (0, 0)) := by rw [hW, hbb]; exact heap_alloc_new' w _
  have kb0 : W.cell? ⟨b, 0, none⟩ = some (.slice none 0 0) := blk_cell hn 0
  have kb1 : W.cell? ⟨b, 1, none⟩ = some (.int .i64 0) := blk_cell hn 1
  have kz0 : W.frozen? ⟨b, 0, none⟩ = false := blk_free hn 0
  have kz1 : W.frozen? ⟨b, 1, none⟩ = false := blk_free hn 1
  have hbl : b < W.heap.size := lt_of_block hn
  have Hn := Lib.hid hn
  have HB := Lib.hid hb
  clear hn hb
  go_enter Try.func34, Try.ntmps34
  go_wp2_with fail
  rw [← hW, ← hbb]
  have HBB := Lib.hid hbb
  clear hW hbb
  refine (lenNil W).mono ?_
  rintro e w' ⟨rfl, rfl⟩
  go_wp2_with fail
  have hna := set_heap_same (set_heap_same Hn.out (i := 0) (.slice none 0 0)) (i := 1) (.int .i64 0)
  refine bodyPost_ret (results_row_tmp rfl _ _ b 39 #[.slice none 0 0, .int .i64 0] (0, 0) _ rfl ((heap_alloc_lt _ _ (by simpa using hbl)).trans (by simpa using hna)) Try.underlying39 rfl (by kernel_rfl)) rfl ?_
  refine ⟨rfl, HB.out.trans (Fr.below' (S := fun x => x = b) ((((Fr.refl (fun x => x = b) w').setCell (p := ⟨b, 0, none⟩) (fun _ => rfl) _).setCell (p := ⟨b, 1, none⟩) (fun _ => rfl) _).alloc _) HB.out.size (fun x e => ?_))⟩
  rw [e, HBB.out]
  exact Nat.le_refl _
theorem cutNil (n : Int) (w : World) (hn : n = 0 ∨ n = 1) :
    Calls Try.prog 44 #[.pointer none, .int .i64 n] w fun e w' => e = .returned (.int .i64 0) ∧ w' = w := by
  rcases hn with rfl | rfl
  all_goals
    go_enter Try.func44, Try.ntmps44
    go_wp2_with fail
    refine (lenNil w).mono ?_
    rintro e w' ⟨rfl, rfl⟩
    go_wp2_with fail
    go_ret
    exact ⟨rfl, rfl⟩
theorem takeNil (w : World) :
    Calls Try.prog 36 #[.pointer none] w fun e w' => e = .returned (.tuple #[.agg #[.slice none 0 0, .int .i64 0], .bool false]) ∧ Below w.heap.size w w' := by
  obtain ⟨W, hW⟩ : ∃ W, W = w.alloc (.cells #[.slice none 0 0, .int .i64 0] 39) := ⟨_, rfl⟩
  have hb : Below w.heap.size w W := by rw [hW]; exact (Below.refl _ w).alloc (Nat.le_refl _) _
  obtain ⟨b, hbb⟩ : ∃ b, b = w.heap.size := ⟨_, rfl⟩
  have hn : W.heap[b]? = some (.cells #[.slice none 0 0, .int .i64 0] 39 (0, 0)) := by rw [hW, hbb]; exact heap_alloc_new' w _
  have Hn := Lib.hid hn
  have HB := Lib.hid hb
  clear hn hb
  go_enter Try.func36, Try.ntmps36
  go_wp2_with fail
  rw [← hW, ← hbb]
  have HBB := Lib.hid hbb
  clear hW hbb
  refine (peekNil W).mono ?_
  rintro e w1 ⟨rfl, b1⟩
  have Hn1 := Lib.hid ((b1.block b (lt_of_block Hn.out)).trans Hn.out)
  have HB1 := Lib.hid (HB.out.trans (b1.mono HB.out.size))
  obtain ⟨W2, hW2⟩ : ∃ W2, W2 = w1.alloc (.cells #[.slice none 0 0, .int .i64 0] 39) := ⟨_, rfl⟩
  obtain ⟨q, hq⟩ : ∃ q, q = w1.heap.size := ⟨_, rfl⟩
  have hb2 : Below w1.heap.size w1 W2 := by rw [hW2]; exact (Below.refl _ w1).alloc (Nat.le_refl _) _
  have hq2 : W2.heap[q]? = some (.cells #[.slice none 0 0, .int .i64 0] 39 (0, 0)) := by rw [hW2, hq]; exact heap_alloc_new' w1 _
  have Hq2 := Lib.hid hq2
  have Hn2 := Lib.hid ((hb2.block b (lt_of_block Hn1.out)).trans Hn1.out)
  have HB2 := Lib.hid (HB1.out.trans (hb2.mono HB1.out.size))
  clear b1 hb2 hq2
  go_wp2_with fail
  rw [← hW2, ← hq]
  clear hW2 hq
  refine (cutNil 1 W2 (.inr rfl)).mono ?_
  rintro e w3 ⟨rfl, rfl⟩
  have kb0 : w3.cell? ⟨b, 0, none⟩ = some (.slice none 0 0) := blk_cell Hn2.out 0
  have kb1 : w3.cell? ⟨b, 1, none⟩ = some (.int .i64 0) := blk_cell Hn2.out 1
  have kz0 : w3.frozen? ⟨b, 0, none⟩ = false := blk_free Hn2.out 0
  have kz1 : w3.frozen? ⟨b, 1, none⟩ = false := blk_free Hn2.out 1
  have kq0 : w3.cell? ⟨q, 0, none⟩ = some (.slice none 0 0) := blk_cell Hq2.out 0
  have kq1 : w3.cell? ⟨q, 1, none⟩ = some (.int .i64 0) := blk_cell Hq2.out 1
  go_wp2_with fail
  refine bodyPost_ret (results_row_tmp rfl _ _ b 39 #[.slice none 0 0, .int .i64 0] (0, 0) _ rfl (by have := set_heap_same (set_heap_same Hn2.out (i := 0) (.slice none 0 0)) (i := 1) (.int .i64 0); simpa using this) Try.underlying39 rfl (by kernel_rfl)) rfl ?_
  refine ⟨rfl, HB2.out.trans (Fr.below' (S := fun x => x = b) (((Fr.refl (fun x => x = b) w3).setCell (p := ⟨b, 0, none⟩) (fun _ => rfl) _).setCell (p := ⟨b, 1, none⟩) (fun _ => rfl) _) HB2.out.size (fun x e => ?_))⟩
  rw [e, HBB.out]
  exact Nat.le_refl _
theorem mostF {c : Nat} {most : Int} {sv : Value} {l : List Fl} (w : World) (h : IsF w c most sv l) :
    Calls Try.prog 41 #[.pointer (some ⟨c, 0, none⟩)] w fun e w' => e = .returned (.int .i64 most) ∧ w' = w := by
  have c0 := h.cell0
  clear h
  go_enter Try.func41, Try.ntmps41
  go_wp2_with fail
  go_ret
  exact ⟨rfl, rfl⟩
theorem eachP (qv : Value) (w : World) (hq : ∃ a, qv = .pointer a) :
    Calls Try.prog 37 #[qv] w fun e w' => e = .returned (.func (.func 56) #[] #[.pointer (some ⟨w.heap.size, 0, none⟩)]) ∧ w'.heap[w.heap.size]? = some (.cells #[qv] 70 (0, 0)) ∧ Below w.heap.size w w' ∧ w'.heap.size = w.heap.size + 1 := by
  obtain ⟨a, rfl⟩ := hq
  go_enter Try.func37, Try.ntmps37
  go_wp2_with fail
  go_ret
  exact ⟨rfl, heap_alloc_new' w _, (Below.refl _ w).alloc (Nat.le_refl _) _, by simp⟩
/-- What Each walks over: a row, or none. -/
structure EaF (w : World) (qv sv : Value) (ms : List Fl) : Prop where
  ptr : ∃ a, qv = .pointer a
  own : Own enF 39 2 0 w sv ms
  items : ∀ W, Below w.heap.size w W → Calls Try.prog 58 #[qv] W fun e w' => e = .returned sv ∧ w' = W
  len : ms.length ≤ 10000
theorem EaF.below {w w' : World} {qv sv : Value} {ms : List Fl} (h : EaF w qv sv ms) (hb : Below w.heap.size w w') : EaF w' qv sv ms :=
  ⟨h.ptr, h.own.keep (fun g hg => hb.block g (own_lt h.own hg)), fun W hW => h.items W (hb.trans (hW.mono hb.size)), h.len⟩
theorem EaF.of {w : World} {c : Nat} {most : Int} {sv : Value} {l : List Fl} (h : IsF w c most sv l) : EaF w (.pointer (some ⟨c, 0, none⟩)) sv l :=
  ⟨⟨_, rfl⟩, h.own, fun W hW => itemsF W (h.below hW), h.len⟩
theorem EaF.nil (w : World) : EaF w (.pointer none) (.slice none 0 0) [] := ⟨⟨_, rfl⟩, Own.nil _ _ _ _ _, fun W _ => itemsNil W, by simp⟩
set_option maxRecDepth 100000 in
set_option maxHeartbeats 4000000 in
theorem each1P {α : Type} (pr : α → Fl × Nat) (b : Nat) (qv sv : Value) (zs : List α) (ms : List Fl) (hms : zs.map pr = ms.zipIdx) (w : World) (R : List Addr) (hR : ∀ a ∈ R, a.block < w.heap.size) (hR2 : ∀ a ∈ R, ∀ cv, w.cell? a = some cv → ∀ k, cv.ownBlock = some k → k < w.heap.size)
    (hb : w.heap[b]? = some (.cells #[qv] 70 (0, 0))) (h : EaF w qv sv ms) :
    SeqStopsK Fence.wide 1 Try.prog 56 #[.pointer (some ⟨b, 0, none⟩)] (fun p => encsF (pr p)) (Keep R w.heap.size) (fun xs => xs = zs) (fun pre => ∃ j, 0 < j ∧ j ≤ zs.length ∧ pre = zs.take j) zs.length w := by
  intro lp J Jx W hW hJ hJx hY h0
  have HL := Lib.hid (show zs.length = ms.length by have := congrArg List.length hms; simpa using this)
  have HMS := Lib.hid hms
  clear hms
  have hl : ms.length ≤ 10000 := h.len
  obtain ⟨qa, rfl⟩ := h.ptr
  have hbW : W.heap[b]? = some (.cells #[.pointer qa] 70 (0, 0)) := (hW.block b (lt_of_block hb)).trans hb
  have kb : W.cell? ⟨b, 0, none⟩ = some (.pointer qa) := blk_cell hbW 0
  have hq : EaF W (.pointer qa) sv ms := h.below hW
  have HQ := Lib.hid hq
  have HJ := Lib.hid hJ
  have HY := Lib.hid hY
  have HW := Lib.hid hW
  have HR := Lib.hid hR
  have HR2 := Lib.hid hR2
  have H0 := Lib.hid h0
  clear hbW hq hb h hW hJ hJx hY hR hR2 h0
  refine callsIn_of_wp Try.func56 rfl trivial ?_ rfl
  simp only [Try.ntmps56, List.size_toArray, List.length_cons, List.length_nil, Nat.reduceAdd, Nat.reduceSub, Array.replicate_succ, Array.replicate_zero, List.push_toArray, List.append_toArray, List.nil_append, List.cons_append]
  gi_wp2
  refine ⟨trivial, (callsIn_wide (n := 0)).2 ?_⟩
  refine (HQ.out.items W (Below.refl _ _)).mono ?_
  rintro e W1 ⟨rfl, rfl⟩
  gi_wp2
  refine ⟨trivial, (callsIn_wide (n := 0)).2 ?_⟩
  refine (cloneAF sv ms W1 0 HQ.out.own (by omega)).mono ?_
  rintro e W2 ⟨cv, rfl, ho, hbel⟩
  obtain ⟨a, cap, hcv, hcap, hmax, ha⟩ := own_shape ho
  subst hcv
  have hlen : ms.length ≤ 9223372036854775807 := by omega
  have hJ2 : J [] W2 := HJ.out _ _ _ none H0.out ⟨hbel.os, hbel.tape, hbel.output, hbel.size, fun k hk _ => hbel.block k hk⟩ (fun r e => by cases e)
  have hww : w.heap.size ≤ W1.heap.size := HW.out.size
  have hnr : ∀ g, (Value.slice a ms.length cap).ownBlock = some g → NoRef R W2 g := fun g hg r hr cv hcv e => by
    have h1 : w.cell? r = some cv := by
      rw [← hcv]
      have h2 : W1.cell? r = w.cell? r := HW.out.cell (HR.out r hr)
      have h3 : W2.cell? r = W1.cell? r := hbel.cell (Nat.lt_of_lt_of_le (HR.out r hr) hww)
      rw [h3, h2]
    have := HR2.out r hr cv h1 g e
    have := (ho.lt g hg).1
    omega
  have Inv : Hid (Own enF 39 2 W1.heap.size W2 (.slice a ms.length cap) ms ∧ ∀ g, (Value.slice a ms.length cap).ownBlock = some g → NoRef R W2 g) := ⟨ho, hnr⟩
  have HJ2 := Lib.hid hJ2
  have Ha := Lib.hid ha
  clear ho hbel hJ2 hnr H0 kb hcap hmax ha
  gi_wp2
  gi_loopw [9] (fun i wr => ∃ j : Nat, j ≤ ms.length ∧ i = .int .i64 j ∧ J (zs.take j) wr ∧ Hid (Own enF 39 2 W1.heap.size wr (.slice a ms.length cap) ms ∧ ∀ g, (Value.slice a ms.length cap).ownBlock = some g → NoRef R wr g)) (fun i _ => ms.length - (intOf i).toNat)
  case atStart => exact ⟨0, Nat.zero_le _, rfl, by simpa using HJ2.out, Inv⟩
  case round =>
    obtain ⟨j, hj, rfl, hJs, hor⟩ := hrel
    by_cases hlt : j < ms.length
    · obtain ⟨g, rfl, hg⟩ := Ha.out (by omega)
      have hltz : j < zs.length := by rw [HL.out]; exact hlt
      obtain ⟨pk, hpk⟩ : ∃ pk, pk = zs[j]'hltz := ⟨_, rfl⟩
      obtain ⟨p, hp⟩ : ∃ p, p = ms[j]'hlt := ⟨_, rfl⟩
      have HPR := Lib.hid (show pr pk = (p, j) by
        have h1 : (zs.map pr)[j]? = ms.zipIdx[j]? := by rw [HMS.out]
        rw [List.getElem?_map, List.getElem?_eq_getElem hltz, List.getElem?_eq_getElem (by simpa using hlt)] at h1
        simp at h1
        rw [hpk, hp, h1])
      have HPK := Lib.hid hpk
      clear hpk
      have x0 : wr.cell? ⟨g, j * 2, none⟩ = some (.slice p.a p.n p.c) := by rw [show j * 2 = j * 2 + 0 from rfl, hor.out.1.cell enF_len j 0 hlt (by decide), ← hp]; rfl
      have x1 : wr.cell? ⟨g, j * 2 + 1, none⟩ = some (.int .i64 p.age) := by rw [hor.out.1.cell enF_len j 1 hlt (by decide), ← hp]; rfl
      have hgr : g < wr.heap.size := own_lt hor.out.1 rfl
      have HP := Lib.hid hp
      clear hp
      obtain ⟨W9, hW9⟩ : ∃ W9, W9 = wr.alloc (.cells #[.slice p.a p.n p.c, .int .i64 p.age] 39) := ⟨_, rfl⟩
      have hb9 : Below wr.heap.size wr W9 := by rw [hW9]; exact (Below.refl _ wr).alloc (Nat.le_refl _) _
      have hJ9 : J (zs.take j) W9 := HJ.out _ _ _ none hJs ⟨hb9.os, hb9.tape, hb9.output, hb9.size, fun k hk _ => hb9.block k hk⟩ (fun r e => by cases e)
      obtain ⟨fn, tmps, assign, body, hy, hR⟩ := HY.out _ pk _ hJ9 (by rw [List.length_take]; have := HL.out; omega)
      rw [HPR.out] at hy
      dsimp only [encsF] at hy
      have Ht := Lib.hid (show zs.take (j + 1) = zs.take j ++ [pk] by rw [List.take_succ_eq_append_getElem hltz, HPK.out])
      have HB9 := Lib.hid hb9
      have HORG := Lib.hid (show g < wr.heap.size from hgr)
      have hW9' := hW9
      rw [hW9] at hy
      have HW9 := Lib.hid hW9'
      clear hJs hJ9 hb9 hW9 hW9'
      gi_wp2
      rw [← HW9.out]
      refine hR.mono ?_
      rintro e W3 (⟨rfl, hJ3, hk3⟩ | ⟨rfl, hJx3⟩)
      · obtain ⟨cur, hcur⟩ := own_type hor.out.1 (g := g) rfl
        have hgw : w.heap.size ≤ g := Nat.le_trans hww ((hor.out.1.lt g rfl).1)
        have hcur9 := (HB9.out.block g HORG.out).trans hcur
        have hnr9 : NoRef R W9 g := fun r hr cv hcv e => hor.out.2 g rfl r hr cv ((HB9.out.cell (Nat.lt_of_lt_of_le (HR.out r hr) (Nat.le_trans hww (by have := hor.out.1.lt g rfl; omega)))).symm.trans hcv) e
        obtain ⟨h6, h7⟩ := hk3.same g _ _ _ hgw hcur9 hnr9
        have hor3 : Hid (Own enF 39 2 W1.heap.size W3 (.slice (some ⟨g, 0, none⟩) ms.length cap) ms ∧ ∀ g', (Value.slice (some ⟨g, 0, none⟩) ms.length cap).ownBlock = some g' → NoRef R W3 g') :=
          ⟨own_of_block hor.out.1 (fun g' e => by simp [Value.ownBlock] at e; subst e; rw [h6, hcur]), fun g' e => by simp [Value.ownBlock] at e; subst e; exact h7⟩
        have Hj3 := Lib.hid hJ3
        clear h6 h7 hk3 hJ3 hcur hgw hcur9 hnr9
        gi_wp2
        go_roundw
        case rel => exact ⟨j + 1, by omega, by go_num, by rw [Ht.out]; exact Hj3.out, hor3⟩
        case measure => simp [intOf]; omega
      · gi_wp2
        refine bodyPost_ret (results_none rfl _ _ _) rfl ?_
        exact ⟨⟨_, rfl⟩, .inr ⟨_, ⟨j + 1, by omega, by have := HL.out; omega, Ht.out.symm⟩, hJx3⟩⟩
    · obtain rfl : j = ms.length := by omega
      gi_wp2
      go_end0
      refine ⟨⟨_, rfl⟩, .inl ⟨_, rfl, ?_⟩⟩
      rw [List.take_of_length_le (by rw [HL.out]; exact Nat.le_refl _)] at hJs
      exact hJs
end Go.Proofs.Yteihpaikdpdglaa
