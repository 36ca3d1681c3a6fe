/-
  Package queue at lan.Flying: Each, and the iterator that it hands back: it clones the row as it begins.
-/
import Derived.Test.YteihpaikdpdglaaLanE
import Derived.Test.YteihpaikdpdglaaRng
namespace Go.Proofs.Yteihpaikdpdglaa
open Go.RowKit
set_option linter.unusedVariables false
attribute [local go_sem] Oper.semAt_some


theorem cloneAF (sv : Value) (l : List Fl) (w : World) (B : Nat) (h : Own enF 39 2 B w sv l) (hm : l.length ≤ 100000) :
    Calls Try.prog 57 #[sv] w fun e w' => ∃ v', e = .returned v' ∧ Own enF 39 2 w.heap.size w' v' l ∧ Below w.heap.size w w' := by
  rcases own_cases h with ⟨rfl, hl0, _⟩ | ⟨g, cap, rfl, _⟩
  · have hl : l = [] := List.eq_nil_of_length_eq_zero hl0
    subst hl
    have hq := fun (w : World) => Lib.run_eql_slice_nil (P := Try.prog) w 36 39 none 0 0 0 0 Try.underlying36
    clear h hm hl0
    go_enter Try.func57, Try.ntmps57
    go_wp2_with fail
    go_ret
    exact ⟨_, rfl, Own.nil _ _ _ _ _, Below.refl _ _⟩
  · exact cloneF _ _ cap l rfl w h.rd hm

theorem eachF (c : Nat) (w : World) :
    Calls Try.prog 37 #[.pointer (some ⟨c, 0, none⟩)] w fun e w' => e = .returned (.func (.func 56) #[] #[.pointer (some ⟨w.heap.size, 0, none⟩)]) ∧ w'.heap[w.heap.size]? = some (.cells #[.pointer (some ⟨c, 0, none⟩)] 70 (0, 0)) ∧ Below w.heap.size w w' ∧ w'.heap.size = w.heap.size + 1 := by
  go_enter Try.func37, Try.ntmps37
  go_wp2_with fail
  go_ret
  exact ⟨rfl, heap_alloc_new' w _, (Below.refl _ w).alloc (Nat.le_refl _) _, by simp⟩

/-- What comes: the place and the frame. -/
def encsF (p : Fl × Nat) : Array Value := #[.int .i64 p.2, fV p.1]
theorem idx_snocF (l : List Fl) {j : Nat} (hj : j < l.length) : l.zipIdx.take (j + 1) = l.zipIdx.take j ++ [(l[j], j)] := by
  rw [List.take_succ_eq_append_getElem (by simpa using hj)]
  simp

set_option maxRecDepth 100000 in
set_option maxHeartbeats 4000000 in
theorem each1F {α : Type} (pr : α → Fl × Nat) (b c : Nat) (most : Int) (sv : Value) (zs : List α) (ms : List Fl) (hms : zs.map pr = ms.zipIdx) (w : World) (R : List Addr) (hR : ∀ a ∈ R, a.block < w.heap.size) (hR2 : ∀ a ∈ R, ∀ cv, w.cell? a = some cv → ∀ k, cv.ownBlock = some k → k < w.heap.size)
    (hb : w.heap[b]? = some (.cells #[.pointer (some ⟨c, 0, none⟩)] 70 (0, 0))) (h : IsF w c most sv ms) :
    SeqStopsK Fence.wide 1 Try.prog 56 #[.pointer (some ⟨b, 0, none⟩)] (fun p => encsF (pr p)) (Keep R w.heap.size) (fun xs => xs = zs) (fun pre => ∃ j, 0 < j ∧ j ≤ zs.length ∧ pre = zs.take j) zs.length w := by
  intro lp J Jx W hW hJ hJx hY h0
  have HL := Lib.hid (show zs.length = ms.length by have := congrArg List.length hms; simpa using this)
  have HMS := Lib.hid hms
  clear hms
  have hl : ms.length ≤ 10000 := h.len
  have hbW : W.heap[b]? = some (.cells #[.pointer (some ⟨c, 0, none⟩)] 70 (0, 0)) := (hW.block b (lt_of_block hb)).trans hb
  have kb : W.cell? ⟨b, 0, none⟩ = some (.pointer (some ⟨c, 0, none⟩)) := blk_cell hbW 0
  have hq : IsF W c most sv ms := h.below hW
  have HQ := Lib.hid hq
  have HJ := Lib.hid hJ
  have HY := Lib.hid hY
  have HW := Lib.hid hW
  have HR := Lib.hid hR
  have HR2 := Lib.hid hR2
  have H0 := Lib.hid h0
  clear hbW hq hb h hW hJ hJx hY hR hR2 h0
  refine callsIn_of_wp Try.func56 rfl trivial ?_ rfl
  simp only [Try.ntmps56, List.size_toArray, List.length_cons, List.length_nil, Nat.reduceAdd, Nat.reduceSub, Array.replicate_succ, Array.replicate_zero, List.push_toArray, List.append_toArray, List.nil_append, List.cons_append]
  gi_wp2
  refine ⟨trivial, (callsIn_wide (n := 0)).2 ?_⟩
  refine (itemsF W HQ.out).mono ?_
  rintro e W1 ⟨rfl, rfl⟩
  gi_wp2
  refine ⟨trivial, (callsIn_wide (n := 0)).2 ?_⟩
  refine (cloneAF sv ms W1 0 HQ.out.own (by omega)).mono ?_
  rintro e W2 ⟨cv, rfl, ho, hbel⟩
  obtain ⟨a, cap, hcv, hcap, hmax, ha⟩ := own_shape ho
  subst hcv
  have hlen : ms.length ≤ 9223372036854775807 := by omega
  have hJ2 : J [] W2 := HJ.out _ _ _ none H0.out ⟨hbel.os, hbel.tape, hbel.output, hbel.size, fun k hk _ => hbel.block k hk⟩ (fun r e => by cases e)
  have hww : w.heap.size ≤ W1.heap.size := HW.out.size
  have hnr : ∀ g, (Value.slice a ms.length cap).ownBlock = some g → NoRef R W2 g := fun g hg r hr cv hcv e => by
    have h1 : w.cell? r = some cv := by
      rw [← hcv]
      have h2 : W1.cell? r = w.cell? r := HW.out.cell (HR.out r hr)
      have h3 : W2.cell? r = W1.cell? r := hbel.cell (Nat.lt_of_lt_of_le (HR.out r hr) hww)
      rw [h3, h2]
    have := HR2.out r hr cv h1 g e
    have := (ho.lt g hg).1
    omega
  have Inv : Hid (Own enF 39 2 W1.heap.size W2 (.slice a ms.length cap) ms ∧ ∀ g, (Value.slice a ms.length cap).ownBlock = some g → NoRef R W2 g) := ⟨ho, hnr⟩
  have HJ2 := Lib.hid hJ2
  have Ha := Lib.hid ha
  clear ho hbel hJ2 hnr H0 kb hcap hmax ha
  gi_wp2
  gi_loopw [9] (fun i wr => ∃ j : Nat, j ≤ ms.length ∧ i = .int .i64 j ∧ J (zs.take j) wr ∧ Hid (Own enF 39 2 W1.heap.size wr (.slice a ms.length cap) ms ∧ ∀ g, (Value.slice a ms.length cap).ownBlock = some g → NoRef R wr g)) (fun i _ => ms.length - (intOf i).toNat)
  case atStart => exact ⟨0, Nat.zero_le _, rfl, by simpa using HJ2.out, Inv⟩
  case round =>
    obtain ⟨j, hj, rfl, hJs, hor⟩ := hrel
    by_cases hlt : j < ms.length
    · obtain ⟨g, rfl, hg⟩ := Ha.out (by omega)
      have hltz : j < zs.length := by rw [HL.out]; exact hlt
      obtain ⟨pk, hpk⟩ : ∃ pk, pk = zs[j]'hltz := ⟨_, rfl⟩
      obtain ⟨p, hp⟩ : ∃ p, p = ms[j]'hlt := ⟨_, rfl⟩
      have HPR := Lib.hid (show pr pk = (p, j) by
        have h1 : (zs.map pr)[j]? = ms.zipIdx[j]? := by rw [HMS.out]
        rw [List.getElem?_map, List.getElem?_eq_getElem hltz, List.getElem?_eq_getElem (by simpa using hlt)] at h1
        simp at h1
        rw [hpk, hp, h1])
      have HPK := Lib.hid hpk
      clear hpk
      have x0 : wr.cell? ⟨g, j * 2, none⟩ = some (.slice p.a p.n p.c) := by rw [show j * 2 = j * 2 + 0 from rfl, hor.out.1.cell enF_len j 0 hlt (by decide), ← hp]; rfl
      have x1 : wr.cell? ⟨g, j * 2 + 1, none⟩ = some (.int .i64 p.age) := by rw [hor.out.1.cell enF_len j 1 hlt (by decide), ← hp]; rfl
      have hgr : g < wr.heap.size := own_lt hor.out.1 rfl
      have HP := Lib.hid hp
      clear hp
      obtain ⟨W9, hW9⟩ : ∃ W9, W9 = wr.alloc (.cells #[.slice p.a p.n p.c, .int .i64 p.age] 39) := ⟨_, rfl⟩
      have hb9 : Below wr.heap.size wr W9 := by rw [hW9]; exact (Below.refl _ wr).alloc (Nat.le_refl _) _
      have hJ9 : J (zs.take j) W9 := HJ.out _ _ _ none hJs ⟨hb9.os, hb9.tape, hb9.output, hb9.size, fun k hk _ => hb9.block k hk⟩ (fun r e => by cases e)
      obtain ⟨fn, tmps, assign, body, hy, hR⟩ := HY.out _ pk _ hJ9 (by rw [List.length_take]; have := HL.out; omega)
      rw [HPR.out] at hy
      dsimp only [encsF] at hy
      have Ht := Lib.hid (show zs.take (j + 1) = zs.take j ++ [pk] by rw [List.take_succ_eq_append_getElem hltz, HPK.out])
      have HB9 := Lib.hid hb9
      have HORG := Lib.hid (show g < wr.heap.size from hgr)
      have hW9' := hW9
      rw [hW9] at hy
      have HW9 := Lib.hid hW9'
      clear hJs hJ9 hb9 hW9 hW9'
      gi_wp2
      rw [← HW9.out]
      refine hR.mono ?_
      rintro e W3 (⟨rfl, hJ3, hk3⟩ | ⟨rfl, hJx3⟩)
      · obtain ⟨cur, hcur⟩ := own_type hor.out.1 (g := g) rfl
        have hgw : w.heap.size ≤ g := Nat.le_trans hww ((hor.out.1.lt g rfl).1)
        have hcur9 := (HB9.out.block g HORG.out).trans hcur
        have hnr9 : NoRef R W9 g := fun r hr cv hcv e => hor.out.2 g rfl r hr cv ((HB9.out.cell (Nat.lt_of_lt_of_le (HR.out r hr) (Nat.le_trans hww (by have := hor.out.1.lt g rfl; omega)))).symm.trans hcv) e
        obtain ⟨h6, h7⟩ := hk3.same g _ _ _ hgw hcur9 hnr9
        have hor3 : Hid (Own enF 39 2 W1.heap.size W3 (.slice (some ⟨g, 0, none⟩) ms.length cap) ms ∧ ∀ g', (Value.slice (some ⟨g, 0, none⟩) ms.length cap).ownBlock = some g' → NoRef R W3 g') :=
          ⟨own_of_block hor.out.1 (fun g' e => by simp [Value.ownBlock] at e; subst e; rw [h6, hcur]), fun g' e => by simp [Value.ownBlock] at e; subst e; exact h7⟩
        have Hj3 := Lib.hid hJ3
        clear h6 h7 hk3 hJ3 hcur hgw hcur9 hnr9
        gi_wp2
        go_roundw
        case rel => exact ⟨j + 1, by omega, by go_num, by rw [Ht.out]; exact Hj3.out, hor3⟩
        case measure => simp [intOf]; omega
      · gi_wp2
        refine bodyPost_ret (results_none rfl _ _ _) rfl ?_
        exact ⟨⟨_, rfl⟩, .inr ⟨_, ⟨j + 1, by omega, by have := HL.out; omega, Ht.out.symm⟩, hJx3⟩⟩
    · obtain rfl : j = ms.length := by omega
      gi_wp2
      go_end0
      refine ⟨⟨_, rfl⟩, .inl ⟨_, rfl, ?_⟩⟩
      rw [List.take_of_length_le (by rw [HL.out]; exact Nat.le_refl _)] at hJs
      exact hJs
end Go.Proofs.Yteihpaikdpdglaa
