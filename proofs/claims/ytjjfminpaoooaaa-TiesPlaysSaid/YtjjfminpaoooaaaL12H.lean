/-
  Package ties: Each, and the iterator that it hands back: it clones the row as it begins.
-/
import Derived.Test.YtjjfminpaoooaaaTieXI
import Derived.Test.YtjjfminpaoooaaaClnTI
import Derived.Test.YtjjfminpaoooaaaRngT
namespace Go.Proofs.Ytjjfminpaoooaaa
open Go.RowKit
set_option linter.unusedVariables false
attribute [local go_sem] Oper.semAt_some


theorem eachT (c : Nat) (w : World) :
    Calls Try.prog 32 #[.pointer (some ⟨c, 0, none⟩)] w fun e w' => e = .returned (.func (.func 44) #[] #[.pointer (some ⟨w.heap.size, 0, none⟩)]) ∧ w'.heap[w.heap.size]? = some (.cells #[.pointer (some ⟨c, 0, none⟩)] 42 (0, 0)) ∧ Below w.heap.size w w' ∧ w'.heap.size = w.heap.size + 1 := by
  go_enter Try.func32, Try.ntmps32
  go_wp2_with fail
  go_ret
  exact ⟨rfl, heap_alloc_new' w _, (Below.refl _ w).alloc (Nat.le_refl _) _, by simp⟩

/-- What comes: the key and the thing. -/
def encsT (p : ItI) : Array Value := #[kyV p.1, .int .i64 p.2]

set_option maxRecDepth 100000 in
set_option maxHeartbeats 4000000 in
theorem each1T (b c : Nat) (most : Int) (sv : Value) (zs : List ItI) (w : World) (R : List Addr) (hR : ∀ a ∈ R, a.block < w.heap.size) (hR2 : ∀ a ∈ R, ∀ cv, w.cell? a = some cv → ∀ k, cv.ownBlock = some k → k < w.heap.size)
    (hb : w.heap[b]? = some (.cells #[.pointer (some ⟨c, 0, none⟩)] 42 (0, 0))) (h : TbII w c most sv zs) :
    SeqStopsK Fence.wide 1 Try.prog 44 #[.pointer (some ⟨b, 0, none⟩)] encsT (KeepT 28 R w.heap.size) (fun xs => xs = zs) (fun pre => ∃ j, 0 < j ∧ j ≤ zs.length ∧ pre = zs.take j) zs.length w := by
  intro lp J Jx W hW hJ hJx hY h0
  have hl : zs.length ≤ 100000 := h.len
  have hbW : W.heap[b]? = some (.cells #[.pointer (some ⟨c, 0, none⟩)] 42 (0, 0)) := (hW.block b (lt_of_block hb)).trans hb
  have kb : W.cell? ⟨b, 0, none⟩ = some (.pointer (some ⟨c, 0, none⟩)) := blk_cell hbW 0
  have hq : TbII W c most sv zs := h.below hW
  have kc1 : W.cell? ⟨c, 1, none⟩ = some sv := blk_cell hq.blk 1
  have HQ := Lib.hid hq
  have HJ := Lib.hid hJ
  have HY := Lib.hid hY
  have HW := Lib.hid hW
  have HR := Lib.hid hR
  have HR2 := Lib.hid hR2
  have H0 := Lib.hid h0
  clear hbW hq hb h hW hJ hJx hY hR hR2 h0
  refine callsIn_of_wp Try.func44 rfl trivial ?_ rfl
  simp only [Try.ntmps44, List.size_toArray, List.length_cons, List.length_nil, Nat.reduceAdd, Nat.reduceSub, Array.replicate_succ, Array.replicate_zero, List.push_toArray, List.append_toArray, List.nil_append, List.cons_append]
  gi_wp2
  refine ⟨trivial, (callsIn_wide (n := 0)).2 ?_⟩
  refine (clone45 enTI enTI_one W 0 sv zs HQ.out.own (by omega)).mono ?_
  rintro e W2 ⟨cv, rfl, ho, hbel⟩
  obtain ⟨a, cap, hcv, hcap, hmax, ha⟩ := own_shape ho
  subst hcv
  have hlen : zs.length ≤ 9223372036854775807 := by omega
  have hJ2 : J [] W2 := HJ.out _ _ _ none H0.out ⟨hbel.os, hbel.tape, hbel.output, hbel.size, fun k hk _ => hbel.block k hk⟩ (fun r e => by cases e)
  have hww : w.heap.size ≤ W.heap.size := HW.out.size
  have hnr : ∀ g, (Value.slice a zs.length cap).ownBlock = some g → NoRef R W2 g := fun g hg r hr cv hcv e => by
    have h1 : w.cell? r = some cv := by
      rw [← hcv]
      have h2 : W.cell? r = w.cell? r := HW.out.cell (HR.out r hr)
      have h3 : W2.cell? r = W.cell? r := hbel.cell (Nat.lt_of_lt_of_le (HR.out r hr) hww)
      rw [h3, h2]
    have := HR2.out r hr cv h1 g e
    have := (ho.lt g hg).1
    omega
  have Inv : Hid (Own enTI 70 9 W.heap.size W2 (.slice a zs.length cap) zs ∧ ∀ g, (Value.slice a zs.length cap).ownBlock = some g → NoRef R W2 g) := ⟨ho, hnr⟩
  have HJ2 := Lib.hid hJ2
  have Ha := Lib.hid ha
  clear ho hbel hJ2 hnr H0 kb kc1 hcap hmax ha
  gi_wp2
  gi_loopw [13] (fun i wr => ∃ j : Nat, j ≤ zs.length ∧ i = .int .i64 j ∧ J (zs.take j) wr ∧ Hid (Own enTI 70 9 W.heap.size wr (.slice a zs.length cap) zs ∧ ∀ g, (Value.slice a zs.length cap).ownBlock = some g → NoRef R wr g)) (fun i _ => zs.length - (intOf i).toNat)
  case atStart => exact ⟨0, Nat.zero_le _, rfl, by simpa using HJ2.out, Inv⟩
  case round =>
    obtain ⟨j, hj, rfl, hJs, hor⟩ := hrel
    by_cases hlt : j < zs.length
    · obtain ⟨g, rfl, hg⟩ := Ha.out (by omega)
      obtain ⟨p, hp⟩ : ∃ p, p = zs[j]'hlt := ⟨_, rfl⟩
      have x0 : wr.cell? ⟨g, j * 9, none⟩ = some (.int .u8 p.1.f0) := by rw [show j * 9 = j * 9 + 0 from rfl, hor.out.1.cell enTI_len j 0 hlt (by decide), ← hp]; rfl
      have x1 : wr.cell? ⟨g, j * 9 + 1, none⟩ = some (.int .u8 p.1.f1) := by rw [hor.out.1.cell enTI_len j 1 hlt (by decide), ← hp]; rfl
      have x2 : wr.cell? ⟨g, j * 9 + 2, none⟩ = some (.int .u8 p.1.f2) := by rw [hor.out.1.cell enTI_len j 2 hlt (by decide), ← hp]; rfl
      have x3 : wr.cell? ⟨g, j * 9 + 3, none⟩ = some (.int .u8 p.1.f3) := by rw [hor.out.1.cell enTI_len j 3 hlt (by decide), ← hp]; rfl
      have x4 : wr.cell? ⟨g, j * 9 + 4, none⟩ = some (.int .u8 p.1.f4) := by rw [hor.out.1.cell enTI_len j 4 hlt (by decide), ← hp]; rfl
      have x5 : wr.cell? ⟨g, j * 9 + 5, none⟩ = some (.int .u8 p.1.f5) := by rw [hor.out.1.cell enTI_len j 5 hlt (by decide), ← hp]; rfl
      have x6 : wr.cell? ⟨g, j * 9 + 6, none⟩ = some (.int .i64 p.1.near) := by rw [hor.out.1.cell enTI_len j 6 hlt (by decide), ← hp]; rfl
      have x7 : wr.cell? ⟨g, j * 9 + 7, none⟩ = some (.int .i64 p.1.there) := by rw [hor.out.1.cell enTI_len j 7 hlt (by decide), ← hp]; rfl
      have x8 : wr.cell? ⟨g, j * 9 + 8, none⟩ = some (.int .i64 p.2) := by rw [hor.out.1.cell enTI_len j 8 hlt (by decide), ← hp]; rfl
      have hgr : g < wr.heap.size := own_lt hor.out.1 rfl
      have HP := Lib.hid hp
      clear hp
      obtain ⟨W9, hW9⟩ : ∃ W9, W9 = wr.alloc (.cells #[.int .u8 p.1.f0, .int .u8 p.1.f1, .int .u8 p.1.f2, .int .u8 p.1.f3, .int .u8 p.1.f4, .int .u8 p.1.f5, .int .i64 p.1.near, .int .i64 p.1.there, .int .i64 p.2] 70) := ⟨_, rfl⟩
      have hb9 : Below wr.heap.size wr W9 := by rw [hW9]; exact (Below.refl _ wr).alloc (Nat.le_refl _) _
      have hJ9 : J (zs.take j) W9 := HJ.out _ _ _ none hJs ⟨hb9.os, hb9.tape, hb9.output, hb9.size, fun k hk _ => hb9.block k hk⟩ (fun r e => by cases e)
      obtain ⟨fn, tmps, assign, body, hy, hR⟩ := HY.out _ p _ hJ9 (by rw [List.length_take]; omega)
      dsimp only [encsT] at hy
      have Ht := Lib.hid (show zs.take (j + 1) = zs.take j ++ [p] by rw [List.take_succ_eq_append_getElem hlt, HP.out])
      have HB9 := Lib.hid hb9
      have HORG := Lib.hid (show g < wr.heap.size from hgr)
      have hW9' := hW9
      rw [hW9] at hy
      have HW9 := Lib.hid hW9'
      clear hJs hJ9 hb9 hW9 hW9'
      gi_wp2
      rw [← HW9.out]
      refine hR.mono ?_
      rintro e W3 (⟨rfl, hJ3, hk3⟩ | ⟨rfl, hJx3⟩)
      · obtain ⟨cur, hcur⟩ := own_type hor.out.1 (g := g) rfl
        have hgw : w.heap.size ≤ g := Nat.le_trans hww ((hor.out.1.lt g rfl).1)
        have hcur9 := (HB9.out.block g HORG.out).trans hcur
        have hnr9 : NoRef R W9 g := fun r hr cv hcv e => hor.out.2 g rfl r hr cv ((HB9.out.cell (Nat.lt_of_lt_of_le (HR.out r hr) (Nat.le_trans hww (by have := hor.out.1.lt g rfl; omega)))).symm.trans hcv) e
        obtain ⟨h6, h7⟩ := hk3.same g _ _ _ hgw (by decide) hcur9 hnr9
        have hor3 : Hid (Own enTI 70 9 W.heap.size W3 (.slice (some ⟨g, 0, none⟩) zs.length cap) zs ∧ ∀ g', (Value.slice (some ⟨g, 0, none⟩) zs.length cap).ownBlock = some g' → NoRef R W3 g') :=
          ⟨own_of_block hor.out.1 (fun g' e => by simp [Value.ownBlock] at e; subst e; rw [h6, hcur]), fun g' e => by simp [Value.ownBlock] at e; subst e; exact h7⟩
        have Hj3 := Lib.hid hJ3
        clear h6 h7 hk3 hJ3 hcur hgw hcur9 hnr9
        gi_wp2
        go_roundw
        case rel => exact ⟨j + 1, by omega, by go_num, by rw [Ht.out]; exact Hj3.out, hor3⟩
        case measure => simp [intOf]; omega
      · gi_wp2
        refine bodyPost_ret (results_none rfl _ _ _) rfl ?_
        exact ⟨⟨_, rfl⟩, .inr ⟨_, ⟨j + 1, by omega, by omega, Ht.out.symm⟩, hJx3⟩⟩
    · obtain rfl : j = zs.length := by omega
      gi_wp2
      go_end0
      refine ⟨⟨_, rfl⟩, .inl ⟨_, rfl, ?_⟩⟩
      rw [List.take_of_length_le (by simp)] at hJs
      exact hJs
end Go.Proofs.Ytjjfminpaoooaaa
