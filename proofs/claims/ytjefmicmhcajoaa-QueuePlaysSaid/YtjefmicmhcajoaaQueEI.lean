/-
  Package queue: Each, and the iterator that it hands back: it clones the row as it begins.
-/
import Derived.Test.YtjefmicmhcajoaaQue4I
import Derived.Test.YtjefmicmhcajoaaRng
namespace Go.Proofs.Ytjefmicmhcajoaa
open Go.RowKit
set_option linter.unusedVariables false
attribute [local go_sem] Oper.semAt_some


theorem eachQI (c : Nat) (w : World) :
    Calls Try.prog 40 #[.pointer (some ⟨c, 0, none⟩)] w fun e w' => e = .returned (.func (.func 51) #[] #[.pointer (some ⟨w.heap.size, 0, none⟩)]) ∧ w'.heap[w.heap.size]? = some (.cells #[.pointer (some ⟨c, 0, none⟩)] 30 (0, 0)) ∧ Below w.heap.size w w' ∧ w'.heap.size = w.heap.size + 1 := by
  go_enter Try.func40, Try.ntmps40
  go_wp2_with fail
  go_ret
  exact ⟨rfl, heap_alloc_new' w _, (Below.refl _ w).alloc (Nat.le_refl _) _, by simp⟩

/-- slices.Clone of a row that is owned, nil too. -/
theorem cloneAI (sv : Value) (l : List Value) (w : World) (B : Nat) (h : Own enQ 3 1 B w sv l) (h1 : ∀ v ∈ l, v.oneCell' = true) (hm : l.length ≤ 100000) :
    Calls Try.prog 44 #[sv] w fun e w' => ∃ v', e = .returned v' ∧ Own enQ 3 1 w.heap.size w' v' l ∧ Below w.heap.size w w' := by
  rcases own_cases h with ⟨rfl, hl0, _⟩ | ⟨g, cap, rfl, _⟩
  · have hl : l = [] := List.eq_nil_of_length_eq_zero hl0
    subst hl
    have hq := fun (w : World) => Lib.run_eql_slice_nil (P := Try.prog) w 42 3 none 0 0 0 0 Try.underlying42
    clear h h1 hm hl0
    go_enter Try.func44, Try.ntmps44
    go_wp2_with fail
    go_ret
    exact ⟨_, rfl, Own.nil _ _ _ _ _, Below.refl _ _⟩
  · exact cloneQI _ cap l w h.rd h1 hm

/-- What comes: the place and the item. -/
def encsQI (p : Int × Nat) : Array Value := #[.int .i64 p.2, Value.int .i64 p.1]
/-- The items. -/
abbrev ivsI (zs : List Int) : List Value := zs.map fun z => Value.int .i64 z
theorem ivsI_len (zs : List Int) : (ivsI zs).length = zs.length := by simp

theorem idx_snocI (l : List Int) {j : Nat} (hj : j < l.length) : l.zipIdx.take (j + 1) = l.zipIdx.take j ++ [(l[j], j)] := by
  rw [List.take_succ_eq_append_getElem (by simpa using hj)]
  simp

set_option maxRecDepth 100000 in
set_option maxHeartbeats 4000000 in
theorem each1QI (b c : Nat) (most : Int) (sv : Value) (zs : List Int) (w : World) (B : Nat) (R : List Addr) (hR : ∀ a ∈ R, a.block < w.heap.size) (hR2 : ∀ a ∈ R, ∀ cv, w.cell? a = some cv → ∀ k, cv.ownBlock = some k → k < w.heap.size)
    (hb : w.heap[b]? = some (.cells #[.pointer (some ⟨c, 0, none⟩)] 30 (0, 0))) (h : IsQI w B c most sv (ivsI zs)) (hl : zs.length ≤ 100000) :
    SeqStopsK Fence.wide 1 Try.prog 51 #[.pointer (some ⟨b, 0, none⟩)] encsQI (Keep R w.heap.size) (fun xs => xs = zs.zipIdx) (fun pre => ∃ j, 0 < j ∧ j ≤ zs.length ∧ pre = zs.zipIdx.take j) zs.length w := by
  intro lp J Jx W hW hJ hJx hY h0
  have hbW : W.heap[b]? = some (.cells #[.pointer (some ⟨c, 0, none⟩)] 30 (0, 0)) := (hW.block b (lt_of_block hb)).trans hb
  have kb : W.cell? ⟨b, 0, none⟩ = some (.pointer (some ⟨c, 0, none⟩)) := blk_cell hbW 0
  have hq := h.below hW
  have HQ := Lib.hid hq
  have HJ := Lib.hid hJ
  have HY := Lib.hid hY
  have HW := Lib.hid hW
  have HR := Lib.hid hR
  have HR2 := Lib.hid hR2
  have H0 := Lib.hid h0
  clear hbW hq hb h hW hJ hJx hY hR hR2 h0
  refine callsIn_of_wp Try.func51 rfl trivial ?_ rfl
  simp only [Try.ntmps51, List.size_toArray, List.length_cons, List.length_nil, Nat.reduceAdd, Nat.reduceSub, Array.replicate_succ, Array.replicate_zero, List.push_toArray, List.append_toArray, List.nil_append, List.cons_append]
  gi_wp2
  refine ⟨trivial, (callsIn_wide (n := 0)).2 ?_⟩
  refine (itemsQI c most sv (ivsI zs) W B HQ.out).mono ?_
  rintro e W1 ⟨rfl, rfl⟩
  gi_wp2
  refine ⟨trivial, (callsIn_wide (n := 0)).2 ?_⟩
  refine (cloneAI sv (ivsI zs) W1 B HQ.out.own HQ.out.one (by simpa using hl)).mono ?_
  rintro e W2 ⟨cv, rfl, ho, hbel⟩
  obtain ⟨a, cap, hcv, hcap, hmax, ha⟩ := own_shape ho
  rw [ivsI_len] at hcv
  subst hcv
  rw [ivsI_len] at hcap ha
  have hlen : zs.length ≤ 9223372036854775807 := by omega
  have hJ2 : J [] W2 := HJ.out _ _ _ none H0.out ⟨hbel.os, hbel.tape, hbel.output, hbel.size, fun k hk _ => hbel.block k hk⟩ (fun r e => by cases e)
  have hww : w.heap.size ≤ W1.heap.size := HW.out.size
  have hnr : ∀ g, (Value.slice a zs.length cap).ownBlock = some g → NoRef R W2 g := fun g hg r hr cv hcv e => by
    have h1 : w.cell? r = some cv := by
      rw [← hcv]
      have h2 : W1.cell? r = w.cell? r := HW.out.cell (HR.out r hr)
      have h3 : W2.cell? r = W1.cell? r := hbel.cell (Nat.lt_of_lt_of_le (HR.out r hr) hww)
      rw [h3, h2]
    have := HR2.out r hr cv h1 g e
    have := (ho.lt g hg).1
    omega
  have Inv : Hid (Own enQ 3 1 W1.heap.size W2 (.slice a zs.length cap) (ivsI zs) ∧ ∀ g, (Value.slice a zs.length cap).ownBlock = some g → NoRef R W2 g) := ⟨ho, hnr⟩
  have HJ2 := Lib.hid hJ2
  have Ha := Lib.hid ha
  clear ho hbel hJ2 hnr H0 kb hcap hmax ha
  gi_wp2
  gi_loopw [9] (fun i wr => ∃ j : Nat, j ≤ zs.length ∧ i = .int .i64 j ∧ J (zs.zipIdx.take j) wr ∧ Hid (Own enQ 3 1 W1.heap.size wr (.slice a zs.length cap) (ivsI zs) ∧ ∀ g, (Value.slice a zs.length cap).ownBlock = some g → NoRef R wr g)) (fun i _ => zs.length - (intOf i).toNat)
  case atStart => exact ⟨0, Nat.zero_le _, rfl, by simpa using HJ2.out, Inv⟩
  case round =>
    obtain ⟨j, hj, rfl, hJs, hor⟩ := hrel
    by_cases hlt : j < zs.length
    · obtain ⟨g, rfl, hg⟩ := Ha.out (by omega)
      have x0 : wr.cell? ⟨g, j, none⟩ = some (Value.int .i64 zs[j]) := by
        have := hor.out.1.cell enQ_len j 0 (by rw [ivsI_len]; exact hlt) (by decide)
        simpa using this
      have hgr : g < wr.heap.size := own_lt hor.out.1 rfl
      obtain ⟨fn, tmps, assign, body, hy, hR⟩ := HY.out _ (zs[j], j) _ hJs (by rw [List.length_take, List.length_zipIdx]; omega)
      dsimp only [encsQI] at hy
      have Ht := Lib.hid (idx_snocI zs hlt)
      clear hJs
      gi_wp2
      refine hR.mono ?_
      rintro e W3 (⟨rfl, hJ3, hk3⟩ | ⟨rfl, hJx3⟩)
      · obtain ⟨cur, hcur⟩ := own_type hor.out.1 (g := g) rfl
        have hgw : w.heap.size ≤ g := Nat.le_trans hww ((hor.out.1.lt g rfl).1)
        obtain ⟨h6, h7⟩ := hk3.same g _ _ _ hgw hcur (hor.out.2 g rfl)
        have hor3 : Hid (Own enQ 3 1 W1.heap.size W3 (.slice (some ⟨g, 0, none⟩) zs.length cap) (ivsI zs) ∧ ∀ g', (Value.slice (some ⟨g, 0, none⟩) zs.length cap).ownBlock = some g' → NoRef R W3 g') :=
          ⟨own_of_block hor.out.1 (fun g' e => by simp [Value.ownBlock] at e; subst e; rw [h6, hcur]), fun g' e => by simp [Value.ownBlock] at e; subst e; exact h7⟩
        have Hj3 := Lib.hid hJ3
        clear h6 h7 hk3 hJ3 hcur hgw
        gi_wp2
        go_roundw
        case rel => exact ⟨j + 1, by omega, by go_num, by rw [Ht.out]; exact Hj3.out, hor3⟩
        case measure => simp [intOf]; omega
      · gi_wp2
        refine bodyPost_ret (results_none rfl _ _ _) rfl ?_
        exact ⟨⟨_, rfl⟩, .inr ⟨_, ⟨j + 1, by omega, by omega, Ht.out.symm⟩, hJx3⟩⟩
    · obtain rfl : j = zs.length := by omega
      gi_wp2
      go_end0
      refine ⟨⟨_, rfl⟩, .inl ⟨_, rfl, ?_⟩⟩
      rw [List.take_of_length_le (by simp)] at hJs
      exact hJs
end Go.Proofs.Ytjefmicmhcajoaa
