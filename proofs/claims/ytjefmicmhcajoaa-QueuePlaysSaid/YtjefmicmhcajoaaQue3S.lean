/-
  Package queue: slices.Clone at a row that is read; Cut; Take.
-/
import Derived.Test.YtjefmicmhcajoaaQue2S
namespace Go.Proofs.Ytjefmicmhcajoaa
open Go.RowKit
set_option linter.unusedVariables false

theorem cloneQS (ad : Addr) (cp : Nat) (l : List Value) (w : World) (h : Rd w 1 (.slice (some ad) l.length cp) l.length (l.flatMap enQ)) (h1 : ∀ v ∈ l, v.oneCell' = true) (hm : l.length ≤ 100000) :
    Calls Try.prog 42 #[.slice (some ad) l.length cp] w fun e w' => ∃ v', e = .returned v' ∧ Own enQ 9 1 w.heap.size w' v' l ∧ Below w.heap.size w w' := by
  obtain ⟨i1, hi1, hz3, hz4, hz5⟩ := info_parts infoQS
  have hq := fun (w : World) => Lib.run_eql_slice_nil (P := Try.prog) w 61 9 (some ad) l.length cp 0 0 Try.underlying61
  have H := Lib.hid h
  have H1 := Lib.hid (enQ_ones h1)
  clear h h1
  go_enter Try.func42, Try.ntmps42
  go_wp2_with (at_builtin; refine held ?_)
  refine unheld ?_
  refine wpList_app (B := w.heap.size) (v := .slice (some ⟨w.heap.size, 0, none⟩) 0 0) rfl (.tmp 5) (.tmp 6) 61 rfl 9 i1 _ 1 _ Try.underlying61 hi1 hz3 hz4 hz5 rfl (by decide) (by simp) rfl rfl (own_empty w _ _ _ (Nat.le_refl _)) (H.out.fr (Fr.of_below ((Below.refl _ w).alloc (Nat.le_refl _) _) no) (fun _ _ e => e)) H1.out (by unfold maxLen; omega) (by omega) ?_
  intro v5 w5 o5 f5 m5 n5 z5
  have f25 := ((Fr.refl (fun b => w.heap.size ≤ b) w).alloc (.cells #[] 9)).trans' f5 (T := fun b => w.heap.size ≤ b) (fun _ _ e => e) (fun b _ e => by simp [Value.ownBlock] at e; omega)
  have fin : Own enQ 9 1 w.heap.size w5 v5 l := by
    unfold Own
    have h := o5
    rw [Nat.zero_add, List.nil_append] at h
    exact h
  have Fin := Lib.hid fin
  have Fb := Lib.hid (f25.below' (Nat.le_refl _) (fun _ e => e))
  clear fin o5 n5 m5 f25 f5
  go_wp2_with fail
  go_ret
  exact ⟨_, rfl, Fin.out, Fb.out⟩

theorem cloneQnS (ad : Addr) (n cp : Nat) (l : List Value) (hn : n = l.length) (w : World) (h : Rd w 1 (.slice (some ad) n cp) n (l.flatMap enQ)) (h1 : ∀ v ∈ l, v.oneCell' = true) (hm : l.length ≤ 100000) :
    Calls Try.prog 42 #[.slice (some ad) n cp] w fun e w' => ∃ v', e = .returned v' ∧ Own enQ 9 1 w.heap.size w' v' l ∧ Below w.heap.size w w' := by
  subst hn
  exact cloneQS ad cp l w h h1 hm

/-- Cut, where nothing goes. -/
theorem cutNoS (n : Int) (c : Nat) (most : Int) (sv : Value) (l : List Value) (w : World) (B : Nat) (h : IsQS w B c most sv l) (hn : min (max n 0) (l.length : Int) = 0) :
    Calls Try.prog 26 #[.pointer (some ⟨c, 0, none⟩), .int .i64 n] w fun e w' => e = .returned (.int .i64 0) ∧ w' = w := by
  have H := Lib.hid h
  clear h
  by_cases hx : 0 ≤ n
  · by_cases hy : n ≤ (l.length : Int)
    · obtain rfl : n = 0 := by omega
      clear hn
      go_enter Try.func26, Try.ntmps26
      go_wp2_with fail
      refine (lenQS c most sv l w B H.out).mono ?_
      rintro e w' ⟨rfl, rfl⟩
      go_wp2_with fail
      go_ret
      exact ⟨rfl, rfl⟩
    · have hl0 : l.length = 0 := by omega
      have Hl := Lib.hid hl0
      have hn1 : 0 < n := by omega
      clear hn hl0 hy hx
      go_enter Try.func26, Try.ntmps26
      go_wp2_with fail
      refine (lenQS c most sv l w B H.out).mono ?_
      rintro e w' ⟨rfl, rfl⟩
      rw [Hl.out]
      go_wp2_with fail
      go_ret
      exact ⟨rfl, rfl⟩
  · have hn1 : n < 0 := by omega
    clear hn hx
    go_enter Try.func26, Try.ntmps26
    go_wp2_with fail
    refine (lenQS c most sv l w B H.out).mono ?_
    rintro e w' ⟨rfl, rfl⟩
    go_wp2_with fail
    go_ret
    exact ⟨rfl, rfl⟩

/-- Cut of the first m. -/
theorem cutYesS (n : Int) (m : Nat) (c : Nat) (most : Int) (sv : Value) (l : List Value) (w : World) (B : Nat) (hB : B ≤ w.heap.size) (h : IsQS w B c most sv l) (hn : min (max n 0) (l.length : Int) = m) (h0 : 0 < m) (hl : l.length ≤ 100000) :
    Calls Try.prog 26 #[.pointer (some ⟨c, 0, none⟩), .int .i64 n] w fun e w' => e = .returned (.int .i64 m) ∧ ∃ sv', IsQS w' B c most sv' (l.drop m) ∧ Mv w sv sv' ∧ Fr (fun b => b = c) w w' := by
  have hml : m ≤ l.length := by omega
  obtain ⟨g, cap, rfl, hg, hc1, hc2⟩ := own_some h.own (by omega)
  have hc3 : cap ≤ 9223372036854775807 := by unfold maxLen at hc2; omega
  have hrd := Own.dropRd enQ_len h.own hml hc1
  have H := Lib.hid h
  have c1 := h.cell1
  have hlt := lt_of_block h.blk
  have hone : ∀ v ∈ l.drop m, v.oneCell' = true := fun v hv => h.one v (List.mem_of_mem_drop hv)
  have hdl : (l.drop m).length ≤ 100000 := by rw [List.length_drop]; omega
  have hdn : l.length - m = (l.drop m).length := by rw [List.length_drop]
  -- behind the clone
  have tail : ∀ (w2 : World) (v' : Value), Own enQ 9 1 w.heap.size w2 v' (l.drop m) → Below w.heap.size w w2 →
      w2.cell? ⟨c, 1, none⟩ = some (.slice (some ⟨g, 0, none⟩) l.length cap) ∧ w2.frozen? ⟨c, 1, none⟩ = false ∧ (∃ a n k, v' = .slice a n k) ∧
      Hid (IsQS (w2.setCell ⟨c, 1, none⟩ v') B c most v' (l.drop m) ∧ Mv w (.slice (some ⟨g, 0, none⟩) l.length cap) v' ∧ Fr (fun b => b = c) w (w2.setCell ⟨c, 1, none⟩ v')) := fun w2 v' ho hb => by
    have hblk := (hb.block c hlt).trans H.out.blk
    have hne : ¬ v'.ownBlock = some c := fun e => by have := (ho.lt c e).1; omega
    obtain ⟨a, k, hv, _⟩ := own_shape ho
    refine ⟨blk_cell hblk 1, blk_free hblk 1, ⟨a, _, k, hv⟩, ⟨by simpa using heap_setCell_same hblk (i := 1) v', H.out.ge, ?_, H.out.m0, H.out.m1, hone, ?_⟩, ?_, ?_⟩
    · exact Own.fr (S := fun b => b = c) (own_base (own_zero ho) (fun g' hg' => Nat.le_trans hB (ho.lt g' hg').1)) ((Fr.refl (fun b => b = c) _).setCell (fun _ => rfl) _) (fun g' hg' e => hne (by rw [hg', e]))
    · have := H.out.le; rw [List.length_drop]; omega
    · exact fun g' hg' => .inr (ho.lt g' hg').1
    · exact (Fr.of_below hb (fun b => b = c)).setCell (p := ⟨c, 1, none⟩) (fun _ => rfl) _
  have Tail := Lib.hid tail
  have Hone := Lib.hid hone
  have Hdn := Lib.hid hdn
  have Hdl := Lib.hid hdl
  clear h tail hone hdn hdl
  have hm0 : (0 : Int) < (m : Int) := by omega
  have d0 : decide ((0 : Int) < (m : Int)) = true := by simp; omega
  by_cases hcap : cap = m
  · rw [if_pos hcap] at hrd
    have Hrd := Lib.hid hrd
    clear hrd
    obtain rfl : m = l.length := by omega
    have h' := Hrd.out
    rw [hcap, Nat.sub_self] at h'
    have Hrd0 := Lib.hid h'
    have Hdn0 : Hid (0 = (l.drop l.length).length) := by unfold Hid; simp
    clear h' Hrd Hdn
    subst hcap
    by_cases hy : n ≤ (l.length : Int)
    · obtain rfl : n = (l.length : Int) := by omega
      clear hn hy
      go_enter Try.func26, Try.ntmps26
      go_wp2_with fail
      refine (lenQS c most _ l w B H.out).mono ?_
      rintro e w' ⟨rfl, rfl⟩
      go_wp2_with fail
      refine (cloneQnS _ _ _ (l.drop l.length) Hdn0.out _ Hrd0.out Hone.out Hdl.out).mono ?_
      rintro e w2 ⟨v', rfl, ho, hb⟩
      obtain ⟨q1, q2, ⟨a, n', k, hv⟩, fin⟩ := Tail.out w2 v' ho hb
      subst hv
      clear ho hb
      go_wp2_with fail
      go_ret
      exact ⟨rfl, _, fin.out⟩
    · have hy2 : (l.length : Int) < n := by omega
      clear hy hn
      go_enter Try.func26, Try.ntmps26
      go_wp2_with fail
      refine (lenQS c most _ l w B H.out).mono ?_
      rintro e w' ⟨rfl, rfl⟩
      go_wp2_with fail
      refine (cloneQnS _ _ _ (l.drop l.length) Hdn0.out _ Hrd0.out Hone.out Hdl.out).mono ?_
      rintro e w2 ⟨v', rfl, ho, hb⟩
      obtain ⟨q1, q2, ⟨a, n', k, hv⟩, fin⟩ := Tail.out w2 v' ho hb
      subst hv
      clear ho hb
      go_wp2_with fail
      go_ret
      exact ⟨rfl, _, fin.out⟩
  · rw [if_neg hcap] at hrd
    rw [Nat.mul_one] at hrd
    have Hrd := Lib.hid hrd
    have hcm : ¬ m = cap := fun e => hcap e.symm
    have i1 : (0 : Int) ≤ (m : Int) := by omega
    have i2 : (m : Int) ≤ (l.length : Int) := by omega
    have i3 : (l.length : Int) ≤ (cap : Int) := by omega
    clear hrd
    by_cases hy : n ≤ (l.length : Int)
    · obtain rfl : n = (m : Int) := by omega
      clear hn hy
      go_enter Try.func26, Try.ntmps26
      go_wp2_with fail
      refine (lenQS c most _ l w B H.out).mono ?_
      rintro e w' ⟨rfl, rfl⟩
      go_wp2_with fail
      refine (cloneQnS _ _ _ (l.drop m) Hdn.out _ Hrd.out Hone.out Hdl.out).mono ?_
      rintro e w2 ⟨v', rfl, ho, hb⟩
      obtain ⟨q1, q2, ⟨a, n', k, hv⟩, fin⟩ := Tail.out w2 v' ho hb
      subst hv
      clear ho hb
      go_wp2_with fail
      go_ret
      exact ⟨rfl, _, fin.out⟩
    · obtain rfl : m = l.length := by omega
      have h' := Hrd.out
      rw [Nat.sub_self] at h'
      have Hrd0 := Lib.hid h'
      have Hdn0 : Hid (0 = (l.drop l.length).length) := by unfold Hid; simp
      clear hn h' Hrd Hdn
      have hy2 : (l.length : Int) < n := by omega
      clear hy
      go_enter Try.func26, Try.ntmps26
      go_wp2_with fail
      refine (lenQS c most _ l w B H.out).mono ?_
      rintro e w' ⟨rfl, rfl⟩
      go_wp2_with fail
      refine (cloneQnS _ _ _ (l.drop l.length) Hdn0.out _ Hrd0.out Hone.out Hdl.out).mono ?_
      rintro e w2 ⟨v', rfl, ho, hb⟩
      obtain ⟨q1, q2, ⟨a, n', k, hv⟩, fin⟩ := Tail.out w2 v' ho hb
      subst hv
      clear ho hb
      go_wp2_with fail
      go_ret
      exact ⟨rfl, _, fin.out⟩
end Go.Proofs.Ytjefmicmhcajoaa
