/-
  Package queue at lan.Flying: slices.Clone, Cut of the first one, Take, Put.
-/
import Derived.Test.YteihpaikdpdglaaFly
import Derived.StillTailTactics
namespace Go.Proofs.Yteihpaikdpdglaa
open Go.RowKit
set_option linter.unusedVariables false


theorem cloneF (ad : Addr) (n cp : Nat) (l : List Fl) (hn : n = l.length) (w : World) (h : Rd w 2 (.slice (some ad) n cp) n (l.flatMap enF)) (hm : l.length ≤ 100000) :
    Calls Try.prog 57 #[.slice (some ad) n cp] w fun e w' => ∃ v', e = .returned v' ∧ Own enF 39 2 w.heap.size w' v' l ∧ Below w.heap.size w w' := by
  subst hn
  obtain ⟨i1, hi1, hz3, hz4, hz5⟩ := info_parts infoF
  have hq := fun (w : World) => Lib.run_eql_slice_nil (P := Try.prog) w 36 39 (some ad) l.length cp 0 0 Try.underlying36
  have H := Lib.hid h
  have H1 := Lib.hid (enF_ones l)
  clear h
  go_enter Try.func57, Try.ntmps57
  go_wp2_with (at_builtin; refine held ?_)
  refine unheld ?_
  refine wpList_app (B := w.heap.size) (v := .slice (some ⟨w.heap.size, 0, none⟩) 0 0) rfl (.tmp 5) (.tmp 6) 36 rfl 39 i1 _ 2 _ Try.underlying36 hi1 hz3 hz4 hz5 rfl (by decide) (by simp) rfl rfl (own_empty w _ _ _ (Nat.le_refl _)) (H.out.fr (Fr.of_below ((Below.refl _ w).alloc (Nat.le_refl _) _) no) (fun _ _ e => e)) H1.out (by unfold maxLen; omega) (by omega) ?_
  intro v5 w5 o5 f5 m5 n5 z5
  have f25 := ((Fr.refl (fun b => w.heap.size ≤ b) w).alloc (.cells #[] 39)).trans' f5 (T := fun b => w.heap.size ≤ b) (fun _ _ e => e) (fun b _ e => by simp [Value.ownBlock] at e; omega)
  have fin : Own enF 39 2 w.heap.size w5 v5 l := by
    unfold Own
    have h := o5
    rw [Nat.zero_add, List.nil_append] at h
    exact h
  have Fin := Lib.hid fin
  have Fb := Lib.hid (f25.below' (Nat.le_refl _) (fun _ e => e))
  clear fin o5 n5 m5 f25 f5
  go_wp2_with fail
  go_ret
  exact ⟨_, rfl, Fin.out, Fb.out⟩

/-- Cut(1) of nothing. -/
theorem cutNoF {c : Nat} {most : Int} {sv : Value} (w : World) (h : IsF w c most sv []) :
    Calls Try.prog 44 #[.pointer (some ⟨c, 0, none⟩), .int .i64 1] w fun e w' => e = .returned (.int .i64 0) ∧ w' = w := by
  have H := Lib.hid h
  clear h
  go_enter Try.func44, Try.ntmps44
  go_wp2_with fail
  refine (lenF w H.out).mono ?_
  rintro e w' ⟨rfl, rfl⟩
  go_wp2_with fail
  go_ret
  exact ⟨rfl, rfl⟩
/-- Cut(1). -/
theorem cutF {c : Nat} {most : Int} {sv : Value} {f : Fl} {l : List Fl} (w : World) (h : IsF w c most sv (f :: l)) :
    Calls Try.prog 44 #[.pointer (some ⟨c, 0, none⟩), .int .i64 1] w fun e w' => e = .returned (.int .i64 1) ∧ ∃ sv', IsF w' c most sv' l ∧ Mv w sv sv' ∧ Fr (fun b => b = c) w w' := by
  have hln := h.len
  obtain ⟨g, cap, rfl, hg, hc1, hc2⟩ := own_some h.own (by simp)
  have hc3 : cap ≤ 9223372036854775807 := by unfold maxLen at hc2; omega
  have hrd := Own.dropRd enF_len h.own (i := 1) (by simp) hc1
  obtain ⟨m, hm⟩ : ∃ m, m = (f :: l).length := ⟨_, rfl⟩
  have hml : m = l.length + 1 := by rw [hm]; simp
  rw [← hm] at hrd hc1 hln
  have hm1 : 1 ≤ m := by omega
  have H := Lib.hid h
  have c1 := h.cell1
  rw [← hm] at c1
  have hlt := lt_of_block h.blk
  have tail : ∀ (w2 : World) (v' : Value), Own enF 39 2 w.heap.size w2 v' l → Below w.heap.size w w2 →
      w2.cell? ⟨c, 1, none⟩ = some (.slice (some ⟨g, 0, none⟩) m cap) ∧ w2.frozen? ⟨c, 1, none⟩ = false ∧ (∃ a n k, v' = .slice a n k) ∧
      Hid (IsF (w2.setCell ⟨c, 1, none⟩ v') c most v' l ∧ Mv w (.slice (some ⟨g, 0, none⟩) (f :: l).length cap) v' ∧ Fr (fun b => b = c) w (w2.setCell ⟨c, 1, none⟩ v')) := fun w2 v' ho hb => by
    have hblk := (hb.block c hlt).trans H.out.blk
    have hne : ¬ v'.ownBlock = some c := fun e => by have := (ho.lt c e).1; omega
    obtain ⟨a, k, hv, _⟩ := own_shape ho
    refine ⟨by rw [hm]; exact blk_cell hblk 1, blk_free hblk 1, ⟨a, _, k, hv⟩, ⟨by simpa using heap_setCell_same hblk (i := 1) v', ?_, H.out.m0, ?_⟩, ?_, ?_⟩
    · exact Own.fr (S := fun b => b = c) (own_zero ho) ((Fr.refl (fun b => b = c) _).setCell (fun _ => rfl) _) (fun g' hg' e => hne (by rw [hg', e]))
    · have := H.out.le; rw [List.length_cons] at this; omega
    · exact fun g' hg' => .inr (ho.lt g' hg').1
    · exact (Fr.of_below hb (fun b => b = c)).setCell (p := ⟨c, 1, none⟩) (fun _ => rfl) _
  have Tail := Lib.hid tail
  have Hm := Lib.hid hm
  have Hml := Lib.hid hml
  have HLN : Hid (l.length ≤ 100000) := by unfold Hid; omega
  have hd1 : decide ((1 : Int) ≤ (m : Int)) = true := decide_eq_true (by omega)
  have hmm : min (max (1 : Int) 0) (m : Int) = 1 := by omega
  have i2 : (1 : Int) ≤ (m : Int) := by omega
  have i3 : (m : Int) ≤ (cap : Int) := by omega
  clear h tail hm hml
  by_cases hcap : cap = 1
  · rw [if_pos hcap] at hrd
    subst hcap
    have hm2 : m = 1 := by omega
    subst hm2
    have Hrd := Lib.hid hrd
    clear hrd
    go_enter Try.func44, Try.ntmps44
    go_wp2_with fail
    refine (lenF w H.out).mono ?_
    rintro e w' ⟨rfl, rfl⟩
    rw [← Hm.out]
    go_wp2_with fail
    refine (cloneF _ _ _ l (by have := Hml.out; omega) _ Hrd.out HLN.out).mono ?_
    rintro e w2 ⟨v', rfl, ho, hb⟩
    obtain ⟨q1, q2, ⟨a, n', k, hv⟩, fin⟩ := Tail.out w2 v' ho hb
    subst hv
    clear ho hb
    go_wp2_with fail
    go_ret
    exact ⟨rfl, _, fin.out⟩
  · rw [if_neg hcap] at hrd
    have Hrd := Lib.hid hrd
    have hcm : ¬ 1 = cap := fun e => hcap e.symm
    clear hrd
    go_enter Try.func44, Try.ntmps44
    go_wp2_with fail
    refine (lenF w H.out).mono ?_
    rintro e w' ⟨rfl, rfl⟩
    rw [← Hm.out]
    go_wp2_with fail
    refine (cloneF _ _ _ l (by have := Hml.out; omega) _ Hrd.out HLN.out).mono ?_
    rintro e w2 ⟨v', rfl, ho, hb⟩
    obtain ⟨q1, q2, ⟨a, n', k, hv⟩, fin⟩ := Tail.out w2 v' ho hb
    subst hv
    clear ho hb
    go_wp2_with fail
    go_ret
    exact ⟨rfl, _, fin.out⟩

theorem takeNoF {c : Nat} {most : Int} {sv : Value} (w : World) (h : IsF w c most sv []) :
    Calls Try.prog 36 #[.pointer (some ⟨c, 0, none⟩)] w fun e w' => e = .returned (.tuple #[.agg #[.slice none 0 0, .int .i64 0], .bool false]) ∧ Below w.heap.size w w' := by
  obtain ⟨W, hW⟩ : ∃ W, W = w.alloc (.cells #[.slice none 0 0, .int .i64 0] 39) := ⟨_, rfl⟩
  have hb : Below w.heap.size w W := by rw [hW]; exact (Below.refl _ w).alloc (Nat.le_refl _) _
  obtain ⟨b, hbb⟩ : ∃ b, b = w.heap.size := ⟨_, rfl⟩
  have hn : W.heap[b]? = some (.cells #[.slice none 0 0, .int .i64 0] 39 (0, 0)) := by rw [hW, hbb]; exact heap_alloc_new' w _
  have H := Lib.hid (h.below hb)
  have Hn := Lib.hid hn
  have HB := Lib.hid hb
  clear h hn hb
  go_enter Try.func36, Try.ntmps36
  go_wp2_with fail
  rw [← hW, ← hbb]
  have HBB := Lib.hid hbb
  clear hW hbb
  refine (peekNoF W H.out).mono ?_
  rintro e w1 ⟨rfl, b1⟩
  have H1 := Lib.hid (H.out.below b1)
  have Hn1 := Lib.hid ((b1.block b (lt_of_block Hn.out)).trans Hn.out)
  have HB1 := Lib.hid (HB.out.trans (b1.mono HB.out.size))
  obtain ⟨W2, hW2⟩ : ∃ W2, W2 = w1.alloc (.cells #[.slice none 0 0, .int .i64 0] 39) := ⟨_, rfl⟩
  obtain ⟨q, hq⟩ : ∃ q, q = w1.heap.size := ⟨_, rfl⟩
  have hb2 : Below w1.heap.size w1 W2 := by rw [hW2]; exact (Below.refl _ w1).alloc (Nat.le_refl _) _
  have hq2 : W2.heap[q]? = some (.cells #[.slice none 0 0, .int .i64 0] 39 (0, 0)) := by rw [hW2, hq]; exact heap_alloc_new' w1 _
  have Hq2 := Lib.hid hq2
  have H2 := Lib.hid (H1.out.below hb2)
  have Hn2 := Lib.hid ((hb2.block b (lt_of_block Hn1.out)).trans Hn1.out)
  have HB2 := Lib.hid (HB1.out.trans (hb2.mono HB1.out.size))
  clear b1 hb2 hq2
  go_wp2_with fail
  rw [← hW2, ← hq]
  clear hW2 hq
  refine (cutNoF W2 H2.out).mono ?_
  rintro e w3 ⟨rfl, rfl⟩
  have kb0 : w3.cell? ⟨b, 0, none⟩ = some (.slice none 0 0) := blk_cell Hn2.out 0
  have kb1 : w3.cell? ⟨b, 1, none⟩ = some (.int .i64 0) := blk_cell Hn2.out 1
  have kz0 : w3.frozen? ⟨b, 0, none⟩ = false := blk_free Hn2.out 0
  have kz1 : w3.frozen? ⟨b, 1, none⟩ = false := blk_free Hn2.out 1
  have kq0 : w3.cell? ⟨q, 0, none⟩ = some (.slice none 0 0) := blk_cell Hq2.out 0
  have kq1 : w3.cell? ⟨q, 1, none⟩ = some (.int .i64 0) := blk_cell Hq2.out 1
  go_wp2_with fail
  refine bodyPost_ret (results_row_tmp rfl _ _ b 39 #[.slice none 0 0, .int .i64 0] (0, 0) _ rfl (by have := set_heap_same (set_heap_same Hn2.out (i := 0) (.slice none 0 0)) (i := 1) (.int .i64 0); simpa using this) Try.underlying39 rfl (by kernel_rfl)) rfl ?_
  refine ⟨rfl, HB2.out.trans (Fr.below' (S := fun x => x = b) (((Fr.refl (fun x => x = b) w3).setCell (p := ⟨b, 0, none⟩) (fun _ => rfl) _).setCell (p := ⟨b, 1, none⟩) (fun _ => rfl) _) HB2.out.size (fun x e => ?_))⟩
  rw [e, HBB.out]
  exact Nat.le_refl _
theorem takeF {c : Nat} {most : Int} {sv : Value} {f : Fl} {l : List Fl} (w : World) (h : IsF w c most sv (f :: l)) :
    Calls Try.prog 36 #[.pointer (some ⟨c, 0, none⟩)] w fun e w' => e = .returned (.tuple #[fV f, .bool true]) ∧ ∃ sv', IsF w' c most sv' l ∧ Mv w sv sv' ∧ Fr (fun b => b = c) w w' := by
  obtain ⟨W, hW⟩ : ∃ W, W = w.alloc (.cells #[.slice none 0 0, .int .i64 0] 39) := ⟨_, rfl⟩
  have hb : Below w.heap.size w W := by rw [hW]; exact (Below.refl _ w).alloc (Nat.le_refl _) _
  obtain ⟨b, hbb⟩ : ∃ b, b = w.heap.size := ⟨_, rfl⟩
  have hn : W.heap[b]? = some (.cells #[.slice none 0 0, .int .i64 0] 39 (0, 0)) := by rw [hW, hbb]; exact heap_alloc_new' w _
  have HSV := Lib.hid (fun g (hg : sv.ownBlock = some g) => own_lt h.own hg)
  have H := Lib.hid (h.below hb)
  have Hn := Lib.hid hn
  have HB := Lib.hid hb
  clear h hn hb
  go_enter Try.func36, Try.ntmps36
  go_wp2_with fail
  rw [← hW, ← hbb]
  have HBB := Lib.hid hbb
  clear hW hbb
  refine (peekF W H.out).mono ?_
  rintro e w1 ⟨rfl, b1⟩
  have H1 := Lib.hid (H.out.below b1)
  have Hn1 := Lib.hid ((b1.block b (lt_of_block Hn.out)).trans Hn.out)
  have HB1 := Lib.hid (HB.out.trans (b1.mono HB.out.size))
  obtain ⟨W2, hW2⟩ : ∃ W2, W2 = w1.alloc (.cells #[.slice f.a f.n f.c, .int .i64 f.age] 39) := ⟨_, rfl⟩
  obtain ⟨q, hq⟩ : ∃ q, q = w1.heap.size := ⟨_, rfl⟩
  have hb2 : Below w1.heap.size w1 W2 := by rw [hW2]; exact (Below.refl _ w1).alloc (Nat.le_refl _) _
  have hq2 : W2.heap[q]? = some (.cells #[.slice f.a f.n f.c, .int .i64 f.age] 39 (0, 0)) := by rw [hW2, hq]; exact heap_alloc_new' w1 _
  have Hq2 := Lib.hid hq2
  have H2 := Lib.hid (H1.out.below hb2)
  have Hn2 := Lib.hid ((hb2.block b (lt_of_block Hn1.out)).trans Hn1.out)
  have HB2 := Lib.hid (HB1.out.trans (hb2.mono HB1.out.size))
  clear b1 hb2 hq2
  go_wp2_with fail
  rw [← hW2, ← hq]
  clear hW2 hq
  refine (cutF W2 H2.out).mono ?_
  rintro e w3 ⟨rfl, sv', h3, m3, f3⟩
  have hbc : ¬ b = c := fun e => by subst e; have := H2.out.blk; rw [Hn2.out] at this; cases this
  have hqc : ¬ q = c := fun e => by subst e; have := H2.out.blk; rw [Hq2.out] at this; cases this
  have Hn3 := Lib.hid (f3.heap Hn2.out hbc)
  have Hq3 := Lib.hid (f3.heap Hq2.out hqc)
  have fs : Fr (fun x => x = b) w3 ((w3.setCell ⟨b, 0, none⟩ (.slice f.a f.n f.c)).setCell ⟨b, 1, none⟩ (.int .i64 f.age)) := ((Fr.refl (fun x => x = b) w3).setCell (p := ⟨b, 0, none⟩) (fun _ => rfl) _).setCell (p := ⟨b, 1, none⟩) (fun _ => rfl) _
  have fin : Hid (∃ sv', IsF ((w3.setCell ⟨b, 0, none⟩ (.slice f.a f.n f.c)).setCell ⟨b, 1, none⟩ (.int .i64 f.age)) c most sv' l ∧ Mv w sv sv' ∧ Fr (fun b => b = c) w ((w3.setCell ⟨b, 0, none⟩ (.slice f.a f.n f.c)).setCell ⟨b, 1, none⟩ (.int .i64 f.age))) := by
    refine ⟨sv', h3.keep (fs.blk c (lt_of_block h3.blk) (fun e => hbc e.symm)) (fun g hg => fs.blk g (own_lt h3.own hg) (fun e => ?_)), fun g hg => (m3 g hg).imp id (fun e => Nat.le_trans HB2.out.size e), ?_⟩
    · have e : g = b := e
      subst e
      rcases m3 g hg with e | e
      · have := HSV.out g e
        have h1 := HBB.out
        omega
      · have := lt_of_block Hn2.out; omega
    · exact ((Fr.of_below HB2.out (fun b => b = c)).trans' f3 (fun _ _ e => e) (fun _ _ e => e)).trans' fs (fun _ _ e => e) (fun i hi e => by have h1 := HBB.out; have e : i = b := e; omega)
  have kb0 : w3.cell? ⟨b, 0, none⟩ = some (.slice none 0 0) := blk_cell Hn3.out 0
  have kb1 : w3.cell? ⟨b, 1, none⟩ = some (.int .i64 0) := blk_cell Hn3.out 1
  have kz0 : w3.frozen? ⟨b, 0, none⟩ = false := blk_free Hn3.out 0
  have kz1 : w3.frozen? ⟨b, 1, none⟩ = false := blk_free Hn3.out 1
  have kq0 : w3.cell? ⟨q, 0, none⟩ = some (.slice f.a f.n f.c) := blk_cell Hq3.out 0
  have kq1 : w3.cell? ⟨q, 1, none⟩ = some (.int .i64 f.age) := blk_cell Hq3.out 1
  clear h3 m3 f3 fs hbc hqc
  go_wp2_with fail
  refine bodyPost_ret (results_row_tmp rfl _ _ b 39 #[.slice f.a f.n f.c, .int .i64 f.age] (0, 0) _ rfl (by have := set_heap_same (set_heap_same Hn3.out (i := 0) (.slice f.a f.n f.c)) (i := 1) (.int .i64 f.age); simpa using this) Try.underlying39 rfl (by kernel_rfl)) rfl ?_
  exact ⟨rfl, fin.out⟩
end Go.Proofs.Yteihpaikdpdglaa
