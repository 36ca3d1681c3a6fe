/-
  Package inbox: Put.
-/
import Derived.Test.YtfibajfhaadnfaaInb
namespace Go.Proofs.Ytfibajfhaadnfaa
open Go.RowKit
set_option linter.unusedVariables false


theorem cellOn {w w' : World} {a : Addr} {v : Value} (hc : w.cell? a = some v) (hb : Below w.heap.size w w') : w'.cell? a = some v := (hb.cell (World.block_lt_of_cell? w _ hc)).trans hc
theorem Fr.cellN {S : Nat → Prop} {w w' : World} (h : Fr S w w') {b o : Nat} {v : Value} (hc : w.cell? ⟨b, o, none⟩ = some v) (hn : ¬ S b) : w'.cell? ⟨b, o, none⟩ = some v :=
  (h.cell (World.block_lt_of_cell? w _ hc) hn).trans hc
/-- Behind what turns the row alone. -/
theorem IsIn.row {w w' : World} {B i c : Nat} {most : Int} {full : Bool} {sv sv' : Value} {l l' : List Value} (h : IsIn w B i c most full sv l) (hf : Fr (ftp c sv) w w') (hq : IsQB w' B c most sv' l') : IsIn w' B i c most full sv' l' :=
  ⟨hf.heap h.blk h.ne, h.ge, hq⟩
theorem IsIn.setFull {w : World} {B i c : Nat} {most : Int} {full : Bool} {sv : Value} {l : List Value} (h : IsIn w B i c most full sv l) (f : Bool) : IsIn (w.setCell ⟨i, 1, none⟩ (.bool f)) B i c most f sv l := by
  refine ⟨by simpa using heap_setCell_same h.blk (i := 1) (.bool f), h.ge, h.q.fr (S := fun b => b = i) ((Fr.refl (fun b => b = i) _).setCell (p := ⟨i, 1, none⟩) (fun _ => rfl) _) (fun e => h.ne (.inl e.symm)) (fun g hg e => h.ne (.inr (by rw [hg, e])))⟩

set_option maxHeartbeats 2000000 in
theorem iputYes (i c : Nat) (most : Int) (full : Bool) (sv : Value) (l : List Value) (bv : Value) (b : List Int) (w : World) (B : Nat) (hB : B ≤ w.heap.size) (h : IsIn w B i c most full sv l) (hbv : RdB w bv b) (hbl : b.length ≤ 1000000) (hl : l.length ≤ 1000) (hf : (l.length : Int) < most) :
    Calls Try.prog 10 #[.pointer (some ⟨i, 0, none⟩), bv] w fun e w' => e = .returned (.tuple #[.bool true, .bool (((l.length + 1 : Nat) : Int) == most)]) ∧
      ∃ sv' v', IsIn w' B i c most (full || (((l.length + 1 : Nat) : Int) == most)) sv' (l ++ [v']) ∧ OwnB w.heap.size w' v' b ∧ Mv w sv sv' ∧ Fr (ftpI i c sv) w w' := by
  have H := Lib.hid h
  have Hbv := Lib.hid hbv
  have Hf := Lib.hid hf
  clear h hbv hf
  go_enter Try.func10, Try.ntmps10
  go_upto_region 1 with fail
  obtain ⟨pi, hpi⟩ : ∃ b, b = w.heap.size := ⟨_, rfl⟩
  obtain ⟨W0, hW0⟩ : ∃ x, x = w.alloc (.cells #[.pointer (some ⟨i, 0, none⟩)] 23) := ⟨_, rfl⟩
  have p0 : W0.cell? ⟨pi, 0, none⟩ = some (.pointer (some ⟨i, 0, none⟩)) := by subst hW0 hpi; exact blk_cell (heap_alloc_new' w _) 0
  have hb0 : Below w.heap.size w W0 := by subst hW0; exact (Below.refl _ w).alloc (Nat.le_refl _) _
  rw [← hW0, ← hpi]
  have HB0 := Lib.hid hb0
  have Hpi := Lib.hid hpi
  have H0 := Lib.hid (H.out.below hb0)
  have Hbv0 := Lib.hid (Hbv.out.fr hb0)
  clear hW0 hpi hb0
  go_wp2_with fail
  refine (irow i c W0 H0.out.c0).mono ?_
  rintro e w1 ⟨rfl, rfl⟩
  go_wp2_with fail
  refine (cloneB bv b w1 Hbv0.out hbl).mono ?_
  rintro e w2 ⟨v', rfl, o2, b2⟩
  obtain ⟨va, vk, hv, _⟩ := own_shape o2
  have O2 := Lib.hid o2
  have B2 := Lib.hid b2
  have H2 := Lib.hid (H0.out.below b2)
  have p2 := cellOn p0 b2
  have s0 := HB0.out.size
  have s2 := b2.size
  have Hv := Lib.hid hv
  clear o2 b2 p0 hv
  go_wp2_with fail
  refine (putQB c most sv l v' w2 B (by omega) H2.out.q (by omega) ⟨_, _, _, Hv.out⟩).mono ?_
  rintro e w3 ⟨rfl, sv', q3, m3, f3⟩
  have hd : decide ((l.length : Int) < most) = true := by simpa using Hf.out
  rw [hd]
  have hpl : putL most l v' = l ++ [v'] := if_pos Hf.out
  rw [hpl] at q3
  obtain ⟨l', hl'⟩ : ∃ x, x = l ++ [v'] := ⟨_, rfl⟩
  rw [← hl'] at q3
  have hll : l'.length = l.length + 1 := by rw [hl']; simp
  have Hll := Lib.hid hll
  have Hl' := Lib.hid hl'
  have hpn : ¬ ftp c sv pi := fun e => by
    have h1 := Hpi.out
    rcases e with e | e
    · have := lt_of_block H.out.q.blk; omega
    · have := own_lt H.out.q.own e; omega
  have p3 := f3.cellN p2 hpn
  have H3 := Lib.hid (H2.out.row f3 q3)
  have F3 := Lib.hid f3
  have M3 := Lib.hid m3
  have O3 : Hid (OwnB w.heap.size w3 v' b) := by
    have : OwnB w1.heap.size w3 v' b := O2.out.fr f3 (fun g hg e => by
      rcases e with rfl | e
      · have := (O2.out.lt _ hg).1; have := lt_of_block H0.out.q.blk; omega
      · have := (O2.out.lt _ hg).1; have := own_lt H0.out.q.own e; omega)
    exact own_base (own_zero this) (fun g hg => Nat.le_trans s0 (this.lt g hg).1)
  clear q3 f3 m3 hd hpl hl' hll hpn p2
  go_wp2_with fail
  refine (lenQB c most sv' l' w3 B H3.out.q).mono ?_
  rintro e w4 ⟨rfl, rfl⟩
  go_wp2_with fail
  refine (mostQB c most sv' l' _ B H3.out.q).mono ?_
  rintro e w4 ⟨rfl, rfl⟩
  obtain ⟨nw, hnw⟩ : ∃ q, ((l'.length : Int) == most) = q := ⟨_, rfl⟩
  have Hnw := Lib.hid hnw
  go_upto_region 5 with fail
  obtain ⟨pn, hpn⟩ : ∃ b, b = w4.heap.size := ⟨_, rfl⟩
  obtain ⟨W5, hW5⟩ : ∃ x, x = w4.alloc (.cells #[.bool nw] 4) := ⟨_, rfl⟩
  have hb5 : Below w4.heap.size w4 W5 := by subst hW5; exact (Below.refl _ w4).alloc (Nat.le_refl _) _
  have n5 : W5.cell? ⟨pn, 0, none⟩ = some (.bool nw) := by subst hW5 hpn; exact blk_cell (heap_alloc_new' w4 _) 0
  have p5 := cellOn p3 hb5
  have H5 := Lib.hid (H3.out.below hb5)
  have i5 := H5.out.c1
  have i5' : W5.frozen? ⟨i, 1, none⟩ = false := blk_free H5.out.blk 1
  have O5 : Hid (OwnB w.heap.size W5 v' b) := O3.out.fr (Fr.of_below hb5 no) (fun _ _ e => e)
  have hi5 := lt_of_block H5.out.blk
  have hnw2 : (((l.length + 1 : Nat) : Int) == most) = nw := by rw [← Hll.out]; exact hnw
  have hipn : i < pn := by have := lt_of_block H3.out.blk; omega
  have F5 : Hid (Fr (ftpI i c sv) w W5 ∧ Mv w sv sv') := by
    have hb2 : Below w.heap.size w w2 := HB0.out.trans (B2.out.mono s0)
    refine ⟨((Fr.of_below hb2 (ftpI i c sv)).trans' F3.out (fun _ _ e => e) (fun _ _ e => .inr e)).trans' (Fr.of_below hb5 no) (fun _ _ e => e) (fun _ _ e => e.elim), fun g hg => (M3.out g hg).imp id (fun q => by omega)⟩
  have fin : ∀ W', IsIn W' B i c most (full || nw) sv' l' → OwnB w.heap.size W' v' b → Fr (ftpI i c sv) w W' → Hid (∃ sv' v', IsIn W' B i c most (full || (((l.length + 1 : Nat) : Int) == most)) sv' (l ++ [v']) ∧ OwnB w.heap.size W' v' b ∧ Mv w sv sv' ∧ Fr (ftpI i c sv) w W') := fun W' h1 h2 h3 => by
    rw [hnw2]
    have h1' := h1
    rw [Hl'.out] at h1'
    exact ⟨sv', v', h1', h2, F5.out.2, h3⟩
  have Fin := Lib.hid fin
  have Hnw2 := Lib.hid hnw2
  rw [← hW5, ← hpn]
  clear hW5 hpn hb5 p3 hnw fin hnw2
  go_wp2_with fail
  refine (turnedPut i pn pi nw full W5 i5 i5' n5 p5).mono ?_
  rintro e w6 ⟨rfl, hw6⟩
  have n6 : w6.cell? ⟨pn, 0, none⟩ = some (.bool nw) := by
    rw [hw6]; split
    · rw [World.cell?_setCell_other _ _ _ _ (fun e => by injection e with e1; omega)]; exact n5
    · exact n5
  have F6 : Hid (IsIn w6 B i c most (full || nw) sv' l' ∧ OwnB w.heap.size w6 v' b ∧ Fr (ftpI i c sv) w w6) := by
    rw [hw6]
    cases hq : (nw && !full) with
    | true =>
      rw [if_pos rfl]
      have hn1 : (full || nw) = true := by cases full <;> cases nw <;> simp_all
      rw [hn1]
      refine ⟨H5.out.setFull true, Own.fr (S := fun b => b = i) O5.out ((Fr.refl (fun b => b = i) _).setCell (p := ⟨i, 1, none⟩) (fun _ => rfl) _) (fun g hg e => ?_), F5.out.1.setCell (p := ⟨i, 1, none⟩) (fun _ => .inl rfl) _⟩
      subst e
      exact own_ne O5.out H5.out.blk (by decide) hg
    | false =>
      rw [if_neg (by decide)]
      have hn1 : (full || nw) = full := by cases full <;> cases nw <;> simp_all
      rw [hn1]
      exact ⟨H5.out, O5.out, F5.out.1⟩
  clear hw6 n5 p5 i5 i5'
  go_wp2_with fail
  go_quiet (fail)
  go_wp2_with fail
  go_ret2
  have hbd := below_drewN (Below.refl _ w6)
  refine ⟨by rw [Hnw2.out]; rfl, ?_⟩
  exact (Fin.out _ (F6.out.1.below (hbd _)) (F6.out.2.1.fr (Fr.of_below (hbd _) no) (fun _ _ e => e)) (F6.out.2.2.drewN _)).out

set_option maxHeartbeats 2000000 in
theorem iputNo (i c : Nat) (most : Int) (full : Bool) (sv : Value) (l : List Value) (bv : Value) (b : List Int) (w : World) (B : Nat) (hB : B ≤ w.heap.size) (h : IsIn w B i c most full sv l) (hbv : RdB w bv b) (hbl : b.length ≤ 1000000) (hl : l.length ≤ 1000) (hf : most ≤ (l.length : Int)) :
    Calls Try.prog 10 #[.pointer (some ⟨i, 0, none⟩), bv] w fun e w' => e = .returned (.tuple #[.bool false, .bool false]) ∧ ∃ sv', IsIn w' B i c most full sv' l ∧ Mv w sv sv' ∧ Fr (ftpI i c sv) w w' := by
  have H := Lib.hid h
  have Hbv := Lib.hid hbv
  have Hf := Lib.hid hf
  clear h hbv hf
  go_enter Try.func10, Try.ntmps10
  go_upto_region 1 with fail
  obtain ⟨pi, hpi⟩ : ∃ b, b = w.heap.size := ⟨_, rfl⟩
  obtain ⟨W0, hW0⟩ : ∃ x, x = w.alloc (.cells #[.pointer (some ⟨i, 0, none⟩)] 23) := ⟨_, rfl⟩
  have p0 : W0.cell? ⟨pi, 0, none⟩ = some (.pointer (some ⟨i, 0, none⟩)) := by subst hW0 hpi; exact blk_cell (heap_alloc_new' w _) 0
  have hb0 : Below w.heap.size w W0 := by subst hW0; exact (Below.refl _ w).alloc (Nat.le_refl _) _
  rw [← hW0, ← hpi]
  have HB0 := Lib.hid hb0
  have Hpi := Lib.hid hpi
  have H0 := Lib.hid (H.out.below hb0)
  have Hbv0 := Lib.hid (Hbv.out.fr hb0)
  clear hW0 hpi hb0
  go_wp2_with fail
  refine (irow i c W0 H0.out.c0).mono ?_
  rintro e w1 ⟨rfl, rfl⟩
  go_wp2_with fail
  refine (cloneB bv b w1 Hbv0.out hbl).mono ?_
  rintro e w2 ⟨v', rfl, o2, b2⟩
  obtain ⟨va, vk, hv, _⟩ := own_shape o2
  have O2 := Lib.hid o2
  have B2 := Lib.hid b2
  have H2 := Lib.hid (H0.out.below b2)
  have p2 := cellOn p0 b2
  have s0 := HB0.out.size
  have s2 := b2.size
  have Hv := Lib.hid hv
  clear o2 b2 p0 hv
  go_wp2_with fail
  refine (putQB c most sv l v' w2 B (by omega) H2.out.q (by omega) ⟨_, _, _, Hv.out⟩).mono ?_
  rintro e w3 ⟨rfl, sv', q3, m3, f3⟩
  have hd : decide ((l.length : Int) < most) = false := by have := Hf.out; simp; omega
  rw [hd]
  have hpl : putL most l v' = l := if_neg (by have := Hf.out; omega)
  rw [hpl] at q3
  have fin : Hid (∃ sv', IsIn w3 B i c most full sv' l ∧ Mv w sv sv' ∧ Fr (ftpI i c sv) w w3) := by
    have hb2 : Below w.heap.size w w2 := HB0.out.trans (B2.out.mono s0)
    exact ⟨sv', H2.out.row f3 q3, fun g hg => (m3 g hg).imp id (fun q => by omega), (Fr.of_below hb2 (ftpI i c sv)).trans' f3 (fun _ _ e => e) (fun _ _ e => .inr e)⟩
  clear q3 f3 m3 hd hpl p2
  go_wp2_with fail
  go_ret2
  exact ⟨rfl, fin.out⟩

end Go.Proofs.Ytfibajfhaadnfaa
