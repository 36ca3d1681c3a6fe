/-
  Package lan: Spoil: a bit of a row's first frame is turned.
-/
import Derived.Test.YteihpaikdpdglaaLanG
import Derived.Laws.BitsAllLaws
namespace Go.Proofs.Yteihpaikdpdglaa
open Go.RowKit
set_option linter.unusedVariables false


/-- Which bit it is. -/
def kOf (bit : Int) (n : Nat) : Nat := ((wrap64 (bit.tmod (8 * (n : Int)) + 8 * (n : Int))).tmod (8 * (n : Int))).toNat
/-- A bit of a byte turned. -/
def flipB (x : Int) (r : Nat) : Int := ((x.toNat ^^^ 2 ^ r : Nat) : Int)
/-- A bit of a row turned. -/
def flipAt (b : List Int) (k : Nat) : List Int := b.set (k / 8) (flipB (b.getD (k / 8) 0) (k % 8))
theorem flipAt_len (b : List Int) (k : Nat) : (flipAt b k).length = b.length := by unfold flipAt; simp
theorem kOf_lt (bit : Int) {n : Nat} (hn : 0 < n) (h2 : n ≤ 1000) : (wrap64 (bit.tmod (8 * (n : Int)) + 8 * (n : Int))).tmod (8 * (n : Int)) = ((kOf bit n : Nat) : Int) ∧ kOf bit n < 8 * n := by
  unfold kOf
  have hn0 : (0 : Int) < 8 * (n : Int) := by omega
  have h1 := Int.tmod_lt_of_pos bit hn0
  have h2 := Int.lt_tmod_of_pos bit hn0
  generalize bit.tmod (8 * (n : Int)) = s at h1 h2 ⊢
  rw [IntWalk.wrap64_in _ (by omega), Int.tmod_eq_emod_of_nonneg (by omega)]
  have h3 := Int.emod_nonneg (s + 8 * (n : Int)) (show 8 * (n : Int) ≠ 0 by omega)
  have h4 := Int.emod_lt_of_pos (s + 8 * (n : Int)) hn0
  exact ⟨by omega, by omega⟩
theorem bits_flip (x : Int) (r : Nat) (hx : 0 ≤ x ∧ x ≤ 255) (hr : r < 8) : bits .xor .u8 x (IntKind.u8.wrap (2 ^ r)) = flipB x r := by
  have hw : IntKind.u8.wrap (2 ^ r) = ((2 ^ r : Nat) : Int) := by
    have : r = 0 ∨ r = 1 ∨ r = 2 ∨ r = 3 ∨ r = 4 ∨ r = 5 ∨ r = 6 ∨ r = 7 := by omega
    rcases this with rfl | rfl | rfl | rfl | rfl | rfl | rfl | rfl <;> rfl
  have hp : 2 ^ r < 256 := Nat.pow_lt_pow_right (by decide) hr
  obtain ⟨A, rfl⟩ := Int.eq_ofNat_of_zero_le hx.1
  have hA : A < 256 := by have := hx.2; omega
  rw [hw, u8_xor_nat A (2 ^ r) hA hp]
  unfold flipB
  rw [Int.toNat_natCast]
theorem flat_map_encB (l : List Int) : l.flatMap encB = l.map (fun z => Value.int .u8 z) := by
  induction l with
  | nil => rfl
  | cons x l ih => rw [List.flatMap_cons, ih]; rfl
theorem own_setB {w : World} {B g n cap : Nat} {l : List Int} (h : OwnB B w (.slice (some ⟨g, 0, none⟩) n cap) l) (i : Nat) (hi : i < l.length) (y : Int) : OwnB B (w.setCell ⟨g, i, none⟩ (.int .u8 y)) (.slice (some ⟨g, 0, none⟩) n cap) (l.set i y) := by
  rcases h.2 with ⟨h0, _⟩ | ⟨g', cap', cur, h0, hBg, hg, hnc, hcm, hcs, htake⟩
  · simp at h0
  · simp at h0
    obtain ⟨rfl, rfl, rfl⟩ := h0
    refine ⟨by rw [flat_len encB 1 encB_len], .inr ⟨g, cap, cur.setIfInBounds i (.int .u8 y), by simp, hBg, heap_setCell_same hg _, by simpa using hnc, hcm, by simp [hcs], ?_⟩⟩
    rw [Array.toList_setIfInBounds, List.take_set, List.length_set, htake, flat_map_encB, flat_map_encB, List.map_set]
theorem LnI.tb {w w' : World} {t st : Nat} {life lost : Int} {rv : Value} {ps : List Nat} {c : Nat} {most : Int} {sv : Value} {l : List Fl} {g : Nat} {cs : Array Value} {fr : Nat × Nat} (h : LnI w t st life lost rv ps c most sv l) (hg : w.heap[g]? = some (.cells cs 5 fr)) (f : Fr (fun b => b = g) w w') : LnI w' t st life lost rv ps c most sv l := by
  have ne : ∀ (b : Nat) (cs' : Array Value) (ty : TypeId) (fr' : Nat × Nat), w.heap[b]? = some (.cells cs' ty fr') → ty ≠ 5 → w'.heap[b]? = some (.cells cs' ty fr') := fun b cs' ty fr' hb ht => f.heap hb (fun (e : b = g) => by subst e; rw [hg] at hb; cases hb; exact ht rfl)
  have keep : ∀ {v : Value} {B : Nat} {e : TypeId} {k n : Nat} {xs : List Value}, w.ownsRow B e k v n xs → e ≠ 5 → ∀ g', v.ownBlock = some g' → w'.heap[g']? = w.heap[g']? := fun o he g' hg' => by
    obtain ⟨cur, hc⟩ := own_type o hg'
    rw [ne _ _ _ _ hc he, hc]
  obtain ⟨c2, h1, h2, h3⟩ := h.oth
  exact ⟨ne _ _ _ _ h.blk (by decide), h.rows.keep (keep (e := 70) h.rows (by decide)), h.sts, h.len, h.at', h.q.keep (by rw [ne _ _ _ _ h.q.blk (by decide), h.q.blk]) (keep (e := 39) h.q.own (by decide)), ⟨c2, h1, h2, ne _ _ _ _ h3 (by decide)⟩⟩

theorem all_mem {R R' : Fl → (List Int × Int) → Prop} : ∀ {fl : List Fl} {l : List (List Int × Int)}, All2 R fl l → (∀ f p, f ∈ fl → R f p → R' f p) → All2 R' fl l
  | [], [], _, _ => trivial
  | f :: _, _ :: _, h, hi => ⟨hi _ _ (List.mem_cons_self ..) h.1, all_mem h.2 (fun f p hf => hi f p (List.mem_cons_of_mem _ hf))⟩
  | [], _ :: _, h, _ => h.elim
  | _ :: _, [], h, _ => h.elim

set_option maxRecDepth 100000 in
set_option maxHeartbeats 4000000 in
theorem xspoil {w0 w : World} {t st : Nat} {life lost : Int} {c : Nat} {most : Int} {p : List Int × Int} {l : List (List Int × Int)} {kr : List (Value × List Int)} (h : LnX w0 w t st life lost c most (p :: l) kr) (hpl : 0 < p.1.length ∧ p.1.length ≤ 200) (hby : ∀ x ∈ p.1, 0 ≤ x ∧ x ≤ 255) (bit : Int) :
    Calls Try.prog 18 #[.pointer (some ⟨t, 0, none⟩), .int .i64 0, .int .i64 1, .int .i64 bit] w fun e w' => e = .returned (.bool true) ∧ LnX w0 w' t st life lost c most ((flipAt p.1 (kOf bit p.1.length), p.2) :: l) kr := by
  obtain ⟨rv, ps, sv, fl, h1, h2, h3, h4⟩ := h.ex
  match fl, h1, h3, h4 with
  | [], _, h3, _ => exact h3.elim
  | f :: fl, h1, h3, h4 =>
    have H := Lib.hid h
    have H1 := Lib.hid h1
    have H2 := Lib.hid h2
    have H3 := Lib.hid h3
    have H4 := Lib.hid h4
    obtain ⟨g, cap, hv, hg, hc1, hc2⟩ := own_some h3.1.1 hpl.1
    have hyt : ∀ i, (hi : i < p.1.length) → w.cell? ⟨g, i, none⟩ = some (.int .u8 p.1[i]) := fun i hi => by
      have ho := h3.1.1
      rw [hv] at ho
      have := Own.cell ho encB_len i 0 hi (by decide)
      simpa [encB] using this
    have HYT := Lib.hid hyt
    obtain ⟨fa, fn, fc, fg⟩ := f
    simp at hv
    obtain ⟨rfl, rfl, rfl⟩ := hv
    clear h h1 h2 h3 h4 hyt
    obtain ⟨hp0, hp1⟩ := hpl
    obtain ⟨k, hkd⟩ : ∃ k, k = kOf bit p.1.length := ⟨_, rfl⟩
    obtain ⟨hk, hk8⟩ := kOf_lt bit hp0 (show p.1.length ≤ 1000 by omega)
    rw [← hkd] at hk hk8 ⊢
    have HKD := Lib.hid hkd
    clear hkd
    have HK := Lib.hid hk
    clear hk
    go_enter Try.func18, Try.ntmps18
    go_wp2_with fail
    refine (rowL H1.out).mono ?_
    rintro e w1 ⟨rfl, b1⟩
    have B1 := Lib.hid b1
    clear b1
    go_wp2_with fail
    refine (peekF w1 (H1.out.below B1.out).q).mono ?_
    rintro e w2 ⟨rfl, b2⟩
    have B2 := Lib.hid (B1.out.trans (b2.mono B1.out.size))
    clear b2
    obtain ⟨W, hW⟩ : ∃ W, W = w2.alloc (.cells #[.slice (some ⟨g, 0, none⟩) p.1.length fc, .int .i64 fg] 39) := ⟨_, rfl⟩
    obtain ⟨q, hqq⟩ : ∃ q, q = w2.heap.size := ⟨_, rfl⟩
    go_upto_region 6 with fail
    rw [HK.out, ← hW, ← hqq]
    have hbW : Below w2.heap.size w2 W := by rw [hW]; exact (Below.refl _ w2).alloc (Nat.le_refl _) _
    have hqc : W.heap[q]? = some (.cells #[.slice (some ⟨g, 0, none⟩) p.1.length fc, .int .i64 fg] 39 (0, 0)) := by rw [hW, hqq]; exact heap_alloc_new' w2 _
    have BW := Lib.hid (B2.out.trans (hbW.mono B2.out.size))
    obtain ⟨j, hjd⟩ : ∃ j, j = k / 8 := ⟨_, rfl⟩
    obtain ⟨r, hrd⟩ : ∃ r, r = k % 8 := ⟨_, rfl⟩
    have hj : j < p.1.length := by omega
    have hr8 : r < 8 := by omega
    obtain ⟨x, hx⟩ : ∃ x, x = p.1[j]'hj := ⟨_, rfl⟩
    have y0 : W.cell? ⟨q, 0, none⟩ = some (.slice (some ⟨g, 0, none⟩) p.1.length fc) := blk_cell hqc 0
    have yx : W.cell? ⟨g, j, none⟩ = some (.int .u8 x) := by rw [hx]; exact (BW.out.cell (p := ⟨g, j, none⟩) (own_lt H3.out.1.1 rfl)).trans (HYT.out _ hj)
    have zx : W.frozen? ⟨g, j, none⟩ = false := own_free (ownB_below H3.out.1.1 BW.out) _
    have HQC := Lib.hid hqc
    have hkI : (k : Int) / 8 = (j : Int) := by omega
    have hkM : (k : Int) % 8 = (r : Int) := by omega
    have hjI : (j : Int) < (p.1.length : Int) := by omega
    have hkb0 : (0 : Int) ≤ (k : Int) := by omega
    have hkb1 : (k : Int) ≤ 1600 := by omega
    have hr8I : (r : Int) < 8 := by omega
    have hwj : IntKind.i64.wrap (j : Int) = (j : Int) := IntWalk.i64_in _ (by omega)
    have hkT : (k : Int).tmod 8 = (r : Int) := by rw [Int.tmod_eq_emod_of_nonneg (by omega)]; omega
    have hwr : IntKind.i64.wrap (r : Int) = (r : Int) := IntWalk.i64_in _ (by omega)
    have hxb := hby x (by rw [hx]; exact List.getElem_mem hj)
    have hfl := bits_flip x r hxb hr8
    have HX := Lib.hid hx
    have HJD := Lib.hid hjd
    have HRDD := Lib.hid hrd
    clear hx hjd hrd
    clear hW hqq hbW hqc
    go_still_tail 11, (by kernel_rfl)
    trace_state
    change wpList _ _ _ _ _ W.drew
    clear hfl
    obtain ⟨y, hy⟩ : ∃ y, y = flipB x r := ⟨_, rfl⟩
    rw [← hy]
    have HY := Lib.hid hy
    have BD := Lib.hid (BW.out.trans ((Below.refl _ W).drew.mono BW.out.size))
    have yd : W.drew.cell? ⟨g, j, none⟩ = some (.int .u8 x) := yx
    have zd : W.drew.frozen? ⟨g, j, none⟩ = false := zx
    have fin : Hid (LnX w0 (W.drew.setCell ⟨g, j, none⟩ (.int .u8 y)) t st life lost c most ((flipAt p.1 k, p.2) :: l) kr) := by
      have hX := H.out.below BD.out
      have f : Fr (fun b => b = g) W.drew (W.drew.setCell ⟨g, j, none⟩ (.int .u8 y)) := (Fr.refl (fun b => b = g) W.drew).setCell (p := ⟨g, j, none⟩) (fun _ => rfl) _
      have o0 := ownB_below H3.out.1.1 BD.out
      obtain ⟨cur, hcur⟩ := own_type o0 (g := g) rfl
      have hd := List.pairwise_cons.1 (show Dj ((⟨some ⟨g, 0, none⟩, p.1.length, fc, fg⟩ : Fl).v :: (fl.map Fl.v ++ kr.map Prod.fst)) from H4.out.1)
      have st : ∀ (v : Value) (bs : List Int), OwnB 0 w v bs → v ∈ fl.map Fl.v ++ kr.map Prod.fst → OwnB 0 (W.drew.setCell ⟨g, j, none⟩ (.int .u8 y)) v bs := fun v bs o hm => (ownB_below o BD.out).fr f (fun g' hg' (e : g' = g) => hd.1 v hm g rfl (by rw [← e]; exact hg'))
      refine ⟨⟨rv, ps, sv, ⟨some ⟨g, 0, none⟩, p.1.length, fc, fg⟩ :: fl, (H1.out.below BD.out).tb hcur f, H2.out, ⟨⟨?_, H3.out.1.2⟩, ?_⟩, H4.out⟩, ?_, fun q hq => st _ _ (H.out.kept q hq) (List.mem_append_right _ (List.mem_map.2 ⟨q, hq, rfl⟩))⟩
      · have := own_setB o0 j hj y
        have e : p.1.set j y = flipAt p.1 k := by
          unfold flipAt
          rw [← HJD.out, ← HRDD.out, HY.out, HX.out, List.getD_eq_getElem?_getD, List.getElem?_eq_getElem hj]
          rfl
        rw [e] at this
        exact this
      · exact all_mem H3.out.2 (fun f p hf e => ⟨st _ _ e.1 (List.mem_append_left _ (List.mem_map.2 ⟨f, hf, rfl⟩)), e.2⟩)
      · exact hX.bel.trans (f.below' hX.bel.size (fun b (e : b = g) => by rw [e]; exact H4.out.2 _ (by rw [List.map_cons]; exact List.mem_cons_self ..) g rfl))
    clear yx zx
    go_wp2_with fail
    go_ret
    have hfin := fin.out
    rw [HY.out] at hfin
    exact ⟨rfl, hfin⟩
end Go.Proofs.Yteihpaikdpdglaa
