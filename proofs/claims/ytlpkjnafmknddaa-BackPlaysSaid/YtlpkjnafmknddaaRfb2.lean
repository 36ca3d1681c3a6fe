/-
  The reference's back: Put, Next, Acked, Again, Clear.
-/
import Derived.Test.YtlpkjnafmknddaaRfb
namespace Go.Proofs.Ytlpkjnafmknddaa
open Go.RowKit
set_option linter.unusedVariables false


theorem rAgain {w : World} {G : Nat → Prop} {r : Nat} {most : Int} {out : Nat} {bs : List (List Int)} (h : RfA w G r (.int .i64 most) (.int .i64 out) bs) :
    Calls Try.prog 22 #[.pointer (some ⟨r, 0, none⟩)] w fun e w' => e = .returned (.int .i64 out) ∧ RfA w' G r (.int .i64 most) (.int .i64 0) bs ∧ Stp G G w w' := by
  have fin := Lib.hid (h.set1 (.int .i64 0))
  obtain ⟨lv, l, h1, h2⟩ := h
  have k1 := h1.cell1
  have z1 : w.frozen? ⟨r, 1, none⟩ = false := blk_free h1.blk 1
  clear h1 h2
  go_enter Try.func22, Try.ntmps22
  go_wp2_with fail
  go_ret
  exact ⟨rfl, fin.out⟩

theorem rPutNo {w : World} {G : Nat → Prop} {r : Nat} {most : Int} {c1 : Value} {bs : List (List Int)} (h : RfA w G r (.int .i64 most) c1 bs) (bv : Value) (hf : most ≤ (bs.length : Int)) :
    Calls Try.prog 18 #[.pointer (some ⟨r, 0, none⟩), bv] w fun e w' => e = .returned (.bool false) ∧ Below w.heap.size w w' := by
  obtain ⟨lv, l, h1, h2⟩ := h
  obtain ⟨la, lc, rfl, _⟩ := own_shape h1.own
  have k0 := h1.cell0
  have k2 := h1.cell2
  have d1 : decide (most ≤ (l.length : Int)) = true := by rw [h1.it.1]; simpa using hf
  clear h1 h2
  go_enter Try.func18, Try.ntmps18
  go_wp2_with fail
  go_quiet (fail)
  go_wp2_with fail
  go_ret
  exact ⟨rfl, below_drewN (Below.refl _ w) _⟩

set_option maxHeartbeats 2000000 in
theorem rPutYes {w : World} {G : Nat → Prop} {r : Nat} {most : Int} {c1 : Value} {bs : List (List Int)} (h : RfA w G r (.int .i64 most) c1 bs) {bv : Value} {x : List Int} (hx : RdB w bv x) (hxl : x.length ≤ 1000000) (hl : bs.length ≤ 100000) (hf : (bs.length : Int) < most) :
    Calls Try.prog 18 #[.pointer (some ⟨r, 0, none⟩), bv] w fun e w' => e = .returned (.bool true) ∧ ∃ G', RfA w' G' r (.int .i64 most) c1 (bs ++ [x]) ∧ Stp G G' w w' := by
  obtain ⟨i1, hi1, hz3, hz4, hz5⟩ := info_parts infoQB
  obtain ⟨lv, l, h1, h2⟩ := h
  obtain ⟨la, lc, rfl, _⟩ := own_shape h1.own
  have k0 := h1.cell0
  have k2 := h1.cell2
  have hll := h1.it.1
  have d1 : decide (most ≤ (l.length : Int)) = false := by rw [hll]; simpa using hf
  have Hll := Lib.hid hll
  clear hll
  have H := Lib.hid h1
  have HX := Lib.hid hx
  clear h1 hx
  go_enter Try.func18, Try.ntmps18
  go_wp2_with fail
  go_quiet (fail)
  have HN : Hid (∀ m, IsRf (w.drewN m) r (.int .i64 most) c1 (.slice la l.length lc) l bs) := fun m => H.out.below (below_drewN (Below.refl _ w) m)
  have HXN : Hid (∀ m, RdB (w.drewN m) bv x) := fun m => HX.out.fr (below_drewN (Below.refl _ w) m)
  have k2 : ∀ m, (w.drewN m).cell? ⟨r, 2, none⟩ = some (.slice la l.length lc) := fun m => (HN.out m).cell2
  go_wp2_with fail
  clear k0
  go_region_law (first
      | (go_simp; go_at_call 32; refine (copyB bv x _ (HXN.out _) hxl).mono ?_; rintro e w2 ⟨v', rfl, o2, b2⟩; have k3 := cellOn' (k2 _) b2; have hr2 := World.block_lt_of_cell? w2 _ k3; dsimp only at hr2; obtain ⟨va, vk, hv, _⟩ := own_shape o2; have O2 := Lib.hid o2; have B2 := Lib.hid b2; clear o2 b2; subst hv)
      | (refine step_app (B := 0) (v := .slice la l.length lc) rfl (.tmp 19) (.tmp 22) 38 rfl 26 i1 _ 1 _ Try.underlying38 hi1 hz3 hz4 hz5 rfl (by decide) (Nat.zero_le _) rfl rfl ((((HN.out _).below B2.out).below ((Below.refl _ w2).alloc (Nat.le_refl _) (.cells #[.slice va x.length vk] 26))).own) (Rd.new (by simp) rfl) (by intro u hu; simp at hu; subst hu; rfl) (by unfold maxLen; have := Hll.out; omega) (by have := Hll.out; omega) ?_; intro v5 w5 o5 f5 m5 n5 z5; have O5 := Lib.hid o5; have F5 := Lib.hid f5; have M5 := Lib.hid m5; have k4 : w5.cell? ⟨r, 2, none⟩ = some (.slice la l.length lc) ∧ w5.frozen? ⟨r, 2, none⟩ = false := (held_fr ⟨(((HN.out _).below B2.out).below ((Below.refl _ w2).alloc (Nat.le_refl _) (.cells #[.slice va x.length vk] 26))).cell2, blk_free (((HN.out _).below B2.out).below ((Below.refl _ w2).alloc (Nat.le_refl _) (.cells #[.slice va x.length vk] 26))).blk 2⟩ f5 (fun e => (HN.out 0).ne e)); obtain ⟨k5, k6⟩ := k4; obtain ⟨a5, c5, rfl, _⟩ := own_shape o5; clear o5 f5 m5 n5))
  all_goals
    have hal := (Below.refl w2.heap.size w2).alloc (Nat.le_refl _) (.cells #[.slice va x.length vk] 26)
    have fin := Lib.hid (H.out.put h2 (((below_drewN (Below.refl _ w) _).trans (B2.out.mono (Nat.le_refl _))).trans (hal.mono (by have := B2.out.size; simpa using this))) (Nat.le_refl _) (B := w.heap.size) (Own.fr O2.out (Fr.of_below hal no) (fun _ _ e => e)) F5.out (by simpa using M5.out) O5.out)
    clear hal k2 k3 hr2 k5 k6
    go_wp2_with fail
    go_ret
    exact ⟨rfl, by obtain ⟨G', ⟨h, _, _⟩, s⟩ := fin.out; exact ⟨G', h, s⟩⟩

theorem rNextNo {w : World} {G : Nat → Prop} {r : Nat} {c0 : Value} {out : Nat} {bs : List (List Int)} (h : RfA w G r c0 (.int .i64 out) bs) (hf : bs.length ≤ out) :
    Calls Try.prog 19 #[.pointer (some ⟨r, 0, none⟩)] w fun e w' => e = .returned (.tuple #[.slice none 0 0, .bool false]) ∧ Below w.heap.size w w' := by
  obtain ⟨lv, l, h1, h2⟩ := h
  obtain ⟨la, lc, rfl, _⟩ := own_shape h1.own
  have k1 := h1.cell1
  have k2 := h1.cell2
  have d1 : decide ((l.length : Int) ≤ (out : Int)) = true := by rw [h1.it.1]; simpa using hf
  have d2 : decide (l.length ≤ out) = true := by rw [h1.it.1]; simpa using hf
  clear h1 h2
  go_enter Try.func19, Try.ntmps19
  go_wp2_with fail
  go_quiet (fail)
  go_wp2_with fail
  go_ret2
  exact ⟨rfl, below_drewN (Below.refl _ w) _⟩

set_option maxHeartbeats 2000000 in
theorem rNextYes {w : World} {G : Nat → Prop} {r : Nat} {c0 : Value} {out : Nat} {bs : List (List Int)} {y : List Int} (h : RfA w G r c0 (.int .i64 out) bs) (hy : bs[out]? = some y) (hl : bs.length ≤ 100000) (hx : y.length ≤ 1000000) :
    Calls Try.prog 19 #[.pointer (some ⟨r, 0, none⟩)] w fun e w' => ∃ v, e = .returned (.tuple #[v, .bool true]) ∧ OwnB w.heap.size w' v y ∧ RfA w' G r c0 (.int .i64 ((out + 1 : Nat) : Int)) bs ∧ Stp G G w w' := by
  obtain ⟨lv, l, h1, h2⟩ := h
  have hlt : out < bs.length := (List.getElem?_eq_some_iff.1 hy).1
  have hi' : out < l.length := by rw [h1.it.1]; exact hlt
  have ho := h1.it.2 out _ y (List.getElem?_eq_getElem hi') hy
  obtain ⟨g, lc, rfl, _, hlc, hlm⟩ := own_some h1.own (by omega)
  obtain ⟨xa, xk, hxv, _⟩ := own_shape ho
  have hout : (out : Int) ≤ 100000 := by omega
  have H := Lib.hid h1
  have d1 : decide ((l.length : Int) ≤ (out : Int)) = false := by simp; omega
  have d2 : decide (l.length ≤ out) = false := by simp; omega
  have k1 := h1.cell1
  have k2 := h1.cell2
  have z1 : w.frozen? ⟨r, 1, none⟩ = false := blk_free h1.blk 1
  have HS : Hid (∀ m n, IsRf (((w.drewN m).setCell ⟨r, 1, none⟩ (.int .i64 ((out : Int) + 1))).drewN n) r c0 (.int .i64 ((out : Int) + 1)) (.slice (some ⟨g, 0, none⟩) l.length lc) l bs) := fun m n => ((H.out.below (below_drewN (Below.refl _ w) m)).set1 _).below (below_drewN (Below.refl _ _) n)
  have HB : Hid (∀ m n, Fr G w (((w.drewN m).setCell ⟨r, 1, none⟩ (.int .i64 ((out : Int) + 1))).drewN n)) := fun m n => (((Fr.refl G w).drewN m).setCell (p := ⟨r, 1, none⟩) (fun _ => (h2 r).2 (.inl rfl)) _).drewN n
  have k3 : w.cell? ⟨g, out, none⟩ = some (.slice xa y.length xk) := by rw [← hxv]; exact own_at h1.own hi'
  have hgr : ¬ g = r := fun e => h1.ne (by rw [← e]; rfl)
  have hrg : ¬ r = g := fun e => hgr e.symm
  have Hxv := Lib.hid hxv
  have Hi := Lib.hid hi'
  have Hy := Lib.hid hy
  have hi1 : (0 : Int) ≤ (out : Int) := by omega
  have hi2 : (out : Int) < (l.length : Int) := by omega
  have hi3 : out < l.length := hi'
  clear h1 ho hxv hy hlt
  go_enter Try.func19, Try.ntmps19
  go_wp2_with fail
  go_quiet (fail)
  go_wp2_with fail
  have HRd : Hid (∀ m n, RdB (((w.drewN m).setCell ⟨r, 1, none⟩ (.int .i64 ((out : Int) + 1))).drewN n) (.slice xa y.length xk) y) := fun m n => by rw [← Hxv.out]; exact ((HS.out m n).it.2 out _ y (List.getElem?_eq_getElem Hi.out) Hy.out).rd
  have hwr : IntKind.i64.wrap (out : Int) = (out : Int) := IntWalk.i64_in _ (by omega)
  go_region_law (first
      | (go_simp; go_at_call 32; refine (copyB _ y _ (HRd.out _ 1) hx).mono ?_; rintro e w2 ⟨v', rfl, o2, b2⟩; obtain ⟨va, vk, hv, _⟩ := own_shape o2; have O2 := Lib.hid o2; have B2 := Lib.hid b2; clear o2 b2; subst hv)
      | fail)
  all_goals
    have fin : Hid (OwnB w.heap.size w2 (.slice va y.length vk) y ∧ RfA w2 G r c0 (.int .i64 ((out + 1 : Nat) : Int)) bs ∧ Stp G G w w2) := by
      have e1 : ((out + 1 : Nat) : Int) = (out : Int) + 1 := by simp
      rw [e1]
      have h5 := (HS.out _ 1).below B2.out
      exact ⟨own_base (own_zero O2.out) (fun g' hg' => by have := (O2.out.lt g' hg').1; simpa using this), ⟨_, l, h5, h2⟩, (HB.out _ 1).trans' (Fr.of_below B2.out G) (fun _ _ e => e) (fun _ _ e => e), fun _ e => .inl e⟩
    clear k1 k2 k3 z1 hwr
    go_wp2_with fail
    go_ret2
    exact ⟨_, rfl, fin.out⟩

theorem rClear {w : World} {G : Nat → Prop} {r : Nat} {c0 c1 : Value} {bs : List (List Int)} (h : RfA w G r c0 c1 bs) :
    Calls Try.prog 24 #[.pointer (some ⟨r, 0, none⟩)] w fun e w' => e = .returned (.int .i64 bs.length) ∧ ∃ G', RfA w' G' r c0 (.int .i64 0) [] ∧ Stp G G' w w' := by
  obtain ⟨lv, l, h1, h2⟩ := h
  rw [← h1.it.1]
  obtain ⟨la, lc, rfl, _⟩ := own_shape h1.own
  have k2 := h1.cell2
  have z2 : w.frozen? ⟨r, 2, none⟩ = false := blk_free h1.blk 2
  have k1 := h1.cell1
  have z1 : w.frozen? ⟨r, 1, none⟩ = false := blk_free h1.blk 1
  obtain ⟨h3, s3⟩ := h1.clear h2
  have fin : Hid (∃ G', RfA ((w.setCell ⟨r, 2, none⟩ (.slice none 0 0)).setCell ⟨r, 1, none⟩ (.int .i64 0)) G' r c0 (.int .i64 0) [] ∧ Stp G G' w ((w.setCell ⟨r, 2, none⟩ (.slice none 0 0)).setCell ⟨r, 1, none⟩ (.int .i64 0))) :=
    ⟨_, ⟨_, _, h3.set1 _, fun _ => Iff.rfl⟩, s3.trans ⟨(Fr.refl _ _).setCell (p := ⟨r, 1, none⟩) (fun _ => .inl rfl) _, fun _ e => .inl e⟩⟩
  clear h1 h3 s3
  go_enter Try.func24, Try.ntmps24
  go_wp2_with fail
  go_ret
  exact ⟨rfl, fin.out⟩

set_option maxHeartbeats 2000000 in
theorem rAcked {w : World} {G : Nat → Prop} {r : Nat} {c0 : Value} {out : Nat} {bs : List (List Int)} (h : RfA w G r c0 (.int .i64 out) bs) (n : Int) (k : Nat) (hk : min (max n 0) (out : Int) = k) (ho : out ≤ bs.length) (hl : bs.length ≤ 100000) :
    Calls Try.prog 21 #[.pointer (some ⟨r, 0, none⟩), .int .i64 n] w fun e w' => e = .returned (.int .i64 k) ∧ ∃ G', RfA w' G' r c0 (.int .i64 ((out - k : Nat) : Int)) (bs.drop k) ∧ Stp G G' w w' := by
  obtain ⟨i1, hi1, hz3, hz4, hz5⟩ := info_parts infoQB
  obtain ⟨lv, l, h1, h2⟩ := h
  obtain ⟨la, lc, rfl, hc1, hc2, hc3⟩ := own_shape h1.own
  have k1 := h1.cell1
  have k2 := h1.cell2
  have z1 : w.frozen? ⟨r, 1, none⟩ = false := blk_free h1.blk 1
  have z2 : w.frozen? ⟨r, 2, none⟩ = false := blk_free h1.blk 2
  have hrw := lt_of_block h1.blk
  have hko : k ≤ out := by omega
  have hkl : k ≤ l.length := by rw [h1.it.1]; omega
  have hdl : (l.drop k).length = l.length - k := List.length_drop
  have H1 : Hid (∀ u ∈ (l.drop k).flatMap enQ, u.oneCell' = true) := enQ_ones (fun v hv => h1.it.one v (List.mem_of_mem_drop hv))
  have H := Lib.hid h1
  have tail : ∀ (w5 : World) (v5 : Value), Own enQ 26 1 w.heap.size w5 v5 (l.drop k) → Below w.heap.size w w5 →
      w5.cell? ⟨r, 2, none⟩ = some (.slice la l.length lc) ∧ w5.frozen? ⟨r, 2, none⟩ = false ∧ w5.cell? ⟨r, 1, none⟩ = some (.int .i64 out) ∧ w5.frozen? ⟨r, 1, none⟩ = false ∧
      Hid (∃ G', RfA ((w5.setCell ⟨r, 2, none⟩ v5).setCell ⟨r, 1, none⟩ (.int .i64 ((out : Int) - k))) G' r c0 (.int .i64 ((out - k : Nat) : Int)) (bs.drop k) ∧ Stp G G' w ((w5.setCell ⟨r, 2, none⟩ v5).setCell ⟨r, 1, none⟩ (.int .i64 ((out : Int) - k)))) := fun w5 v5 o5 b5 => by
    have h3 := H.out.below b5
    obtain ⟨G', ⟨_, h4, h5⟩, s4⟩ := H.out.cut h2 b5 k (Nat.le_refl _) o5
    rw [show ((out - k : Nat) : Int) = (out : Int) - k by omega]
    exact ⟨h3.cell2, blk_free h3.blk 2, h3.cell1, blk_free h3.blk 1, G', ⟨_, _, h4.set1 _, h5⟩, s4.trans ⟨(Fr.refl _ _).setCell (p := ⟨r, 1, none⟩) (fun _ => (h5 r).2 (.inl rfl)) _, fun _ e => .inl e⟩⟩
  have Tail := Lib.hid tail
  have hout : (out : Int) ≤ 100000 := by omega
  have hko' : (k : Int) ≤ (out : Int) := by omega
  have Hl : Hid (l.length ≤ 100000) := by unfold Hid; rw [h1.it.1]; exact hl
  have Hdl := Lib.hid hdl
  have hown := h1.own
  have hcl := own_cases h1.own
  clear tail hdl
  have HONE := H1
  rcases hcl with ⟨e1, e2, _⟩ | ⟨g, c, e1, hgw, hc1, hc2⟩
  · -- no rows
    simp at e1
    have e1' : lc = 0 := by omega
    obtain rfl : la = none := by first | exact e1.1 | exact e1
    subst e1'
    have e3 : l = [] := List.eq_nil_of_length_eq_zero e2
    subst e3
    have hz0 : out = 0 := by have := H.out.it.1; simp at this; omega
    subst hz0
    obtain rfl : k = 0 := by omega
    clear h1 hown hko' hkl hko
    have R0 : Rd (w.alloc (.cells #[] 26)) 1 (.slice none 0 0) 0 [] := ⟨rfl, none, 0, rfl, fun _ => ⟨rfl, rfl⟩, fun _ e => by cases e⟩
    have k2 : w.cell? ⟨r, 2, none⟩ = some (.slice none 0 0) := k2
    by_cases hn : n < 0
    · clear hk
      go_enter Try.func21, Try.ntmps21
      go_wp2_with (at_builtin; refine held ?_)
      all_goals
        refine unheld ?_
        refine wpList_app (B := w.heap.size) (v := .slice (some ⟨w.heap.size, 0, none⟩) 0 0) (n := 0) (m := 0) (news := []) rfl (.tmp 13) (.tmp 19) 38 rfl 26 i1 _ 1 _ Try.underlying38 hi1 hz3 hz4 hz5 rfl (by decide) (by simp) rfl rfl (own_empty w _ _ _ (Nat.le_refl _)) ?rd ?one (by have := Hl.out; unfold maxLen; omega) (by have := Hl.out; omega) ?_
        case rd => exact R0
        case one => first | exact HONE.out | exact (fun u hu => by cases hu) | (have := HONE.out; simpa using this)
        intro v5 w5 o5 f5 m5 n5 z5
        have f25 := ((Fr.refl (fun b => w.heap.size ≤ b) w).alloc (.cells #[] 26)).trans' f5 (T := fun b => w.heap.size ≤ b) (fun _ _ e => e) (fun b _ e => by simp [Value.ownBlock] at e; omega)
        have o6 : Own enQ 26 1 w.heap.size w5 v5 (([] : List Value).drop 0) := by
          unfold Own
          rw [Hdl.out]
          have h := o5
          rw [List.nil_append] at h
          simpa using h
        obtain ⟨t1, t2, t3, t4, t5⟩ := Tail.out w5 v5 o6 (f25.below' (Nat.le_refl _) (fun _ e => e))
        obtain ⟨a5, c5, rfl, _⟩ := own_shape o5
        clear o5 o6 f5 f25 m5 n5 z5 k1 k2 z1 z2
        go_wp2_with fail
        go_ret
        first | exact ⟨rfl, t5.out⟩ | exact ⟨rfl, by simpa using t5.out⟩
    · by_cases hn0 : n = 0
      · subst hn0
        clear hk hn
        go_enter Try.func21, Try.ntmps21
        go_wp2_with (at_builtin; refine held ?_)
        all_goals
          refine unheld ?_
          refine wpList_app (B := w.heap.size) (v := .slice (some ⟨w.heap.size, 0, none⟩) 0 0) (n := 0) (m := 0) (news := []) rfl (.tmp 13) (.tmp 19) 38 rfl 26 i1 _ 1 _ Try.underlying38 hi1 hz3 hz4 hz5 rfl (by decide) (by simp) rfl rfl (own_empty w _ _ _ (Nat.le_refl _)) ?rd ?one (by have := Hl.out; unfold maxLen; omega) (by have := Hl.out; omega) ?_
          case rd => exact R0
          case one => first | exact HONE.out | exact (fun u hu => by cases hu) | (have := HONE.out; simpa using this)
          intro v5 w5 o5 f5 m5 n5 z5
          have f25 := ((Fr.refl (fun b => w.heap.size ≤ b) w).alloc (.cells #[] 26)).trans' f5 (T := fun b => w.heap.size ≤ b) (fun _ _ e => e) (fun b _ e => by simp [Value.ownBlock] at e; omega)
          have o6 : Own enQ 26 1 w.heap.size w5 v5 (([] : List Value).drop 0) := by
            unfold Own
            rw [Hdl.out]
            have h := o5
            rw [List.nil_append] at h
            simpa using h
          obtain ⟨t1, t2, t3, t4, t5⟩ := Tail.out w5 v5 o6 (f25.below' (Nat.le_refl _) (fun _ e => e))
          obtain ⟨a5, c5, rfl, _⟩ := own_shape o5
          clear o5 o6 f5 f25 m5 n5 z5 k1 k2 z1 z2
          go_wp2_with fail
          go_ret
          first | exact ⟨rfl, t5.out⟩ | exact ⟨rfl, by simpa using t5.out⟩
      · have hn1 : 0 < n := by omega
        clear hk hn hn0
        go_enter Try.func21, Try.ntmps21
        go_wp2_with (at_builtin; refine held ?_)
        all_goals
          refine unheld ?_
          refine wpList_app (B := w.heap.size) (v := .slice (some ⟨w.heap.size, 0, none⟩) 0 0) (n := 0) (m := 0) (news := []) rfl (.tmp 13) (.tmp 19) 38 rfl 26 i1 _ 1 _ Try.underlying38 hi1 hz3 hz4 hz5 rfl (by decide) (by simp) rfl rfl (own_empty w _ _ _ (Nat.le_refl _)) ?rd ?one (by have := Hl.out; unfold maxLen; omega) (by have := Hl.out; omega) ?_
          case rd => exact R0
          case one => first | exact HONE.out | exact (fun u hu => by cases hu) | (have := HONE.out; simpa using this)
          intro v5 w5 o5 f5 m5 n5 z5
          have f25 := ((Fr.refl (fun b => w.heap.size ≤ b) w).alloc (.cells #[] 26)).trans' f5 (T := fun b => w.heap.size ≤ b) (fun _ _ e => e) (fun b _ e => by simp [Value.ownBlock] at e; omega)
          have o6 : Own enQ 26 1 w.heap.size w5 v5 (([] : List Value).drop 0) := by
            unfold Own
            rw [Hdl.out]
            have h := o5
            rw [List.nil_append] at h
            simpa using h
          obtain ⟨t1, t2, t3, t4, t5⟩ := Tail.out w5 v5 o6 (f25.below' (Nat.le_refl _) (fun _ e => e))
          obtain ⟨a5, c5, rfl, _⟩ := own_shape o5
          clear o5 o6 f5 f25 m5 n5 z5 k1 k2 z1 z2
          go_wp2_with fail
          go_ret
          first | exact ⟨rfl, t5.out⟩ | exact ⟨rfl, by simpa using t5.out⟩
  · simp at e1
    obtain ⟨rfl, rfl⟩ := e1
    have HD := Own.dropRd enQ_len hown hkl hc1
    have hal := (Below.refl w.heap.size w).alloc (Nat.le_refl _) (.cells #[] 26)
    have R1 : Hid (¬ lc = k → Rd (w.alloc (.cells #[] 26)) 1 (.slice (some ⟨g, k, none⟩) (l.length - k) (lc - k)) (l.length - k) ((l.drop k).flatMap enQ)) := fun e => by
      rw [if_neg e, Nat.mul_one] at HD
      exact HD.fr (Fr.of_below hal no) (fun _ _ e => e)
    have R2 : Hid (∀ c, lc = k → Rd (w.alloc (.cells #[] 26)) 1 (.slice (some ⟨g, 0, none⟩) (l.length - k) c) (l.length - k) ((l.drop k).flatMap enQ)) := fun c e => by
      rw [if_pos e] at HD
      obtain ⟨q1, ad, c', q2, q3, q4⟩ := HD.fr (Fr.of_below hal no) (fun _ _ e => e)
      simp at q2
      obtain ⟨rfl, rfl⟩ := q2
      exact ⟨q1, _, c, rfl, fun e => (by cases e), q4⟩
    have hc5 : lc ≤ 9223372036854775807 := by unfold maxLen at hc2; omega
    have i1' : (0 : Int) ≤ (k : Int) := by omega
    have i2 : (k : Int) ≤ (l.length : Int) := by omega
    have i3 : (l.length : Int) ≤ (lc : Int) := by omega
    have i4 : k ≤ lc := by omega
    have Hkl := Lib.hid hkl
    clear h1 hown HD hal hc1 hc2 hkl hko
    by_cases hn : n < 0
    · obtain rfl : k = 0 := by omega
      clear hk i1' i2 i4
      by_cases hcap : lc = 0
      · subst hcap
        have HNil : Hid (l.drop 0 = []) := List.drop_eq_nil_of_le (by omega)
        have hl0 : l.length = 0 := by have := Hkl.out; omega
        have RZ : Rd (w.alloc (.cells #[] 26)) 1 (.slice (some ⟨g, 0, none⟩) 0 0) 0 [] := ⟨rfl, _, 0, rfl, fun e => (by cases e), fun ad _ j u hu => by simp at hu⟩
        clear hl0
        go_enter Try.func21, Try.ntmps21
        go_wp2_with (at_builtin; refine held ?_)
        all_goals
          refine unheld ?_
          refine wpList_app (B := w.heap.size) (v := .slice (some ⟨w.heap.size, 0, none⟩) 0 0) (n := 0) (m := 0) (news := []) rfl (.tmp 13) (.tmp 19) 38 rfl 26 i1 _ 1 _ Try.underlying38 hi1 hz3 hz4 hz5 rfl (by decide) (by simp) rfl rfl (own_empty w _ _ _ (Nat.le_refl _)) ?rd ?one (by have := Hl.out; unfold maxLen; omega) (by have := Hl.out; omega) ?_
          case rd => exact RZ
          case one => first | exact HONE.out | exact (fun u hu => by cases hu) | (have := HONE.out; simpa using this)
          intro v5 w5 o5 f5 m5 n5 z5
          have f25 := ((Fr.refl (fun b => w.heap.size ≤ b) w).alloc (.cells #[] 26)).trans' f5 (T := fun b => w.heap.size ≤ b) (fun _ _ e => e) (fun b _ e => by simp [Value.ownBlock] at e; omega)
          have o6 : Own enQ 26 1 w.heap.size w5 v5 (l.drop 0) := by
            rw [HNil.out]
            unfold Own
            simpa using o5
          obtain ⟨t1, t2, t3, t4, t5⟩ := Tail.out w5 v5 o6 (f25.below' (Nat.le_refl _) (fun _ e => e))
          obtain ⟨a5, c5, rfl, _⟩ := own_shape o5
          clear o5 o6 f5 f25 m5 n5 z5 k1 k2 z1 z2
          go_wp2_with fail
          go_ret
          first | exact ⟨rfl, t5.out⟩ | exact ⟨rfl, by simpa using t5.out⟩
      · go_enter Try.func21, Try.ntmps21
        go_wp2_with (at_builtin; refine held ?_)
        all_goals
          refine unheld ?_
          refine wpList_app (B := w.heap.size) (v := .slice (some ⟨w.heap.size, 0, none⟩) 0 0) (n := 0) (m := l.length) (news := l.flatMap enQ) rfl (.tmp 13) (.tmp 19) 38 rfl 26 i1 _ 1 _ Try.underlying38 hi1 hz3 hz4 hz5 rfl (by decide) (by simp) rfl rfl (own_empty w _ _ _ (Nat.le_refl _)) ?rd ?one (by have := Hl.out; unfold maxLen; omega) (by have := Hl.out; omega) ?_
          case rd => first | exact R1.out hcap | (have := R1.out hcap; simpa using this)
          case one => first | exact HONE.out | exact (fun u hu => by cases hu) | (have := HONE.out; simpa using this)
          intro v5 w5 o5 f5 m5 n5 z5
          have f25 := ((Fr.refl (fun b => w.heap.size ≤ b) w).alloc (.cells #[] 26)).trans' f5 (T := fun b => w.heap.size ≤ b) (fun _ _ e => e) (fun b _ e => by simp [Value.ownBlock] at e; omega)
          have o6 : Own enQ 26 1 w.heap.size w5 v5 (l.drop 0) := by
            unfold Own
            rw [Hdl.out]
            have h := o5
            rw [List.nil_append] at h
            simpa using h
          obtain ⟨t1, t2, t3, t4, t5⟩ := Tail.out w5 v5 o6 (f25.below' (Nat.le_refl _) (fun _ e => e))
          obtain ⟨a5, c5, rfl, _⟩ := own_shape o5
          clear o5 o6 f5 f25 m5 n5 z5 k1 k2 z1 z2
          go_wp2_with fail
          go_ret
          first | exact ⟨rfl, t5.out⟩ | exact ⟨rfl, by simpa using t5.out⟩
    · by_cases hno : n ≤ (out : Int)
      · have hnk : n = (k : Int) := by rw [Int.max_eq_left (by omega), Int.min_eq_left hno] at hk; exact hk
        subst hnk
        clear hk hn
        by_cases hcap : lc = k
        · subst hcap
          have HNil : Hid (l.drop lc = []) := List.drop_eq_nil_of_le (by omega)
          have hl0 : l.length = lc := by have := Hkl.out; omega
          have RZ : Rd (w.alloc (.cells #[] 26)) 1 (.slice (some ⟨g, 0, none⟩) 0 0) 0 [] := ⟨rfl, _, 0, rfl, fun e => (by cases e), fun ad _ j u hu => by simp at hu⟩
          clear hl0
          go_enter Try.func21, Try.ntmps21
          go_wp2_with (at_builtin; refine held ?_)
          all_goals
            refine unheld ?_
            refine wpList_app (B := w.heap.size) (v := .slice (some ⟨w.heap.size, 0, none⟩) 0 0) (n := 0) (m := 0) (news := []) rfl (.tmp 13) (.tmp 19) 38 rfl 26 i1 _ 1 _ Try.underlying38 hi1 hz3 hz4 hz5 rfl (by decide) (by simp) rfl rfl (own_empty w _ _ _ (Nat.le_refl _)) ?rd ?one (by have := Hl.out; unfold maxLen; omega) (by have := Hl.out; omega) ?_
            case rd => exact RZ
            case one => first | exact HONE.out | exact (fun u hu => by cases hu) | (have := HONE.out; simpa using this)
            intro v5 w5 o5 f5 m5 n5 z5
            have f25 := ((Fr.refl (fun b => w.heap.size ≤ b) w).alloc (.cells #[] 26)).trans' f5 (T := fun b => w.heap.size ≤ b) (fun _ _ e => e) (fun b _ e => by simp [Value.ownBlock] at e; omega)
            have o6 : Own enQ 26 1 w.heap.size w5 v5 (l.drop lc) := by
              rw [HNil.out]
              unfold Own
              simpa using o5
            obtain ⟨t1, t2, t3, t4, t5⟩ := Tail.out w5 v5 o6 (f25.below' (Nat.le_refl _) (fun _ e => e))
            obtain ⟨a5, c5, rfl, _⟩ := own_shape o5
            clear o5 o6 f5 f25 m5 n5 z5 k1 k2 z1 z2
            go_wp2_with fail
            go_ret
            first | exact ⟨rfl, t5.out⟩ | exact ⟨rfl, by simpa using t5.out⟩
        · go_enter Try.func21, Try.ntmps21
          go_wp2_with (at_builtin; refine held ?_)
          all_goals
            refine unheld ?_
            refine wpList_app (B := w.heap.size) (v := .slice (some ⟨w.heap.size, 0, none⟩) 0 0) (n := 0) (m := l.length - k) (news := (l.drop k).flatMap enQ) rfl (.tmp 13) (.tmp 19) 38 rfl 26 i1 _ 1 _ Try.underlying38 hi1 hz3 hz4 hz5 rfl (by decide) (by simp) rfl rfl (own_empty w _ _ _ (Nat.le_refl _)) ?rd ?one (by have := Hl.out; unfold maxLen; omega) (by have := Hl.out; omega) ?_
            case rd => exact R1.out hcap
            case one => first | exact HONE.out | exact (fun u hu => by cases hu) | (have := HONE.out; simpa using this)
            intro v5 w5 o5 f5 m5 n5 z5
            have f25 := ((Fr.refl (fun b => w.heap.size ≤ b) w).alloc (.cells #[] 26)).trans' f5 (T := fun b => w.heap.size ≤ b) (fun _ _ e => e) (fun b _ e => by simp [Value.ownBlock] at e; omega)
            have o6 : Own enQ 26 1 w.heap.size w5 v5 (l.drop k) := by
              unfold Own
              rw [Hdl.out]
              have h := o5
              rw [List.nil_append] at h
              simpa using h
            obtain ⟨t1, t2, t3, t4, t5⟩ := Tail.out w5 v5 o6 (f25.below' (Nat.le_refl _) (fun _ e => e))
            obtain ⟨a5, c5, rfl, _⟩ := own_shape o5
            clear o5 o6 f5 f25 m5 n5 z5 k1 k2 z1 z2
            go_wp2_with fail
            go_ret
            first | exact ⟨rfl, t5.out⟩ | exact ⟨rfl, by simpa using t5.out⟩
      · have hko2 : k = out := by have := hk; rw [Int.max_eq_left (by omega), Int.min_eq_right (by omega)] at this; omega
        subst hko2
        have hn1 : (k : Int) < n := by omega
        clear hk hn hno
        by_cases hcap : lc = k
        · subst hcap
          have HNil : Hid (l.drop lc = []) := List.drop_eq_nil_of_le (by omega)
          have hl0 : l.length = lc := by have := Hkl.out; omega
          have RZ : Rd (w.alloc (.cells #[] 26)) 1 (.slice (some ⟨g, 0, none⟩) 0 0) 0 [] := ⟨rfl, _, 0, rfl, fun e => (by cases e), fun ad _ j u hu => by simp at hu⟩
          clear hl0
          go_enter Try.func21, Try.ntmps21
          go_wp2_with (at_builtin; refine held ?_)
          all_goals
            refine unheld ?_
            refine wpList_app (B := w.heap.size) (v := .slice (some ⟨w.heap.size, 0, none⟩) 0 0) (n := 0) (m := 0) (news := []) rfl (.tmp 13) (.tmp 19) 38 rfl 26 i1 _ 1 _ Try.underlying38 hi1 hz3 hz4 hz5 rfl (by decide) (by simp) rfl rfl (own_empty w _ _ _ (Nat.le_refl _)) ?rd ?one (by have := Hl.out; unfold maxLen; omega) (by have := Hl.out; omega) ?_
            case rd => exact RZ
            case one => first | exact HONE.out | exact (fun u hu => by cases hu) | (have := HONE.out; simpa using this)
            intro v5 w5 o5 f5 m5 n5 z5
            have f25 := ((Fr.refl (fun b => w.heap.size ≤ b) w).alloc (.cells #[] 26)).trans' f5 (T := fun b => w.heap.size ≤ b) (fun _ _ e => e) (fun b _ e => by simp [Value.ownBlock] at e; omega)
            have o6 : Own enQ 26 1 w.heap.size w5 v5 (l.drop lc) := by
              rw [HNil.out]
              unfold Own
              simpa using o5
            obtain ⟨t1, t2, t3, t4, t5⟩ := Tail.out w5 v5 o6 (f25.below' (Nat.le_refl _) (fun _ e => e))
            obtain ⟨a5, c5, rfl, _⟩ := own_shape o5
            clear o5 o6 f5 f25 m5 n5 z5 k1 k2 z1 z2
            go_wp2_with fail
            go_ret
            first | exact ⟨rfl, t5.out⟩ | exact ⟨rfl, by simpa using t5.out⟩
        · go_enter Try.func21, Try.ntmps21
          go_wp2_with (at_builtin; refine held ?_)
          all_goals
            refine unheld ?_
            refine wpList_app (B := w.heap.size) (v := .slice (some ⟨w.heap.size, 0, none⟩) 0 0) (n := 0) (m := l.length - k) (news := (l.drop k).flatMap enQ) rfl (.tmp 13) (.tmp 19) 38 rfl 26 i1 _ 1 _ Try.underlying38 hi1 hz3 hz4 hz5 rfl (by decide) (by simp) rfl rfl (own_empty w _ _ _ (Nat.le_refl _)) ?rd ?one (by have := Hl.out; unfold maxLen; omega) (by have := Hl.out; omega) ?_
            case rd => exact R1.out hcap
            case one => first | exact HONE.out | exact (fun u hu => by cases hu) | (have := HONE.out; simpa using this)
            intro v5 w5 o5 f5 m5 n5 z5
            have f25 := ((Fr.refl (fun b => w.heap.size ≤ b) w).alloc (.cells #[] 26)).trans' f5 (T := fun b => w.heap.size ≤ b) (fun _ _ e => e) (fun b _ e => by simp [Value.ownBlock] at e; omega)
            have o6 : Own enQ 26 1 w.heap.size w5 v5 (l.drop k) := by
              unfold Own
              rw [Hdl.out]
              have h := o5
              rw [List.nil_append] at h
              simpa using h
            obtain ⟨t1, t2, t3, t4, t5⟩ := Tail.out w5 v5 o6 (f25.below' (Nat.le_refl _) (fun _ e => e))
            obtain ⟨a5, c5, rfl, _⟩ := own_shape o5
            clear o5 o6 f5 f25 m5 n5 z5 k1 k2 z1 z2
            go_wp2_with fail
            go_ret
            first | exact ⟨rfl, t5.out⟩ | exact ⟨rfl, by simpa using t5.out⟩
end Go.Proofs.Ytlpkjnafmknddaa
