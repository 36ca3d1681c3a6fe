/-
  Layer 5: LanFan: the walk.
-/
import Derived.Test.YteihpaikdpdglaaL5E
import Derived.Test.YteihpaikdpdglaaL5A
namespace Go.Proofs.Yteihpaikdpdglaa
open Go.RowKit
set_option linter.unusedVariables false


theorem lo9 : (0 : Int) ≤ 0 ∧ (0 : Int) ≤ 900000000 := by decide
theorem adOf_app (a : Ad) (b : List Int) : adOf (a.b ++ b) = a := by cases a; rfl

set_option maxRecDepth 100000 in
set_option maxHeartbeats 8000000 in
theorem fanL (n0 n1 n2 : Int) (h0 : 0 ≤ n0 ∧ n0 ≤ 255) (h1 : 0 ≤ n1 ∧ n1 ≤ 255) (a : Ad) (ha : ∀ x ∈ a.b, 0 ≤ x ∧ x ≤ 255) (v : Value) (b : List Int) (hby : ∀ x ∈ b, 0 ≤ x ∧ x ≤ 255) (w : World) (hrd : RdB w v b) :
    Calls Try.prog 6 #[.agg #[.int .u8 n0, .int .u8 n1, .int .u8 n2], adV a, v] w fun e w' => e = .returned (.bool true) ∧ Below w.heap.size w w' := by
  obtain ⟨i0, hi0, hz0, hz1, hz2⟩ := info_parts infoB
  obtain ⟨la, lc, rfl⟩ := hrd.len
  obtain ⟨st, hst, hst1, hst2⟩ : ∃ st : Nat, 1 + n0 % 16 = (st : Int) ∧ 1 ≤ st ∧ st ≤ 16 := ⟨(1 + n0 % 16).toNat, by omega, by omega, by omega⟩
  have hc0 : IntKind.i64.wrap n0 = n0 := IntWalk.i64_in _ (by omega)
  have hc1 : IntKind.i64.wrap n1 = n1 := IntWalk.i64_in _ (by omega)
  obtain ⟨A, hA, hA1⟩ : ∃ A : Nat, n1 % (st : Int) = (A : Int) ∧ A < st := by
    have h2 := Int.emod_nonneg n1 (b := (st : Int)) (by omega)
    have h3 := Int.emod_lt_of_pos n1 (b := (st : Int)) (by omega)
    exact ⟨(n1 % (st : Int)).toNat, by omega, by omega⟩
  have HRD := Lib.hid hrd
  have HBY := Lib.hid hby
  have HA := Lib.hid ha
  obtain ⟨W, hW⟩ : ∃ W, W = (w.alloc (.cells #[.int .u8 n0, .int .u8 n1, .int .u8 n2] 41)).alloc (.cells #[.int .u8 a.f0, .int .u8 a.f1, .int .u8 a.f2, .int .u8 a.f3, .int .u8 a.f4, .int .u8 a.f5] 43) := ⟨_, rfl⟩
  have hbl : Below w.heap.size w W := by rw [hW]; exact ((Below.refl _ w).alloc (Nat.le_refl _) _).alloc (by simp) _
  obtain ⟨p, hpp⟩ : ∃ p, p = w.heap.size := ⟨_, rfl⟩
  have hp0 : W.heap[p]? = some (.cells #[.int .u8 n0, .int .u8 n1, .int .u8 n2] 41 (0, 0)) := by rw [hW, hpp]; exact (heap_alloc_lt _ _ (by simp)).trans (heap_alloc_new' _ _)
  have hp1 : W.heap[p + 1]? = some (.cells #[.int .u8 a.f0, .int .u8 a.f1, .int .u8 a.f2, .int .u8 a.f3, .int .u8 a.f4, .int .u8 a.f5] 43 (0, 0)) := by
    rw [hW, hpp]
    have := heap_alloc_new' (w.alloc (.cells #[.int .u8 n0, .int .u8 n1, .int .u8 n2] 41)) (.cells #[.int .u8 a.f0, .int .u8 a.f1, .int .u8 a.f2, .int .u8 a.f3, .int .u8 a.f4, .int .u8 a.f5] 43)
    simpa using this
  have HP0 := Lib.hid hp0
  have HP1 := Lib.hid hp1
  have HBL := Lib.hid hbl
  clear hrd hby ha hbl hp0 hp1
  go_enter Try.func6, Try.ntmps6
  go_upto_region 1 with fail
  rw [← hW, ← hpp]
  clear hW hpp
  go_wp2_with fail
  refine (awake W).mono ?_
  rintro e w0 ⟨rfl, b0⟩
  have B0 := Lib.hid b0
  have hq0 := (b0.block p (lt_of_block HP0.out)).trans HP0.out
  have hq1 := (b0.block (p + 1) (lt_of_block HP1.out)).trans HP1.out
  have y0 : w0.cell? ⟨p, 0, none⟩ = some (.int .u8 n0) := blk_cell hq0 0
  have HQ0 := Lib.hid hq0
  have HQ1 := Lib.hid hq1
  clear b0 hq0 hq1
  by_cases h100 : 100 < b.length
  · have hd : decide ((100 : Int) < (b.length : Int)) = true := decide_eq_true (by omega)
    have hdn : decide (100 < b.length) = true := decide_eq_true h100
    go_wp2_with fail
    go_ret
    exact ⟨rfl, HBL.out.trans (B0.out.mono HBL.out.size)⟩
  have hd : decide ((100 : Int) < (b.length : Int)) = false := decide_eq_false (by omega)
  have hdn : decide (100 < b.length) = false := decide_eq_false h100
  go_wp2_with fail
  refine (gnew st 3 9 ⟨hst1, hst2⟩ (by decide) (by decide) (Below.refl _ w0)).mono ?_
  rintro e w1 ⟨t, rfl, g1, _⟩
  have G1 : Hid (GX w0 w1 [] t st 9 3 (empty0 st)) := g1
  have y1 : w1.cell? ⟨p, 1, none⟩ = some (.int .u8 n1) := blk_cell ((g1.bel.block p (lt_of_block HQ0.out)).trans HQ0.out) 1
  clear g1 y0
  go_wp2_with (at_builtin; refine held ?_)
  refine unheld ?_
  --REST
  have b1a : Below w1.heap.size w1 (w1.alloc (.cells #[] 5)) := (Below.refl _ w1).alloc (Nat.le_refl _) _
  have BW : Hid (Below w.heap.size w w1) := HBL.out.trans ((B0.out.trans (G1.out.bel.mono B0.out.size)).mono HBL.out.size)
  have hto : (w1.alloc (.cells #[] 5)).heap[p + 1]? = some (.cells #[.int .u8 a.f0, .int .u8 a.f1, .int .u8 a.f2, .int .u8 a.f3, .int .u8 a.f4, .int .u8 a.f5] 43 (0, 0)) := by
    have h9 := (G1.out.bel.block (p + 1) (lt_of_block HQ1.out)).trans HQ1.out
    exact (b1a.block (p + 1) (lt_of_block h9)).trans h9
  have hrdA : RdB (w1.alloc (.cells #[] 5)) (.slice (some ⟨p + 1, 0, none⟩) 6 6) a.b := by
    refine ⟨rfl, _, _, rfl, (fun e => by cases e), fun ad e j u hu => ?_⟩
    cases e
    rw [Addr.add_lit, Nat.zero_add, blk_cell hto]
    have : a.b.flatMap encB = [.int .u8 a.f0, .int .u8 a.f1, .int .u8 a.f2, .int .u8 a.f3, .int .u8 a.f4, .int .u8 a.f5] := rfl
    rw [this] at hu
    simpa using hu
  refine wpList_app (B := w1.heap.size) (v := .slice (some ⟨w1.heap.size, 0, none⟩) 0 0) (n := 0) (m := 6) rfl (.tmp 44) (.tmp 45) 28 rfl 5 i0 _ 1 _ Try.underlying28 hi0 hz0 hz1 hz2 rfl (by decide) b1a.size rfl rfl (own_empty w1 _ _ _ (Nat.le_refl _)) hrdA (encB_ones _) (by decide) (by decide) ?_
  intro v5 w5 o5 f5 m5 n5 z5
  have b5 : Below w1.heap.size w1 w5 := b1a.trans (f5.below' b1a.size (fun k hk => by simp [Value.ownBlock] at hk; omega))
  have HB5 := Lib.hid b5
  have O5 := Lib.hid (show OwnB w1.heap.size w5 v5 a.b by have h := o5; simp only [Nat.zero_add, List.nil_append] at h; exact h)
  obtain ⟨a5, c5, hv5, _⟩ := own_shape o5
  subst hv5
  clear b1a hto hrdA o5 f5 m5 n5 z5 b5
  go_wp2_with (at_builtin; refine held ?_)
  refine unheld ?_
  refine wpList_app (B := w1.heap.size) (v := .slice a5 6 c5) (n := 6) (m := b.length) rfl (.tmp 46) (.tmp 47) 28 rfl 5 i0 _ 1 _ Try.underlying28 hi0 hz0 hz1 hz2 rfl (by decide) HB5.out.size rfl rfl O5.out ((HRD.out.fr BW.out).fr HB5.out) (encB_ones _) (by unfold maxLen; omega) (by omega) ?_
  intro v6 w6 o6 f6 m6 n6 z6
  obtain ⟨f, hf⟩ : ∃ f, f = a.b ++ b := ⟨_, rfl⟩
  have hfl : f.length = 6 + b.length := by rw [hf, List.length_append]; rfl
  have o6' : OwnB w1.heap.size w6 v6 f := by
    unfold OwnB Own
    rw [hfl, hf, List.flatMap_append]
    exact o6
  have b6 : Below w1.heap.size w1 w6 := HB5.out.trans (f6.below' HB5.out.size (fun k hk => (O5.out.lt k hk).1))
  obtain ⟨g, cap, rfl, hgl, hc1, hc2⟩ := own_some o6' (by omega)
  obtain ⟨cur, hcur⟩ := own_type o6' (g := g) rfl
  have hg1 : w1.heap.size ≤ g := (o6'.lt g rfl).1
  have HG6 : Hid (GX w0 w6 [(g, .cells cur 5 (0, 0))] t st 9 3 (empty0 st)) := G1.out.keepNew b6 hcur hg1
  have HF : Hid (∀ W : World, W.heap[g]? = some (.cells cur 5 (0, 0)) → OwnB 0 W (.slice (some ⟨g, 0, none⟩) f.length cap) f) := fun W hW => own_of_block (own_zero o6') (fun g' e => by simp [Value.ownBlock] at e; subst e; rw [hW, hcur])
  have HFA : Hid (adOf f = a) := by unfold Hid; rw [hf]; exact adOf_app a b
  have HFB : Hid (∀ x ∈ f, 0 ≤ x ∧ x ≤ 255) := fun x hx => by rw [hf] at hx; exact (List.mem_append.1 hx).elim (HA.out x) (HBY.out x)
  have HFL := Lib.hid hfl
  have HCP : Hid (f.length ≤ cap ∧ cap ≤ maxLen) := ⟨hc1, hc2⟩
  have hfl2 : f.length ≤ 106 ∧ 6 ≤ f.length := by omega
  have hcap5 : 5 ≤ cap := by omega
  have hcap5i : (5 : Int) ≤ (cap : Int) := by omega
  have hcapm : cap ≤ 9223372036854775807 := by unfold maxLen at hc2; omega
  have HFan : Hid (FanI st A (numA a) f st (putP st 3 A f (empty0 st))) := by have := fan_put (x := f) hA1 (by omega); rw [HFA.out] at this; exact this
  obtain ⟨R, hR⟩ : ∃ R, R = putP st 3 A f (empty0 st) := ⟨_, rfl⟩
  have CP := Lib.hid (gput HG6.out (.slice (some ⟨g, 0, none⟩) f.length cap) f (HF.out w6 hcur).rd (fun a n c e => by cases e; exact .inr ⟨_, List.mem_singleton.2 rfl⟩) (fun a n c e => by cases e; exact ⟨hc1, hc2⟩) (by omega) HFB.out lo9 A)
  rw [← hR] at CP HFan
  have hlen6 : 6 + b.length = f.length := hfl.symm
  have HBW6 := Lib.hid b6
  clear hR o6 o6' f6 m6 n6 z6 b6 hcur hg1 hf hfl hc1 hc2
  go_wp2_with fail
  clear hlen6
  refine CP.out.mono ?_
  rintro e w7 ⟨rfl, g7⟩
  obtain ⟨k, S1⟩ := R
  have hkk := HFan.out.n
  dsimp only at hkk g7 ⊢
  subst hkk
  have G7 := Lib.hid g7
  obtain ⟨tg, htg⟩ : ∃ tg, tg = numA a := ⟨_, rfl⟩
  have HN := Lib.hid (fun W => rnum a (HA.out a.f5 (by simp [Ad.b])) W)
  rw [← htg] at HFan HN ⊢
  have HTG := Lib.hid htg
  obtain ⟨kk, hkk⟩ : ∃ kk, kk = cntH st A tg st := ⟨_, rfl⟩
  rw [← hkk]
  have HKK := Lib.hid hkk
  clear g7 CP htg hkk
  go_wp2_with fail
  go_loopg [13, 14] st (fun gg s13 s14 wx => ∃ i : Nat, i ≤ st ∧ s14 = .int .i64 i ∧ s13 = .int .i64 (cntH st A tg i) ∧ gg = st - i ∧ Hid (GX w0 wx [(g, .cells cur 5 (0, 0))] t st 9 3 S1))
  case atStart => exact ⟨0, Nat.zero_le _, rfl, rfl, rfl, G7⟩
  case round =>
    obtain ⟨i, hi, rfl, rfl, rfl, HX⟩ := hrel
    by_cases hlt : i < st
    · have hdl : decide ((i : Int) < (st : Int)) = true := decide_eq_true (by omega)
      have hdn : decide (i < st) = true := decide_eq_true hlt
      have HROW := Lib.hid (HFan.out.row i hlt)
      have HSUC := Lib.hid (cntH_succ st A tg i)
      have HCL := Lib.hid (cntH_le st A tg i)
      obtain ⟨cn, hcn⟩ : ∃ cn, cn = cntH st A tg i := ⟨_, rfl⟩
      rw [← hcn] at HSUC HCL ⊢
      clear hcn
      have hwc : wrap64 ((cn : Int) + 1) = (cn : Int) + 1 := IntWalk.wrap64_in _ (by have := HCL.out; omega)
      go_wp2_with fail
      refine (grow' HX.out A i).mono ?_
      rintro e w8 ⟨ov, fo, rfl, ho, hall, g8⟩
      rw [HROW.out] at hall
      have G8 := Lib.hid g8
      have hq8 := (g8.bel.block (p + 1) (lt_of_block HQ1.out)).trans HQ1.out
      have z0 : w8.cell? ⟨p + 1, 0, none⟩ = some (.int .u8 a.f0) := blk_cell hq8 0
      have z1 : w8.cell? ⟨p + 1, 1, none⟩ = some (.int .u8 a.f1) := blk_cell hq8 1
      have z2 : w8.cell? ⟨p + 1, 2, none⟩ = some (.int .u8 a.f2) := blk_cell hq8 2
      have z3 : w8.cell? ⟨p + 1, 3, none⟩ = some (.int .u8 a.f3) := blk_cell hq8 3
      have z4 : w8.cell? ⟨p + 1, 4, none⟩ = some (.int .u8 a.f4) := blk_cell hq8 4
      have z5 : w8.cell? ⟨p + 1, 5, none⟩ = some (.int .u8 a.f5) := blk_cell hq8 5
      have Ho := Lib.hid ho
      have Hall := Lib.hid hall
      obtain ⟨oa, oc, hov, _⟩ := own_shape ho
      obtain ⟨nf, hnf⟩ : ∃ nf, nf = fo.length := ⟨_, rfl⟩
      rw [← hnf] at hov
      have HNF := Lib.hid hnf
      subst hov
      clear g8 hq8 ho hall hnf
      go_wp2_with fail
      refine (HN.out w8).mono ?_
      rintro e w9 ⟨rfl, b9⟩
      have B9 := Lib.hid b9
      clear b9 z0 z1 z2 z3 z4 z5
      by_cases c1 : (i : Int) = (A : Int)
      · have e1 : ((i : Int) == (A : Int)) = true := by simpa using c1
        have e1n : (i == A) = true := by simpa using (show i = A by omega)
        have hh : hears st A tg i = false := by unfold hears; simp; omega
        have hall := Hall.out
        rw [if_neg (fun e => by rw [hh] at e; exact absurd e.2 (by decide))] at hall
        have HSC : Hid (cntH st A tg (i + 1) = cn) := by unfold Hid; rw [HSUC.out, hh]; rfl
        match fo, hall, Ho, HNF with
        | _ :: _, hall, _, _ => exact hall.elim
        | [], hall, Ho, HNF =>
          obtain rfl : nf = 0 := HNF.out
          have G9 := Lib.hid (G8.out.below B9.out)
          clear hall hh
          go_wp2_with fail
          go_roundg (st - (i + 1))
          case measure => omega
          case rel => exact ⟨i + 1, by omega, by go_num, by rw [HSC.out], rfl, G9⟩
      have e1 : ((i : Int) == (A : Int)) = false := by simpa using c1
      have e1n : (i == A) = false := by simpa using (show ¬ i = A by omega)
      have e1b : ((i : Int) != (A : Int)) = true := by simpa using c1
      have c1n : ¬ i = A := by omega
      by_cases c2 : tg = (A : Int)
      · have e2 : (tg == (A : Int)) = true := by simpa using c2
        have hh : hears st A tg i = false := by unfold hears; simp; omega
        have hall := Hall.out
        rw [if_neg (fun e => by rw [hh] at e; exact absurd e.2 (by decide))] at hall
        have HSC : Hid (cntH st A tg (i + 1) = cn) := by unfold Hid; rw [HSUC.out, hh]; rfl
        match fo, hall, Ho, HNF with
        | _ :: _, hall, _, _ => exact hall.elim
        | [], hall, Ho, HNF =>
          obtain rfl : nf = 0 := HNF.out
          have G9 := Lib.hid (G8.out.below B9.out)
          clear hall hh
          go_wp2_with fail
          go_roundg (st - (i + 1))
          case measure => omega
          case rel => exact ⟨i + 1, by omega, by go_num, by rw [HSC.out], rfl, G9⟩
      have e2 : (tg == (A : Int)) = false := by simpa using c2
      have e2b : (tg != (A : Int)) = true := by simpa using c2
      by_cases c3 : tg = (i : Int)
      · have e3 : (tg == (i : Int)) = true := by simpa using c3
        have hh : hears st A tg i = true := by unfold hears; simp; omega
        have hall := Hall.out
        rw [if_pos ⟨hlt, hh⟩] at hall
        have HSC : Hid (cntH st A tg (i + 1) = cn + 1) := by unfold Hid; rw [HSUC.out, if_pos hh]
        match fo, hall, Ho, HNF with
        | [], hall, _, _ => exact hall.elim
        | _ :: _ :: _, hall, _, _ => exact hall.2.elim
        | [⟨fa, fn, fc, fg⟩], hall, Ho, HNF =>
          obtain rfl : nf = 1 := HNF.out
          obtain ⟨gq, rfl, _⟩ := (own_shape Ho.out).elim (fun a h => h.elim (fun c h => by have h2 := h.1; simp at h2; obtain ⟨rfl, rfl⟩ := h2; exact h.2.2.2 (by simp)))
          have x0 : w9.cell? ⟨gq, 0, none⟩ = some (.slice fa fn fc) := cellOn' (Ho.out.cell enF_len 0 0 (by simp) (by decide)) B9.out
          have HR := Lib.hid (show RdB w9 (.slice fa fn fc) f from RdB.fr (show RdB w8 (.slice fa fn fc) f from hall.1.1.rd) B9.out)
          have G9 := Lib.hid (G8.out.below B9.out)
          clear hall hh
          go_wp2_with fail
          refine (sameRows _ _ f f _ HR.out (HF.out w9 (G9.out.kept (List.mem_singleton.2 rfl))).rd (by omega)).mono ?_
          rintro e w10 ⟨rfl, b10⟩
          rw [sameB_self]
          have G10 := Lib.hid (G9.out.below b10)
          clear b10 x0
          go_wp2_with fail
          go_roundg (st - (i + 1))
          case measure => omega
          case rel => exact ⟨i + 1, by omega, by go_num, by rw [HSC.out]; go_num, rfl, G10⟩
      have e3 : (tg == (i : Int)) = false := by simpa using c3
      by_cases c4 : tg < 0
      · have e4 : decide (tg < 0) = true := by simpa using c4
        have hh : hears st A tg i = true := by unfold hears; simp; omega
        have hall := Hall.out
        rw [if_pos ⟨hlt, hh⟩] at hall
        have HSC : Hid (cntH st A tg (i + 1) = cn + 1) := by unfold Hid; rw [HSUC.out, if_pos hh]
        match fo, hall, Ho, HNF with
        | [], hall, _, _ => exact hall.elim
        | _ :: _ :: _, hall, _, _ => exact hall.2.elim
        | [⟨fa, fn, fc, fg⟩], hall, Ho, HNF =>
          obtain rfl : nf = 1 := HNF.out
          obtain ⟨gq, rfl, _⟩ := (own_shape Ho.out).elim (fun a h => h.elim (fun c h => by have h2 := h.1; simp at h2; obtain ⟨rfl, rfl⟩ := h2; exact h.2.2.2 (by simp)))
          have x0 : w9.cell? ⟨gq, 0, none⟩ = some (.slice fa fn fc) := cellOn' (Ho.out.cell enF_len 0 0 (by simp) (by decide)) B9.out
          have HR := Lib.hid (show RdB w9 (.slice fa fn fc) f from RdB.fr (show RdB w8 (.slice fa fn fc) f from hall.1.1.rd) B9.out)
          have G9 := Lib.hid (G8.out.below B9.out)
          clear hall hh
          go_wp2_with fail
          refine (sameRows _ _ f f _ HR.out (HF.out w9 (G9.out.kept (List.mem_singleton.2 rfl))).rd (by omega)).mono ?_
          rintro e w10 ⟨rfl, b10⟩
          rw [sameB_self]
          have G10 := Lib.hid (G9.out.below b10)
          clear b10 x0
          go_wp2_with fail
          go_roundg (st - (i + 1))
          case measure => omega
          case rel => exact ⟨i + 1, by omega, by go_num, by rw [HSC.out]; go_num, rfl, G10⟩
      have e4 : decide (tg < 0) = false := by simpa using c4
      by_cases c5 : (st : Int) ≤ tg
      · have e5 : decide ((st : Int) ≤ tg) = true := by simpa using c5
        have hh : hears st A tg i = true := by unfold hears; simp; omega
        have hall := Hall.out
        rw [if_pos ⟨hlt, hh⟩] at hall
        have HSC : Hid (cntH st A tg (i + 1) = cn + 1) := by unfold Hid; rw [HSUC.out, if_pos hh]
        match fo, hall, Ho, HNF with
        | [], hall, _, _ => exact hall.elim
        | _ :: _ :: _, hall, _, _ => exact hall.2.elim
        | [⟨fa, fn, fc, fg⟩], hall, Ho, HNF =>
          obtain rfl : nf = 1 := HNF.out
          obtain ⟨gq, rfl, _⟩ := (own_shape Ho.out).elim (fun a h => h.elim (fun c h => by have h2 := h.1; simp at h2; obtain ⟨rfl, rfl⟩ := h2; exact h.2.2.2 (by simp)))
          have x0 : w9.cell? ⟨gq, 0, none⟩ = some (.slice fa fn fc) := cellOn' (Ho.out.cell enF_len 0 0 (by simp) (by decide)) B9.out
          have HR := Lib.hid (show RdB w9 (.slice fa fn fc) f from RdB.fr (show RdB w8 (.slice fa fn fc) f from hall.1.1.rd) B9.out)
          have G9 := Lib.hid (G8.out.below B9.out)
          clear hall hh
          go_wp2_with fail
          refine (sameRows _ _ f f _ HR.out (HF.out w9 (G9.out.kept (List.mem_singleton.2 rfl))).rd (by omega)).mono ?_
          rintro e w10 ⟨rfl, b10⟩
          rw [sameB_self]
          have G10 := Lib.hid (G9.out.below b10)
          clear b10 x0
          go_wp2_with fail
          go_roundg (st - (i + 1))
          case measure => omega
          case rel => exact ⟨i + 1, by omega, by go_num, by rw [HSC.out]; go_num, rfl, G10⟩
      have e5 : decide ((st : Int) ≤ tg) = false := by simpa using c5
      have hh : hears st A tg i = false := by unfold hears; simp; omega
      have hall := Hall.out
      rw [if_neg (fun e => by rw [hh] at e; exact absurd e.2 (by decide))] at hall
      have HSC : Hid (cntH st A tg (i + 1) = cn) := by unfold Hid; rw [HSUC.out, hh]; rfl
      match fo, hall, Ho, HNF with
      | _ :: _, hall, _, _ => exact hall.elim
      | [], hall, Ho, HNF =>
        obtain rfl : nf = 0 := HNF.out
        have G9 := Lib.hid (G8.out.below B9.out)
        clear hall hh
        go_wp2_with fail
        go_roundg (st - (i + 1))
        case measure => omega
        case rel => exact ⟨i + 1, by omega, by go_num, by rw [HSC.out], rfl, G9⟩
    · obtain rfl : i = st := by omega
      rw [← HKK.out]
      have hdl : decide ((i : Int) < (i : Int)) = false := by simp
      have Q1 : Hid (putP i 3 A (f.take 5) S1 = (0, S1)) := by unfold Hid putP; rw [if_neg (fun e => by have := e.2.2; rw [List.length_take] at this; omega)]
      have Q2 : Hid (putP i 3 (-1) f S1 = (0, S1)) := by unfold Hid putP; rw [if_neg (fun e => by have := e.1; omega)]
      have hown := HF.out wr (HX.out.kept (List.mem_singleton.2 rfl))
      have r5 : RdB wr (.slice (some ⟨g, 0, none⟩) 5 cap) (f.take 5) := by
        have h8 := Own.takeRd encB_len hown (i := 5) (by omega) cap
        unfold RdB
        rw [List.length_take]
        rw [show min 5 f.length = 5 by omega]
        exact h8
      have HO := Lib.hid hown
      have R5 := Lib.hid r5
      have HLS := Lib.hid HFan.out.lost
      clear hown r5
      go_wp2_with fail
      refine (gput HX.out _ (f.take 5) R5.out (fun a n c e => by cases e; exact .inr ⟨_, List.mem_singleton.2 rfl⟩) (fun a n c e => by cases e; exact ⟨hcap5, HCP.out.2⟩) (by rw [List.length_take]; omega) (fun x hx => HFB.out x (List.mem_of_mem_take hx)) (by rw [show S1.2 = 0 from HLS.out]; exact lo9) A).mono ?_
      rintro e w8 ⟨rfl, g8⟩
      rw [Q1.out] at g8 ⊢
      have G8 := Lib.hid g8
      clear g8
      go_wp2_with fail
      refine (gput G8.out _ f (HF.out w8 (G8.out.kept (List.mem_singleton.2 rfl))).rd (fun a n c e => by cases e; exact .inr ⟨_, List.mem_singleton.2 rfl⟩) (fun a n c e => by cases e; exact HCP.out) (by omega) HFB.out (by rw [show S1.2 = 0 from HLS.out]; exact lo9) (-1)).mono ?_
      rintro e w9 ⟨rfl, g9⟩
      rw [Q2.out] at g9 ⊢
      have G9 := Lib.hid g9
      clear g9
      go_wp2_with fail
      go_ret
      exact ⟨rfl, HBL.out.trans ((B0.out.trans (G9.out.bel.mono B0.out.size)).mono HBL.out.size)⟩
end Go.Proofs.Yteihpaikdpdglaa
