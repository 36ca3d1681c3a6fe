/-
  Layer 4: QueueApart: the walk.
-/
import Derived.Test.YtjefmicmhcajoaaL4C
import Derived.Test.YtjefmicmhcajoaaQueFS
import Derived.Test.YtjefmicmhcajoaaR4R
import Derived.Deep.LoopGhost
namespace Go.Proofs.Ytjefmicmhcajoaa
open Go.RowKit
set_option linter.unusedVariables false


/-- A row a of ints, a row b of strings, and the law's own row x. -/
structure ApI (w0 w : World) (ca cb : Nat) (sa sb xv : Value) (zs : List Int) (ss : List Value) : Prop where
  a : IsQI w w0.heap.size ca 6 sa (ivsI zs)
  b : IsQS w w0.heap.size cb 6 sb ss
  x : TlR w 3 1 w0.heap.size xv zs.length ((ivsI zs).flatMap enQ)
  d : ∀ g, xv.ownBlock = some g → ¬ sa.ownBlock = some g
  bel : Below w0.heap.size w0 w
  sh : ∀ s ∈ ss, ∃ t, s = .string t
def ApX (w0 w : World) (ca cb : Nat) (xv : Value) (zs : List Int) (ss : List Value) : Prop := ∃ sa sb, ApI w0 w ca cb sa sb xv zs ss

section
variable {w0 w w' : World} {ca cb : Nat} {sa sb xv : Value} {zs : List Int} {ss : List Value}
theorem ApI.below (h : ApI w0 w ca cb sa sb xv zs ss) (hb : Below w.heap.size w w') : ApI w0 w' ca cb sa sb xv zs ss :=
  ⟨h.a.below hb, h.b.below hb, h.x.keep (fun g hg => hb.block g (h.x.lt hg).2), h.d, h.bel.trans (hb.mono h.bel.size), h.sh⟩
theorem ApX.below (h : ApX w0 w ca cb xv zs ss) (hb : Below w.heap.size w w') : ApX w0 w' ca cb xv zs ss := by
  obtain ⟨sa, sb, h⟩ := h
  exact ⟨sa, sb, h.below hb⟩
theorem ApX.bel (h : ApX w0 w ca cb xv zs ss) : Below w0.heap.size w0 w := by obtain ⟨sa, sb, h⟩ := h; exact h.bel
theorem ApI.ab (h : ApI w0 w ca cb sa sb xv zs ss) : cb ≠ ca := fun e => by have h1 := h.b.blk; rw [e, h.a.blk] at h1; cases h1
/-- a turns. -/
theorem ApI.turnA (h : ApI w0 w ca cb sa sb xv zs ss) {sa' : Value} {zs' : List Int} (q : IsQI w' w0.heap.size ca 6 sa' (ivsI zs')) (m : Mv w sa sa') (f : Fr (ftp ca sa) w w') :
    IsQS w' w0.heap.size cb 6 sb ss ∧ TlR w' 3 1 w0.heap.size xv zs.length ((ivsI zs).flatMap enQ) ∧ (∀ g, xv.ownBlock = some g → ¬ sa'.ownBlock = some g) ∧ Below w0.heap.size w0 w' := by
  refine ⟨h.b.fr f (fun e => ?_) (fun g hg e => ?_), h.x.keep (fun g hg => f.blk g (h.x.lt hg).2 (fun e => ?_)), fun g hg e => (m g e).elim (h.d g hg) (fun e => by have := (h.x.lt hg).2; omega), h.bel.trans (f.below' h.bel.size h.a.ftp_ge)⟩
  · rcases e with e | e
    · exact h.ab e
    · exact own_ne h.a.own h.b.blk (by decide) e
  · rcases e with e | e
    · subst e; exact own_ne h.b.own h.a.blk (by decide) hg
    · exact own_sep h.b.own h.a.own (by decide) hg e
  · rcases e with e | e
    · subst e; exact h.x.ne h.a.blk (by decide) hg
    · exact h.d g hg e
theorem xs_sep (h : ApI w0 w ca cb sa sb xv zs ss) {g : Nat} (hg : xv.ownBlock = some g) : ¬ sb.ownBlock = some g := fun e => by
  obtain ⟨c1, h1⟩ := h.x.type hg
  obtain ⟨c2, h2⟩ := own_type h.b.own e
  rw [h1] at h2
  injection h2 with h2
  injection h2 with _ h3 _
  exact absurd h3 (by decide)
/-- b turns. -/
theorem ApI.turnB (h : ApI w0 w ca cb sa sb xv zs ss) {sb' : Value} {ss' : List Value} (q : IsQS w' w0.heap.size cb 6 sb' ss') (f : Fr (ftp cb sb) w w') (hs : ∀ s ∈ ss', ∃ t, s = .string t) : ApI w0 w' ca cb sa sb' xv zs ss' := by
  refine ⟨h.a.fr f (fun e => ?_) (fun g hg e => ?_), q, h.x.keep (fun g hg => f.blk g (h.x.lt hg).2 (fun e => ?_)), h.d, h.bel.trans (f.below' h.bel.size h.b.ftp_ge), hs⟩
  · rcases e with e | e
    · exact h.ab e.symm
    · exact own_ne h.b.own h.a.blk (by decide) e
  · rcases e with e | e
    · subst e; exact own_ne h.a.own h.b.blk (by decide) hg
    · exact own_sep h.a.own h.b.own (by decide) hg e
  · rcases e with e | e
    · subst e; exact h.x.ne h.b.blk (by decide) hg
    · exact xs_sep h hg e
/-- x is appended to. -/
theorem app_x {sa : Value} {zs' : List Int} {W : World} {w' : World} (qa : IsQI W w0.heap.size ca 6 sa (ivsI zs')) (qb : IsQS W w0.heap.size cb 6 sb ss) (x : TlR W 3 1 w0.heap.size xv zs.length ((ivsI zs).flatMap enQ)) (d : ∀ g, xv.ownBlock = some g → ¬ sa.ownBlock = some g) (bel : Below w0.heap.size w0 W) (hs : ∀ s ∈ ss, ∃ t, s = .string t)
    (f : Fr (fun b => xv.ownBlock = some b) W w') {xv' : Value} (x' : TlR w' 3 1 w0.heap.size xv' zs'.length ((ivsI zs').flatMap enQ)) (m : xv'.ownBlock = xv.ownBlock ∨ ∃ b, xv'.ownBlock = some b ∧ W.heap.size ≤ b) : ApX w0 w' ca cb xv' zs' ss := by
  refine ⟨sa, sb, qa.fr f (fun e => x.ne qa.blk (by decide) e) (fun g hg e => d g e hg), qb.fr f (fun e => x.ne qb.blk (by decide) e) (fun g hg e => ?_), x', fun g hg e => ?_, bel.trans (f.below' bel.size (fun b e => (x.lt e).1)), hs⟩
  · obtain ⟨c1, h1⟩ := x.type e
    obtain ⟨c2, h2⟩ := own_type qb.own hg
    rw [h1] at h2
    injection h2 with h2
    injection h2 with _ h3 _
    exact absurd h3 (by decide)
  · rcases m with m | ⟨b, m, hb⟩
    · exact d g (by rw [← m]; exact hg) e
    · rw [m] at hg; injection hg with hg; subst hg; have := own_lt qa.own e; omega
end

theorem deed_ad {w : World} {v : Value} {ds : List Dz} (hl : Rd w 3 v ds.length (ds.flatMap encD)) (hn : 0 < ds.length) : ∃ lb lo lc, v = .slice (some ⟨lb, lo, none⟩) ds.length lc := by
  obtain ⟨b', o', c', hv, _, hx⟩ := Rd.some hl hn (by decide)
  exact ⟨b', o', c', hv⟩
theorem deed_at {w w' : World} {lb lo n lc : Nat} {ds : List Dz} (hl : Rd w 3 (.slice (some ⟨lb, lo, none⟩) n lc) ds.length (ds.flatMap encD)) (hb : Below w.heap.size w w') {i : Nat} (hi : i < ds.length) :
    w'.cell? ⟨lb, lo + i * 3, none⟩ = some (.int .i64 ds[i].1) ∧ w'.cell? ⟨lb, lo + i * 3 + 1, none⟩ = some (.int .i64 ds[i].2.1) ∧ w'.cell? ⟨lb, lo + i * 3 + 2, none⟩ = some (.int .i64 ds[i].2.2) := by
  obtain ⟨b', o', c', hv, _, hx⟩ := Rd.some (Rd.fr hl (Fr.of_below hb no) (fun _ _ e => e)) (by omega) (by decide)
  simp at hv
  obtain ⟨⟨rfl, rfl⟩, _, _⟩ := hv
  have h0 := Rd.el encD_len hx hi (j := 0) (by decide) rfl
  have h1 := Rd.el encD_len hx hi (j := 1) (by decide) rfl
  have h2 := Rd.el encD_len hx hi (j := 2) (by decide) rfl
  simp only [Nat.add_zero, ← Nat.add_assoc] at h0 h1 h2
  exact ⟨h0, h1, h2⟩

set_option maxHeartbeats 32000000 in
set_option maxRecDepth 100000 in
theorem apartL (v : Value) (ds : List Dz) (w : World) (hl : Rd w 3 v ds.length (ds.flatMap encD)) : Calls Try.prog 6 #[v] w fun x w' => x = .returned (.bool true) ∧ Below w.heap.size w w' := by
  obtain ⟨i1, hi1, hz3, hz4, hz5⟩ := info_parts infoQI
  obtain ⟨la, lc, rfl⟩ := hl.len
  have Hl := Lib.hid hl
  clear hl
  go_enter Try.func6, Try.ntmps6
  go_wp2_with fail
  refine (awake w).mono ?_
  rintro x w1 ⟨rfl, b1⟩
  have B1 := Lib.hid b1
  clear b1
  by_cases h150 : 150 < ds.length
  · have hd : decide ((150 : Int) < ds.length) = true := by simp; omega
    go_wp2_with fail
    go_ret
    exact ⟨rfl, B1.out⟩
  have hd : decide ((150 : Int) < ds.length) = false := by simp; omega
  have HR : Hid (ds.length ≤ 150) := by unfold Hid; omega
  clear h150
  go_wp2_with fail
  refine (newQI 6 (by decide) w1).mono ?_
  rintro x w2 ⟨rfl, q2, b2⟩
  have Q2 := Lib.hid q2
  have B2 := Lib.hid b2
  obtain ⟨ca, hca⟩ : ∃ c, c = w1.heap.size := ⟨_, rfl⟩
  have Hca := Lib.hid hca
  rw [← hca]
  clear q2 b2 hca
  go_wp2_with fail
  refine (newQS 6 (by decide) w2).mono ?_
  rintro x w3 ⟨rfl, q3, b3⟩
  have ini : Hid (ApX w w3 ca w2.heap.size (.slice none 0 0) [] []) := by
    have h1 := Q2.out.below b3
    have hs := B1.out.size
    have hs2 := B2.out.size
    rw [← Hca.out] at h1
    refine ⟨_, _, ⟨h1.blk, ?_, own_base (own_zero h1.own) (fun g hg => by simp [Value.ownBlock] at hg), h1.m0, h1.m1, by simp, h1.le⟩, ⟨q3.blk, by omega, own_base (own_zero q3.own) (fun g hg => by simp [Value.ownBlock] at hg), q3.m0, q3.m1, q3.one, q3.le⟩, TlR.nil _ _ _ _, fun g hg => by simp [Value.ownBlock] at hg, B1.out.trans ((B2.out.mono hs).trans (b3.mono (by omega))), fun s hs => by simp at hs⟩
    have := Hca.out
    omega
  obtain ⟨cb, hcb⟩ : ∃ c, c = w2.heap.size := ⟨_, rfl⟩
  rw [← hcb] at ini ⊢
  clear q3 b3 hcb Q2 B2 Hca
  go_wp2_with fail
  go_loopg [5, 6, 7] ds.length (fun g s5 s6 s7 wx => ∃ (i : Nat) (xv : Value) (zs : List Int) (ss : List Value), s6 = .int .i64 ss.length ∧ s7 = .int .i64 i ∧ i ≤ ds.length ∧ g = ds.length - i ∧ ApX w wx ca cb s5 zs ss)
  case atStart => exact ⟨0, .bool false, [], [], rfl, rfl, Nat.zero_le _, rfl, ini.out⟩
  case round =>
    obtain ⟨i, _, zs, ss, rfl, rfl, hi, rfl, hX⟩ := hrel
    have HX := Lib.hid hX
    clear hX ini
    by_cases hin : i < ds.length
    · have hd1 : decide ((i : Int) < ds.length) = true := by simp; omega
      obtain ⟨lb, lo, lc', hv⟩ := deed_ad Hl.out (by omega)
      simp at hv
      obtain ⟨rfl, rfl⟩ := hv
      obtain ⟨c0, c1, _⟩ := deed_at Hl.out HX.out.bel hin
      generalize ds[i].1 = do' at c0
      have HD1 : Hid (∀ W, Below w.heap.size w W → W.cell? ⟨lb, lo + i * 3 + 1, none⟩ = some (.int .i64 ds[i].2.1)) := fun W hb => (deed_at Hl.out hb hin).2.1
      generalize ds[i].2.1 = X at c1 HD1
      have hi150 : (i : Int) ≤ 150 := by have := HR.out; omega
      have HIN := Lib.hid hin
      obtain ⟨sa, sb, hI⟩ := HX.out
      have HI := Lib.hid hI
      have hz6 : (zs.length : Int) ≤ 6 := by have := hI.a.le; rw [ivsI_len] at this; exact this
      have hsl6 : (ss.length : Int) ≤ 6 := hI.b.le
      have HZ := Lib.hid hz6
      have HSL := Lib.hid hsl6
      obtain ⟨xa, xc, hxv, _, _⟩ := hI.x.shape
      subst hxv
      clear hI
      by_cases hd3 : do' ≤ 3
      · have hd3 : decide (do' ≤ 3) = true := by simpa using hd3
        go_wp2_with fail
        refine (putQI ca 6 sa (ivsI zs) (.int .i64 X) wr _ HI.out.bel.size HI.out.a (by rw [ivsI_len]; omega) ⟨X, rfl⟩).mono ?_
        rintro x w4 ⟨rfl, sa', q4, m4, f4⟩
        rw [ivsI_len]
        by_cases hlt : (zs.length : Int) < 6
        · have hdl : decide ((zs.length : Int) < 6) = true := by simpa using hlt
          rw [show putL 6 (ivsI zs) (.int .i64 X) = ivsI (zs ++ [X]) by rw [show putL 6 (ivsI zs) (.int .i64 X) = ivsI zs ++ [.int .i64 X] from if_pos (by rw [ivsI_len]; exact hlt)]; simp] at q4
          rw [hdl]
          obtain ⟨b4, x4, d4, bl4⟩ := HI.out.turnA q4 m4 f4
          have H4 : Hid (IsQI w4 w.heap.size ca 6 sa' (ivsI (zs ++ [X])) ∧ IsQS w4 w.heap.size cb 6 sb ss ∧ TlR w4 3 1 w.heap.size (.slice xa zs.length xc) zs.length ((ivsI zs).flatMap enQ) ∧ (∀ g, (Value.slice xa zs.length xc).ownBlock = some g → ¬ sa'.ownBlock = some g) ∧ Below w.heap.size w w4) := ⟨q4, b4, x4, d4, bl4⟩
          have e1 := HD1.out w4 bl4
          clear q4 m4 f4 b4 x4 d4 bl4 hdl hlt c0 c1
          go_wp2_with (at_builtin; refine held ?_)
          refine unheld ?_
          refine wpList_appT (B := w.heap.size) (n := zs.length) rfl (.tmp 41) (.tmp 47) 42 rfl 3 i1 _ 1 _ Try.underlying42 hi1 hz3 hz4 hz5 rfl (by decide) (by have := H4.out.2.2.2.2.size; simp; omega) rfl rfl (H4.out.2.2.1.keep (fun g hg => heap_alloc_lt w4 _ (H4.out.2.2.1.lt hg).2)) (Rd.new (by simp) rfl) (by intro u hu; simp at hu; subst hu; rfl) (by have := HZ.out; unfold maxLen; omega) (by have := HZ.out; omega) ?_
          intro v5 w5 o5 f5 m5 z5
          have f25 : Fr (fun b => (Value.slice xa zs.length xc).ownBlock = some b) w4 w5 := ((Fr.refl _ w4).alloc _).trans f5
          have h8 : ApX w w5 ca cb v5 (zs ++ [X]) ss := by
            obtain ⟨q4, b4, x4, d4, bl4⟩ := H4.out
            refine app_x q4 b4 x4 d4 bl4 HI.out.sh f25 (by rw [List.length_append]; simpa using o5) ?_
            rcases m5 with m5 | m5
            · exact .inl m5
            · exact .inr ⟨_, m5, by simp⟩
          clear o5 f5 m5 f25 e1
          obtain ⟨zz, hzz⟩ : ∃ zz, zz = zs ++ [X] := ⟨_, rfl⟩
          rw [← hzz] at h8
          clear hzz
          have H8 := Lib.hid h8
          clear h8
          obtain ⟨sa8, sb8, hi8⟩ := H8.out
          obtain ⟨xa8, xc8, hx8, _⟩ := hi8.x.shape
          have HI8 := Lib.hid hi8
          clear hi8
          first | subst hx8 | (simp only [Value.slice.injEq] at hx8; obtain ⟨rfl, hdum, rfl⟩ := hx8; clear hdum)
          go_wp2_with fail
          refine (all (-1) ca 6 sa8 (zz) _ _ HI8.out.a (by have := HI8.out.a.le; rw [ivsI_len] at this; omega)).mono ?_
          rintro x w9 ⟨ov, rfl, o9, b9⟩
          rw [show firstN (-1) (zz) = (zz) from rfl] at o9
          obtain ⟨oa, oc, hov, _⟩ := own_shape o9
          rw [ivsI_len] at hov
          have O9 := Lib.hid o9
          have H9 := Lib.hid (H8.out.below b9)
          have X9 : Hid (RdZ w9 _ (zz)) := Rd.fr HI8.out.x.rd (Fr.of_below b9 no) (fun _ _ e => e)
          subst hov
          clear o9 b9
          go_wp2_with fail
          refine (ints _ _ (zz) (zz) w9 (rdz_of_own O9.out) X9.out (by have := HI8.out.a.le; rw [ivsI_len] at this; omega)).mono ?_
          rintro x wa ⟨rfl, ba⟩
          rw [sameZ_self]
          have HA := Lib.hid (H9.out.below ba)
          clear ba
          obtain ⟨sc9, sd9, hi9⟩ := HA.out
          have HI9 := Lib.hid hi9
          clear hi9
          go_wp2_with fail
          refine (lenQS cb 6 _ (ss) wa _ HI9.out.b).mono ?_
          rintro x wb ⟨rfl, rfl⟩
          have hs6 : ((ss).length : Int) ≤ 6 := HI9.out.b.le
          have HN8 : Hid ((((ss).length : Nat) : Int) = (ss.length : Int)) := by unfold Hid; rfl
          rw [HN8.out] at hs6 ⊢
          have hd7 : decide ((6 : Int) < (ss.length : Int)) = false := by rw [decide_eq_false_iff_not]; omega
          have hd8 : decide (((ss.length : Int) : Int) < 0) = false := by have := HN8.out; rw [decide_eq_false_iff_not]; omega
          go_wp2_with fail
          go_roundg (ds.length - (i + 1))
          case measure => have := HIN.out; omega
          case rel =>
            refine ⟨i + 1, .bool false, zz, ss, ?_, by go_num, (by have := HIN.out; omega), rfl, HA.out⟩
            have := HN8.out
            first | rfl | (rw [this]; done) | (rw [this]; rfl) | go_num

        · have hdl : decide ((zs.length : Int) < 6) = false := by simpa using hlt
          rw [show putL 6 (ivsI zs) (.int .i64 X) = ivsI zs from if_neg (by rw [ivsI_len]; exact hlt)] at q4
          rw [hdl]
          obtain ⟨b4, x4, d4, bl4⟩ := HI.out.turnA q4 m4 f4
          have h8 : ApX w w4 ca cb (.slice xa zs.length xc) zs ss := ⟨sa', sb, q4, b4, x4, d4, bl4, HI.out.sh⟩
          clear q4 m4 f4 b4 x4 d4 bl4 hdl hlt c0 c1
          have H8 := Lib.hid h8
          clear h8
          obtain ⟨sa8, sb8, hi8⟩ := H8.out
          obtain ⟨xa8, xc8, hx8, _⟩ := hi8.x.shape
          have HI8 := Lib.hid hi8
          clear hi8
          first | subst hx8 | (simp only [Value.slice.injEq] at hx8; obtain ⟨rfl, hdum, rfl⟩ := hx8; clear hdum)
          go_wp2_with fail
          refine (all (-1) ca 6 sa8 (zs) _ _ HI8.out.a (by have := HI8.out.a.le; rw [ivsI_len] at this; omega)).mono ?_
          rintro x w9 ⟨ov, rfl, o9, b9⟩
          rw [show firstN (-1) (zs) = (zs) from rfl] at o9
          obtain ⟨oa, oc, hov, _⟩ := own_shape o9
          rw [ivsI_len] at hov
          have O9 := Lib.hid o9
          have H9 := Lib.hid (H8.out.below b9)
          have X9 : Hid (RdZ w9 _ (zs)) := Rd.fr HI8.out.x.rd (Fr.of_below b9 no) (fun _ _ e => e)
          subst hov
          clear o9 b9
          go_wp2_with fail
          refine (ints _ _ (zs) (zs) w9 (rdz_of_own O9.out) X9.out (by have := HI8.out.a.le; rw [ivsI_len] at this; omega)).mono ?_
          rintro x wa ⟨rfl, ba⟩
          rw [sameZ_self]
          have HA := Lib.hid (H9.out.below ba)
          clear ba
          obtain ⟨sc9, sd9, hi9⟩ := HA.out
          have HI9 := Lib.hid hi9
          clear hi9
          go_wp2_with fail
          refine (lenQS cb 6 _ (ss) wa _ HI9.out.b).mono ?_
          rintro x wb ⟨rfl, rfl⟩
          have hs6 : ((ss).length : Int) ≤ 6 := HI9.out.b.le
          have HN8 : Hid ((((ss).length : Nat) : Int) = (ss.length : Int)) := by unfold Hid; rfl
          rw [HN8.out] at hs6 ⊢
          have hd7 : decide ((6 : Int) < (ss.length : Int)) = false := by rw [decide_eq_false_iff_not]; omega
          have hd8 : decide (((ss.length : Int) : Int) < 0) = false := by have := HN8.out; rw [decide_eq_false_iff_not]; omega
          go_wp2_with fail
          go_roundg (ds.length - (i + 1))
          case measure => have := HIN.out; omega
          case rel =>
            refine ⟨i + 1, .bool false, zs, ss, ?_, by go_num, (by have := HIN.out; omega), rfl, HA.out⟩
            have := HN8.out
            first | rfl | (rw [this]; done) | (rw [this]; rfl) | go_num

      · have hd3 : decide (do' ≤ 3) = false := by simpa using hd3
        by_cases hd5 : do' ≤ 5
        · have hd5 : decide (do' ≤ 5) = true := by simpa using hd5
          go_wp2_with fail
          cases zs with
          | nil =>
            refine (takeNoI ca 6 sa wr _ HI.out.a).mono ?_
            rintro x w4 ⟨rfl, rfl⟩
            have h8 : ApX w w4 ca cb (.slice xa ([] : List Int).length xc) [] ss := ⟨sa, sb, HI.out⟩
            clear c0 c1
            have H8 := Lib.hid h8
            clear h8
            obtain ⟨sa8, sb8, hi8⟩ := H8.out
            obtain ⟨xa8, xc8, hx8, _⟩ := hi8.x.shape
            have HI8 := Lib.hid hi8
            clear hi8
            first | subst hx8 | (simp only [Value.slice.injEq] at hx8; obtain ⟨rfl, hdum, rfl⟩ := hx8; clear hdum)
            go_wp2_with fail
            refine (all (-1) ca 6 sa8 (([] : List Int)) _ _ HI8.out.a (by have := HI8.out.a.le; rw [ivsI_len] at this; omega)).mono ?_
            rintro x w9 ⟨ov, rfl, o9, b9⟩
            rw [show firstN (-1) (([] : List Int)) = (([] : List Int)) from rfl] at o9
            obtain ⟨oa, oc, hov, _⟩ := own_shape o9
            rw [ivsI_len] at hov
            have O9 := Lib.hid o9
            have H9 := Lib.hid (H8.out.below b9)
            have X9 : Hid (RdZ w9 _ (([] : List Int))) := Rd.fr HI8.out.x.rd (Fr.of_below b9 no) (fun _ _ e => e)
            subst hov
            clear o9 b9
            go_wp2_with fail
            refine (ints _ _ (([] : List Int)) (([] : List Int)) w9 (rdz_of_own O9.out) X9.out (by have := HI8.out.a.le; rw [ivsI_len] at this; omega)).mono ?_
            rintro x wa ⟨rfl, ba⟩
            rw [sameZ_self]
            have HA := Lib.hid (H9.out.below ba)
            clear ba
            obtain ⟨sc9, sd9, hi9⟩ := HA.out
            have HI9 := Lib.hid hi9
            clear hi9
            go_wp2_with fail
            refine (lenQS cb 6 _ (ss) wa _ HI9.out.b).mono ?_
            rintro x wb ⟨rfl, rfl⟩
            have hs6 : ((ss).length : Int) ≤ 6 := HI9.out.b.le
            have HN8 : Hid ((((ss).length : Nat) : Int) = (ss.length : Int)) := by unfold Hid; rfl
            rw [HN8.out] at hs6 ⊢
            have hd7 : decide ((6 : Int) < (ss.length : Int)) = false := by rw [decide_eq_false_iff_not]; omega
            have hd8 : decide (((ss.length : Int) : Int) < 0) = false := by have := HN8.out; rw [decide_eq_false_iff_not]; omega
            go_wp2_with fail
            go_roundg (ds.length - (i + 1))
            case measure => have := HIN.out; omega
            case rel =>
              refine ⟨i + 1, .bool false, ([] : List Int), ss, ?_, by go_num, (by have := HIN.out; omega), rfl, HA.out⟩
              have := HN8.out
              first | rfl | (rw [this]; done) | (rw [this]; rfl) | go_num
          | cons z zs =>
            refine (takeYesI ca 6 sa (.int .i64 z) (ivsI zs) wr _ HI.out.bel.size HI.out.a (by rw [List.length_cons, ivsI_len]; rw [List.length_cons] at hz6; omega) ⟨z, rfl⟩).mono ?_
            rintro x w4 ⟨rfl, sa', q4, m4, f4⟩
            obtain ⟨b4, x4, d4, bl4⟩ := HI.out.turnA q4 m4 (f4.mono (fun _ _ e => .inl e))
            obtain ⟨xg, xo, xc', hxe, _, _, hx1, hx2⟩ := x4.some' (by simp)
            simp at hxe
            obtain ⟨rfl, rfl⟩ := hxe
            have x5 := x4.drop (i := 1) (by simp)
            simp only [List.length_cons, Nat.add_sub_cancel, Nat.one_mul] at x5 hx1
            have X5 : Hid (TlR w4 3 1 w.heap.size (.slice (if xc = 1 then some ⟨xg, xo, none⟩ else some ⟨xg, xo + 1, none⟩) zs.length (xc - 1)) zs.length ((ivsI zs).flatMap enQ)) := by unfold Hid; simpa [enQ] using x5
            have H4 : Hid (IsQI w4 w.heap.size ca 6 sa' (ivsI zs) ∧ IsQS w4 w.heap.size cb 6 sb ss ∧ (∀ g, g = xg → ¬ sa'.ownBlock = some g) ∧ Below w.heap.size w w4) := ⟨q4, b4, fun g hg => d4 g (by rw [hg]; rfl), bl4⟩
            rw [List.length_cons]
            have hc7 : (1 : Int) ≤ (zs.length : Int) + 1 := by omega
            have hc8 : (zs.length : Int) + 1 ≤ (xc : Int) := by omega
            have hc9 : (1 : Int) ≤ (xc : Int) := by omega
            have hc10 : zs.length + 1 ≤ xc := hx1
            clear q4 m4 f4 b4 x4 d4 bl4 c0 c1 x5 hx1
            by_cases hm1 : xc = 1
            · subst hm1
              obtain rfl : zs = [] := List.eq_nil_of_length_eq_zero (by omega)
              clear hc7 hc8 hc9 hc10 hz6
              have h8 : ApX w w4 ca cb (.slice (some ⟨xg, xo, none⟩) 0 0) [] ss := ⟨sa', sb, H4.out.1, H4.out.2.1, by simpa using X5.out, fun g hg => H4.out.2.2.1 g (by simp [Value.ownBlock] at hg; exact hg.symm), H4.out.2.2.2, HI.out.sh⟩
              have H8 := Lib.hid h8
              clear h8
              obtain ⟨sa8, sb8, hi8⟩ := H8.out
              obtain ⟨xa8, xc8, hx8, _⟩ := hi8.x.shape
              have HI8 := Lib.hid hi8
              clear hi8
              first | subst hx8 | (simp only [Value.slice.injEq] at hx8; obtain ⟨rfl, hdum, rfl⟩ := hx8; clear hdum)
              go_wp2_with fail
              refine (all (-1) ca 6 sa8 (([] : List Int)) _ _ HI8.out.a (by have := HI8.out.a.le; rw [ivsI_len] at this; omega)).mono ?_
              rintro x w9 ⟨ov, rfl, o9, b9⟩
              rw [show firstN (-1) (([] : List Int)) = (([] : List Int)) from rfl] at o9
              obtain ⟨oa, oc, hov, _⟩ := own_shape o9
              rw [ivsI_len] at hov
              have O9 := Lib.hid o9
              have H9 := Lib.hid (H8.out.below b9)
              have X9 : Hid (RdZ w9 _ (([] : List Int))) := Rd.fr HI8.out.x.rd (Fr.of_below b9 no) (fun _ _ e => e)
              subst hov
              clear o9 b9
              go_wp2_with fail
              refine (ints _ _ (([] : List Int)) (([] : List Int)) w9 (rdz_of_own O9.out) X9.out (by have := HI8.out.a.le; rw [ivsI_len] at this; omega)).mono ?_
              rintro x wa ⟨rfl, ba⟩
              rw [sameZ_self]
              have HA := Lib.hid (H9.out.below ba)
              clear ba
              obtain ⟨sc9, sd9, hi9⟩ := HA.out
              have HI9 := Lib.hid hi9
              clear hi9
              go_wp2_with fail
              refine (lenQS cb 6 _ (ss) wa _ HI9.out.b).mono ?_
              rintro x wb ⟨rfl, rfl⟩
              have hs6 : ((ss).length : Int) ≤ 6 := HI9.out.b.le
              have HN8 : Hid ((((ss).length : Nat) : Int) = (ss.length : Int)) := by unfold Hid; rfl
              rw [HN8.out] at hs6 ⊢
              have hd7 : decide ((6 : Int) < (ss.length : Int)) = false := by rw [decide_eq_false_iff_not]; omega
              have hd8 : decide (((ss.length : Int) : Int) < 0) = false := by have := HN8.out; rw [decide_eq_false_iff_not]; omega
              go_wp2_with fail
              go_roundg (ds.length - (i + 1))
              case measure => have := HIN.out; omega
              case rel =>
                refine ⟨i + 1, .bool false, ([] : List Int), ss, ?_, by go_num, (by have := HIN.out; omega), rfl, HA.out⟩
                have := HN8.out
                first | rfl | (rw [this]; done) | (rw [this]; rfl) | go_num

            · have h8 : ApX w w4 ca cb (.slice (some ⟨xg, xo + 1, none⟩) zs.length (xc - 1)) zs ss := ⟨sa', sb, H4.out.1, H4.out.2.1, by have := X5.out; rw [if_neg hm1] at this; exact this, fun g hg => H4.out.2.2.1 g (by simp [Value.ownBlock] at hg; exact hg.symm), H4.out.2.2.2, HI.out.sh⟩
              have H8 := Lib.hid h8
              clear h8
              obtain ⟨sa8, sb8, hi8⟩ := H8.out
              obtain ⟨xa8, xc8, hx8, _⟩ := hi8.x.shape
              have HI8 := Lib.hid hi8
              clear hi8
              first | subst hx8 | (simp only [Value.slice.injEq] at hx8; obtain ⟨rfl, hdum, rfl⟩ := hx8; clear hdum)
              go_wp2_with fail
              refine (all (-1) ca 6 sa8 (zs) _ _ HI8.out.a (by have := HI8.out.a.le; rw [ivsI_len] at this; omega)).mono ?_
              rintro x w9 ⟨ov, rfl, o9, b9⟩
              rw [show firstN (-1) (zs) = (zs) from rfl] at o9
              obtain ⟨oa, oc, hov, _⟩ := own_shape o9
              rw [ivsI_len] at hov
              have O9 := Lib.hid o9
              have H9 := Lib.hid (H8.out.below b9)
              have X9 : Hid (RdZ w9 _ (zs)) := Rd.fr HI8.out.x.rd (Fr.of_below b9 no) (fun _ _ e => e)
              subst hov
              clear o9 b9
              go_wp2_with fail
              refine (ints _ _ (zs) (zs) w9 (rdz_of_own O9.out) X9.out (by have := HI8.out.a.le; rw [ivsI_len] at this; omega)).mono ?_
              rintro x wa ⟨rfl, ba⟩
              rw [sameZ_self]
              have HA := Lib.hid (H9.out.below ba)
              clear ba
              obtain ⟨sc9, sd9, hi9⟩ := HA.out
              have HI9 := Lib.hid hi9
              clear hi9
              go_wp2_with fail
              refine (lenQS cb 6 _ (ss) wa _ HI9.out.b).mono ?_
              rintro x wb ⟨rfl, rfl⟩
              have hs6 : ((ss).length : Int) ≤ 6 := HI9.out.b.le
              have HN8 : Hid ((((ss).length : Nat) : Int) = (ss.length : Int)) := by unfold Hid; rfl
              rw [HN8.out] at hs6 ⊢
              have hd7 : decide ((6 : Int) < (ss.length : Int)) = false := by rw [decide_eq_false_iff_not]; omega
              have hd8 : decide (((ss.length : Int) : Int) < 0) = false := by have := HN8.out; rw [decide_eq_false_iff_not]; omega
              go_wp2_with fail
              go_roundg (ds.length - (i + 1))
              case measure => have := HIN.out; omega
              case rel =>
                refine ⟨i + 1, .bool false, zs, ss, ?_, by go_num, (by have := HIN.out; omega), rfl, HA.out⟩
                have := HN8.out
                first | rfl | (rw [this]; done) | (rw [this]; rfl) | go_num

        · have hd5 : decide (do' ≤ 5) = false := by simpa using hd5
          by_cases hd6 : do' = 6
          · have hd6 : (do' == 6) = true := by simpa using hd6
            go_wp2_with fail
            refine (putQS cb 6 sb ss _ wr _ HI.out.bel.size HI.out.b (by omega) ⟨_, rfl⟩).mono ?_
            rintro x w4 ⟨rfl, sb', q4, m4, f4⟩
            by_cases hlt : (ss.length : Int) < 6
            · have hdl : decide ((ss.length : Int) < 6) = true := by simpa using hlt
              rw [show putL 6 ss (.string ⟨#[115]⟩) = ss ++ [.string ⟨#[115]⟩] from if_pos hlt] at q4
              rw [hdl]
              have h8 : ApX w w4 ca cb (.slice xa zs.length xc) zs (ss ++ [.string ⟨#[115]⟩]) := ⟨sa, sb', HI.out.turnB q4 f4 (fun s hs => by
                rcases List.mem_append.1 hs with hs | hs
                · exact HI.out.sh s hs
                · exact ⟨_, List.mem_singleton.1 hs⟩)⟩
              clear q4 m4 f4 hdl hlt c0 c1
              obtain ⟨sz, hsz⟩ : ∃ sz, sz = (ss ++ [.string ⟨#[115]⟩]) := ⟨_, rfl⟩
              rw [← hsz] at h8
              have HSZ : Hid (((sz.length : Nat) : Int) = ((ss.length : Int) + 1)) := by rw [hsz]; unfold Hid; simp
              clear hsz
              have H8 := Lib.hid h8
              clear h8
              obtain ⟨sa8, sb8, hi8⟩ := H8.out
              obtain ⟨xa8, xc8, hx8, _⟩ := hi8.x.shape
              have HI8 := Lib.hid hi8
              clear hi8
              first | subst hx8 | (simp only [Value.slice.injEq] at hx8; obtain ⟨rfl, hdum, rfl⟩ := hx8; clear hdum)
              go_wp2_with fail
              refine (all (-1) ca 6 sa8 (zs) _ _ HI8.out.a (by have := HI8.out.a.le; rw [ivsI_len] at this; omega)).mono ?_
              rintro x w9 ⟨ov, rfl, o9, b9⟩
              rw [show firstN (-1) (zs) = (zs) from rfl] at o9
              obtain ⟨oa, oc, hov, _⟩ := own_shape o9
              rw [ivsI_len] at hov
              have O9 := Lib.hid o9
              have H9 := Lib.hid (H8.out.below b9)
              have X9 : Hid (RdZ w9 _ (zs)) := Rd.fr HI8.out.x.rd (Fr.of_below b9 no) (fun _ _ e => e)
              subst hov
              clear o9 b9
              go_wp2_with fail
              refine (ints _ _ (zs) (zs) w9 (rdz_of_own O9.out) X9.out (by have := HI8.out.a.le; rw [ivsI_len] at this; omega)).mono ?_
              rintro x wa ⟨rfl, ba⟩
              rw [sameZ_self]
              have HA := Lib.hid (H9.out.below ba)
              clear ba
              obtain ⟨sc9, sd9, hi9⟩ := HA.out
              have HI9 := Lib.hid hi9
              clear hi9
              go_wp2_with fail
              refine (lenQS cb 6 _ (sz) wa _ HI9.out.b).mono ?_
              rintro x wb ⟨rfl, rfl⟩
              have hs6 : ((sz).length : Int) ≤ 6 := HI9.out.b.le
              have HN8 : Hid ((((sz).length : Nat) : Int) = ((ss.length : Int) + 1)) := by unfold Hid; exact HSZ.out
              rw [HN8.out] at hs6 ⊢
              have hd7 : decide ((6 : Int) < ((ss.length : Int) + 1)) = false := by rw [decide_eq_false_iff_not]; omega
              have hd8 : decide ((((ss.length : Int) + 1) : Int) < 0) = false := by have := HN8.out; rw [decide_eq_false_iff_not]; omega
              go_wp2_with fail
              go_roundg (ds.length - (i + 1))
              case measure => have := HIN.out; omega
              case rel =>
                refine ⟨i + 1, .bool false, zs, sz, ?_, by go_num, (by have := HIN.out; omega), rfl, HA.out⟩
                have := HN8.out
                first | rfl | (rw [this]; done) | (rw [this]; rfl) | go_num

            · have hdl : decide ((ss.length : Int) < 6) = false := by simpa using hlt
              rw [show putL 6 ss (.string ⟨#[115]⟩) = ss from if_neg hlt] at q4
              rw [hdl]
              have h8 : ApX w w4 ca cb (.slice xa zs.length xc) zs ss := ⟨sa, sb', HI.out.turnB q4 f4 HI.out.sh⟩
              clear q4 m4 f4 hdl hlt c0 c1
              have H8 := Lib.hid h8
              clear h8
              obtain ⟨sa8, sb8, hi8⟩ := H8.out
              obtain ⟨xa8, xc8, hx8, _⟩ := hi8.x.shape
              have HI8 := Lib.hid hi8
              clear hi8
              first | subst hx8 | (simp only [Value.slice.injEq] at hx8; obtain ⟨rfl, hdum, rfl⟩ := hx8; clear hdum)
              go_wp2_with fail
              refine (all (-1) ca 6 sa8 (zs) _ _ HI8.out.a (by have := HI8.out.a.le; rw [ivsI_len] at this; omega)).mono ?_
              rintro x w9 ⟨ov, rfl, o9, b9⟩
              rw [show firstN (-1) (zs) = (zs) from rfl] at o9
              obtain ⟨oa, oc, hov, _⟩ := own_shape o9
              rw [ivsI_len] at hov
              have O9 := Lib.hid o9
              have H9 := Lib.hid (H8.out.below b9)
              have X9 : Hid (RdZ w9 _ (zs)) := Rd.fr HI8.out.x.rd (Fr.of_below b9 no) (fun _ _ e => e)
              subst hov
              clear o9 b9
              go_wp2_with fail
              refine (ints _ _ (zs) (zs) w9 (rdz_of_own O9.out) X9.out (by have := HI8.out.a.le; rw [ivsI_len] at this; omega)).mono ?_
              rintro x wa ⟨rfl, ba⟩
              rw [sameZ_self]
              have HA := Lib.hid (H9.out.below ba)
              clear ba
              obtain ⟨sc9, sd9, hi9⟩ := HA.out
              have HI9 := Lib.hid hi9
              clear hi9
              go_wp2_with fail
              refine (lenQS cb 6 _ (ss) wa _ HI9.out.b).mono ?_
              rintro x wb ⟨rfl, rfl⟩
              have hs6 : ((ss).length : Int) ≤ 6 := HI9.out.b.le
              have HN8 : Hid ((((ss).length : Nat) : Int) = (ss.length : Int)) := by unfold Hid; rfl
              rw [HN8.out] at hs6 ⊢
              have hd7 : decide ((6 : Int) < (ss.length : Int)) = false := by rw [decide_eq_false_iff_not]; omega
              have hd8 : decide (((ss.length : Int) : Int) < 0) = false := by have := HN8.out; rw [decide_eq_false_iff_not]; omega
              go_wp2_with fail
              go_roundg (ds.length - (i + 1))
              case measure => have := HIN.out; omega
              case rel =>
                refine ⟨i + 1, .bool false, zs, ss, ?_, by go_num, (by have := HIN.out; omega), rfl, HA.out⟩
                have := HN8.out
                first | rfl | (rw [this]; done) | (rw [this]; rfl) | go_num

          · have hd6 : (do' == 6) = false := by simpa using hd6
            go_wp2_with fail
            cases ss with
            | nil =>
              refine (cutNoS 1 cb 6 sb [] wr _ HI.out.b (by decide)).mono ?_
              rintro x w4 ⟨rfl, rfl⟩
              have h8 : ApX w w4 ca cb (.slice xa zs.length xc) zs [] := ⟨sa, sb, HI.out⟩
              clear c0 c1
              have H8 := Lib.hid h8
              clear h8
              obtain ⟨sa8, sb8, hi8⟩ := H8.out
              obtain ⟨xa8, xc8, hx8, _⟩ := hi8.x.shape
              have HI8 := Lib.hid hi8
              clear hi8
              first | subst hx8 | (simp only [Value.slice.injEq] at hx8; obtain ⟨rfl, hdum, rfl⟩ := hx8; clear hdum)
              go_wp2_with fail
              refine (all (-1) ca 6 sa8 (zs) _ _ HI8.out.a (by have := HI8.out.a.le; rw [ivsI_len] at this; omega)).mono ?_
              rintro x w9 ⟨ov, rfl, o9, b9⟩
              rw [show firstN (-1) (zs) = (zs) from rfl] at o9
              obtain ⟨oa, oc, hov, _⟩ := own_shape o9
              rw [ivsI_len] at hov
              have O9 := Lib.hid o9
              have H9 := Lib.hid (H8.out.below b9)
              have X9 : Hid (RdZ w9 _ (zs)) := Rd.fr HI8.out.x.rd (Fr.of_below b9 no) (fun _ _ e => e)
              subst hov
              clear o9 b9
              go_wp2_with fail
              refine (ints _ _ (zs) (zs) w9 (rdz_of_own O9.out) X9.out (by have := HI8.out.a.le; rw [ivsI_len] at this; omega)).mono ?_
              rintro x wa ⟨rfl, ba⟩
              rw [sameZ_self]
              have HA := Lib.hid (H9.out.below ba)
              clear ba
              obtain ⟨sc9, sd9, hi9⟩ := HA.out
              have HI9 := Lib.hid hi9
              clear hi9
              go_wp2_with fail
              refine (lenQS cb 6 _ (([] : List Value)) wa _ HI9.out.b).mono ?_
              rintro x wb ⟨rfl, rfl⟩
              have hs6 : ((([] : List Value)).length : Int) ≤ 6 := HI9.out.b.le
              have HN8 : Hid ((((([] : List Value)).length : Nat) : Int) = (0 : Int)) := by unfold Hid; rfl
              rw [HN8.out] at hs6 ⊢
              have hd7 : decide ((6 : Int) < (0 : Int)) = false := by rw [decide_eq_false_iff_not]; omega
              have hd8 : decide (((0 : Int) : Int) < 0) = false := by have := HN8.out; rw [decide_eq_false_iff_not]; omega
              go_wp2_with fail
              go_roundg (ds.length - (i + 1))
              case measure => have := HIN.out; omega
              case rel =>
                refine ⟨i + 1, .bool false, zs, ([] : List Value), ?_, by go_num, (by have := HIN.out; omega), rfl, HA.out⟩
                have := HN8.out
                first | rfl | (rw [this]; done) | (rw [this]; rfl) | go_num
            | cons s ss =>
              refine (cutYesS 1 1 cb 6 sb (s :: ss) wr _ HI.out.bel.size HI.out.b (by simp; omega) (by decide) (by omega)).mono ?_
              rintro x w4 ⟨rfl, sb', q4, m4, f4⟩
              have h8 : ApX w w4 ca cb (.slice xa zs.length xc) zs ss := ⟨sa, sb', HI.out.turnB q4 (f4.mono (fun _ _ e => .inl e)) (fun s hs => HI.out.sh s (List.mem_cons_of_mem _ hs))⟩
              have hsl7 : (ss.length : Int) + 1 ≤ 6 := by rw [List.length_cons] at hsl6; omega
              rw [List.length_cons] at *
              clear q4 m4 f4 c0 c1
              have H8 := Lib.hid h8
              clear h8
              obtain ⟨sa8, sb8, hi8⟩ := H8.out
              obtain ⟨xa8, xc8, hx8, _⟩ := hi8.x.shape
              have HI8 := Lib.hid hi8
              clear hi8
              first | subst hx8 | (simp only [Value.slice.injEq] at hx8; obtain ⟨rfl, hdum, rfl⟩ := hx8; clear hdum)
              go_wp2_with fail
              refine (all (-1) ca 6 sa8 (zs) _ _ HI8.out.a (by have := HI8.out.a.le; rw [ivsI_len] at this; omega)).mono ?_
              rintro x w9 ⟨ov, rfl, o9, b9⟩
              rw [show firstN (-1) (zs) = (zs) from rfl] at o9
              obtain ⟨oa, oc, hov, _⟩ := own_shape o9
              rw [ivsI_len] at hov
              have O9 := Lib.hid o9
              have H9 := Lib.hid (H8.out.below b9)
              have X9 : Hid (RdZ w9 _ (zs)) := Rd.fr HI8.out.x.rd (Fr.of_below b9 no) (fun _ _ e => e)
              subst hov
              clear o9 b9
              go_wp2_with fail
              refine (ints _ _ (zs) (zs) w9 (rdz_of_own O9.out) X9.out (by have := HI8.out.a.le; rw [ivsI_len] at this; omega)).mono ?_
              rintro x wa ⟨rfl, ba⟩
              rw [sameZ_self]
              have HA := Lib.hid (H9.out.below ba)
              clear ba
              obtain ⟨sc9, sd9, hi9⟩ := HA.out
              have HI9 := Lib.hid hi9
              clear hi9
              go_wp2_with fail
              refine (lenQS cb 6 _ (ss) wa _ HI9.out.b).mono ?_
              rintro x wb ⟨rfl, rfl⟩
              have hs6 : ((ss).length : Int) ≤ 6 := HI9.out.b.le
              have HN8 : Hid ((((ss).length : Nat) : Int) = (ss.length : Int)) := by unfold Hid; rfl
              rw [HN8.out] at hs6 ⊢
              have hd7 : decide ((6 : Int) < (ss.length : Int)) = false := by rw [decide_eq_false_iff_not]; omega
              have hd8 : decide (((ss.length : Int) : Int) < 0) = false := by have := HN8.out; rw [decide_eq_false_iff_not]; omega
              go_wp2_with fail
              go_roundg (ds.length - (i + 1))
              case measure => have := HIN.out; omega
              case rel =>
                refine ⟨i + 1, .bool false, zs, ss, ?_, by go_num, (by have := HIN.out; omega), rfl, HA.out⟩
                have := HN8.out
                first | rfl | (rw [this]; done) | (rw [this]; rfl) | go_num
    · have hd1 : decide ((i : Int) < ds.length) = false := by simp; omega
      obtain ⟨sa, sb, hI⟩ := HX.out
      obtain ⟨xa, xc, hxv, _, _⟩ := hI.x.shape
      subst hxv
      clear hI
      go_wp2_with fail
      go_ret
      exact ⟨rfl, HX.out.bel⟩
end Go.Proofs.Ytjefmicmhcajoaa
