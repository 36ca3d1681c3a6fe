/-
  Package lan: Cut, at any line.
-/
import Derived.Test.YteihpaikdpdglaaGlJ
namespace Go.Proofs.Yteihpaikdpdglaa
open Go.RowKit
set_option linter.unusedVariables false


/-- What the cuts hold: the line, and where the two rows' list lies. -/
structure CutI (w : World) (F : Nat → Prop) (t st : Nat) (life lost most : Int) (rv : Value) (ps : List Nat) (bb : Nat) (p1 p2 : Option Addr) (qs : List FlA) (W : World) : Prop where
  lg : ∃ F' Fs, LGi W F' t st life lost most qs rv ps Fs ∧ Stp F F' w W ∧ ¬ F' bb
  blk : W.heap[bb]? = some (.cells #[.pointer p1, .pointer p2] 70 (0, 0))
theorem CutI.step {w W W' : World} {F : Nat → Prop} {t st : Nat} {life lost most : Int} {rv : Value} {ps : List Nat} {bb : Nat} {p1 p2 : Option Addr} {qs qs' : List FlA} {F1 F' : Nat → Prop} {Fs' : Nat → Nat → Prop} (h : CutI w F t st life lost most rv ps bb p1 p2 qs W) (hS : Stp F F1 w W) (hn : ¬ F1 bb)
    (h' : LGi W' F' t st life lost most qs' rv ps Fs') (s : Stp F1 F' W W') : CutI w F t st life lost most rv ps bb p1 p2 qs' W' :=
  ⟨⟨F', Fs', h', hS.trans s, fun e => (s.new bb e).elim hn (fun e => by have := lt_of_block h.blk; omega)⟩, s.fr.heap h.blk hn⟩
theorem cutAt_le {w : World} {F : Nat → Prop} {t st : Nat} {life lost most : Int} {qs : List FlA} {rv : Value} {ps : List Nat} {Fs : Nat → Nat → Prop} (h : LGi w F t st life lost most qs rv ps Fs) (a b : Int) : 0 ≤ (cutAt st a b qs).1 ∧ (cutAt st a b qs).1 ≤ 10000 := by
  unfold cutAt
  cases hk : rix st a b with
  | none => dsimp only; omega
  | some k =>
    obtain ⟨_, _, _, _, _, _, _, _, hlt⟩ := rix_lt hk
    have hi : k < ps.length := by rw [h.len]; exact hlt
    have := (h.row hi).len.2
    dsimp only
    omega

set_option maxRecDepth 100000 in
set_option maxHeartbeats 8000000 in
theorem lcutG {w : World} {F : Nat → Prop} {t st : Nat} {life lost most : Int} {qs : List FlA} (h : LG w F t st life lost most qs) (hlo : 0 ≤ lost ∧ lost ≤ 1000000000) (s : Int) :
    Calls Try.prog 25 #[.pointer (some ⟨t, 0, none⟩), .int .i64 s] w fun e w' => e = .returned (.int .i64 (cutP st s (qs, lost)).1) ∧ ∃ F', LG w' F' t st life (cutP st s (qs, lost)).2.2 most (cutP st s (qs, lost)).2.1 ∧ Stp F F' w w' := by
  obtain ⟨rv, ps, Fs, h⟩ := h
  unfold cutP
  by_cases hs : 0 ≤ s ∧ s < (st : Int)
  · rw [if_pos hs]
    dsimp only
    have hd0 : decide ((0 : Int) ≤ s) = true := decide_eq_true hs.1
    have hd1 : decide (s < (st : Int)) = true := decide_eq_true hs.2
    have hst := h.sts
    have k0 : w.cell? ⟨t, 0, none⟩ = some (.int .i64 st) := blk_cell h.blk 0
    have ini : Hid (∃ F' Fs', LGi w F' t st life lost most (cutsP st s qs 0).2 rv ps Fs' ∧ Stp F F' w w) := ⟨F, Fs, h, Stp.refl _ _⟩
    obtain ⟨f, hf⟩ : ∃ f, f = cutsP st s qs := ⟨_, rfl⟩
    have hstep : ∀ i, f (i + 1) = ((f i).1 + (cutAt st s i (f i).2).1 + (cutAt st i s (cutAt st s i (f i).2).2).1, (cutAt st i s (cutAt st s i (f i).2).2).2) := fun i => by rw [hf]; rfl
    have h0 : (f 0).1 = 0 := by rw [hf]; rfl
    rw [← hf] at ini ⊢
    have HST := Lib.hid hstep
    have H0 := Lib.hid h0
    have H := Lib.hid h
    clear h hf hstep h0 hs
    go_enter Try.func25, Try.ntmps25
    go_wp2_with fail
    refine (hasG H.out s).mono ?_
    rintro e w' ⟨rfl, hw'⟩
    obtain rfl := hw'.symm
    clear hw'
    rw [hd0, hd1]
    go_wp2_with fail
    go_loopg [5, 17] st (fun g s5 s17 wx => ∃ i : Nat, i ≤ st ∧ s17 = .int .i64 i ∧ s5 = .int .i64 (f i).1 ∧ g = st - i ∧ Hid (0 ≤ (f i).1 ∧ (f i).1 ≤ 20000 * (i : Int)) ∧ Hid (∃ F' Fs', LGi wx F' t st life lost most (f i).2 rv ps Fs' ∧ Stp F F' w wx))
    case atStart => exact ⟨0, Nat.zero_le _, rfl, by rw [H0.out], rfl, by unfold Hid; rw [H0.out]; omega, ini⟩
    case round =>
      obtain ⟨i, hi, rfl, rfl, rfl, HN, HX⟩ := hrel
      by_cases hlt : i < st
      · have hdl : decide ((i : Int) < (st : Int)) = true := by simpa using hlt
        have hdl2 : decide (i < st) = true := by simpa using hlt
        obtain ⟨F1, Fs1, hL, hS⟩ := HX.out
        have HL := Lib.hid hL
        have HS := Lib.hid hS
        clear hL hS HX
        go_wp2_with fail
        refine (rowAny HL.out s i).mono ?_
        rintro e w1 ⟨rfl, b1⟩
        obtain ⟨p1, hp1⟩ := rowPtr_ptr ps st s i
        obtain ⟨p2, hp2⟩ := rowPtr_ptr ps st i s
        rw [hp1]
        have B1 := Lib.hid b1
        have HL1 := Lib.hid (HL.out.below b1)
        clear b1
        go_wp2_with fail
        refine (rowAny HL1.out i s).mono ?_
        rintro e w2 ⟨rfl, b2⟩
        rw [hp2]
        have B2 := Lib.hid (B1.out.trans (b2.mono B1.out.size))
        have HL2 := Lib.hid (HL1.out.below b2)
        have HP1 := Lib.hid hp1
        have HP2 := Lib.hid hp2
        clear b2 hp1 hp2
        obtain ⟨n0, hn0⟩ : ∃ n0, n0 = (f i).1 := ⟨_, rfl⟩
        obtain ⟨q0, hq0⟩ : ∃ q0, q0 = (f i).2 := ⟨_, rfl⟩
        have HSI := Lib.hid (HST.out i)
        rw [← hn0, ← hq0] at HSI
        rw [← hn0] at HN ⊢
        rw [← hq0] at HL2
        obtain ⟨⟨x1, q1⟩, hc1⟩ : ∃ c1, c1 = cutAt st s i q0 := ⟨_, rfl⟩
        rw [← hc1] at HSI
        dsimp only at HSI
        obtain ⟨⟨x2, q2⟩, hc2⟩ : ∃ c2, c2 = cutAt st i s q1 := ⟨_, rfl⟩
        rw [← hc2] at HSI
        dsimp only at HSI
        have HC1 := Lib.hid hc1
        have HC2 := Lib.hid hc2
        have HN0 := Lib.hid hn0
        have ini2 : CutI w F t st life lost most rv ps w2.heap.size p1 p2 q0 (w2.alloc (.cells #[.pointer p1, .pointer p2] 70)) :=
          ⟨⟨F1, Fs1, HL2.out.below ((Below.refl _ w2).alloc (Nat.le_refl _) _), (HS.out.thenBelow B2.out).thenBelow ((Below.refl _ w2).alloc (Nat.le_refl _) _), fun e => by have := HL2.out.lt _ e; omega⟩, heap_alloc_new' w2 _⟩
        have Ini2 := Lib.hid ini2
        clear hn0 hq0 hc1 hc2 ini2
        go_wp2_with fail
        obtain ⟨bb, hbb⟩ : ∃ bb, bb = w2.heap.size := ⟨_, rfl⟩
        rw [← hbb] at Ini2 ⊢
        clear hbb
        go_loopg [5, 30] 2 (fun g s5 s30 wx => (g = 2 ∧ s30 = .int .i64 0 ∧ s5 = .int .i64 n0 ∧ Hid (CutI w F t st life lost most rv ps bb p1 p2 q0 wx)) ∨ (g = 1 ∧ s30 = .int .i64 1 ∧ s5 = .int .i64 (n0 + x1) ∧ Hid (0 ≤ x1 ∧ x1 ≤ 10000) ∧ Hid (CutI w F t st life lost most rv ps bb p1 p2 q1 wx)) ∨ (g = 0 ∧ s30 = .int .i64 2 ∧ s5 = .int .i64 (n0 + x1 + x2) ∧ Hid (0 ≤ x1 ∧ x1 ≤ 10000 ∧ 0 ≤ x2 ∧ x2 ≤ 10000) ∧ Hid (CutI w F t st life lost most rv ps bb p1 p2 q2 wx)))
        case atStart => exact .inl ⟨rfl, rfl, rfl, Ini2.out⟩
        case round =>
          rcases hrel with ⟨rfl, rfl, rfl, HY⟩ | ⟨rfl, rfl, rfl, HX1, HY⟩ | ⟨rfl, rfl, rfl, HX2, HY⟩
          · obtain ⟨F2, Fs2, hL, hS, hn⟩ := HY.out.lg
            have y0 : wr.cell? ⟨bb, 0, none⟩ = some (.pointer p1) := blk_cell HY.out.blk 0
            have L2 := lenRow hL s i
            have C2 := cutRow hL s i
            have hx := cutAt_le hL s i
            rw [HP1.out, ← HC1.out] at L2 C2
            rw [← HC1.out] at hx
            dsimp only at L2 C2 hx
            have HL2' := Lib.hid L2
            have HC2' := Lib.hid C2
            have HX := Lib.hid hx
            have HNS := Lib.hid (And.intro hS hn)
            clear hL hS hn L2 C2 hx
            go_wp2_with fail
            refine HL2'.out.mono ?_
            rintro e w4 ⟨rfl, hw4⟩
            obtain rfl := hw4.symm
            clear hw4
            go_wp2_with fail
            refine HC2'.out.mono ?_
            rintro e w4 ⟨rfl, F3, Fs3, h3, s3⟩
            have HY3 := Lib.hid (HY.out.step HNS.out.1 HNS.out.2 h3 s3)
            clear h3 s3
            have hwn : wrap64 (n0 + x1) = n0 + x1 := IntWalk.wrap64_in _ (by have h8 := HX.out; have h9 := HN.out; omega)
            go_wp2_with fail
            go_roundg 1
            case measure => decide
            case rel => exact .inr (.inl ⟨rfl, by go_num, by rw [hwn], HX.out, HY3.out⟩)
          · obtain ⟨F2, Fs2, hL, hS, hn⟩ := HY.out.lg
            have y0 : wr.cell? ⟨bb, 1, none⟩ = some (.pointer p2) := blk_cell HY.out.blk 1
            have L2 := lenRow hL i s
            have C2 := cutRow hL i s
            have hx := cutAt_le hL i s
            rw [HP2.out, ← HC2.out] at L2 C2
            rw [← HC2.out] at hx
            dsimp only at L2 C2 hx
            have HL2' := Lib.hid L2
            have HC2' := Lib.hid C2
            have HX := Lib.hid hx
            have HNS := Lib.hid (And.intro hS hn)
            clear hL hS hn L2 C2 hx
            go_wp2_with fail
            refine HL2'.out.mono ?_
            rintro e w4 ⟨rfl, hw4⟩
            obtain rfl := hw4.symm
            clear hw4
            go_wp2_with fail
            refine HC2'.out.mono ?_
            rintro e w4 ⟨rfl, F3, Fs3, h3, s3⟩
            have HY3 := Lib.hid (HY.out.step HNS.out.1 HNS.out.2 h3 s3)
            clear h3 s3
            have hwn : wrap64 (n0 + x1 + x2) = n0 + x1 + x2 := IntWalk.wrap64_in _ (by have h8 := HX.out; have h9 := HN.out; have h7 := HX1.out; omega)
            go_wp2_with fail
            go_roundg 0
            case measure => decide
            case rel => exact .inr (.inr ⟨rfl, by go_num, by rw [hwn], ⟨HX1.out.1, HX1.out.2, HX.out.1, HX.out.2⟩, HY3.out⟩)
          · go_wp2_with fail
            go_roundg (st - (i + 1))
            case measure => omega
            case rel =>
              obtain ⟨F2, Fs2, hL, hS, hn⟩ := HY.out.lg
              refine ⟨i + 1, by omega, by go_num, by rw [HSI.out], rfl, ?_, ?_⟩
              · have h8 := HX2.out
                have h9 := HN.out
                unfold Hid
                rw [HSI.out]
                dsimp only
                have : (20000 : Int) * ((i + 1 : Nat) : Int) = 20000 * (i : Int) + 20000 := by omega
                omega
              · rw [HSI.out]
                exact ⟨F2, Fs2, hL, hS⟩
      · obtain rfl : i = st := by omega
        obtain ⟨F1, Fs1, hL, hS⟩ := HX.out
        obtain ⟨hl0, hl1⟩ := hlo
        obtain ⟨n, hn⟩ : ∃ n, n = (f i).1 := ⟨_, rfl⟩
        rw [← hn] at HN ⊢
        have hn2 := HN.out
        have hwl : wrap64 (lost + n) = lost + n := IntWalk.wrap64_in _ (by omega)
        have kt2 : wr.cell? ⟨t, 2, none⟩ = some (.int .i64 lost) := blk_cell hL.blk 2
        have zt2 : wr.frozen? ⟨t, 2, none⟩ = false := blk_free hL.blk 2
        have HL := Lib.hid hL
        have HS := Lib.hid hS
        have HNE := Lib.hid hn
        clear hL hS HX hn
        go_wp2_with fail
        go_ret
        rw [← HNE.out]
        exact ⟨rfl, F1, ⟨rv, ps, Fs1, (HL.out.lose (lost + n)).1⟩, HS.out.trans (HL.out.lose (lost + n)).2⟩
  · rw [if_neg hs]
    obtain ⟨x, hx⟩ : ∃ x, x = (decide (0 ≤ s) && decide (s < (st : Int))) := ⟨_, rfl⟩
    obtain rfl : x = false := by
      rw [hx, Bool.and_eq_false_iff, decide_eq_false_iff_not, decide_eq_false_iff_not]
      omega
    have h1 := fun w' (hw : w' = w) => hasG (h.below (w' := w') (by rw [hw]; exact Below.refl _ _)) s
    rw [← hx] at h1
    have H1 := Lib.hid h1
    have H := Lib.hid h
    clear h1 h hx hs
    go_enter Try.func25, Try.ntmps25
    go_wp2_with fail
    refine (H1.out w rfl).mono ?_
    rintro e w' ⟨rfl, rfl⟩
    go_wp2_with fail
    go_ret
    exact ⟨rfl, F, ⟨rv, ps, Fs, H.out⟩, Stp.refl _ _⟩
end Go.Proofs.Yteihpaikdpdglaa
