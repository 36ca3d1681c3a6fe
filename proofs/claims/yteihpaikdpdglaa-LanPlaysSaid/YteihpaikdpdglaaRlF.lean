/-
  The reference's line: Cut. (Printed by gRlF.py.)
-/
import Derived.Test.YteihpaikdpdglaaRlE
namespace Go.Proofs.Yteihpaikdpdglaa
open Go.RowKit
set_option linter.unusedVariables false


structure CutJ (w : World) (F : Nat → Prop) (r st : Nat) (life lost most : Int) (bb : Nat) (a1 a2 : Int) (qs : List FlA) (W : World) : Prop where
  lg : ∃ F', RG W F' r st life lost most qs ∧ Stp F F' w W ∧ ¬ F' bb
  blk : W.heap[bb]? = some (.cells #[.int .i64 a1, .int .i64 a2] 3 (0, 0))
theorem CutJ.step {w W W' : World} {F : Nat → Prop} {r st : Nat} {life lost most : Int} {bb : Nat} {a1 a2 : Int} {qs qs' : List FlA} {F1 F' : Nat → Prop} (h : CutJ w F r st life lost most bb a1 a2 qs W) (hS : Stp F F1 w W) (hn : ¬ F1 bb)
    (h' : RG W' F' r st life lost most qs') (s : Stp F1 F' W W') : CutJ w F r st life lost most bb a1 a2 qs' W' :=
  ⟨⟨F', h', hS.trans s, fun e => (s.new bb e).elim hn (fun e => by have := lt_of_block h.blk; omega)⟩, s.fr.heap h.blk hn⟩
theorem CutJ.below {w W W' : World} {F : Nat → Prop} {r st : Nat} {life lost most : Int} {bb : Nat} {a1 a2 : Int} {qs : List FlA} (h : CutJ w F r st life lost most bb a1 a2 qs W) (hb : Below W.heap.size W W') : CutJ w F r st life lost most bb a1 a2 qs W' := by
  obtain ⟨F', h1, h2, h3⟩ := h.lg
  exact ⟨⟨F', h1.below hb, h2.thenBelow hb, h3⟩, (hb.block _ (lt_of_block h.blk)).trans h.blk⟩
theorem cutAtR_le {w : World} {F : Nat → Prop} {r st : Nat} {life lost most : Int} {qs : List FlA} (h : RG w F r st life lost most qs) (a b : Int) : 0 ≤ (cutAt st a b qs).1 ∧ (cutAt st a b qs).1 ≤ 10000 := by
  obtain ⟨lv, vs, h⟩ := h
  unfold cutAt
  cases hk : rix st a b with
  | none => dsimp only; omega
  | some k =>
    obtain ⟨hkv, hkq, _⟩ := h.at_ hk
    have := (h.q k hkv hkq).len
    dsimp only
    rw [getD_get hkq]
    omega
theorem cutsP_out {st : Nat} {s : Int} (h : ¬ (0 ≤ s ∧ s < (st : Int))) (qs : List FlA) : ∀ i, cutsP st s qs i = (0, qs)
  | 0 => rfl
  | i + 1 => by
    have ih := cutsP_out h qs i
    have h1 : ∀ a b q, (a = s ∨ b = s) → cutAt st a b q = (0, q) := fun a b q e => by
      unfold cutAt rix
      rw [if_neg (by omega)]
    show ((cutsP st s qs i).1 + (cutAt st s i (cutsP st s qs i).2).1 + (cutAt st i s (cutAt st s i (cutsP st s qs i).2).2).1, (cutAt st i s (cutAt st s i (cutsP st s qs i).2).2).2) = (0, qs)
    rw [ih, h1 s i _ (.inl rfl), h1 i s _ (.inr rfl)]
    rfl
theorem cutP_eq (st : Nat) (s : Int) (qs : List FlA) (lost : Int) : cutP st s (qs, lost) = ((cutsP st s qs st).1, ((cutsP st s qs st).2, lost + (cutsP st s qs st).1)) := by
  unfold cutP
  by_cases h : 0 ≤ s ∧ s < (st : Int)
  · rw [if_pos h]
  · rw [if_neg h, cutsP_out h]; simp

set_option maxRecDepth 100000 in
set_option maxHeartbeats 8000000 in
theorem rcut {w : World} {F : Nat → Prop} {r st : Nat} {life lost most : Int} {qs : List FlA} (h : RG w F r st life lost most qs) (hlo : 0 ≤ lost ∧ lost ≤ 1000000000) (s : Int) :
    Calls Try.prog 53 #[.pointer (some ⟨r, 0, none⟩), .int .i64 s] w fun e w' => e = .returned (.int .i64 (cutP st s (qs, lost)).1) ∧ ∃ F', RG w' F' r st life (cutP st s (qs, lost)).2.2 most (cutP st s (qs, lost)).2.1 ∧ Stp F F' w w' := by
  rw [cutP_eq]
  dsimp only
  obtain ⟨lv0, vs0, h0⟩ := h
  have hst := h0.sts
  have ini : Hid (∃ F', RG w F' r st life lost most (cutsP st s qs 0).2 ∧ Stp F F' w w) := ⟨F, ⟨lv0, vs0, h0⟩, Stp.refl _ _⟩
  clear h0
  obtain ⟨f, hf⟩ : ∃ f, f = cutsP st s qs := ⟨_, rfl⟩
  have hstep : ∀ i, f (i + 1) = ((f i).1 + (cutAt st s i (f i).2).1 + (cutAt st i s (cutAt st s i (f i).2).2).1, (cutAt st i s (cutAt st s i (f i).2).2).2) := fun i => by rw [hf]; rfl
  have h0 : (f 0).1 = 0 := by rw [hf]; rfl
  rw [← hf] at ini ⊢
  have HST := Lib.hid hstep
  have H0 := Lib.hid h0
  clear hf hstep h0
  go_enter Try.func53, Try.ntmps53
  go_wp2_with fail
  go_loopg [5, 6] st (fun g s5 s6 wx => ∃ i : Nat, i ≤ st ∧ s6 = .int .i64 i ∧ s5 = .int .i64 (f i).1 ∧ g = st - i ∧ Hid (0 ≤ (f i).1 ∧ (f i).1 ≤ 20000 * (i : Int)) ∧ Hid (∃ F', RG wx F' r st life lost most (f i).2 ∧ Stp F F' w wx))
  case atStart => exact ⟨0, Nat.zero_le _, rfl, by rw [H0.out], rfl, by unfold Hid; rw [H0.out]; omega, ini⟩
  case round =>
    obtain ⟨i, hi, rfl, rfl, rfl, HN, HX⟩ := hrel
    obtain ⟨F1, ⟨lv1, vs1, hL⟩, hS⟩ := HX.out
    have k0 := hL.cells.1
    by_cases hlt : i < st
    · have hdl : decide ((i : Int) < (st : Int)) = true := by simpa using hlt
      have hdl2 : decide (i < st) = true := by simpa using hlt
      have HL := Lib.hid hL
      have HS := Lib.hid hS
      clear hL hS HX
      go_wp2_with fail
      refine (rat HL.out s i).mono ?_
      rintro e w' ⟨rfl, hw'⟩
      obtain rfl := hw'.symm
      clear hw'
      go_wp2_with fail
      refine (rat HL.out i s).mono ?_
      rintro e w' ⟨rfl, hw'⟩
      obtain rfl := hw'.symm
      clear hw'
      obtain ⟨n0, hn0⟩ : ∃ n0, n0 = (f i).1 := ⟨_, rfl⟩
      obtain ⟨q0, hq0⟩ : ∃ q0, q0 = (f i).2 := ⟨_, rfl⟩
      have HSI := Lib.hid (HST.out i)
      rw [← hn0, ← hq0] at HSI
      rw [← hn0] at HN ⊢
      rw [← hq0] at HL
      obtain ⟨⟨x1, q1⟩, hc1⟩ : ∃ c1, c1 = cutAt st s i q0 := ⟨_, rfl⟩
      rw [← hc1] at HSI
      dsimp only at HSI
      obtain ⟨⟨x2, q2⟩, hc2⟩ : ∃ c2, c2 = cutAt st i s q1 := ⟨_, rfl⟩
      rw [← hc2] at HSI
      dsimp only at HSI
      have HC1 := Lib.hid hc1
      have HC2 := Lib.hid hc2
      obtain ⟨a1, ha1⟩ : ∃ a1, a1 = atV st s i := ⟨_, rfl⟩
      obtain ⟨a2, ha2⟩ : ∃ a2, a2 = atV st i s := ⟨_, rfl⟩
      rw [← ha1, ← ha2]
      have HA1 := Lib.hid ha1
      have HA2 := Lib.hid ha2
      have ini2 : CutJ w F r st life lost most wr.heap.size a1 a2 q0 (wr.alloc (.cells #[.int .i64 a1, .int .i64 a2] 3)) :=
        ⟨⟨F1, ⟨lv1, vs1, HL.out.below ((Below.refl _ wr).alloc (Nat.le_refl _) _)⟩, HS.out.thenBelow ((Below.refl _ wr).alloc (Nat.le_refl _) _), fun e => by have := HL.out.lt _ e; omega⟩, heap_alloc_new' wr _⟩
      have Ini2 := Lib.hid ini2
      clear hn0 hq0 hc1 hc2 ini2 ha1 ha2 k0
      go_wp2_with fail
      obtain ⟨bb, hbb⟩ : ∃ bb, bb = wr.heap.size := ⟨_, rfl⟩
      rw [← hbb] at Ini2 ⊢
      clear hbb
      go_loopg [5, 8] 2 (fun g s5 s8 wx => (g = 2 ∧ s8 = .int .i64 0 ∧ s5 = .int .i64 n0 ∧ Hid (CutJ w F r st life lost most bb a1 a2 q0 wx)) ∨ (g = 1 ∧ s8 = .int .i64 1 ∧ s5 = .int .i64 (n0 + x1) ∧ Hid (0 ≤ x1 ∧ x1 ≤ 10000) ∧ Hid (CutJ w F r st life lost most bb a1 a2 q1 wx)) ∨ (g = 0 ∧ s8 = .int .i64 2 ∧ s5 = .int .i64 (n0 + x1 + x2) ∧ Hid (0 ≤ x1 ∧ x1 ≤ 10000 ∧ 0 ≤ x2 ∧ x2 ≤ 10000) ∧ Hid (CutJ w F r st life lost most bb a1 a2 q2 wx)))
      case atStart => exact .inl ⟨rfl, rfl, rfl, Ini2.out⟩
      case round =>
        rcases hrel with ⟨rfl, rfl, rfl, HY⟩ | ⟨rfl, rfl, rfl, HX1, HY⟩ | ⟨rfl, rfl, rfl, HX2, HY⟩
        · obtain ⟨F2, ⟨lv2, vs2, hL⟩, hS, hn⟩ := HY.out.lg
          have y0 : wr.cell? ⟨bb, 0, none⟩ = some (.int .i64 a1) := blk_cell HY.out.blk 0
          have HX : Hid (0 ≤ x1 ∧ x1 ≤ 10000) := by have h9 := cutAtR_le ⟨lv2, vs2, hL⟩ s i; rw [← HC1.out] at h9; exact h9
          have HNS := Lib.hid (And.intro hS hn)
          have HCC := HC1.out
          have HAA := HA1.out
          unfold cutAt at HCC
          unfold atV at HAA
          cases hk : rix st s i with
          | none =>
            rw [hk] at HCC HAA
            dsimp only at HCC HAA
            obtain ⟨rfl, rfl⟩ := Prod.mk.inj HCC
            subst HAA
            have HY3 := Lib.hid HY.out
            clear hL hS hn hk HCC
            go_wp2_with fail
            go_roundg 1
            case measure => decide
            case rel => exact .inr (.inl ⟨rfl, by go_num, by simp, HX.out, HY3.out⟩)
          | some k =>
            rw [hk] at HCC HAA
            dsimp only at HCC HAA
            obtain ⟨hx, hqn⟩ := Prod.mk.inj HCC
            obtain ⟨hkv, hkq, _⟩ := hL.at_ hk
            obtain ⟨g, cap, hlv, hc1, hc2, y, zg⟩ := hL.slot hkv
            obtain ⟨fl, h1, h2, h3⟩ := (hL.q k hkv hkq).ex
            obtain ⟨la, lc, hvk, _⟩ := own_shape h1
            rw [hvk] at y
            subst hlv
            obtain ⟨_, _, _, _, k4⟩ := hL.cells
            obtain ⟨N, hN⟩ : ∃ N, N = vs2.length := ⟨_, rfl⟩
            rw [getD_get hkq, ← forall_len h2] at hx
            obtain ⟨n, hnn⟩ : ∃ n, n = fl.length := ⟨_, rfl⟩
            rw [← hnn] at hx y
            have hgr : g ≠ r := fun e => own_ne hL.rows hL.blk (by decide) (by rw [e]; rfl)
            have hki : (k : Int) < (N : Int) := by omega
            have hkge : decide ((0 : Int) ≤ (k : Int)) = true := by simp
            have HLL := Lib.hid hL
            have HPUT := Lib.hid (fun (w5 : World) (hb : Below wr.heap.size wr w5) => hL.put (v5 := .slice none 0 0) (l' := []) hkv hb (Own.nil _ _ _ _ _) trivial (fun f hf => by cases hf) (fun p hp => by cases hp) (by simp))
            rw [← hN] at k4
            have HQN := Lib.hid hqn
            have HY3 : Hid (∀ w5, Below wr.heap.size wr w5 → CutJ w F r st life lost most bb a1 a2 q1 (w5.setCell ⟨g, k, none⟩ (.slice none 0 0))) := fun w5 hb => by
              obtain ⟨F3, h3, s3⟩ := HPUT.out w5 hb
              exact HY.out.step HNS.out.1 HNS.out.2 (by rw [HQN.out]; exact h3) s3
            have HXX := Lib.hid hx
            subst HAA
            have hwn : wrap64 (n0 + (n : Int)) = n0 + (n : Int) := IntWalk.wrap64_in _ (by have h8 := HX.out; have h9 := HN.out; omega)
            clear hL hS hn hk HCC hx hqn h1 h2 h3 hvk hN hnn hkv hc1 hc2
            go_upto_region 10 with fail
            go_region
            go_upto_region 11 with fail
            go_region
            go_wp2_with fail
            go_roundg 1
            case measure => decide
            case rel => exact .inr (.inl ⟨rfl, by go_num, by rw [hwn, HXX.out], HX.out, (HY3.out wr (Below.refl _ wr)).below (Below.refl _ _).drew.drew⟩)
        · obtain ⟨F2, ⟨lv2, vs2, hL⟩, hS, hn⟩ := HY.out.lg
          have y0 : wr.cell? ⟨bb, 1, none⟩ = some (.int .i64 a2) := blk_cell HY.out.blk 1
          have HX : Hid (0 ≤ x2 ∧ x2 ≤ 10000) := by have h9 := cutAtR_le ⟨lv2, vs2, hL⟩ i s; rw [← HC2.out] at h9; exact h9
          have HNS := Lib.hid (And.intro hS hn)
          have HCC := HC2.out
          have HAA := HA2.out
          unfold cutAt at HCC
          unfold atV at HAA
          cases hk : rix st i s with
          | none =>
            rw [hk] at HCC HAA
            dsimp only at HCC HAA
            obtain ⟨rfl, rfl⟩ := Prod.mk.inj HCC
            subst HAA
            have HY3 := Lib.hid HY.out
            clear hL hS hn hk HCC
            go_wp2_with fail
            go_roundg 0
            case measure => decide
            case rel => exact .inr (.inr ⟨rfl, by go_num, by simp, ⟨HX1.out.1, HX1.out.2, HX.out.1, HX.out.2⟩, HY3.out⟩)
          | some k =>
            rw [hk] at HCC HAA
            dsimp only at HCC HAA
            obtain ⟨hx, hqn⟩ := Prod.mk.inj HCC
            obtain ⟨hkv, hkq, _⟩ := hL.at_ hk
            obtain ⟨g, cap, hlv, hc1, hc2, y, zg⟩ := hL.slot hkv
            obtain ⟨fl, h1, h2, h3⟩ := (hL.q k hkv hkq).ex
            obtain ⟨la, lc, hvk, _⟩ := own_shape h1
            rw [hvk] at y
            subst hlv
            obtain ⟨_, _, _, _, k4⟩ := hL.cells
            obtain ⟨N, hN⟩ : ∃ N, N = vs2.length := ⟨_, rfl⟩
            rw [getD_get hkq, ← forall_len h2] at hx
            obtain ⟨n, hnn⟩ : ∃ n, n = fl.length := ⟨_, rfl⟩
            rw [← hnn] at hx y
            have hgr : g ≠ r := fun e => own_ne hL.rows hL.blk (by decide) (by rw [e]; rfl)
            have hki : (k : Int) < (N : Int) := by omega
            have hkge : decide ((0 : Int) ≤ (k : Int)) = true := by simp
            have HLL := Lib.hid hL
            have HPUT := Lib.hid (fun (w5 : World) (hb : Below wr.heap.size wr w5) => hL.put (v5 := .slice none 0 0) (l' := []) hkv hb (Own.nil _ _ _ _ _) trivial (fun f hf => by cases hf) (fun p hp => by cases hp) (by simp))
            rw [← hN] at k4
            have HQN := Lib.hid hqn
            have HY3 : Hid (∀ w5, Below wr.heap.size wr w5 → CutJ w F r st life lost most bb a1 a2 q2 (w5.setCell ⟨g, k, none⟩ (.slice none 0 0))) := fun w5 hb => by
              obtain ⟨F3, h3, s3⟩ := HPUT.out w5 hb
              exact HY.out.step HNS.out.1 HNS.out.2 (by rw [HQN.out]; exact h3) s3
            have HXX := Lib.hid hx
            subst HAA
            have hwn : wrap64 (n0 + x1 + (n : Int)) = n0 + x1 + (n : Int) := IntWalk.wrap64_in _ (by have h8 := HX.out; have h9 := HN.out; have h7 := HX1.out; omega)
            clear hL hS hn hk HCC hx hqn h1 h2 h3 hvk hN hnn hkv hc1 hc2
            go_upto_region 10 with fail
            go_region
            go_upto_region 11 with fail
            go_region
            go_wp2_with fail
            go_roundg 0
            case measure => decide
            case rel => exact .inr (.inr ⟨rfl, by go_num, by rw [hwn, HXX.out], ⟨HX1.out.1, HX1.out.2, HX.out.1, HX.out.2⟩, (HY3.out wr (Below.refl _ wr)).below (Below.refl _ _).drew.drew⟩)
        · go_wp2_with fail
          go_roundg (st - (i + 1))
          case measure => omega
          case rel =>
            obtain ⟨F2, hL, hS, hn⟩ := HY.out.lg
            refine ⟨i + 1, by omega, by go_num, by rw [HSI.out], rfl, ?_, ?_⟩
            · have h8 := HX2.out
              have h9 := HN.out
              unfold Hid
              rw [HSI.out]
              dsimp only
              have : (20000 : Int) * ((i + 1 : Nat) : Int) = 20000 * (i : Int) + 20000 := by omega
              omega
            · rw [HSI.out]
              exact ⟨F2, hL, hS⟩
    · obtain rfl : i = st := by omega
      obtain ⟨hl0, hl1⟩ := hlo
      obtain ⟨n, hn⟩ : ∃ n, n = (f i).1 := ⟨_, rfl⟩
      rw [← hn] at HN ⊢
      have hn2 := HN.out
      have hwl : wrap64 (lost + n) = lost + n := IntWalk.wrap64_in _ (by omega)
      have kt2 : wr.cell? ⟨r, 3, none⟩ = some (.int .i64 lost) := blk_cell hL.blk 3
      have zt2 : wr.frozen? ⟨r, 3, none⟩ = false := blk_free hL.blk 3
      have HL := Lib.hid hL
      have HS := Lib.hid hS
      have HNE := Lib.hid hn
      clear hL hS HX hn
      go_wp2_with fail
      go_ret
      rw [← HNE.out]
      exact ⟨rfl, F1, ⟨lv1, vs1, (HL.out.lose (lost + n)).1⟩, HS.out.trans (HL.out.lose (lost + n)).2⟩
end Go.Proofs.Yteihpaikdpdglaa
