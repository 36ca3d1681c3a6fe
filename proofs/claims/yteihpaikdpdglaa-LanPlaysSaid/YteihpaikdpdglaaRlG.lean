/-
  The reference's line: Older.
-/
import Derived.Test.YteihpaikdpdglaaRlF
namespace Go.Proofs.Yteihpaikdpdglaa
open Go.RowKit
set_option linter.unusedVariables false


theorem keepO_snoc {life : Int} {fl : List Fl} {j : Nat} (hj : j < fl.length) : keepF life ((fl.take (j + 1)).map Fl.older) = keepF life ((fl.take j).map Fl.older) ++ (if decide (wrap64 (fl[j].age + 1) ≤ life) then [fl[j].older] else []) := by
  unfold keepF
  rw [List.take_succ_eq_append_getElem hj, List.map_append, List.filter_append]
  congr 1
  simp only [List.map_cons, List.map_nil, List.filter_cons, List.filter_nil]
set_option maxRecDepth 100000 in
set_option maxHeartbeats 8000000 in
theorem rold {w : World} {F : Nat → Prop} {r st : Nat} {life lost most : Int} {qs : List FlA} (h : RG w F r st life lost most qs) (hlo : 0 ≤ lost ∧ lost ≤ 1000000000) (hmq : ∀ l ∈ qs, (l.length : Int) ≤ 10000) :
    Calls Try.prog 52 #[.pointer (some ⟨r, 0, none⟩)] w fun e w' => e = .returned (.int .i64 (oldP life (qs, lost)).1) ∧ ∃ F', RG w' F' r st life (oldP life (qs, lost)).2.2 most (oldP life (qs, lost)).2.1 ∧ Stp F F' w w' := by
  obtain ⟨lv0, vs0, h0⟩ := h
  have hst := h0.sts
  have hN2 : st * st ≤ 256 := Nat.mul_le_mul hst.2 hst.2
  obtain ⟨N, hN⟩ : ∃ N, N = st * st := ⟨_, rfl⟩
  rw [← hN] at hN2
  have hqN : qs.length = N := by rw [h0.qlen, hN]
  have hgr := fun i : Nat => gonesP_range life 10000 (qs.take i) (fun l hl => hmq l (List.mem_of_mem_take hl))
  have ini : Hid (∃ F', RG w F' r st life lost most ((qs.take 0).map (agedP life) ++ qs.drop 0) ∧ Stp F F' w w) := ⟨F, ⟨lv0, vs0, by simpa using h0⟩, Stp.refl _ _⟩
  have HQN := Lib.hid hqN
  have HGR := Lib.hid hgr
  have HN := Lib.hid hN
  obtain ⟨i0, hi0, hz0, hz1, hz2⟩ := info_parts infoRF
  have h00 : Hid (gonesP life (qs.take 0) = 0) := rfl
  clear h0 hqN hgr hN
  go_enter Try.func52, Try.ntmps52
  go_wp2_with fail
  go_loopg [3, 4] N (fun g s3 s4 wx => ∃ (i : Nat) (m : Int), i ≤ N ∧ s4 = .int .i64 i ∧ s3 = .int .i64 m ∧ g = N - i ∧ Hid (m = gonesP life (qs.take i)) ∧ Hid (∃ F', RG wx F' r st life lost most ((qs.take i).map (agedP life) ++ qs.drop i) ∧ Stp F F' w wx))
  case atStart => exact ⟨0, 0, Nat.zero_le _, rfl, rfl, rfl, h00.out.symm, ini⟩
  case round =>
    obtain ⟨i, m, hi, rfl, rfl, rfl, HM, HX⟩ := hrel
    obtain ⟨F1, ⟨lv1, vs1, hL⟩, hS⟩ := HX.out
    have hvN : vs1.length = N := by rw [hL.len, HN.out]
    have hNpos : 1 ≤ N := by rw [HN.out]; exact Nat.mul_le_mul hst.1 hst.1
    obtain ⟨g, cap, hlv, hgl, hcp1, hcp2⟩ := own_some hL.rows (by rw [hvN]; omega)
    rw [hvN] at hlv hcp1
    subst hlv
    have k4 := hL.cells.2.2.2.2
    by_cases hlt : i < N
    · have hdl : decide ((i : Int) < (N : Int)) = true := by simpa using hlt
      have hdl2 : decide (i < N) = true := by simpa using hlt
      have hiN : (i : Int) < (N : Int) := by omega
      have hiq : i < qs.length := by rw [HQN.out]; exact hlt
      have hkv : i < vs1.length := by rw [hvN]; exact hlt
      have hkq : i < ((qs.take i).map (agedP life) ++ qs.drop i).length := by rw [hL.qlen, ← HN.out]; exact hlt
      have hrow : ((qs.take i).map (agedP life) ++ qs.drop i)[i] = qs[i] := by
        have h9 := map_at_step (agedP life) qs i hiq []
        rw [getD_get hkq] at h9
        exact h9
      have y : wr.cell? ⟨g, i, none⟩ = some vs1[i] := by
        have := hL.rows.cell enV_len i 0 hkv (by decide)
        simpa [enV] using this
      obtain ⟨fl, h1, h2, h3⟩ := (hL.q i hkv hkq).ex
      rw [hrow] at h2
      obtain ⟨la, lc, hvk, hlc1, hlc2, hpos⟩ := own_shape h1
      rw [hvk] at y h1
      have hok : ∀ p ∈ qs[i], OkFr life p := hL.ok _ (by have := List.getElem_mem hkq; rw [hrow] at this; exact this)
      have hql := (hL.q i hkv hkq).len
      rw [hrow] at hql
      have hfl := forall_len h2
      have zg : wr.frozen? ⟨g, i, none⟩ = false := by
        have h9 := hL.rows
        unfold Own at h9
        rw [hvN] at h9
        exact own_free h9 i
      obtain ⟨n, hn⟩ : ∃ n, n = fl.length := ⟨_, rfl⟩
      rw [← hn] at y hlc1 hpos hfl
      have hn10 : n ≤ 10000 := by omega
      have HP := Lib.hid hpos
      have H1 := Lib.hid h1
      have HR := Lib.hid (And.intro h2 (And.intro h3 (And.intro hok hql)))
      have HNN := Lib.hid (And.intro hn hfl)
      have HL := Lib.hid hL
      have HS := Lib.hid hS
      have HKV := Lib.hid hkv
      have HGB : Hid (0 ≤ m ∧ m ≤ 10000 * 256) := by
        have h9 := HGR.out i
        rw [← HM.out] at h9
        rw [List.length_take] at h9
        exact ⟨h9.1, by omega⟩
      have ini2 : Hid (Below wr.heap.size wr wr ∧ Own enF 85 2 wr.heap.size wr (.slice none 0 0) (keepF life ((fl.take 0).map Fl.older))) := ⟨Below.refl _ _, Own.nil _ _ _ _ _⟩
      obtain ⟨W0, hW0⟩ : ∃ W0, W0 = wr := ⟨_, rfl⟩
      clear h1 h2 h3 hok hql hfl hn hvk hpos hrow hL hS HX hkv hlc2
      go_wp2_with fail
      go_loopg [3, 5, 6] n (fun gg s3 s5 s6 wx => ∃ (j : Nat) (mj : Int), j ≤ n ∧ s6 = .int .i64 j ∧ gg = n - j ∧ s3 = .int .i64 mj ∧ Hid (mj = m + ((j : Int) - ((keepF life ((fl.take j).map Fl.older)).length : Int))) ∧ Hid (Below W0.heap.size W0 wx ∧ Own enF 85 2 W0.heap.size wx s5 (keepF life ((fl.take j).map Fl.older))))
      case atStart => exact ⟨0, m, Nat.zero_le _, rfl, rfl, rfl, by unfold Hid; simp [keepF], by rw [hW0]; exact ini2⟩
      case round =>
        obtain ⟨j, mj, hj, rfl, rfl, rfl, HMJ, HY⟩ := hrel
        obtain ⟨la5, lc5, hlv5, _⟩ := own_shape HY.out.2
        have bel : Below W0.heap.size W0 wr := HY.out.1
        have z4 : wr.cell? ⟨r, 4, none⟩ = some (.slice (some ⟨g, 0, none⟩) N cap) := cellOn' (show W0.cell? ⟨r, 4, none⟩ = _ by rw [hW0]; exact k4) bel
        have zy : wr.cell? ⟨g, i, none⟩ = some (.slice la n lc) := cellOn' (show W0.cell? ⟨g, i, none⟩ = _ by rw [hW0]; exact y) bel
        have z2 : wr.cell? ⟨r, 2, none⟩ = some (.int .i64 life) := cellOn' (show W0.cell? ⟨r, 2, none⟩ = _ by rw [hW0]; exact HL.out.cells.2.2.1) bel
        by_cases hlj : j < n
        · have hdj : decide ((j : Int) < (n : Int)) = true := by simpa using hlj
          have hdjn : decide (j < n) = true := by simpa using hlj
          have hjn : (j : Int) < (n : Int) := by omega
          obtain ⟨q, rfl, hq⟩ := HP.out (by omega)
          have hjf : j < fl.length := by rw [← HNN.out.1]; exact hlj
          obtain ⟨p, hp⟩ : ∃ p, p = fl[j]'hjf := ⟨_, rfl⟩
          have H1w := H1.out.keep (w' := wr) (fun g' hg' => by rw [← hW0]; exact bel.block g' (by rw [hW0]; exact own_lt H1.out hg'))
          have x0 : wr.cell? ⟨q, j * 2, none⟩ = some (.slice p.a p.n p.c) := by rw [show j * 2 = j * 2 + 0 from rfl, H1w.cell enF_len j 0 hjf (by decide), ← hp]; rfl
          have x1 : wr.cell? ⟨q, j * 2 + 1, none⟩ = some (.int .i64 p.age) := by rw [H1w.cell enF_len j 1 hjf (by decide), ← hp]; rfl
          have HSN := Lib.hid (keepO_snoc (life := life) hjf)
          rw [← hp] at HSN
          obtain ⟨kl, hkl⟩ : ∃ kl, kl = keepF life ((fl.take j).map Fl.older) := ⟨_, rfl⟩
          have hkl2 : kl.length ≤ 100000 := by have h9 := keepF_le life ((fl.take j).map Fl.older); rw [← hkl] at h9; simp at h9; omega
          have hkl3 : kl.length ≤ j := by have h9 := keepF_le life ((fl.take j).map Fl.older); rw [← hkl] at h9; simp at h9; omega
          rw [← hkl] at hlv5 HY HSN HMJ
          subst hlv5
          obtain ⟨fa, fn, fc, fg⟩ := p
          obtain ⟨fg', hfg'⟩ : ∃ fg', fg' = wrap64 (fg + 1) := ⟨_, rfl⟩
          have hfr : wrap64 (fg + 1) = fg' := hfg'.symm
          dsimp only at x0 x1 HSN
          have HSN' : Hid (keepF life ((fl.take (j + 1)).map Fl.older) = kl ++ (if decide (fg' ≤ life) then [⟨fa, fn, fc, fg'⟩] else [])) := by unfold Hid; rw [HSN.out, ← hfr]
          obtain ⟨W9, hW9⟩ : ∃ W9, W9 = wr.alloc (.cells #[.slice fa fn fc, .int .i64 fg'] 85) := ⟨_, rfl⟩
          have hf9 : Below wr.heap.size wr W9 := by rw [hW9]; exact (Below.refl _ wr).alloc (Nat.le_refl _) _
          have hq9 : W9.heap[wr.heap.size]? = some (.cells #[.slice fa fn fc, .int .i64 fg'] 85 (0, 0)) := by rw [hW9]; exact heap_alloc_new' wr _
          have v0 : W9.cell? ⟨wr.heap.size, 0, none⟩ = some (.slice fa fn fc) := blk_cell hq9 0
          have v1 : W9.cell? ⟨wr.heap.size, 1, none⟩ = some (.int .i64 fg') := blk_cell hq9 1
          have v2 : W9.cell? ⟨r, 2, none⟩ = some (.int .i64 life) := cellOn' z2 hf9
          have B9 := Lib.hid (bel.trans (hf9.mono bel.size))
          have O9 := Lib.hid (HY.out.2.keep (w' := W9) (fun g' hg' => hf9.block g' (own_lt HY.out.2 hg')))
          have HHW := Lib.hid hW9
          have HFR := Lib.hid hfr
          have Hmj := HMJ.out
          have hmb : 0 ≤ mj ∧ mj ≤ 10000 * 256 + 10000 := by have := HGB.out; omega
          have hwm : wrap64 (mj + 1) = mj + 1 := IntWalk.wrap64_in _ (by omega)
          have HD := Lib.hid hp
          clear Hmj hp hkl hW9 hf9 hq9 H1w hfg' bel
          cases hx : decide (fg' ≤ life) with
          | true =>
            have HS2 : Hid (keepF life ((fl.take (j + 1)).map Fl.older) = kl ++ [⟨fa, fn, fc, fg'⟩]) := by unfold Hid; rw [HSN'.out, hx]; rfl
            go_upto_region 11 with fail
            rw [← HHW.out]
            go_quiet (fail)
            go_wp2_with (at_builtin; refine held ?_)
            refine unheld ?_
            have HQD : Hid (Below W9.heap.size W9 ((W9.drewN nq).alloc (.cells #[.slice fa fn fc, .int .i64 fg'] 85))) := (below_drewN (Below.refl _ W9) nq).alloc (below_drewN (Below.refl _ W9) nq).size _
            have OQ := Lib.hid (O9.out.keep (fun g' hg' => HQD.out.block g' (own_lt O9.out hg')))
            refine wpList_app (B := W0.heap.size) (v := .slice la5 kl.length lc5) (n := kl.length) (m := 1) rfl (.tmp 50) (.tmp 52) 61 rfl 85 i0 _ 2 _ Try.underlying61 hi0 hz0 hz1 hz2 rfl (by decide) (Nat.le_trans B9.out.size HQD.out.size) rfl rfl OQ.out (Rd.new rfl rfl) (enF_one ⟨fa, fn, fc, fg'⟩) (by unfold maxLen; omega) (by omega) ?_
            intro v5 w5 o5 f5 m5 n5 z5
            have fin : Hid (Below W0.heap.size W0 w5 ∧ Own enF 85 2 W0.heap.size w5 v5 (kl ++ [⟨fa, fn, fc, fg'⟩])) :=
              ⟨(B9.out.trans (HQD.out.mono B9.out.size)).trans (f5.below' (Nat.le_trans B9.out.size HQD.out.size) (fun b hb => (OQ.out.lt b hb).1)), Own.snoc (x := (⟨fa, fn, fc, fg'⟩ : Fl)) o5 rfl⟩
            clear o5 f5 m5 n5 z5
            go_wp2_with fail
            go_roundg (n - (j + 1))
            case measure => omega
            case rel => exact ⟨j + 1, mj, by omega, by go_num, rfl, rfl, by have h8 := HMJ.out; unfold Hid; rw [HS2.out, List.length_append]; simp; omega, by rw [HS2.out]; exact fin⟩
          | false =>
            have HS2 : Hid (keepF life ((fl.take (j + 1)).map Fl.older) = kl) := by unfold Hid; rw [HSN'.out, hx]; simp
            go_upto_region 11 with fail
            rw [← HHW.out]
            go_quiet (fail)
            go_wp2_with fail
            go_roundg (n - (j + 1))
            case measure => omega
            case rel => exact ⟨j + 1, mj + 1, by omega, by go_num, rfl, (by first | rfl | rw [hwm]), by have h8 := HMJ.out; unfold Hid; rw [HS2.out]; omega, by
              rw [HS2.out]
              exact ⟨B9.out.trans ((below_drewN (Below.refl _ W9) _).mono B9.out.size), O9.out.keep (fun g' hg' => (below_drewN (Below.refl _ W9) _).block g' (own_lt O9.out hg'))⟩⟩
        · obtain rfl : j = n := by omega
          have hdj : decide ((j : Int) < (j : Int)) = false := by simp
          rw [List.take_of_length_le (by rw [HNN.out.1]; exact Nat.le_refl _)] at HY HMJ hlv5
          obtain ⟨kl, hkl⟩ : ∃ kl, kl = keepF life (fl.map Fl.older) := ⟨_, rfl⟩
          rw [← hkl] at hlv5 HY HMJ
          subst hlv5
          have zzg : wr.frozen? ⟨g, i, none⟩ = false := (bel.frozen (by rw [hW0]; exact World.block_lt_of_cell? _ _ y)).trans (by rw [hW0]; exact zg)
          have hLW : RGi W0 F1 r st life lost most ((qs.take i).map (agedP life) ++ qs.drop i) (.slice (some ⟨g, 0, none⟩) N cap) vs1 := by rw [hW0]; exact HL.out
          have hage := keep_aged (show life ≤ 10000 from HL.out.lf.2) HR.out.1 HR.out.2.2.1
          rw [← hkl] at hage
          have hagl := forall_len hage
          have fin : Hid (∃ F', RG (wr.setCell ⟨g, i, none⟩ (.slice la5 kl.length lc5)) F' r st life lost most ((qs.take (i + 1)).map (agedP life) ++ qs.drop (i + 1)) ∧ Stp F1 F' W0 (wr.setCell ⟨g, i, none⟩ (.slice la5 kl.length lc5))) := by
            obtain ⟨F2, h5, h6⟩ := hLW.put (l' := agedP life qs[i]) HKV.out bel HY.out.2 (by
              have h9 : All2 (FlB wr) kl (agedP life qs[i]) := forall_imp hage (fun f p e => ⟨ownB_below e.1 (by rw [← hW0]; exact bel), e.2⟩)
              exact h9) (fun f hf g' hg' => by
              rw [hkl] at hf
              unfold keepF at hf
              obtain ⟨f0, hf0, rfl⟩ := List.mem_map.1 (List.mem_filter.1 hf).1
              exact .inl (HR.out.2.1 f0 hf0 g' hg')) (agedP_ok HR.out.2.2.1) (by have := agedP_le life qs[i]; have := HR.out.2.2.2; omega)
            rw [map_set_step (agedP life) qs i hiq] at h5
            exact ⟨F2, h5, h6⟩
          have HMN : Hid (mj = gonesP life (qs.take (i + 1))) := by
            unfold Hid
            rw [List.take_succ_eq_append_getElem hiq, gonesP_snoc, ← HM.out, HMJ.out, hagl]
            have := HNN.out.2
            omega
          have HS1 := Lib.hid (show Stp F F1 w W0 by rw [hW0]; exact HS.out)
          clear hage hagl hLW hkl
          go_wp2_with fail
          go_roundg (N - (i + 1))
          case measure => omega
          case rel =>
            obtain ⟨F2, h5, h6⟩ := fin.out
            exact ⟨i + 1, mj, by omega, by go_num, rfl, rfl, HMN, F2, h5, HS1.out.trans h6⟩
    · obtain rfl : i = N := by omega
      have hti : qs.take i = qs := List.take_of_length_le (by rw [HQN.out]; exact Nat.le_refl _)
      have htd : qs.drop i = [] := List.drop_of_length_le (by rw [HQN.out]; exact Nat.le_refl _)
      have hgb := HGR.out i
      rw [hti] at HM hgb hL
      rw [htd, List.append_nil] at hL
      have hgb2 : m ≤ 10000 * 256 ∧ 0 ≤ m := by
        rw [← HM.out] at hgb
        rw [HQN.out] at hgb
        omega
      obtain ⟨hl0, hl1⟩ := hlo
      have hwl : wrap64 (lost + m) = lost + m := IntWalk.wrap64_in _ (by omega)
      have kt2 : wr.cell? ⟨r, 3, none⟩ = some (.int .i64 lost) := blk_cell hL.blk 3
      have zt2 : wr.frozen? ⟨r, 3, none⟩ = false := blk_free hL.blk 3
      have hdl : decide ((i : Int) < (i : Int)) = false := by simp
      have HL := Lib.hid hL
      have HS := Lib.hid hS
      clear hL hS HX hgb
      have HO : Hid (oldP life (qs, lost) = (m, (qs.map (agedP life), lost + m))) := by unfold Hid oldP; dsimp only; rw [← HM.out]
      go_wp2_with fail
      go_ret
      rw [HO.out]
      exact ⟨rfl, F1, ⟨_, vs1, (HL.out.lose (lost + m)).1⟩, HS.out.trans (HL.out.lose (lost + m)).2⟩
end Go.Proofs.Yteihpaikdpdglaa
