/-
  Layer 12: TiesWalks: the walk.
-/
import Derived.Test.YtjjfminpaoooaaaL12M
import Derived.Test.YtjjfminpaoooaaaR12R
namespace Go.Proofs.Ytjjfminpaoooaaa
open Go.RowKit
set_option linter.unusedVariables false


/-- A key of a row that an argument holds, at any later world. -/
theorem key_at {w w' : World} {lb lo n lc : Nat} {ks : List Ky} (hl : Rd w 8 (.slice (some ⟨lb, lo, none⟩) n lc) ks.length (ks.flatMap encK)) (hb : Below w.heap.size w w') {i : Nat} (hi : i < ks.length) :
    ∀ j u, (encK ks[i])[j]? = some u → w'.cell? ⟨lb, lo + i * 8 + j, none⟩ = some u := by
  obtain ⟨b', o', c', hv, _, hx⟩ := Rd.some (Rd.fr hl (Fr.of_below hb no) (fun _ _ e => e)) (by omega) (by decide)
  simp at hv
  obtain ⟨⟨rfl, rfl⟩, _, _⟩ := hv
  intro j u hu
  have hj : j < 8 := by
    by_cases h : j < 8
    · exact h
    · rw [List.getElem?_eq_none (by rw [encK_len]; omega)] at hu; cases hu
  have := Rd.el encK_len hx hi hj hu
  rwa [← Nat.add_assoc] at this

set_option maxRecDepth 100000 in
set_option maxHeartbeats 8000000 in
theorem walksL (lv : Value) (ks : List Ky) (hok : ∀ k ∈ ks, k.ok) (stop chg : Int) (hs : 0 ≤ stop ∧ stop ≤ 255) (hc : 0 ≤ chg ∧ chg ≤ 255) (w0 : World) (hrd : Rd w0 8 lv ks.length (ks.flatMap encK)) :
    Calls Try.prog 7 #[lv, .int .u8 stop, .int .u8 chg] w0 fun e w' => e = .returned (.bool true) ∧ Below w0.heap.size w0 w' := by
  obtain ⟨la, lc, rfl⟩ := hrd.len
  have HOK := Lib.hid hok
  have HRD := Lib.hid hrd
  obtain ⟨n, hn, hn70⟩ : ∃ n : Nat, stop % 70 = (n : Int) ∧ n < 70 := ⟨(stop % 70).toNat, by omega, by omega⟩
  obtain ⟨ch, hch, hch3⟩ : ∃ ch : Int, chg % 3 = ch ∧ 0 ≤ ch ∧ ch ≤ 2 := ⟨chg % 3, rfl, by omega, by omega⟩
  obtain ⟨hs0, hs1⟩ := hs
  obtain ⟨hc0, hc1⟩ := hc
  clear hok hrd
  by_cases h60 : 60 < (ks.length : Int)
  · have hd : decide (60 < (ks.length : Int)) = true := by simpa using h60
    clear h60
    go_enter Try.func7, Try.ntmps7
    go_wp2_with fail
    refine (awake w0).mono ?_
    rintro e w1 ⟨rfl, b1⟩
    have B1 := Lib.hid b1
    clear b1
    go_wp2_with fail
    go_ret
    exact ⟨rfl, B1.out⟩
  · have hd : decide (60 < (ks.length : Int)) = false := by simpa using h60
    have hl60 : ks.length ≤ 60 := by omega
    clear h60
    go_enter Try.func7, Try.ntmps7
    go_wp2_with fail
    refine (awake w0).mono ?_
    rintro e w1 ⟨rfl, b1⟩
    have B1 := Lib.hid b1
    clear b1
    go_wp2_with fail
    refine (xnewI (w0 := w0) (kb := []) 200 200 (by decide) (by decide) B1.out (fun q hq => by cases hq)).mono ?_
    rintro e w2 ⟨t, rfl, h2⟩
    have H2 := Lib.hid h2
    clear h2
    go_wp2_with fail
    go_loopw [8] (fun v wr => ∃ i : Nat, i ≤ ks.length ∧ v = .int .i64 i ∧ Hid (∃ l, TbXI w0 wr t 200 l [])) (fun v _ => ks.length - (intOf v).toNat)
    case atStart => exact ⟨0, Nat.zero_le _, rfl, _, H2.out⟩
    case round =>
      obtain ⟨i, hi, rfl, HX⟩ := hrel
      by_cases hlt : i < ks.length
      · obtain ⟨l, hX⟩ := HX.out
        have HB := Lib.hid hX.bel
        obtain ⟨b', o', c', e1, g1, x1⟩ := HRD.out.some (by omega) (by decide)
        simp at e1
        obtain ⟨rfl, rfl⟩ := e1
        clear x1
        obtain ⟨k, hk⟩ : ∃ k, k = ks[i]'hlt := ⟨_, rfl⟩
        have y := key_at HRD.out HB.out hlt
        rw [← hk] at y
        have HK : Hid k.ok := HOK.out k (by rw [hk]; exact List.getElem_mem hlt)
        have y0 : wr.cell? ⟨b', o' + i * 8, none⟩ = some (.int .u8 k.f0) := y 0 _ rfl
        have y1 : wr.cell? ⟨b', o' + i * 8 + 1, none⟩ = some (.int .u8 k.f1) := y 1 _ rfl
        have y2 : wr.cell? ⟨b', o' + i * 8 + 2, none⟩ = some (.int .u8 k.f2) := y 2 _ rfl
        have y3 : wr.cell? ⟨b', o' + i * 8 + 3, none⟩ = some (.int .u8 k.f3) := y 3 _ rfl
        have y4 : wr.cell? ⟨b', o' + i * 8 + 4, none⟩ = some (.int .u8 k.f4) := y 4 _ rfl
        have y5 : wr.cell? ⟨b', o' + i * 8 + 5, none⟩ = some (.int .u8 k.f5) := y 5 _ rfl
        have y6 : wr.cell? ⟨b', o' + i * 8 + 6, none⟩ = some (.int .i64 k.near) := y 6 _ rfl
        have y7 : wr.cell? ⟨b', o' + i * 8 + 7, none⟩ = some (.int .i64 k.there) := y 7 _ rfl
        have HX2 := Lib.hid hX
        clear y hk hX
        go_wp2_with fail
        refine (kkey k wr).mono ?_
        rintro e w3 ⟨rfl, b3⟩
        have H3 := Lib.hid (HX2.out.below b3)
        clear b3
        go_wp2_with fail
        refine (xputI H3.out k HK.out (i : Int) rfl rfl).mono ?_
        rintro e w4 ⟨rfl, h4⟩
        have H4 := Lib.hid h4
        clear h4
        go_wp2_with fail
        go_roundw
        case rel => exact ⟨i + 1, by omega, by go_num, _, H4.out⟩
        case measure => simp [intOf]; omega
      · have hin : i = ks.length := by omega
        subst hin
        clear hlt
        obtain ⟨l, hX⟩ := HX.out
        obtain ⟨F, ⟨sv, hT, hFF⟩, hF0, hbl, _⟩ := hX.ex
        have HA := Lib.hid (show TbAI wr F t 200 l from ⟨sv, hT, hFF⟩)
        have HT := Lib.hid hT
        have HF0 := Lib.hid hF0
        have HBL := Lib.hid hbl
        clear hX hT hFF hF0 hbl
        go_wp2_with fail
        refine (walkT (-1) t 200 sv l wr HT.out).mono ?_
        rintro e w5 ⟨wv, rfl, ho, b5⟩
        have e5 : firstN (-1) l = l := rfl
        rw [e5] at ho
        obtain ⟨wa, wc, hwv, hwc1, hwc2, hwa⟩ := own_shape ho
        subst hwv
        have HWA := Lib.hid hwa
        clear hwa
        have HO := Lib.hid ho
        have B5 := Lib.hid b5
        clear ho b5 e5
        have hl200 : l.length ≤ 200 := by have := HT.out.le; omega
        go_wp2_with fail
        go_loopw [10] (fun v wx => ∃ i : Nat, 1 ≤ i ∧ i ≤ l.length + 1 ∧ v = .int .i64 i ∧ Hid (Below w5.heap.size w5 wx)) (fun v _ => l.length + 1 - (intOf v).toNat)
        case atStart => exact ⟨1, Nat.le_refl _, by omega, rfl, Below.refl _ _⟩
        case round =>
          obtain ⟨i, hi1, hi2, rfl, Hw⟩ := hrel
          by_cases hlt : i < l.length
          · obtain ⟨k, rfl⟩ : ∃ k, i = k + 1 := ⟨i - 1, by omega⟩
            obtain ⟨g, rfl, hg⟩ := HWA.out (by omega)
            have hk1 : k < l.length := by omega
            obtain ⟨p, hp⟩ : ∃ p, p = (l[k]'hk1).1 := ⟨_, rfl⟩
            obtain ⟨q, hq⟩ : ∃ q, q = (l[k + 1]'hlt).1 := ⟨_, rfl⟩
            have HS : Hid (decide (ordK p q < 0) = true) := decide_eq_true (by rw [hp, hq]; exact HT.out.srt k (k + 1) (by omega) hlt (by omega))
            have HP := Lib.hid hp.symm
            have HQ := Lib.hid hq.symm
            clear hp hq
            have pcell : ∀ (m : Nat) (v : Value), (kyCs p)[m]? = some v → m < 8 → wr.cell? ⟨g, k * 9 + m, none⟩ = some v := fun m v hv hm => by
              rw [HO.out.cell' enTI_len Hw.out k m hk1 (by omega)]
              rw [← HP.out] at hv
              rcases m with _ | _ | _ | _ | _ | _ | _ | _ | m <;> first | exact hv | omega
            have qcell : ∀ (m : Nat) (v : Value), (kyCs q)[m]? = some v → m < 8 → wr.cell? ⟨g, (k + 1) * 9 + m, none⟩ = some v := fun m v hv hm => by
              rw [HO.out.cell' enTI_len Hw.out (k + 1) m hlt (by omega)]
              rw [← HQ.out] at hv
              rcases m with _ | _ | _ | _ | _ | _ | _ | _ | m <;> first | exact hv | omega
            have p0 : ∀ u : After wr, u.w'.cell? ⟨g, k * 9, none⟩ = some (.int .u8 p.f0) := fun u => u.cell (pcell 0 _ rfl (by decide))
            have p1 : ∀ u : After wr, u.w'.cell? ⟨g, k * 9 + 1, none⟩ = some (.int .u8 p.f1) := fun u => u.cell (pcell 1 _ rfl (by decide))
            have p2 : ∀ u : After wr, u.w'.cell? ⟨g, k * 9 + 2, none⟩ = some (.int .u8 p.f2) := fun u => u.cell (pcell 2 _ rfl (by decide))
            have p3 : ∀ u : After wr, u.w'.cell? ⟨g, k * 9 + 3, none⟩ = some (.int .u8 p.f3) := fun u => u.cell (pcell 3 _ rfl (by decide))
            have p4 : ∀ u : After wr, u.w'.cell? ⟨g, k * 9 + 4, none⟩ = some (.int .u8 p.f4) := fun u => u.cell (pcell 4 _ rfl (by decide))
            have p5 : ∀ u : After wr, u.w'.cell? ⟨g, k * 9 + 5, none⟩ = some (.int .u8 p.f5) := fun u => u.cell (pcell 5 _ rfl (by decide))
            have p6 : ∀ u : After wr, u.w'.cell? ⟨g, k * 9 + 6, none⟩ = some (.int .i64 p.near) := fun u => u.cell (pcell 6 _ rfl (by decide))
            have p7 : ∀ u : After wr, u.w'.cell? ⟨g, k * 9 + 7, none⟩ = some (.int .i64 p.there) := fun u => u.cell (pcell 7 _ rfl (by decide))
            have q0 : ∀ u : After wr, u.w'.cell? ⟨g, (k + 1) * 9, none⟩ = some (.int .u8 q.f0) := fun u => u.cell (qcell 0 _ rfl (by decide))
            have q1 : ∀ u : After wr, u.w'.cell? ⟨g, (k + 1) * 9 + 1, none⟩ = some (.int .u8 q.f1) := fun u => u.cell (qcell 1 _ rfl (by decide))
            have q2 : ∀ u : After wr, u.w'.cell? ⟨g, (k + 1) * 9 + 2, none⟩ = some (.int .u8 q.f2) := fun u => u.cell (qcell 2 _ rfl (by decide))
            have q3 : ∀ u : After wr, u.w'.cell? ⟨g, (k + 1) * 9 + 3, none⟩ = some (.int .u8 q.f3) := fun u => u.cell (qcell 3 _ rfl (by decide))
            have q4 : ∀ u : After wr, u.w'.cell? ⟨g, (k + 1) * 9 + 4, none⟩ = some (.int .u8 q.f4) := fun u => u.cell (qcell 4 _ rfl (by decide))
            have q5 : ∀ u : After wr, u.w'.cell? ⟨g, (k + 1) * 9 + 5, none⟩ = some (.int .u8 q.f5) := fun u => u.cell (qcell 5 _ rfl (by decide))
            have q6 : ∀ u : After wr, u.w'.cell? ⟨g, (k + 1) * 9 + 6, none⟩ = some (.int .i64 q.near) := fun u => u.cell (qcell 6 _ rfl (by decide))
            have q7 : ∀ u : After wr, u.w'.cell? ⟨g, (k + 1) * 9 + 7, none⟩ = some (.int .i64 q.there) := fun u => u.cell (qcell 7 _ rfl (by decide))
            clear pcell qcell
            go_upto_region 14 with fail
            refine wp_region_after (by kernel_rfl) (by kernel_rfl) ?_
            go_big_quiet_step (fail)
            go_big_quiet_step (fail)
            go_big_quiet_step (fail)
            go_big_quiet_step (fail)
            go_big_quiet_step (fail)
            go_big_quiet_step (fail)
            go_big_quiet_step (fail)
            go_big_quiet_step (fail)
            go_big_quiet_step (fail)
            go_big_quiet_step (fail)
            go_big_quiet_step (fail)
            go_big_quiet_step ((go_at_call 11; exact Calls.after_of (kref p q true HS.out _)))
            go_big_quiet_step (fail)
            refine wpQuiet_nil ?_
            rintro w6 ⟨⟨_, hb6⟩, rfl⟩
            have HB6 := Lib.hid (Hw.out.trans (hb6.mono Hw.out.size))
            clear hb6
            go_wp2_with fail
            go_roundw
            case rel => exact ⟨k + 1 + 1, by omega, by omega, by go_num, HB6.out⟩
            case measure => simp [intOf]; omega
          · have HAr := Lib.hid ((HA.out.below B5.out).below Hw.out)
            have HWs := Lib.hid (show Own enTI 48 9 _ wr (.slice wa l.length wc) l from HO.out.keep (fun g hg => Hw.out.block g (own_lt HO.out hg)))
            have HWn := Lib.hid (show ∀ g, (Value.slice wa l.length wc).ownBlock = some g → ¬ F g from fun g hg e => by have := HA.out.lt g e; have := (HO.out.lt g hg).1; omega)
            have HBr := Lib.hid (show Below w0.heap.size w0 wr from HBL.out.trans ((B5.out.trans (Hw.out.mono B5.out.size)).mono HBL.out.size))
            have hd2 : decide ((i : Int) < (l.length : Int)) = false := by simpa using hlt
            go_wp2_with fail
            refine (changing (n : Int) ch hch3 (by omega) t 200 l F wr HAr.out).mono ?_
            rintro e w7 ⟨ov, rfl, o7, f7⟩
            rw [Int.toNat_natCast] at o7
            obtain ⟨zt, hzt⟩ : ∃ zt, zt = l.take n := ⟨_, rfl⟩
            rw [← hzt] at o7
            have Hzt := Lib.hid hzt
            obtain ⟨oa, oc, hov, _⟩ := own_shape o7
            subst hov
            have O7 := Lib.hid o7
            have HB7 := Lib.hid (HBr.out.trans (f7.below' HBr.out.size (fun k hk => HF0.out k hk)))
            have HW7 := Lib.hid (show Rd w7 9 (.slice wa l.length wc) l.length (l.flatMap enTI) from (HWs.out.fr f7 (fun g hg e => HWn.out g hg e)).rd)
            clear o7 f7 hzt
            have hz200 : zt.length ≤ 1000000 := by rw [Hzt.out, List.length_take]; omega
            by_cases hm : l.length ≤ n
            · have hz : zt = l := by rw [Hzt.out]; exact List.take_of_length_le hm
              subst hz
              have hmin : min (zt.length : Int) (n : Int) = (zt.length : Int) := by omega
              clear hm
              go_wp2_with fail
              refine (sameL _ _ zt zt w7 O7.out.rd HW7.out hz200).mono ?_
              rintro x w8 ⟨rfl, b8⟩
              rw [sameZ_self]
              have B8 := Lib.hid b8
              clear b8
              go_wp2_with fail
              go_ret
              exact ⟨rfl, HB7.out.trans (B8.out.mono HB7.out.size)⟩
            · have hmin : min (l.length : Int) (n : Int) = (n : Int) := by omega
              have hzl : zt.length = n := by rw [Hzt.out, List.length_take]; omega
              have Hrd : Hid (RdT w7 (.slice wa n wc) zt) := by
                obtain ⟨h1, a, c', hv, h2, h3⟩ := HW7.out
                simp at hv
                obtain ⟨rfl, rfl⟩ := hv
                refine ⟨Own.rd O7.out |>.1, wa, wc, by rw [hzl], fun e => ?_, fun ad e j u hu => h3 ad e j u ?_⟩
                · have := (h2 e).1; omega
                · rw [Hzt.out] at hu
                  have e1 := flat_take enTI 9 enTI_len l n
                  rw [← e1, List.getElem?_take] at hu
                  split at hu
                  · exact hu
                  · cases hu
              have hnl : (n : Int) ≤ (l.length : Int) := by omega
              have hnc : (n : Int) ≤ (wc : Int) := by omega
              have Hzl := Lib.hid hzl
              clear hzl hm
              go_wp2_with fail
              refine (sameL _ _ zt zt w7 O7.out.rd Hrd.out hz200).mono ?_
              rintro x w8 ⟨rfl, b8⟩
              rw [sameZ_self]
              have B8 := Lib.hid b8
              clear b8
              go_wp2_with fail
              go_ret
              exact ⟨rfl, HB7.out.trans (B8.out.mono HB7.out.size)⟩
end Go.Proofs.Ytjjfminpaoooaaa
