/-
  The reference's line: Put. (Printed by gRlH.py.)
-/
import Derived.Test.YteihpaikdpdglaaRlG
namespace Go.Proofs.Yteihpaikdpdglaa
open Go.RowKit
set_option linter.unusedVariables false


abbrev cA (x : List Int) (i : Nat) : Array Value := #[.int .u8 (if 0 < i then x.getD 0 0 else 0), .int .u8 (if 1 < i then x.getD 1 0 else 0), .int .u8 (if 2 < i then x.getD 2 0 else 0), .int .u8 (if 3 < i then x.getD 3 0 else 0), .int .u8 (if 4 < i then x.getD 4 0 else 0), .int .u8 (if 5 < i then x.getD 5 0 else 0)]
theorem cA_set (x : List Int) : ∀ i, i < 6 → (cA x i).setIfInBounds i (.int .u8 (x.getD i 0)) = cA x (i + 1)
  | 0, _ => rfl
  | 1, _ => rfl
  | 2, _ => rfl
  | 3, _ => rfl
  | 4, _ => rfl
  | 5, _ => rfl
  | i + 6, h => by omega

set_option maxRecDepth 100000 in
set_option maxHeartbeats 8000000 in
theorem rput {w : World} {F : Nat → Prop} {r st : Nat} {life lost most : Int} {qs : List FlA} (h : RG w F r st life lost most qs) (v : Value) (x : List Int) (hv : RdB w v x) (hvF : 6 ≤ x.length → ∀ a n c, v = .slice (some a) n c → ¬ F a.block) (hx : x.length ≤ 1000 ∧ ∀ y ∈ x, 0 ≤ y ∧ y ≤ 255) (hlo : 0 ≤ lost ∧ lost ≤ 900000000) (s : Int) :
    Calls Try.prog 47 #[.pointer (some ⟨r, 0, none⟩), .int .i64 s, v] w fun e w' => e = .returned (.int .i64 (putP st most s x (qs, lost)).1) ∧ ∃ F', RG w' F' r st life (putP st most s x (qs, lost)).2.2 most (putP st most s x (qs, lost)).2.1 ∧ Stp F F' w w' := by
  obtain ⟨va, vc, rfl⟩ := hv.len
  obtain ⟨lv, vs, h⟩ := h
  have hst := h.sts
  have H := Lib.hid h
  have HV := Lib.hid hv
  have HVF := Lib.hid hvF
  have HBY := Lib.hid hx.2
  have hb := hx.1
  have k0 := h.cells.1
  clear h hv hvF hx
  unfold putP
  by_cases h6 : 6 ≤ x.length
  · obtain ⟨bb, o, c, hvv, hbl, hcell⟩ := Rd.some HV.out (by omega) (by decide)
    simp only [Value.slice.injEq, true_and] at hvv
    obtain ⟨rfl, rfl⟩ := hvv
    have HFO : Hid (¬ F bb) := HVF.out h6 _ _ _ rfl
    have at' : Hid (∀ j (hj : j < x.length), w.cell? ⟨bb, o + j, none⟩ = some (.int .u8 (x.getD j 0))) := fun j hj => by
      rw [RdB.at HV.out hj, List.getD_eq_getElem?_getD, List.getElem?_eq_getElem hj]
      rfl
    have hd6 : decide ((x.length : Int) < 6) = false := decide_eq_false (by omega)
    have hd6n : decide (x.length < 6) = false := decide_eq_false (by omega)
    clear hcell
    by_cases hs : 0 ≤ s ∧ s < (st : Int)
    · have hd0 : decide (s < 0) = false := decide_eq_false (by omega)
      have hd1 : decide ((st : Int) ≤ s) = false := decide_eq_false (by omega)
      rw [if_pos ⟨hs.1, hs.2, h6⟩]
      have ha5 : 0 ≤ (adOf x).f5 ∧ (adOf x).f5 ≤ 255 := by
        show 0 ≤ x.getD 5 0 ∧ x.getD 5 0 ≤ 255
        rw [List.getD_eq_getElem?_getD, List.getElem?_eq_getElem (show 5 < x.length by omega)]
        exact HBY.out _ (List.getElem_mem _)
      obtain ⟨tg, htg⟩ : ∃ tg, tg = numA (adOf x) := ⟨_, rfl⟩
      have HN := Lib.hid (rnum (adOf x) ha5)
      rw [← htg] at HN ⊢
      have HL : Hid (x.length ≤ 1000) := hb
      have H6 : Hid (6 ≤ x.length) := h6
      have HS0 := Lib.hid hs
      obtain ⟨n, hn⟩ : ∃ n, n = x.length := ⟨_, rfl⟩
      have hn6 : 6 ≤ n := by omega
      have HNL := Lib.hid hn
      rw [← hn] at hd6 hd6n HV ⊢
      obtain ⟨R, hR⟩ : ∃ R, R = (if tg = s then ((0 : Int), (qs, lost)) else putsP st most s x tg (qs, lost) st) := ⟨_, rfl⟩
      rw [← hR]
      have HRR := Lib.hid hR
      have hb1 : Below w.heap.size w (w.alloc (.cells (cA x 0) 43)) := (Below.refl _ w).alloc (Nat.le_refl _) _
      have ini : Hid (Below w.heap.size w (w.alloc (.cells (cA x 0) 43)) ∧ (w.alloc (.cells (cA x 0) 43)).heap[w.heap.size]? = some (.cells (cA x 0) 43 (0, 0))) := ⟨hb1, heap_alloc_new' w _⟩
      clear htg ha5 hs hn h6 hb hR hb1
      go_enter Try.func47, Try.ntmps47
      go_wp2_with fail
      obtain ⟨ab, hab⟩ : ∃ ab, ab = w.heap.size := ⟨_, rfl⟩
      have ini' : Hid (Below w.heap.size w (w.alloc (.cells #[.int .u8 0, .int .u8 0, .int .u8 0, .int .u8 0, .int .u8 0, .int .u8 0] 43)) ∧ (w.alloc (.cells #[.int .u8 0, .int .u8 0, .int .u8 0, .int .u8 0, .int .u8 0, .int .u8 0] 43)).heap[ab]? = some (.cells (cA x 0) 43 (0, 0))) := by rw [hab]; exact ini.out
      clear ini
      rw [← hab]
      have HAB := Lib.hid hab
      clear hab
      go_loopg [8] 6 (fun g s8 wx => ∃ i : Nat, i ≤ 6 ∧ s8 = .int .i64 i ∧ g = 6 - i ∧ Hid (Below w.heap.size w wx ∧ wx.heap[ab]? = some (.cells (cA x i) 43 (0, 0))))
      case atStart => exact ⟨0, by decide, rfl, rfl, ini'.out⟩
      case round =>
        obtain ⟨i, hi, rfl, rfl, HX⟩ := hrel
        by_cases hlt : i < 6
        · have hdl : decide ((i : Int) < 6) = true := decide_eq_true (by omega)
          have hdn : decide (i < 6) = true := decide_eq_true hlt
          have hi6 : (i : Int) < 6 := by omega
          have hin : (i : Int) < (n : Int) := by omega
          have yb : wr.cell? ⟨bb, o + i, none⟩ = some (.int .u8 (x.getD i 0)) := cellOn' (at'.out i (by rw [← HNL.out]; omega)) HX.out.1
          obtain ⟨old, hold⟩ : ∃ old, wr.cell? ⟨ab, i, none⟩ = some old := by
            have h9 := blk_cell HX.out.2 i
            rw [h9]
            have : i < (cA x i).size := by simpa using hlt
            exact ⟨_, Array.getElem?_eq_getElem this⟩
          have hz : wr.frozen? ⟨ab, i, none⟩ = false := blk_free HX.out.2 i
          obtain ⟨yv, hyv⟩ : ∃ yv, yv = x.getD i 0 := ⟨_, rfl⟩
          rw [← hyv] at yb
          have HY : Hid (Below w.heap.size w (wr.setCell ⟨ab, i, none⟩ (.int .u8 yv)) ∧ (wr.setCell ⟨ab, i, none⟩ (.int .u8 yv)).heap[ab]? = some (.cells (cA x (i + 1)) 43 (0, 0))) := by
            refine ⟨HX.out.1.trans (((Fr.refl (fun b => b = ab) wr).setCell (p := ⟨ab, i, none⟩) (fun _ => rfl) _).below' HX.out.1.size (fun k hk => by rw [show k = ab from hk, HAB.out]; exact Nat.le_refl _)), ?_⟩
            have h9 := set_heap_same HX.out.2 (i := i) (.int .u8 yv)
            rw [hyv, cA_set x i hlt] at h9
            rw [hyv]
            exact h9
          clear hyv
          go_wp2_with fail
          go_roundg (6 - (i + 1))
          case measure => omega
          case rel => exact ⟨i + 1, by omega, by go_num, rfl, HY⟩
        obtain rfl : i = 6 := by omega
        have hdl : decide ((6 : Int) < 6) = false := by decide
        have p0 : wr.cell? ⟨ab, 0, none⟩ = some (.int .u8 (adOf x).f0) := blk_cell HX.out.2 0
        have p1 : wr.cell? ⟨ab, 1, none⟩ = some (.int .u8 (adOf x).f1) := blk_cell HX.out.2 1
        have p2 : wr.cell? ⟨ab, 2, none⟩ = some (.int .u8 (adOf x).f2) := blk_cell HX.out.2 2
        have p3 : wr.cell? ⟨ab, 3, none⟩ = some (.int .u8 (adOf x).f3) := blk_cell HX.out.2 3
        have p4 : wr.cell? ⟨ab, 4, none⟩ = some (.int .u8 (adOf x).f4) := blk_cell HX.out.2 4
        have p5 : wr.cell? ⟨ab, 5, none⟩ = some (.int .u8 (adOf x).f5) := blk_cell HX.out.2 5
        have HBW := Lib.hid HX.out.1
        clear HX hlt
        go_wp2_with fail
        refine (HN.out _).mono ?_
        rintro e w1 ⟨rfl, b1⟩
        have B1 := Lib.hid (HBW.out.trans (b1.mono HBW.out.size))
        clear HN b1 p0 p1 p2 p3 p4 p5
        by_cases hts : tg = s
        · have hte : (tg == s) = true := by simpa using hts
          have HTS := Lib.hid hts
          clear hts
          go_wp2_with fail
          go_ret
          have hR := HRR.out
          rw [if_pos HTS.out] at hR
          rw [hR]
          exact ⟨rfl, F, ⟨lv, vs, H.out.below B1.out⟩, Stp.of_below _ B1.out⟩
        have hRf := HRR.out
        rw [if_neg hts] at hRf
        have hte : (tg == s) = false := by simpa using hts
        have HTS := Lib.hid hts
        clear hts
        obtain ⟨f, hf⟩ : ∃ f, f = putsP st most s x tg (qs, lost) := ⟨_, rfl⟩
        have hstep : ∀ i, f (i + 1) = if (i : Int) ≠ s ∧ ((i : Int) = tg ∨ ¬ (0 ≤ tg ∧ tg < (st : Int))) then ((f i).1 + (if (sendP st most s i x (f i).2).1 = true then 1 else 0), (sendP st most s i x (f i).2).2) else f i := fun i => by rw [hf]; rfl
        have h0 : f 0 = (0, (qs, lost)) := by rw [hf]; rfl
        rw [← hf] at hRf
        have HRF := Lib.hid hRf
        have HST := Lib.hid hstep
        have k1 : w1.cell? ⟨r, 0, none⟩ = some (.int .i64 st) := blk_cell (H.out.below B1.out).blk 0
        have ini : Hid (∃ F', RG w1 F' r st life (f 0).2.2 most (f 0).2.1 ∧ Stp F F' w w1 ∧ RdB w1 (.slice (some ⟨bb, o, none⟩) n vc) x) := by
          unfold Hid
          rw [h0]
          exact ⟨F, ⟨lv, vs, H.out.below B1.out⟩, Stp.of_below _ B1.out, HV.out.fr B1.out⟩
        have ini2 : Hid ((f 0).1 = 0 ∧ (f 0).2.2 = lost) := by unfold Hid; rw [h0]; exact ⟨rfl, rfl⟩
        clear hf hstep h0 hRf
        go_wp2_with fail
        go_loopg [10, 11] st (fun g s8 s31 wx => ∃ i : Nat, i ≤ st ∧ s31 = .int .i64 i ∧ s8 = .int .i64 (f i).1 ∧ g = st - i ∧ Hid (0 ≤ (f i).1 ∧ (f i).1 ≤ (i : Int) ∧ lost ≤ (f i).2.2 ∧ (f i).2.2 ≤ lost + (i : Int)) ∧ Hid (∃ F', RG wx F' r st life (f i).2.2 most (f i).2.1 ∧ Stp F F' w wx ∧ RdB wx (.slice (some ⟨bb, o, none⟩) n vc) x))
        case atStart => exact ⟨0, Nat.zero_le _, rfl, by rw [ini2.out.1], rfl, by unfold Hid; rw [ini2.out.1, ini2.out.2]; omega, ini⟩
        case round =>
          obtain ⟨i, hi, rfl, rfl, rfl, HN1, HX⟩ := hrel
          by_cases hlt : i < st
          · have hdl : decide ((i : Int) < (st : Int)) = true := by simpa using hlt
            have hdl2 : decide (i < st) = true := by simpa using hlt
            obtain ⟨F1, ⟨lv1, vs1, hL⟩, hS, hR⟩ := HX.out
            have kk0 := hL.cells.1
            obtain ⟨n1, hn1⟩ : ∃ n1, n1 = (f i).1 := ⟨_, rfl⟩
            obtain ⟨q1, hq1⟩ : ∃ q1, q1 = (f i).2.1 := ⟨_, rfl⟩
            obtain ⟨l1, hl1⟩ : ∃ l1, l1 = (f i).2.2 := ⟨_, rfl⟩
            have HSI := Lib.hid (HST.out i)
            have hfi : (f i).2 = (q1, l1) := by rw [hq1, hl1]
            rw [hfi, ← hn1] at HSI
            rw [← hq1, ← hl1] at hL
            rw [← hn1, ← hl1] at HN1
            rw [← hn1]
            have HL1 := Lib.hid hL
            have HS1 := Lib.hid hS
            have HR1 := Lib.hid hR
            have HE := Lib.hid (And.intro hn1 hfi)
            have HP := Lib.hid (sendP_lost st most s i x (q1, l1))
            obtain ⟨⟨sb, sS⟩, hsp⟩ : ∃ r, r = sendP st most s i x (q1, l1) := ⟨_, rfl⟩
            have HG := Lib.hid (rsend ⟨lv1, vs1, hL⟩ _ x hR ⟨HL.out, HBY.out⟩ (by have := HN1.out; omega) s i)
            rw [← hsp] at HP HSI HG
            clear hL hS hR HX hn1 hq1 hl1 hfi hsp
            by_cases his : (i : Int) = s
            · have hne : ((i : Int) == s) = true := by simpa using his
              have FIN : Hid ((f (i + 1)).1 = n1 ∧ (0 ≤ (f (i + 1)).1 ∧ (f (i + 1)).1 ≤ ((i + 1 : Nat) : Int) ∧ lost ≤ (f (i + 1)).2.2 ∧ (f (i + 1)).2.2 ≤ lost + ((i + 1 : Nat) : Int)) ∧ ∃ F', RG wr F' r st life (f (i + 1)).2.2 most (f (i + 1)).2.1 ∧ Stp F F' w wr ∧ RdB wr (.slice (some ⟨bb, o, none⟩) n vc) x) := by
                unfold Hid
                have h1 := HSI.out
                rw [if_neg (fun e => e.1 his)] at h1
                have h2 : f (i + 1) = (n1, (q1, l1)) := by rw [h1]; exact Prod.ext HE.out.1.symm HE.out.2
                rw [h2]
                have h3 := HN1.out
                exact ⟨rfl, by dsimp only; omega, F1, ⟨lv1, vs1, HL1.out⟩, HS1.out, HR1.out⟩
              have HIS := Lib.hid his
              clear his
              go_wp2_with fail
              go_roundg (st - (i + 1))
              case measure => omega
              case rel => exact ⟨i + 1, by omega, by have := HIS.out; rw [show s + 1 = ((i + 1 : Nat) : Int) by omega], by rw [FIN.out.1], rfl, FIN.out.2.1, FIN.out.2.2⟩
            have hne : ((i : Int) == s) = false := by simpa using his
            have hnb : ((i : Int) != s) = true := by simpa using his
            by_cases hneg : tg < 0
            · have hng : decide (tg < 0) = true := decide_eq_true hneg
              have HC := Lib.hid (And.intro his (Or.inr (by omega) : (i : Int) = tg ∨ ¬ (0 ≤ tg ∧ tg < (st : Int))))
              go_wp2_with fail
              refine HG.out.mono ?_
              rintro e w4 ⟨rfl, F4, h4, s4⟩
              have FIN : Hid ((f (i + 1)).1 = n1 + (if sb = true then 1 else 0) ∧ (0 ≤ (f (i + 1)).1 ∧ (f (i + 1)).1 ≤ ((i + 1 : Nat) : Int) ∧ lost ≤ (f (i + 1)).2.2 ∧ (f (i + 1)).2.2 ≤ lost + ((i + 1 : Nat) : Int)) ∧ ∃ F', RG w4 F' r st life (f (i + 1)).2.2 most (f (i + 1)).2.1 ∧ Stp F F' w w4 ∧ RdB w4 (.slice (some ⟨bb, o, none⟩) n vc) x) := by
                unfold Hid
                have h1 := HSI.out
                rw [if_pos HC.out] at h1
                rw [h1]
                have h3 := HN1.out
                have h5 := HP.out
                dsimp only at h5 ⊢
                have h6 : (0 : Int) ≤ (if sb = true then 1 else 0) ∧ (if sb = true then (1 : Int) else 0) ≤ 1 := by split <;> omega
                exact ⟨rfl, by omega, F4, h4, HS1.out.trans s4, rd_stp s4 HR1.out (stp_not HS1.out hbl HFO.out)⟩
              clear h4 s4
              cases sb with
              | true =>
                have hwn : wrap64 (n1 + 1) = n1 + 1 := IntWalk.wrap64_in _ (by have := HN1.out; omega)
                go_wp2_with fail
                go_roundg (st - (i + 1))
                case measure => omega
                case rel => exact ⟨i + 1, by omega, by go_num, by rw [FIN.out.1]; rw [hwn]; rfl, rfl, FIN.out.2.1, FIN.out.2.2⟩
              | false =>
                go_wp2_with fail
                go_roundg (st - (i + 1))
                case measure => omega
                case rel => exact ⟨i + 1, by omega, by go_num, by rw [FIN.out.1]; simp, rfl, FIN.out.2.1, FIN.out.2.2⟩
            have hng : decide (tg < 0) = false := decide_eq_false hneg
            by_cases hge : (st : Int) ≤ tg
            · have hgd : decide ((st : Int) ≤ tg) = true := decide_eq_true hge
              have HC := Lib.hid (And.intro his (Or.inr (by omega) : (i : Int) = tg ∨ ¬ (0 ≤ tg ∧ tg < (st : Int))))
              go_wp2_with fail
              refine HG.out.mono ?_
              rintro e w4 ⟨rfl, F4, h4, s4⟩
              have FIN : Hid ((f (i + 1)).1 = n1 + (if sb = true then 1 else 0) ∧ (0 ≤ (f (i + 1)).1 ∧ (f (i + 1)).1 ≤ ((i + 1 : Nat) : Int) ∧ lost ≤ (f (i + 1)).2.2 ∧ (f (i + 1)).2.2 ≤ lost + ((i + 1 : Nat) : Int)) ∧ ∃ F', RG w4 F' r st life (f (i + 1)).2.2 most (f (i + 1)).2.1 ∧ Stp F F' w w4 ∧ RdB w4 (.slice (some ⟨bb, o, none⟩) n vc) x) := by
                unfold Hid
                have h1 := HSI.out
                rw [if_pos HC.out] at h1
                rw [h1]
                have h3 := HN1.out
                have h5 := HP.out
                dsimp only at h5 ⊢
                have h6 : (0 : Int) ≤ (if sb = true then 1 else 0) ∧ (if sb = true then (1 : Int) else 0) ≤ 1 := by split <;> omega
                exact ⟨rfl, by omega, F4, h4, HS1.out.trans s4, rd_stp s4 HR1.out (stp_not HS1.out hbl HFO.out)⟩
              clear h4 s4
              cases sb with
              | true =>
                have hwn : wrap64 (n1 + 1) = n1 + 1 := IntWalk.wrap64_in _ (by have := HN1.out; omega)
                go_wp2_with fail
                go_roundg (st - (i + 1))
                case measure => omega
                case rel => exact ⟨i + 1, by omega, by go_num, by rw [FIN.out.1]; rw [hwn]; rfl, rfl, FIN.out.2.1, FIN.out.2.2⟩
              | false =>
                go_wp2_with fail
                go_roundg (st - (i + 1))
                case measure => omega
                case rel => exact ⟨i + 1, by omega, by go_num, by rw [FIN.out.1]; simp, rfl, FIN.out.2.1, FIN.out.2.2⟩
            have hgd : decide ((st : Int) ≤ tg) = false := decide_eq_false hge
            by_cases hit : tg = (i : Int)
            · have hne2 : (tg == (i : Int)) = true := by simpa using hit
              have HC := Lib.hid (And.intro his (Or.inl hit.symm : (i : Int) = tg ∨ ¬ (0 ≤ tg ∧ tg < (st : Int))))
              have HIT := Lib.hid hit
              clear hit
              go_wp2_with fail
              refine HG.out.mono ?_
              rintro e w4 ⟨rfl, F4, h4, s4⟩
              have FIN : Hid ((f (i + 1)).1 = n1 + (if sb = true then 1 else 0) ∧ (0 ≤ (f (i + 1)).1 ∧ (f (i + 1)).1 ≤ ((i + 1 : Nat) : Int) ∧ lost ≤ (f (i + 1)).2.2 ∧ (f (i + 1)).2.2 ≤ lost + ((i + 1 : Nat) : Int)) ∧ ∃ F', RG w4 F' r st life (f (i + 1)).2.2 most (f (i + 1)).2.1 ∧ Stp F F' w w4 ∧ RdB w4 (.slice (some ⟨bb, o, none⟩) n vc) x) := by
                unfold Hid
                have h1 := HSI.out
                rw [if_pos HC.out] at h1
                rw [h1]
                have h3 := HN1.out
                have h5 := HP.out
                dsimp only at h5 ⊢
                have h6 : (0 : Int) ≤ (if sb = true then 1 else 0) ∧ (if sb = true then (1 : Int) else 0) ≤ 1 := by split <;> omega
                exact ⟨rfl, by omega, F4, h4, HS1.out.trans s4, rd_stp s4 HR1.out (stp_not HS1.out hbl HFO.out)⟩
              clear h4 s4
              cases sb with
              | true =>
                have hwn : wrap64 (n1 + 1) = n1 + 1 := IntWalk.wrap64_in _ (by have := HN1.out; omega)
                go_wp2_with fail
                go_roundg (st - (i + 1))
                case measure => omega
                case rel => exact ⟨i + 1, by omega, by go_num, by rw [FIN.out.1]; rw [hwn]; rfl, rfl, FIN.out.2.1, FIN.out.2.2⟩
              | false =>
                go_wp2_with fail
                go_roundg (st - (i + 1))
                case measure => omega
                case rel => exact ⟨i + 1, by omega, by go_num, by rw [FIN.out.1]; simp, rfl, FIN.out.2.1, FIN.out.2.2⟩
            have hne2 : (tg == (i : Int)) = false := by simpa using hit
            have FIN : Hid ((f (i + 1)).1 = n1 ∧ (0 ≤ (f (i + 1)).1 ∧ (f (i + 1)).1 ≤ ((i + 1 : Nat) : Int) ∧ lost ≤ (f (i + 1)).2.2 ∧ (f (i + 1)).2.2 ≤ lost + ((i + 1 : Nat) : Int)) ∧ ∃ F', RG wr F' r st life (f (i + 1)).2.2 most (f (i + 1)).2.1 ∧ Stp F F' w wr ∧ RdB wr (.slice (some ⟨bb, o, none⟩) n vc) x) := by
              unfold Hid
              have h1 := HSI.out
              rw [if_neg (fun e => e.2.elim (fun e => hit e.symm) (fun e => e ⟨by omega, by omega⟩))] at h1
              have h2 : f (i + 1) = (n1, (q1, l1)) := by rw [h1]; exact Prod.ext HE.out.1.symm HE.out.2
              rw [h2]
              have h3 := HN1.out
              exact ⟨rfl, by dsimp only; omega, F1, ⟨lv1, vs1, HL1.out⟩, HS1.out, HR1.out⟩
            go_wp2_with fail
            go_roundg (st - (i + 1))
            case measure => omega
            case rel => exact ⟨i + 1, by omega, by go_num, by rw [FIN.out.1], rfl, FIN.out.2.1, FIN.out.2.2⟩
          · obtain rfl : i = st := by omega
            have kk0 : wr.cell? ⟨r, 0, none⟩ = some (.int .i64 i) := by
              obtain ⟨F1, ⟨lv1, vs1, hL⟩, hS, hR⟩ := HX.out
              exact hL.cells.1
            have hdl : decide ((i : Int) < (i : Int)) = false := by simp
            have HR2 := Lib.hid (show R = f i by rw [HRF.out])
            obtain ⟨n1, hn1⟩ : ∃ n1, n1 = (f i).1 := ⟨_, rfl⟩
            rw [← hn1]
            have HN2 := Lib.hid hn1
            clear hn1
            go_wp2_with fail
            go_ret
            rw [HR2.out, ← HN2.out]
            obtain ⟨F1, h1, h2, h3⟩ := HX.out
            exact ⟨rfl, F1, h1, h2⟩
    · rw [if_neg (fun e => hs ⟨e.1, e.2.1⟩)]
      obtain ⟨n, hn⟩ : ∃ n, n = x.length := ⟨_, rfl⟩
      rw [← hn] at hd6 hd6n ⊢
      clear hn hb h6
      by_cases hs0 : s < 0
      · have hd0 : decide (s < 0) = true := decide_eq_true hs0
        clear hs hs0
        go_enter Try.func47, Try.ntmps47
        go_wp2_with fail
        go_ret
        exact ⟨rfl, F, ⟨lv, vs, H.out⟩, Stp.refl _ _⟩
      · have hd0 : decide (s < 0) = false := decide_eq_false hs0
        have hd1 : decide ((st : Int) ≤ s) = true := decide_eq_true (by omega)
        clear hs hs0
        go_enter Try.func47, Try.ntmps47
        go_wp2_with fail
        go_ret
        exact ⟨rfl, F, ⟨lv, vs, H.out⟩, Stp.refl _ _⟩
  · rw [if_neg (fun e => h6 e.2.2)]
    have hd6 : decide ((x.length : Int) < 6) = true := decide_eq_true (by omega)
    have hd6n : decide (x.length < 6) = true := decide_eq_true (by omega)
    obtain ⟨n, hn⟩ : ∃ n, n = x.length := ⟨_, rfl⟩
    rw [← hn] at hd6 hd6n ⊢
    clear hn h6 hb
    go_enter Try.func47, Try.ntmps47
    go_wp2_with fail
    go_ret
    exact ⟨rfl, F, ⟨lv, vs, H.out⟩, Stp.refl _ _⟩
end Go.Proofs.Yteihpaikdpdglaa
