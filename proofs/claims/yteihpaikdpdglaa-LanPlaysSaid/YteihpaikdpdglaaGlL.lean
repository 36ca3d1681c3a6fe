/-
  Package lan: Put, at any line.
-/
import Derived.Test.YteihpaikdpdglaaGlK
import Derived.Test.YteihpaikdpdglaaAdr
namespace Go.Proofs.Yteihpaikdpdglaa
open Go.RowKit
set_option linter.unusedVariables false


/-- Into which rows it goes: how many took it. -/
def putsP (st : Nat) (most from' : Int) (x : List Int) (tg : Int) (S : LS) : Nat → Int × LS
  | 0 => (0, S)
  | i + 1 =>
    if (i : Int) ≠ from' ∧ ((i : Int) = tg ∨ ¬ (0 ≤ tg ∧ tg < (st : Int))) then
      ((putsP st most from' x tg S i).1 + (if (sendP st most from' i x (putsP st most from' x tg S i).2).1 = true then 1 else 0), (sendP st most from' i x (putsP st most from' x tg S i).2).2)
    else putsP st most from' x tg S i
def adOf (x : List Int) : Ad := ⟨x.getD 0 0, x.getD 1 0, x.getD 2 0, x.getD 3 0, x.getD 4 0, x.getD 5 0⟩
def putP (st : Nat) (most from' : Int) (x : List Int) (S : LS) : Int × LS :=
  if 0 ≤ from' ∧ from' < (st : Int) ∧ 6 ≤ x.length then
    if numA (adOf x) = from' then (0, S) else putsP st most from' x (numA (adOf x)) S st
  else (0, S)
theorem sendP_lost (st : Nat) (most a b : Int) (x : List Int) (S : LS) : S.2 ≤ (sendP st most a b x S).2.2 ∧ (sendP st most a b x S).2.2 ≤ S.2 + 1 := by
  unfold sendP
  cases rix st a b with
  | none => dsimp only; omega
  | some k => dsimp only; split <;> dsimp only <;> omega

theorem rd_stp {w w' : World} {F F' : Nat → Prop} {a : Addr} {n c k m : Nat} {xs : List Value} (s : Stp F F' w w') (h : Rd w k (.slice (some a) n c) m xs) (hF : ¬ F a.block) : Rd w' k (.slice (some a) n c) m xs := by
  obtain ⟨hl, a', c', hv, h0, h1⟩ := h
  refine ⟨hl, a', c', hv, h0, fun ad e j u hu => ?_⟩
  simp at hv
  obtain ⟨rfl, rfl, rfl⟩ := hv
  have hc := h1 ad e j u hu
  injection e with e
  subst e
  have hb : (a.add j).block = a.block := by cases a; simp only [Addr.add]; split <;> rfl
  exact (s.fr.cell (World.block_lt_of_cell? w _ hc) (by rw [hb]; exact hF)).trans hc
theorem stp_not {w w' : World} {F F' : Nat → Prop} (s : Stp F F' w w') {b : Nat} (hb : b < w.heap.size) (h : ¬ F b) : ¬ F' b := fun e => (s.new b e).elim h (fun e => by omega)

set_option maxRecDepth 100000 in
set_option maxHeartbeats 8000000 in
theorem lputG {w : World} {F : Nat → Prop} {t st : Nat} {life lost most : Int} {qs : List FlA} (h : LG w F t st life lost most qs) (v : Value) (x : List Int) (hv : RdB w v x) (hvF : 6 ≤ x.length → ∀ a n c, v = .slice (some a) n c → ¬ F a.block) (hcp : ∀ a n c, v = .slice a n c → n ≤ c ∧ c ≤ maxLen) (hb : x.length ≤ 1000) (hby : ∀ y ∈ x, 0 ≤ y ∧ y ≤ 255) (hlo : 0 ≤ lost ∧ lost ≤ 900000000) (s : Int) :
    Calls Try.prog 20 #[.pointer (some ⟨t, 0, none⟩), .int .i64 s, v] w fun e w' => e = .returned (.int .i64 (putP st most s x (qs, lost)).1) ∧ ∃ F', LG w' F' t st life (putP st most s x (qs, lost)).2.2 most (putP st most s x (qs, lost)).2.1 ∧ Stp F F' w w' := by
  obtain ⟨va, vc, rfl⟩ := hv.len
  have HVF := Lib.hid hvF
  clear hvF
  obtain ⟨hc1, hc2⟩ := hcp _ _ _ rfl
  have hc3 : vc ≤ 9223372036854775807 := by unfold maxLen at hc2; omega
  clear hcp
  obtain ⟨rv, ps, Fs, h⟩ := h
  have hst := h.sts
  have H := Lib.hid h
  have HV := Lib.hid hv
  have HBY := Lib.hid hby
  have k0 : w.cell? ⟨t, 0, none⟩ = some (.int .i64 st) := blk_cell h.blk 0
  clear h hv hby
  unfold putP
  by_cases hs : 0 ≤ s ∧ s < (st : Int)
  · have hd0 : decide ((0 : Int) ≤ s) = true := decide_eq_true hs.1
    have hd1 : decide (s < (st : Int)) = true := decide_eq_true hs.2
    by_cases h6 : 6 ≤ x.length
    · rw [if_pos ⟨hs.1, hs.2, h6⟩]
      obtain ⟨bb, o, c, hvv, hbl, hcell⟩ := Rd.some HV.out (by omega) (by decide)
      simp only [Value.slice.injEq, true_and] at hvv
      obtain ⟨rfl, rfl⟩ := hvv
      have HFO : Hid (¬ F bb) := HVF.out h6 _ _ _ rfl
      have at' : ∀ j (hj : j < x.length), w.cell? ⟨bb, o + j, none⟩ = some (.int .u8 x[j]) := fun j hj => RdB.at HV.out hj
      have hd6 : decide ((x.length : Int) < 6) = false := decide_eq_false (by omega)
      have hd6n : decide (x.length < 6) = false := decide_eq_false (by omega)
      have hgd : ∀ j (hj : j < x.length), x.getD j 0 = x[j] := fun j hj => by rw [List.getD_eq_getElem?_getD, List.getElem?_eq_getElem hj]; rfl
      obtain ⟨a, ha⟩ : ∃ a, a = adOf x := ⟨_, rfl⟩
      have y0 : w.cell? ⟨bb, o, none⟩ = some (.int .u8 a.f0) := by rw [ha]; show _ = some (Value.int .u8 (x.getD 0 0)); rw [hgd 0 (by omega)]; exact at' 0 (by omega)
      have y1 : w.cell? ⟨bb, o + 1, none⟩ = some (.int .u8 a.f1) := by rw [ha]; show _ = some (Value.int .u8 (x.getD 1 0)); rw [hgd 1 (by omega)]; exact at' 1 (by omega)
      have y2 : w.cell? ⟨bb, o + 2, none⟩ = some (.int .u8 a.f2) := by rw [ha]; show _ = some (Value.int .u8 (x.getD 2 0)); rw [hgd 2 (by omega)]; exact at' 2 (by omega)
      have y3 : w.cell? ⟨bb, o + 3, none⟩ = some (.int .u8 a.f3) := by rw [ha]; show _ = some (Value.int .u8 (x.getD 3 0)); rw [hgd 3 (by omega)]; exact at' 3 (by omega)
      have y4 : w.cell? ⟨bb, o + 4, none⟩ = some (.int .u8 a.f4) := by rw [ha]; show _ = some (Value.int .u8 (x.getD 4 0)); rw [hgd 4 (by omega)]; exact at' 4 (by omega)
      have y5 : w.cell? ⟨bb, o + 5, none⟩ = some (.int .u8 a.f5) := by rw [ha]; show _ = some (Value.int .u8 (x.getD 5 0)); rw [hgd 5 (by omega)]; exact at' 5 (by omega)
      have ha5 : 0 ≤ a.f5 ∧ a.f5 ≤ 255 := by rw [ha]; show 0 ≤ x.getD 5 0 ∧ x.getD 5 0 ≤ 255; rw [hgd 5 (by omega)]; exact HBY.out _ (List.getElem_mem _)
      have hc6 : (6 : Int) ≤ (vc : Int) := by omega
      have hc6n : 6 ≤ vc := by omega
      rw [← ha]
      obtain ⟨tg, htg⟩ : ∃ tg, tg = numA a := ⟨_, rfl⟩
      have HN := Lib.hid (mnum a ha5)
      rw [← htg] at HN ⊢
      have HL : Hid (x.length ≤ 1000) := hb
      obtain ⟨n, hn⟩ : ∃ n, n = x.length := ⟨_, rfl⟩
      have HNL := Lib.hid hn
      rw [← hn] at hd6 hd6n hc1 HV ⊢
      clear htg ha ha5 hgd at' hcell hs hn h6 hb
      obtain ⟨R, hR⟩ : ∃ R, R = (if tg = s then ((0 : Int), (qs, lost)) else putsP st most s x tg (qs, lost) st) := ⟨_, rfl⟩
      rw [← hR]
      have HRR := Lib.hid hR
      clear hR
      have hArr : ∀ W : World, (Instr.arrayAt 43 (.slice (some ⟨bb, o, none⟩) 6 6)).run Try.prog W = .ok (.pointer (some ⟨bb, o, none⟩)) W := fun W => by
        unfold Instr.arrayAt
        simp [run_underlying (show Try.prog.underlying 43 = some (.array 6 5) by kernel_rfl)]
      go_enter Try.func20, Try.ntmps20
      go_wp2_with fail
      refine (hasG H.out s).mono ?_
      rintro e w' ⟨rfl, hw'⟩
      obtain rfl := hw'.symm
      clear hw'
      rw [hd0, hd1]
      go_wp2_with fail
      refine HN.out _ |>.mono ?_
      rintro e w1 ⟨rfl, b1⟩
      have B1 := Lib.hid b1
      clear HN b1 hArr y0 y1 y2 y3 y4 y5
      by_cases hts : tg = s
      · have hte : (tg == s) = true := by simpa using hts
        have HTS := Lib.hid hts
        clear hts
        go_wp2_with fail
        go_ret
        have hR := HRR.out
        rw [if_pos HTS.out] at hR
        rw [hR]
        exact ⟨rfl, F, ⟨rv, ps, Fs, H.out.below B1.out⟩, Stp.of_below _ B1.out⟩
      have hRf := HRR.out
      rw [if_neg hts] at hRf
      have hte : (tg == s) = false := by simpa using hts
      have HTS := Lib.hid hts
      clear hts
      obtain ⟨f, hf⟩ : ∃ f, f = putsP st most s x tg (qs, lost) := ⟨_, rfl⟩
      have hstep : ∀ i, f (i + 1) = if (i : Int) ≠ s ∧ ((i : Int) = tg ∨ ¬ (0 ≤ tg ∧ tg < (st : Int))) then ((f i).1 + (if (sendP st most s i x (f i).2).1 = true then 1 else 0), (sendP st most s i x (f i).2).2) else f i := fun i => by rw [hf]; rfl
      have h0 : f 0 = (0, (qs, lost)) := by rw [hf]; rfl
      rw [← hf] at hRf
      have HRF := Lib.hid hRf
      have HST := Lib.hid hstep
      have k1 : w1.cell? ⟨t, 0, none⟩ = some (.int .i64 st) := blk_cell (H.out.below B1.out).blk 0
      have ini : Hid (∃ F', LG w1 F' t st life (f 0).2.2 most (f 0).2.1 ∧ Stp F F' w w1 ∧ RdB w1 (.slice (some ⟨bb, o, none⟩) n vc) x) := by
        unfold Hid
        rw [h0]
        exact ⟨F, ⟨rv, ps, Fs, H.out.below B1.out⟩, Stp.of_below _ B1.out, HV.out.fr B1.out⟩
      have ini2 : Hid ((f 0).1 = 0 ∧ (f 0).2.2 = lost) := by unfold Hid; rw [h0]; exact ⟨rfl, rfl⟩
      clear hf hstep h0 hRf
      go_wp2_with fail
      go_loopg [8, 31] st (fun g s8 s31 wx => ∃ i : Nat, i ≤ st ∧ s31 = .int .i64 i ∧ s8 = .int .i64 (f i).1 ∧ g = st - i ∧ Hid (0 ≤ (f i).1 ∧ (f i).1 ≤ (i : Int) ∧ lost ≤ (f i).2.2 ∧ (f i).2.2 ≤ lost + (i : Int)) ∧ Hid (∃ F', LG wx F' t st life (f i).2.2 most (f i).2.1 ∧ Stp F F' w wx ∧ RdB wx (.slice (some ⟨bb, o, none⟩) n vc) x))
      case atStart => exact ⟨0, Nat.zero_le _, rfl, by rw [ini2.out.1], rfl, by unfold Hid; rw [ini2.out.1, ini2.out.2]; omega, ini⟩
      case round =>
        obtain ⟨i, hi, rfl, rfl, rfl, HN1, HX⟩ := hrel
        by_cases hlt : i < st
        · have hdl : decide ((i : Int) < (st : Int)) = true := by simpa using hlt
          have hdl2 : decide (i < st) = true := by simpa using hlt
          obtain ⟨F1, ⟨rv1, ps1, Fs1, hL⟩, hS, hR⟩ := HX.out
          obtain ⟨n1, hn1⟩ : ∃ n1, n1 = (f i).1 := ⟨_, rfl⟩
          obtain ⟨q1, hq1⟩ : ∃ q1, q1 = (f i).2.1 := ⟨_, rfl⟩
          obtain ⟨l1, hl1⟩ : ∃ l1, l1 = (f i).2.2 := ⟨_, rfl⟩
          have HSI := Lib.hid (HST.out i)
          have hfi : (f i).2 = (q1, l1) := by rw [hq1, hl1]
          rw [hfi, ← hn1] at HSI
          rw [← hq1, ← hl1] at hL
          rw [← hn1, ← hl1] at HN1
          rw [← hn1]
          have HL1 := Lib.hid hL
          have HS1 := Lib.hid hS
          have HR1 := Lib.hid hR
          have HE := Lib.hid (And.intro hn1 hfi)
          have HP := Lib.hid (sendP_lost st most s i x (q1, l1))
          obtain ⟨⟨sb, sS⟩, hsp⟩ : ∃ r, r = sendP st most s i x (q1, l1) := ⟨_, rfl⟩
          have HG := Lib.hid (sendG ⟨rv1, ps1, Fs1, hL⟩ _ x hR HL.out HBY.out (by have := HN1.out; omega) s i)
          rw [← hsp] at HP HSI HG
          clear hL hS hR HX hn1 hq1 hl1 hfi hsp
          by_cases his : (i : Int) = s
          · have hne : ((i : Int) == s) = true := by simpa using his
            have FIN : Hid ((f (i + 1)).1 = n1 ∧ (0 ≤ (f (i + 1)).1 ∧ (f (i + 1)).1 ≤ ((i + 1 : Nat) : Int) ∧ lost ≤ (f (i + 1)).2.2 ∧ (f (i + 1)).2.2 ≤ lost + ((i + 1 : Nat) : Int)) ∧ ∃ F', LG wr F' t st life (f (i + 1)).2.2 most (f (i + 1)).2.1 ∧ Stp F F' w wr ∧ RdB wr (.slice (some ⟨bb, o, none⟩) n vc) x) := by
              unfold Hid
              have h1 := HSI.out
              rw [if_neg (fun e => e.1 his)] at h1
              have h2 : f (i + 1) = (n1, (q1, l1)) := by rw [h1]; exact Prod.ext HE.out.1.symm HE.out.2
              rw [h2]
              have h3 := HN1.out
              exact ⟨rfl, by dsimp only; omega, F1, ⟨rv1, ps1, Fs1, HL1.out⟩, HS1.out, HR1.out⟩
            have HIS := Lib.hid his
            clear his
            go_wp2_with fail
            go_roundg (st - (i + 1))
            case measure => omega
            case rel => exact ⟨i + 1, by omega, by have := HIS.out; rw [show s + 1 = ((i + 1 : Nat) : Int) by omega], by rw [FIN.out.1], rfl, FIN.out.2.1, FIN.out.2.2⟩
          have hne : ((i : Int) == s) = false := by simpa using his
          have hnb : ((i : Int) != s) = true := by simpa using his
          by_cases hit : (i : Int) = tg
          · have hne2 : ((i : Int) == tg) = true := by simpa using hit
            have HC := Lib.hid (And.intro his (Or.inl hit : (i : Int) = tg ∨ ¬ (0 ≤ tg ∧ tg < (st : Int))))
            have HIT := Lib.hid hit
            clear hit
            go_wp2_with fail
            refine HG.out.mono ?_
            rintro e w4 ⟨rfl, F4, h4, s4⟩
            have FIN : Hid ((f (i + 1)).1 = n1 + (if sb = true then 1 else 0) ∧ (0 ≤ (f (i + 1)).1 ∧ (f (i + 1)).1 ≤ ((i + 1 : Nat) : Int) ∧ lost ≤ (f (i + 1)).2.2 ∧ (f (i + 1)).2.2 ≤ lost + ((i + 1 : Nat) : Int)) ∧ ∃ F', LG w4 F' t st life (f (i + 1)).2.2 most (f (i + 1)).2.1 ∧ Stp F F' w w4 ∧ RdB w4 (.slice (some ⟨bb, o, none⟩) n vc) x) := by
              unfold Hid
              have h1 := HSI.out
              rw [if_pos HC.out] at h1
              rw [h1]
              have h3 := HN1.out
              have h5 := HP.out
              dsimp only at h5 ⊢
              have h6 : (0 : Int) ≤ (if sb = true then 1 else 0) ∧ (if sb = true then (1 : Int) else 0) ≤ 1 := by split <;> omega
              exact ⟨rfl, by omega, F4, h4, HS1.out.trans s4, rd_stp s4 HR1.out (stp_not HS1.out hbl HFO.out)⟩
            clear h4 s4
            cases sb with
            | true =>
              have hwn : wrap64 (n1 + 1) = n1 + 1 := IntWalk.wrap64_in _ (by have := HN1.out; omega)
              go_wp2_with fail
              go_roundg (st - (i + 1))
              case measure => omega
              case rel => exact ⟨i + 1, by omega, by go_num, by rw [FIN.out.1]; rw [hwn]; rfl, rfl, FIN.out.2.1, FIN.out.2.2⟩
            | false =>
              go_wp2_with fail
              go_roundg (st - (i + 1))
              case measure => omega
              case rel => exact ⟨i + 1, by omega, by go_num, by rw [FIN.out.1]; simp, rfl, FIN.out.2.1, FIN.out.2.2⟩
          have hne2 : ((i : Int) == tg) = false := by simpa using hit
          by_cases hin : 0 ≤ tg ∧ tg < (st : Int)
          · have hx : (decide (0 ≤ tg) && decide (tg < (st : Int))) = true := by rw [decide_eq_true hin.1, decide_eq_true hin.2]; rfl
            have FIN : Hid ((f (i + 1)).1 = n1 ∧ (0 ≤ (f (i + 1)).1 ∧ (f (i + 1)).1 ≤ ((i + 1 : Nat) : Int) ∧ lost ≤ (f (i + 1)).2.2 ∧ (f (i + 1)).2.2 ≤ lost + ((i + 1 : Nat) : Int)) ∧ ∃ F', LG wr F' t st life (f (i + 1)).2.2 most (f (i + 1)).2.1 ∧ Stp F F' w wr ∧ RdB wr (.slice (some ⟨bb, o, none⟩) n vc) x) := by
              unfold Hid
              have h1 := HSI.out
              rw [if_neg (fun e => e.2.elim hit (fun e => e hin))] at h1
              have h2 : f (i + 1) = (n1, (q1, l1)) := by rw [h1]; exact Prod.ext HE.out.1.symm HE.out.2
              rw [h2]
              have h3 := HN1.out
              exact ⟨rfl, by dsimp only; omega, F1, ⟨rv1, ps1, Fs1, HL1.out⟩, HS1.out, HR1.out⟩
            clear hin
            go_wp2_with fail
            refine (hasG HL1.out tg).mono ?_
            rintro e w' ⟨rfl, hw'⟩
            obtain rfl := hw'.symm
            clear hw'
            rw [hx]
            go_wp2_with fail
            go_roundg (st - (i + 1))
            case measure => omega
            case rel => exact ⟨i + 1, by omega, by go_num, by rw [FIN.out.1], rfl, FIN.out.2.1, FIN.out.2.2⟩
          have hx : (decide (0 ≤ tg) && decide (tg < (st : Int))) = false := by
            rw [Bool.and_eq_false_iff, decide_eq_false_iff_not, decide_eq_false_iff_not]; omega
          have HC := Lib.hid (And.intro his (Or.inr hin : (i : Int) = tg ∨ ¬ (0 ≤ tg ∧ tg < (st : Int))))
          clear hin
          go_wp2_with fail
          refine (hasG HL1.out tg).mono ?_
          rintro e w' ⟨rfl, hw'⟩
          obtain rfl := hw'.symm
          clear hw'
          rw [hx]
          go_wp2_with fail
          refine HG.out.mono ?_
          rintro e w4 ⟨rfl, F4, h4, s4⟩
          have FIN : Hid ((f (i + 1)).1 = n1 + (if sb = true then 1 else 0) ∧ (0 ≤ (f (i + 1)).1 ∧ (f (i + 1)).1 ≤ ((i + 1 : Nat) : Int) ∧ lost ≤ (f (i + 1)).2.2 ∧ (f (i + 1)).2.2 ≤ lost + ((i + 1 : Nat) : Int)) ∧ ∃ F', LG w4 F' t st life (f (i + 1)).2.2 most (f (i + 1)).2.1 ∧ Stp F F' w w4 ∧ RdB w4 (.slice (some ⟨bb, o, none⟩) n vc) x) := by
            unfold Hid
            have h1 := HSI.out
            rw [if_pos HC.out] at h1
            rw [h1]
            have h3 := HN1.out
            have h5 := HP.out
            dsimp only at h5 ⊢
            have h6 : (0 : Int) ≤ (if sb = true then 1 else 0) ∧ (if sb = true then (1 : Int) else 0) ≤ 1 := by split <;> omega
            exact ⟨rfl, by omega, F4, h4, HS1.out.trans s4, rd_stp s4 HR1.out (stp_not HS1.out hbl HFO.out)⟩
          clear h4 s4
          cases sb with
          | true =>
            have hwn : wrap64 (n1 + 1) = n1 + 1 := IntWalk.wrap64_in _ (by have := HN1.out; omega)
            go_wp2_with fail
            go_roundg (st - (i + 1))
            case measure => omega
            case rel => exact ⟨i + 1, by omega, by go_num, by rw [FIN.out.1]; rw [hwn]; rfl, rfl, FIN.out.2.1, FIN.out.2.2⟩
          | false =>
            go_wp2_with fail
            go_roundg (st - (i + 1))
            case measure => omega
            case rel => exact ⟨i + 1, by omega, by go_num, by rw [FIN.out.1]; simp, rfl, FIN.out.2.1, FIN.out.2.2⟩
        · obtain rfl : i = st := by omega
          have hdl : decide ((i : Int) < (i : Int)) = false := by simp
          have HR2 := Lib.hid (show R = f i by rw [HRF.out])
          obtain ⟨n1, hn1⟩ : ∃ n1, n1 = (f i).1 := ⟨_, rfl⟩
          rw [← hn1]
          have HN2 := Lib.hid hn1
          clear hn1
          go_wp2_with fail
          go_ret
          rw [HR2.out, ← HN2.out]
          obtain ⟨F1, h1, h2, h3⟩ := HX.out
          exact ⟨rfl, F1, h1, h2⟩
    · rw [if_neg (fun e => h6 e.2.2)]
      have hd6 : decide ((x.length : Int) < 6) = true := decide_eq_true (by omega)
      have hd6n : decide (x.length < 6) = true := decide_eq_true (by omega)
      obtain ⟨n, hn⟩ : ∃ n, n = x.length := ⟨_, rfl⟩
      rw [← hn] at hd6 hd6n ⊢
      clear hs hn h6 hb
      go_enter Try.func20, Try.ntmps20
      go_wp2_with fail
      refine (hasG H.out s).mono ?_
      rintro e w' ⟨rfl, hw'⟩
      obtain rfl := hw'.symm
      clear hw'
      rw [hd0, hd1]
      go_wp2_with fail
      go_ret
      exact ⟨rfl, F, ⟨rv, ps, Fs, H.out⟩, Stp.refl _ _⟩
  · rw [if_neg (fun e => hs ⟨e.1, e.2.1⟩)]
    have hx : (decide (0 ≤ s) && decide (s < (st : Int))) = false := by
      rw [Bool.and_eq_false_iff, decide_eq_false_iff_not, decide_eq_false_iff_not]; omega
    clear hs
    obtain ⟨n, hn⟩ : ∃ n, n = x.length := ⟨_, rfl⟩
    rw [← hn]
    clear hn hb
    go_enter Try.func20, Try.ntmps20
    go_wp2_with fail
    refine (hasG H.out s).mono ?_
    rintro e w' ⟨rfl, hw'⟩
    obtain rfl := hw'.symm
    clear hw'
    rw [hx]
    go_wp2_with fail
    go_ret
    exact ⟨rfl, F, ⟨rv, ps, Fs, H.out⟩, Stp.refl _ _⟩
end Go.Proofs.Yteihpaikdpdglaa
