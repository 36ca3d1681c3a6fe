/-
  Layer 20: InboxTurns: the walk.
-/
import Derived.Test.YtfibajfhaadnfaaL20C
import Derived.Test.YtfibajfhaadnfaaR20R
namespace Go.Proofs.Ytfibajfhaadnfaa
open Go.RowKit
set_option linter.unusedVariables false


/-- The inbox i at row c: item j reads as the two bytes of out + j. -/
structure TuW (w0 w : World) (B i c : Nat) (n : Nat) (full : Bool) (sv : Value) (l : List Value) (out : Nat) : Prop where
  I : IsIn w B i c n full sv l
  rd : ∀ (j : Nat) v, l[j]? = some v → OwnB 0 w v [0, ((out + j : Nat) : Int)]
  bel : Below w0.heap.size w0 w
  le : B ≤ w.heap.size

theorem TuW.put {w0 w w' : World} {B i c : Nat} {n : Nat} {full f' : Bool} {sv sv' v : Value} {l : List Value} {out : Nat} (h : TuW w0 w B i c n full sv l out) (hB : w0.heap.size ≤ B) (h2 : IsIn w' B i c n f' sv' (l ++ [v])) (o : OwnB w.heap.size w' v [0, ((out + l.length : Nat) : Int)]) (f : Fr (ftpI i c sv) w w') : TuW w0 w' B i c n f' sv' (l ++ [v]) out :=
  ⟨h2, fun j u hu => by
    by_cases hj : j < l.length
    · rw [List.getElem?_append_left hj] at hu
      exact OwnB.thru h.I (h.rd j u hu) f
    · rw [List.getElem?_append_right (by omega)] at hu
      obtain ⟨h1, h2⟩ := List.getElem?_eq_some_iff.1 hu
      simp at h1 h2
      obtain rfl : j = l.length := by omega
      subst h2
      exact own_zero o,
   h.bel.trans (f.below' (Nat.le_trans hB h.le) (fun k e => Nat.le_trans hB (h.I.ftp_ge k e))), Nat.le_trans h.le f.size⟩
theorem TuW.stay {w0 w w' : World} {B i c : Nat} {n : Nat} {full f' : Bool} {sv sv' : Value} {l : List Value} {out : Nat} (h : TuW w0 w B i c n full sv l out) (hB : w0.heap.size ≤ B) (h2 : IsIn w' B i c n f' sv' l) (f : Fr (ftpI i c sv) w w') : TuW w0 w' B i c n f' sv' l out :=
  ⟨h2, fun j u hu => OwnB.thru h.I (h.rd j u hu) f,
   h.bel.trans (f.below' (Nat.le_trans hB h.le) (fun k e => Nat.le_trans hB (h.I.ftp_ge k e))), Nat.le_trans h.le f.size⟩
theorem TuW.take {w0 w w' : World} {B i c : Nat} {n : Nat} {full f' : Bool} {sv sv' v : Value} {l : List Value} {out : Nat} (h : TuW w0 w B i c n full sv (v :: l) out) (hB : w0.heap.size ≤ B) (h2 : IsIn w' B i c n f' sv' l) (f : Fr (ftpI i c sv) w w') : TuW w0 w' B i c n f' sv' l (out + 1) ∧ OwnB 0 w' v [0, (out : Int)] :=
  ⟨⟨h2, fun j u hu => by
    have := OwnB.thru h.I (h.rd (j + 1) u (by simpa using hu)) f
    rw [show out + (j + 1) = out + 1 + j by omega] at this
    exact this,
   h.bel.trans (f.below' (Nat.le_trans hB h.le) (fun k e => Nat.le_trans hB (h.I.ftp_ge k e))), Nat.le_trans h.le f.size⟩, OwnB.thru h.I (h.rd 0 v rfl) f⟩
theorem TuW.below {w0 w w' : World} {B i c : Nat} {n : Nat} {full : Bool} {sv : Value} {l : List Value} {out : Nat} (h : TuW w0 w B i c n full sv l out) (hB : w0.heap.size ≤ w.heap.size) (hb : Below w.heap.size w w') : TuW w0 w' B i c n full sv l out :=
  ⟨h.I.below hb, fun j u hu => Own.fr (h.rd j u hu) (Fr.of_below hb no) (fun _ _ e => e), h.bel.trans (hb.mono hB), Nat.le_trans h.le hb.size⟩

set_option maxHeartbeats 16000000 in
set_option maxRecDepth 100000 in
theorem turnsL (most : Nat) (lv : Value) (ds : List (Int × Value)) (w : World) (hmo : most < 256) (hlv : Rd w 2 lv ds.length (ds.flatMap encD)) (hds : ∀ d ∈ ds, okD w d) : Calls Try.prog 5 #[.int .u8 most, lv] w fun x w' => x = .returned (.bool true) ∧ Below w.heap.size w w' := by
  obtain ⟨n, hn⟩ : ∃ n, n = 1 + most % 16 := ⟨_, rfl⟩
  obtain ⟨la, lc, rfl⟩ := hlv.len
  have Hl := Lib.hid hlv
  have HD := Lib.hid hds
  have Hn := Lib.hid hn
  have HnB : Hid (1 ≤ n ∧ n ≤ 16) := by unfold Hid; omega
  have n16 : 1 + (most : Int) % 16 = (n : Int) := by omega
  clear hlv hds hn
  go_enter Try.func5, Try.ntmps5
  go_wp2_with fail
  refine (awake w).mono ?_
  rintro x w0 ⟨rfl, b0⟩
  have B0 := Lib.hid b0
  clear b0
  by_cases h200 : 200 < ds.length
  · have hd : decide ((200 : Int) < ds.length) = true := by simp; omega
    go_wp2_with fail
    go_ret
    exact ⟨rfl, B0.out⟩
  have hd : decide ((200 : Int) < ds.length) = false := by simp; omega
  have HLB : Hid (ds.length ≤ 200) := by unfold Hid; omega
  clear h200
  go_wp2_with fail
  refine (inewYes n (by have := HnB.out; omega) w0).mono ?_
  rintro x w1 ⟨i, rfl, h1, b1⟩
  obtain ⟨q, hq⟩ : ∃ q, q = w0.heap.size := ⟨_, rfl⟩
  have hqw : w.heap.size ≤ q := by rw [hq]; exact B0.out.size
  have B1 : Hid (Below w.heap.size w w1) := B0.out.trans (b1.mono B0.out.size)
  have s1 : q ≤ w1.heap.size := by rw [hq]; exact b1.size
  rw [← hq] at h1
  have H1 : Hid (TuW w w1 q i q n false (.slice none 0 0) [] 0) := ⟨h1, fun j v hv => (by simp at hv), B1.out, s1⟩
  clear h1 b1 hq n16 s1 B1 B0
  go_wp2_with fail
  go_loopg [8, 9, 10, 11] ds.length (fun g s8 s9 s10 s11 wx => ∃ (inn out k : Nat) (full : Bool) (sv : Value) (l : List Value), s8 = .int .i64 inn ∧ s9 = .int .i64 out ∧ s10 = .bool full ∧ s11 = .int .i64 k ∧ k ≤ ds.length ∧ g = ds.length - k ∧
    inn = out + l.length ∧ inn ≤ k ∧ l.length ≤ n ∧ (full = true → n / 2 < l.length) ∧ (l.length = n → full = true) ∧ TuW w wx q i q n full sv l out)
  case atStart => exact ⟨0, 0, 0, false, _, [], rfl, rfl, rfl, rfl, Nat.zero_le _, rfl, rfl, Nat.le_refl _, Nat.zero_le _, fun e => (by cases e), fun e => (by have := HnB.out; simp at e; omega), H1.out⟩
  case round =>
    obtain ⟨inn, out, k, full, sv, l, rfl, rfl, rfl, rfl, hk, rfl, hin, hik, hln, hfu, hfn, hy⟩ := hrel
    have HI : Hid (inn = out + l.length ∧ inn ≤ k ∧ l.length ≤ n ∧ (full = true → n / 2 < l.length) ∧ (l.length = n → full = true)) := ⟨hin, hik, hln, hfu, hfn⟩
    have HK := Lib.hid hk
    have HY := Lib.hid hy
    clear hin hik hln hfu hfn hk hy H1
    by_cases hkn : k < ds.length
    · have hd1 : decide ((k : Int) < (ds.length : Int)) = true := by simp; omega
      have Hl2 := Rd.fr Hl.out (Fr.of_below HY.out.bel no) (fun _ _ e => e)
      obtain ⟨lb, lo, lc', hlv, _, hx⟩ := Rd.some Hl2 (by omega) (by decide)
      simp at hlv
      obtain ⟨rfl, rfl⟩ := hlv
      obtain ⟨dk, hdo⟩ : ∃ z, wr.cell? ⟨lb, lo + k * 2, none⟩ = some (.int .i64 z) := ⟨_, by
        have := Rd.el encD_len hx hkn (j := 0) (by decide) rfl
        simpa using this⟩
      have HX := Lib.hid hkn
      clear hx Hl2
      by_cases h3 : dk ≤ 3
      · have hd3 : decide (dk ≤ 3) = true := by simpa using h3
        clear h3
        have hb1 : (inn : Int) / 256 = 0 := by have := HI.out; have := HK.out; have := HLB.out; omega
        have hb2 : (inn : Int) % 256 = inn := by have := HI.out; have := HK.out; have := HLB.out; omega
        go_wp2_with fail
        have al1 := (Below.refl wr.heap.size wr).alloc (Nat.le_refl _) (.cells #[.int .u8 0, .int .u8 inn] 5)
        have HA := Lib.hid (HY.out.below HY.out.bel.size al1)
        clear al1
        by_cases hln : l.length < n
        · refine (iputYes i q n full sv l _ [0, (inn : Int)] _ q HA.out.le HA.out.I (rdB_new rfl rfl rfl) (by simp) (by have := HnB.out; omega) (by omega)).mono ?_
          rintro x w3 ⟨rfl, sv3, v3, h3, o3, m3, f3⟩
          have hio : inn = out + l.length := HI.out.1
          have HP := Lib.hid (HA.out.put hqw h3 (by rw [← hio]; exact o3) f3)
          clear h3 o3 m3 f3
          have HIO := Lib.hid hio
          clear hio
          have hb := HI.out
          have hbn := HnB.out
          have hbk := HK.out
          have hbl := HLB.out
          have J1 : Hid ((inn : Int) ≤ 200) := by unfold Hid; omega
          have J7 : Hid ((k : Int) ≤ 200) := by unfold Hid; omega
          have J2 : Hid ((l.length : Int) ≤ 16) := by unfold Hid; omega
          have J3 : Hid ((n : Int) ≤ 16) := by unfold Hid; omega
          have J4 : Hid ((1 : Int) ≤ n) := by unfold Hid; omega
          have J5 : Hid ((inn : Int) - out = l.length) := by unfold Hid; omega
          have J6 : Hid ((inn : Int) + 1 - out = l.length + 1) := by unfold Hid; omega
          have Hfx : Hid (full = true → decide (2 * ((l.length : Int) + 1) < (n : Int) - 1) = false) := fun e => by have := hb.2.2.2.1 e; simp; omega
          have Hfy : Hid ((((l.length + 1 : Nat) : Int) == (n : Int)) = true → decide (2 * ((l.length : Int) + 1) < (n : Int) - 1) = false) := fun e => by simp at e; simp; omega
          have HXe : Hid ((((l.length + 1 : Nat) : Int) == (n : Int)) = decide (l.length + 1 = n)) := by
            unfold Hid
            by_cases e : l.length + 1 = n
            · rw [e]; simp
            · rw [decide_eq_false e]; simp; omega
          have Hnn : Hid (decide ((l.length : Int) + 1 < (n : Int)) = !(((l.length + 1 : Nat) : Int) == (n : Int))) := by
            unfold Hid
            by_cases e : l.length + 1 = n
            · rw [decide_eq_false (by omega), e]; simp
            · rw [decide_eq_true (by omega)]; simp; omega
          obtain ⟨l3, hl3⟩ : ∃ l3, l3 = l ++ [v3] := ⟨_, rfl⟩
          have hll : ((l3.length : Nat) : Int) = (l.length : Int) + 1 := by rw [hl3]; simp
          have Hll := Lib.hid hll
          clear hb hbn hbk hbl
          rw [← hl3] at HP
          clear hl3 hll
          have hd5 : decide (l.length < n) = true := by simpa using hln
          cases hX : (((l.length + 1 : Nat) : Int) == (n : Int))
          all_goals cases full
          all_goals
            rw [hX] at HP Hfy Hnn HXe
            have hX' : ((l.length : Int) + 1 == (n : Int)) = (((l.length + 1 : Nat) : Int) == (n : Int)) := rfl
            rw [hX] at hX'
            clear hX
            first | (have hq := Hfx.out rfl) | (have hq := Hfy.out rfl) | skip
            have hi1 : (inn : Int) ≤ 200 := J1.out
            have hi7 : (k : Int) ≤ 200 := J7.out
            have hi2 : (l.length : Int) ≤ 16 := J2.out
            have hi3 : (n : Int) ≤ 16 := J3.out
            have hi4 : (1 : Int) ≤ n := J4.out
            have hi5 : (inn : Int) - out = l.length := J5.out
            have hi6 : (inn : Int) + 1 - out = l.length + 1 := J6.out
            have hnn := Hnn.out
            have hll := Hll.out
            go_wp2_with (first | (go_at_call 14; refine (ilen i q n _ sv3 l3 _ q HP.out.I).mono ?_; rintro x w' ⟨rfl, rfl⟩) | (go_at_call 12; refine (ifull i _ _ HP.out.I.c1).mono ?_; rintro x w' ⟨rfl, rfl⟩) | fail)
            go_roundg (ds.length - (k + 1))
            case measure => have := HX.out; omega
            case rel =>
              have hb := HI.out
              have e := Hll.out
              refine ⟨inn + 1, out, k + 1, _, sv3, l3, by go_num, rfl, rfl, by go_num, (by have := HX.out; omega), rfl, by omega, by omega, by omega, ?_, ?_, HP.out⟩
              · intro hx
                first | (have := hb.2.2.2.1 trivial; omega) | (have h9 := of_decide_eq_true HXe.out.symm; have h8 := HnB.out; clear hb; omega) | (cases hx; done)
              · intro hx
                first | rfl | (exact absurd (by omega) (of_decide_eq_false HXe.out.symm))
        · have hle : l.length = n := by have := HI.out; omega
          have hft : full = true := HI.out.2.2.2.2 hle
          subst hft
          have hio : inn = out + l.length := HI.out.1
          refine (iputNo i q n true sv l _ [0, (inn : Int)] _ q HA.out.le HA.out.I (rdB_new rfl rfl rfl) (by simp) (by have := HnB.out; omega) (by omega)).mono ?_
          rintro x w3 ⟨rfl, sv3, h3, m3, f3⟩
          have HP := Lib.hid (HA.out.stay hqw h3 f3)
          clear h3 m3 f3
          have hb := HI.out
          have hbn := HnB.out
          have hbk := HK.out
          have hbl := HLB.out
          have J1 : Hid ((inn : Int) ≤ 200) := by unfold Hid; omega
          have J7 : Hid ((k : Int) ≤ 200) := by unfold Hid; omega
          have J2 : Hid ((l.length : Int) ≤ 16) := by unfold Hid; omega
          have J5 : Hid ((inn : Int) - out = l.length) := by unfold Hid; omega
          have hd5 : decide (l.length < n) = false := by simp; omega
          have hd6 : decide (2 * (l.length : Int) < (n : Int) - 1) = false := by simp; omega
          have HE := Lib.hid hle
          clear hb hbn hbk hbl hio hle hln
          have hi1 : (inn : Int) ≤ 200 := J1.out
          have hi7 : (k : Int) ≤ 200 := J7.out
          have hi2 : (l.length : Int) ≤ 16 := J2.out
          have hi3 : (n : Int) ≤ 16 := by have := HnB.out; omega
          have hi4 : (1 : Int) ≤ n := by have := HnB.out; omega
          have hi5 : (inn : Int) - out = l.length := J5.out
          go_wp2_with (first | (go_at_call 14; refine (ilen i q n _ sv3 l _ q HP.out.I).mono ?_; rintro x w' ⟨rfl, rfl⟩) | (go_at_call 12; refine (ifull i _ _ HP.out.I.c1).mono ?_; rintro x w' ⟨rfl, rfl⟩) | fail)
          go_roundg (ds.length - (k + 1))
          case measure => have := HX.out; omega
          case rel =>
            have hb := HI.out
            exact ⟨inn, out, k + 1, true, sv3, l, rfl, rfl, rfl, by go_num, (by have := HX.out; omega), rfl, by omega, by omega, by omega, fun _ => hb.2.2.2.1 trivial, fun _ => rfl, HP.out⟩
      · have hd3 : decide (dk ≤ 3) = false := by simpa using h3
        clear h3
        go_wp2_with fail
        cases hl : l with
        | nil =>
          subst hl
          have hff : full = false := by
            cases full
            · rfl
            · have := HI.out.2.2.2.1 rfl; simp at this
          subst hff
          have hio : inn = out := by simpa using HI.out.1
          subst hio
          refine (itakeNo i q n false sv _ q HY.out.I).mono ?_
          rintro x w3 ⟨rfl, hb3⟩
          have HP : Hid (∀ m, TuW w (w3.drewN m) q i q n false sv [] inn) := fun m => HY.out.below HY.out.bel.size (below_drewN hb3 m)
          clear hb3
          have hd5 : decide ((inn : Int) < (inn : Int)) = false := by simp
          have hi1 : (inn : Int) ≤ 200 := by have := HI.out; have := HK.out; have := HLB.out; omega
          have hi7 : (k : Int) ≤ 200 := by have := HK.out; have := HLB.out; omega
          go_wp2_with fail
          go_quiet (fail)
          go_wp2_with (first | (go_at_call 14; refine (ilen i q n _ sv [] _ q (HP.out _).I).mono ?_; rintro x w' ⟨rfl, rfl⟩) | (go_at_call 12; refine (ifull i _ _ (HP.out _).I.c1).mono ?_; rintro x w' ⟨rfl, rfl⟩) | fail)
          go_roundg (ds.length - (k + 1))
          case measure => have := HX.out; omega
          case rel =>
            exact ⟨inn, inn, k + 1, false, sv, [], rfl, rfl, rfl, by go_num, (by have := HX.out; omega), rfl, rfl, (by have := HI.out; omega), Nat.zero_le _, fun e => (by cases e), fun e => (by have := HnB.out; simp at e; omega), HP.out _⟩
        | cons v r =>
          subst hl
          have hio : inn = out + (r.length + 1) := HI.out.1
          have hb := HI.out
          have hbn := HnB.out
          have hbk := HK.out
          have hbl := HLB.out
          simp only [List.length_cons] at hb
          have J1 : Hid ((inn : Int) ≤ 200) := by unfold Hid; omega
          have J7 : Hid ((k : Int) ≤ 200) := by unfold Hid; omega
          have J8 : Hid ((out : Int) ≤ 200) := by unfold Hid; omega
          have J2 : Hid ((r.length : Int) ≤ 16) := by unfold Hid; omega
          have J3 : Hid ((n : Int) ≤ 16) := by unfold Hid; omega
          have J4 : Hid ((1 : Int) ≤ n) := by unfold Hid; omega
          have J5 : Hid ((inn : Int) - out = r.length + 1) := by unfold Hid; omega
          have J6 : Hid ((inn : Int) - (out + 1) = r.length) := by unfold Hid; omega
          have J9 : Hid (decide (out < inn) = true) := by unfold Hid; simp; omega
          have hor : Hid (bits .or .i64 0 (out : Int) = out) := by
            have h : ∀ o : Nat, o ≤ 200 → bits .or .i64 0 (o : Int) = (o : Int) := by decide +kernel
            exact h out (by omega)
          have Hfx : Hid ((full && !freeB full r.length n) = true → decide (2 * (r.length : Int) < (n : Int) - 1) = false) := fun e => by
            cases full
            · cases e
            · have h1 : n / 2 < r.length + 1 := hb.2.2.2.1 rfl
              have h2 : ¬ ((r.length : Int) ≤ (n : Int) / 2) := by simpa [freeB] using e
              simp; omega
          obtain ⟨a5, k5, hs5, _⟩ := own_shape (HY.out.rd 0 v rfl)
          subst hs5
          refine (itakeYes i q n full sv a5 2 k5 r _ q HY.out.le HY.out.I (by omega) (by omega)).mono ?_
          rintro x w3 ⟨rfl, sv3, h3, m3, f3⟩
          have hpt := HY.out.take hqw h3 f3
          have hrd := hpt.2.rd
          obtain ⟨pb, po, pc, hpv, _, hpx⟩ := Rd.some hrd (by simp) (by decide)
          simp at hpv
          obtain ⟨rfl, rfl⟩ := hpv
          have y0 : ∀ m, (w3.drewN m).cell? ⟨pb, po, none⟩ = some (.int .u8 0) := fun m => hpx 0 _ rfl
          have y1 : ∀ m, (w3.drewN m).cell? ⟨pb, po + 1, none⟩ = some (.int .u8 out) := fun m => hpx 1 _ rfl
          have y0' := y0 0
          have y1' := y1 0
          have HP : Hid (∀ m, TuW w (w3.drewN m) q i q n (full && !freeB full r.length n) sv3 r (out + 1)) := fun m => hpt.1.below hpt.1.bel.size (below_drewN (Below.refl _ _) m)
          clear hb hbn hbk hbl hpx hrd hpt h3 m3 f3 hio
          cases full
          all_goals cases hfr : freeB _ r.length n
          all_goals
            rw [hfr] at HP Hfx
            have HFR := Lib.hid hfr
            clear hfr
            have hi9 : decide (out < inn) = true := J9.out
            have hor' := hor.out
            have hi1 : (inn : Int) ≤ 200 := J1.out
            have hi7 : (k : Int) ≤ 200 := J7.out
            have hi8 : (out : Int) ≤ 200 := J8.out
            have hi2 : (r.length : Int) ≤ 16 := J2.out
            have hi3 : (n : Int) ≤ 16 := J3.out
            have hi4 : (1 : Int) ≤ n := J4.out
            go_wp2_with fail
            go_quiet (fail)
            have hi5 : (inn : Int) - out = r.length + 1 := J5.out
            have hi6 : (inn : Int) - (out + 1) = r.length := J6.out
            first | (have hq := Hfx.out rfl) | skip
            go_wp2_with (first | (go_at_call 14; refine (ilen i q n _ sv3 r _ q (HP.out _).I).mono ?_; rintro x w' ⟨rfl, rfl⟩) | (go_at_call 12; refine (ifull i _ _ (HP.out _).I.c1).mono ?_; rintro x w' ⟨rfl, rfl⟩) | fail)
            first
            | (have hfr := HFR.out; simp [freeB] at hfr; done)
            | (go_roundg (ds.length - (k + 1))
               case measure => have := HX.out; omega
               case rel =>
                 have hb := HI.out
                 simp only [List.length_cons] at hb
                 have hfr := HFR.out
                 refine ⟨inn, out + 1, k + 1, _, sv3, r, rfl, by go_num, rfl, by go_num, (by have := HX.out; omega), rfl, by omega, by omega, by omega, ?_, ?_, HP.out _⟩
                 · intro hx
                   first | (cases hx; done) | (simp [freeB] at hfr; omega)
                 · intro hx
                   first | rfl | omega)
    · have hd1 : decide ((k : Int) < (ds.length : Int)) = false := by simp; omega
      go_wp2_with fail
      go_ret
      exact ⟨rfl, HY.out.bel⟩
theorem turnsZ (most : Int) (hm : 0 ≤ most ∧ most ≤ 255) (lv : Value) (ds : List (Int × Value)) (w : World) (hlv : Rd w 2 lv ds.length (ds.flatMap encD)) (hds : ∀ d ∈ ds, okD w d) : Calls Try.prog 5 #[.int .u8 most, lv] w fun x w' => x = .returned (.bool true) ∧ Below w.heap.size w w' := by
  obtain ⟨m, rfl⟩ := Int.eq_ofNat_of_zero_le hm.1
  exact turnsL m lv ds w (by omega) hlv hds
end Go.Proofs.Ytfibajfhaadnfaa
