/-
  Layer 20: InboxPlays: the walk.
-/
import Derived.Test.YtfibajfhaadnfaaL20E
import Derived.Test.YtfibajfhaadnfaaL20A
import Derived.Test.YtfibajfhaadnfaaRfi
import Derived.Test.YtfibajfhaadnfaaR20R
import Derived.Deep.LoopGhost
namespace Go.Proofs.Ytfibajfhaadnfaa
open Go.RowKit
set_option linter.unusedVariables false


/-- The two inboxes, the program's at i, the reference's at r. -/
def IpX (w0 w : World) (i r : Nat) (most : Int) (full : Bool) (bs : List (List Int)) : Prop :=
  ∃ F G, InA w F i most full bs ∧ RfA w G r (.int .i64 most) (.bool full) bs ∧ (∀ x, F x → G x → False) ∧ (∀ x, F x → w0.heap.size ≤ x) ∧ (∀ x, G x → w0.heap.size ≤ x) ∧ Below w0.heap.size w0 w

section
variable {w0 w w' w'' : World} {i r : Nat} {most : Int} {full : Bool} {bs : List (List Int)}
theorem IpX.bel (h : IpX w0 w i r most full bs) : Below w0.heap.size w0 w := by obtain ⟨F, G, _, _, _, _, _, h⟩ := h; exact h
theorem IpX.below (h : IpX w0 w i r most full bs) (hb : Below w.heap.size w w') : IpX w0 w' i r most full bs := by
  obtain ⟨F, G, h1, h2, h3, h4, h5, h6⟩ := h
  exact ⟨F, G, h1.below hb, h2.below hb, h3, h4, h5, h6.trans (hb.mono h6.size)⟩
theorem IpX.both {F G F' G' : Nat → Prop} {full' : Bool} {bs' : List (List Int)} (hd : ∀ x, F x → G x → False) (h4 : ∀ x, F x → w0.heap.size ≤ x) (h5 : ∀ x, G x → w0.heap.size ≤ x) (h6 : Below w0.heap.size w0 w)
    (hG : ∀ x, G x → x < w.heap.size) (p : InA w' F' i most full' bs') (s : Stp F F' w w') (q : RfA w'' G' r (.int .i64 most) (.bool full') bs') (t : Stp G G' w' w'') : IpX w0 w'' i r most full' bs' := by
  have d1 := (s.other hG hd).2
  have g1 : ∀ x, G x → x < w'.heap.size := fun x e => Nat.lt_of_lt_of_le (hG x e) s.size
  have o := t.other p.lt (fun x e e' => d1 x e' e)
  refine ⟨F', G', p.keep o.1, q, fun x e e' => o.2 x e' e, s.ge h6.size h4, t.ge (Nat.le_trans h6.size s.size) h5, (h6.trans (s.below h6.size h4)).trans (t.below (Nat.le_trans h6.size s.size) h5)⟩
end

theorem deed_ad {w : World} {v : Value} {ds : List (Int × Value)} (hl : Rd w 2 v ds.length (ds.flatMap encD)) (hn : 0 < ds.length) : ∃ lb lo lc, v = .slice (some ⟨lb, lo, none⟩) ds.length lc := by
  obtain ⟨b', o', c', hv, _, hx⟩ := Rd.some hl hn (by decide)
  exact ⟨b', o', c', hv⟩
theorem deed_at {w w' : World} {lb lo n lc : Nat} {ds : List (Int × Value)} (hl : Rd w 2 (.slice (some ⟨lb, lo, none⟩) n lc) ds.length (ds.flatMap encD)) (hb : Below w.heap.size w w') {i : Nat} (hi : i < ds.length) :
    w'.cell? ⟨lb, lo + i * 2, none⟩ = some (.int .i64 ds[i].1) ∧ w'.cell? ⟨lb, lo + i * 2 + 1, none⟩ = some ds[i].2 := by
  obtain ⟨b', o', c', hv, _, hx⟩ := Rd.some (Rd.fr hl (Fr.of_below hb no) (fun _ _ e => e)) (by omega) (by decide)
  simp at hv
  obtain ⟨⟨rfl, rfl⟩, _, _⟩ := hv
  have h0 := Rd.el encD_len hx hi (j := 0) (by decide) rfl
  have h1 := Rd.el encD_len hx hi (j := 1) (by decide) rfl
  simp only [Nat.add_zero, ← Nat.add_assoc] at h0 h1
  exact ⟨h0, h1⟩

set_option maxHeartbeats 32000000 in
set_option maxRecDepth 100000 in
theorem playsL (most : Int) (v : Value) (ds : List (Int × Value)) (w : World) (hl : Rd w 2 v ds.length (ds.flatMap encD)) (hok : ∀ d ∈ ds, okD w d) : Calls Try.prog 6 #[.int .i64 most, v] w fun x w' => x = .returned (.bool true) ∧ Below w.heap.size w w' := by
  obtain ⟨la, lc, rfl⟩ := hl.len
  have Hl := Lib.hid hl
  have Hok := Lib.hid hok
  clear hl hok
  go_enter Try.func6, Try.ntmps6
  go_wp2_with fail
  refine (awake w).mono ?_
  rintro x w1 ⟨rfl, b1⟩
  have B1 := Lib.hid b1
  clear b1
  by_cases h200 : 200 < ds.length
  · have hd : decide ((200 : Int) < ds.length) = true := by simp; omega
    go_wp2_with fail
    go_ret
    exact ⟨rfl, B1.out⟩
  have hd : decide ((200 : Int) < ds.length) = false := by simp; omega
  have HR : Hid (ds.length ≤ 200) := by unfold Hid; omega
  clear h200
  go_wp2_with fail
  by_cases hmo : 1 ≤ most ∧ most ≤ 16
  · refine (inNew most hmo w1).mono ?_
    rintro x w2 ⟨i, F, rfl, h2, b2, g2⟩
    have H2 := Lib.hid (And.intro h2 (And.intro b2 g2))
    clear h2 b2 g2
    go_wp2_with fail
    refine (riYes most hmo w2).mono ?_
    rintro x w3 ⟨rfl, h3, b3⟩
    obtain ⟨r, hr⟩ : ∃ r, r = w2.heap.size := ⟨_, rfl⟩
    have ini : Hid (IpX w w3 i r most false []) := by
      have hb := B1.out.trans (H2.out.2.1.mono B1.out.size)
      rw [← hr] at h3
      refine ⟨F, _, H2.out.1.below b3, ⟨_, _, h3, fun _ => Iff.rfl⟩, fun x e e' => ?_, fun x e => Nat.le_trans B1.out.size (H2.out.2.2 x e), fun x e => ?_, hb.trans (b3.mono hb.size)⟩
      · have := H2.out.1.lt x e
        rcases e' with rfl | e' | ⟨v, hv, _⟩
        · omega
        · simp [Value.ownBlock] at e'
        · simp at hv
      · rcases e with rfl | e' | ⟨v, hv, _⟩
        · rw [hr]; exact hb.size
        · simp [Value.ownBlock] at e'
        · simp at hv
    rw [← hr]
    clear h3 b3 H2 hr
    obtain ⟨m1, m2⟩ := hmo
    go_wp2_with fail
    go_loopg [9] ds.length (fun g s9 wx => ∃ (k : Nat) (full : Bool) (bs : List (List Int)), s9 = .int .i64 k ∧ k ≤ ds.length ∧ g = ds.length - k ∧ Hid (bs.length ≤ k ∧ ∀ x ∈ bs, x.length ≤ 200) ∧ IpX w wx i r most full bs)
    case atStart => exact ⟨0, false, [], rfl, Nat.zero_le _, rfl, ⟨Nat.le_refl _, fun x hx => by simp at hx⟩, ini.out⟩
    case round =>
      obtain ⟨k, full, bs, rfl, hk, rfl, HB, hX⟩ := hrel
      have HX := Lib.hid hX
      clear hX ini
      by_cases hin : k < ds.length
      · have hd1 : decide ((k : Int) < ds.length) = true := by simp; omega
        obtain ⟨lb, lo, lc', hv⟩ := deed_ad Hl.out (by omega)
        simp at hv
        obtain ⟨rfl, rfl⟩ := hv
        have HDt : Hid (∀ W, Below w.heap.size w W → W.cell? ⟨lb, lo + k * 2, none⟩ = some (.int .i64 ds[k].1) ∧ W.cell? ⟨lb, lo + k * 2 + 1, none⟩ = some ds[k].2) := fun W hb => deed_at Hl.out hb hin
        obtain ⟨_, xb, hrd, _, _⟩ := Hok.out _ (List.getElem_mem hin)
        obtain ⟨ba, bc, hbv⟩ := hrd.len
        rw [hbv] at HDt hrd
        clear hbv
        generalize ds[k].1 = do' at HDt
        have Hrd := Lib.hid hrd
        have hk200 : (k : Int) ≤ 200 := by have := HR.out; omega
        have Hin := Lib.hid hin
        clear hrd
        obtain ⟨c0, c1⟩ := HDt.out wr HX.out.bel
        by_cases hs : 200 < xb.length
        · have hds : decide ((200 : Int) < xb.length) = true := by simp; omega
          go_wp2_with fail
          go_ret
          exact ⟨rfl, HX.out.bel⟩
        have hds : decide ((200 : Int) < xb.length) = false := by simp; omega
        have Hs : Hid (xb.length ≤ 200) := by unfold Hid; omega
        clear hs
        by_cases hd3 : do' ≤ 3
        · have hd3 : decide (do' ≤ 3) = true := by simpa using hd3
          go_wp2_with fail
          obtain ⟨F, G, hp, hq, hdj, hF, hG, hB⟩ := HX.out
          have HQ := Lib.hid hq
          have HK : Hid ((∀ x, F x → G x → False) ∧ (∀ x, F x → w.heap.size ≤ x) ∧ (∀ x, G x → w.heap.size ≤ x) ∧ Below w.heap.size w wr ∧ ∀ x, G x → x < wr.heap.size) := ⟨hdj, hF, hG, hB, hq.lt⟩
          by_cases hlt : (bs.length : Int) < most
          · refine (inPutYes hp (Hrd.out.fr hB) (by have := Hs.out; omega) (by have := HB.out.1; omega) hlt).mono ?_
            rintro x w4 ⟨rfl, F', h4, s4⟩
            obtain ⟨z, hz⟩ : ∃ z, (((bs.length + 1 : Nat) : Int) == most) = z := ⟨_, rfl⟩
            rw [hz] at h4 ⊢
            have Hz := Lib.hid hz
            clear hz
            have H4 := Lib.hid h4
            have S4 := Lib.hid s4
            have HQ4 : Hid (RfA w4 G r (.int .i64 most) (.bool full) bs) := HQ.out.keep (s4.other HQ.out.lt hdj).1
            have hb4 : Below w.heap.size w w4 := hB.trans (s4.below hB.size hF)
            obtain ⟨d0, d1⟩ := HDt.out w4 hb4
            have Hb4 := Lib.hid hb4
            clear hp hq hdj hF hG hB h4 s4 hb4 c0 c1
            go_wp2_with fail
            refine (rPutYes HQ4.out (Hrd.out.fr Hb4.out) (by have := Hs.out; omega) (by have := HB.out.1; omega) hlt).mono ?_
            rintro x w5 ⟨rfl, G', h5, s5⟩
            rw [Hz.out] at h5 ⊢
            have hPl : IpX w w5 i r most _ (bs ++ [xb]) := IpX.both HK.out.1 HK.out.2.1 HK.out.2.2.1 HK.out.2.2.2.1 HK.out.2.2.2.2 H4.out S4.out h5 s5
            have HB5 : Hid ((bs ++ [xb]).length ≤ k + 1 ∧ ∀ x ∈ bs ++ [xb], x.length ≤ 200) := ⟨by have := HB.out.1; simp; omega, fun x hx => by
              rcases List.mem_append.1 hx with hx | hx
              · exact HB.out.2 x hx
              · rw [List.mem_singleton.1 hx]; exact Hs.out⟩
            clear h5 s5 d0 d1 hlt
            clear Hz
            cases z
            all_goals
              obtain ⟨b9, hb9e⟩ : ∃ b9, b9 = bs ++ [xb] := ⟨_, rfl⟩
              rw [← hb9e] at hPl HB5
              clear hb9e
              obtain ⟨f9, hPl⟩ : ∃ f9, IpX w w5 i r most f9 b9 := ⟨_, hPl⟩
              cases f9
              all_goals
                have HP9 := Lib.hid hPl
                clear hPl
                obtain ⟨F9, G9, hb9, hr9, _, _, _, _⟩ := HP9.out
                obtain ⟨rv, rl, hr1, hr2⟩ := hr9
                obtain ⟨rva, rvc, hrv, _⟩ := own_shape hr1.own
                rw [hr1.it.1] at hrv
                subst hrv
                have q1 : ∀ p : After w5, p.w'.cell? ⟨r, 1, none⟩ = some (.bool _) := fun p => p.cell hr1.cell1
                have q2 : ∀ p : After w5, p.w'.cell? ⟨r, 2, none⟩ = some (.slice rva b9.length rvc) := fun p => p.cell hr1.cell2
                have HB9 := Lib.hid hb9
                clear hb9 hr1 hr2
                go_wp2_with fail
                refine wp_region_after (by kernel_rfl) (by kernel_rfl) ?_
                repeat (go_big_quiet_step ((first
                  | (go_at_call 14; exact Calls.after_of ((inLen (HB9.out.below (After.h _))).mono fun _ _ ⟨he, hw⟩ => ⟨he, by rw [hw]; exact Below.refl _ _⟩))
                  | (go_at_call 12; exact Calls.after_of ((ifull i _ _ (HB9.out.below (After.h _)).c1).mono fun _ _ ⟨he, hw⟩ => ⟨he, by rw [hw]; exact Below.refl _ _⟩))
                  | fail)))
                refine wpQuiet_nil ?_
                rintro wq ⟨⟨_, hbq⟩, rfl⟩
                clear q1 q2
                have HPq := Lib.hid (HP9.out.below hbq)
                clear hbq
                go_wp2_with fail
                go_roundg (ds.length - (k + 1))
                case measure => have := Hin.out; omega
                case rel => exact ⟨k + 1, _, b9, by go_num, (by have := Hin.out; omega), rfl, HB5, HPq.out⟩

          · refine (inPutNo hp (Hrd.out.fr hB) (by have := Hs.out; omega) (by have := HB.out.1; omega) (by omega)).mono ?_
            rintro x w4 ⟨rfl, F', h4, s4⟩
            have H4 := Lib.hid h4
            have S4 := Lib.hid s4
            have HQ4 : Hid (RfA w4 G r (.int .i64 most) (.bool full) bs) := HQ.out.keep (s4.other HQ.out.lt hdj).1
            have hb4 : Below w.heap.size w w4 := hB.trans (s4.below hB.size hF)
            obtain ⟨d0, d1⟩ := HDt.out w4 hb4
            have Hb4 := Lib.hid hb4
            clear hp hq hdj hF hG hB h4 s4 hb4 c0 c1
            go_wp2_with fail
            refine (rPutNo HQ4.out _ (by omega)).mono ?_
            rintro x w5 ⟨rfl, b5⟩
            have hPl : IpX w w5 i r most full bs := IpX.both HK.out.1 HK.out.2.1 HK.out.2.2.1 HK.out.2.2.2.1 HK.out.2.2.2.2 H4.out S4.out (HQ4.out.below b5) (Stp.of_below G b5)
            have HB5 : Hid (bs.length ≤ k + 1 ∧ ∀ x ∈ bs, x.length ≤ 200) := ⟨by have := HB.out.1; omega, HB.out.2⟩
            clear b5 d0 d1 hlt
            obtain ⟨b9, hb9e⟩ : ∃ b9, b9 = bs := ⟨_, rfl⟩
            rw [← hb9e] at hPl HB5
            clear hb9e
            obtain ⟨f9, hf9e⟩ : ∃ f9, f9 = full := ⟨_, rfl⟩
            rw [← hf9e] at hPl
            clear hf9e
            cases f9
            all_goals
              have HP9 := Lib.hid hPl
              clear hPl
              obtain ⟨F9, G9, hb9, hr9, _, _, _, _⟩ := HP9.out
              obtain ⟨rv, rl, hr1, hr2⟩ := hr9
              obtain ⟨rva, rvc, hrv, _⟩ := own_shape hr1.own
              rw [hr1.it.1] at hrv
              subst hrv
              have q1 : ∀ p : After w5, p.w'.cell? ⟨r, 1, none⟩ = some (.bool _) := fun p => p.cell hr1.cell1
              have q2 : ∀ p : After w5, p.w'.cell? ⟨r, 2, none⟩ = some (.slice rva b9.length rvc) := fun p => p.cell hr1.cell2
              have HB9 := Lib.hid hb9
              clear hb9 hr1 hr2
              go_wp2_with fail
              refine wp_region_after (by kernel_rfl) (by kernel_rfl) ?_
              repeat (go_big_quiet_step ((first
                | (go_at_call 14; exact Calls.after_of ((inLen (HB9.out.below (After.h _))).mono fun _ _ ⟨he, hw⟩ => ⟨he, by rw [hw]; exact Below.refl _ _⟩))
                | (go_at_call 12; exact Calls.after_of ((ifull i _ _ (HB9.out.below (After.h _)).c1).mono fun _ _ ⟨he, hw⟩ => ⟨he, by rw [hw]; exact Below.refl _ _⟩))
                | fail)))
              refine wpQuiet_nil ?_
              rintro wq ⟨⟨_, hbq⟩, rfl⟩
              clear q1 q2
              have HPq := Lib.hid (HP9.out.below hbq)
              clear hbq
              go_wp2_with fail
              go_roundg (ds.length - (k + 1))
              case measure => have := Hin.out; omega
              case rel => exact ⟨k + 1, _, b9, by go_num, (by have := Hin.out; omega), rfl, HB5, HPq.out⟩
        · have hd3 : decide (do' ≤ 3) = false := by simpa using hd3
          by_cases hd6 : do' ≤ 6
          · have hd6 : decide (do' ≤ 6) = true := by simpa using hd6
            go_wp2_with fail
            cases bs with
            | nil =>
              obtain ⟨F, G, hp, hq, hdj, hF, hG, hB⟩ := HX.out
              have HQ := Lib.hid hq
              have HK : Hid ((∀ x, F x → G x → False) ∧ (∀ x, F x → w.heap.size ≤ x) ∧ (∀ x, G x → w.heap.size ≤ x) ∧ Below w.heap.size w wr ∧ ∀ x, G x → x < wr.heap.size) := ⟨hdj, hF, hG, hB, hq.lt⟩
              refine (inTakeNo hp).mono ?_
              rintro x w4 ⟨rfl, h4, b4⟩
              have s4 := Stp.of_below F b4
              have H4 := Lib.hid h4
              have S4 := Lib.hid s4
              have HQ4 : Hid (RfA w4 G r (.int .i64 most) (.bool full) []) := HQ.out.keep (s4.other HQ.out.lt hdj).1
              have hb4 : Below w.heap.size w w4 := hB.trans (s4.below hB.size hF)
              obtain ⟨d0, d1⟩ := HDt.out w4 hb4
              have Hb4 := Lib.hid hb4
              clear hp hq hdj hF hG hB h4 s4 hb4 c0 c1
              clear b4
              go_wp2_with fail
              refine (rTakeNo HQ4.out).mono ?_
              rintro x w5 ⟨rfl, rfl⟩
              have hPl0 : IpX w w5 i r most full [] := IpX.both HK.out.1 HK.out.2.1 HK.out.2.2.1 HK.out.2.2.2.1 HK.out.2.2.2.2 H4.out S4.out HQ4.out (Stp.refl G _)
              have HPl0 := Lib.hid hPl0
              have HB5 : Hid (([] : List (List Int)).length ≤ k + 1 ∧ ∀ x ∈ ([] : List (List Int)), x.length ≤ 200) := ⟨by simp, fun x hx => by simp at hx⟩
              clear hPl0 d0 d1
              go_wp2_with fail
              have rn : RdB w5 (.slice none 0 0) [] := ⟨rfl, none, 0, rfl, fun _ => ⟨rfl, rfl⟩, fun _ e => by cases e⟩
              refine (sameRows _ _ [] [] w5 rn rn (by decide)).mono ?_
              rintro x w6 ⟨rfl, b6⟩
              rw [sameB_self]
              have hPl := HPl0.out.below b6
              clear b6 rn
              obtain ⟨b9, hb9e⟩ : ∃ b9, b9 = ([] : List (List Int)) := ⟨_, rfl⟩
              rw [← hb9e] at hPl HB5
              clear hb9e
              obtain ⟨f9, hf9e⟩ : ∃ f9, f9 = full := ⟨_, rfl⟩
              rw [← hf9e] at hPl
              clear hf9e
              cases f9
              all_goals
                have HP9 := Lib.hid hPl
                clear hPl
                obtain ⟨F9, G9, hb9, hr9, _, _, _, _⟩ := HP9.out
                obtain ⟨rv, rl, hr1, hr2⟩ := hr9
                obtain ⟨rva, rvc, hrv, _⟩ := own_shape hr1.own
                rw [hr1.it.1] at hrv
                subst hrv
                have q1 : ∀ p : After w6, p.w'.cell? ⟨r, 1, none⟩ = some (.bool _) := fun p => p.cell hr1.cell1
                have q2 : ∀ p : After w6, p.w'.cell? ⟨r, 2, none⟩ = some (.slice rva b9.length rvc) := fun p => p.cell hr1.cell2
                have HB9 := Lib.hid hb9
                clear hb9 hr1 hr2
                go_wp2_with fail
                refine wp_region_after (by kernel_rfl) (by kernel_rfl) ?_
                repeat (go_big_quiet_step ((first
                  | (go_at_call 14; exact Calls.after_of ((inLen (HB9.out.below (After.h _))).mono fun _ _ ⟨he, hw⟩ => ⟨he, by rw [hw]; exact Below.refl _ _⟩))
                  | (go_at_call 12; exact Calls.after_of ((ifull i _ _ (HB9.out.below (After.h _)).c1).mono fun _ _ ⟨he, hw⟩ => ⟨he, by rw [hw]; exact Below.refl _ _⟩))
                  | fail)))
                refine wpQuiet_nil ?_
                rintro wq ⟨⟨_, hbq⟩, rfl⟩
                clear q1 q2
                have HPq := Lib.hid (HP9.out.below hbq)
                clear hbq
                go_wp2_with fail
                go_roundg (ds.length - (k + 1))
                case measure => have := Hin.out; omega
                case rel => exact ⟨k + 1, _, b9, by go_num, (by have := Hin.out; omega), rfl, HB5, HPq.out⟩
            | cons y bs =>
              obtain ⟨F, G, hp, hq, hdj, hF, hG, hB⟩ := HX.out
              have HQ := Lib.hid hq
              have HK : Hid ((∀ x, F x → G x → False) ∧ (∀ x, F x → w.heap.size ≤ x) ∧ (∀ x, G x → w.heap.size ≤ x) ∧ Below w.heap.size w wr ∧ ∀ x, G x → x < wr.heap.size) := ⟨hdj, hF, hG, hB, hq.lt⟩
              have hyl : y.length ≤ 200 := HB.out.2 y (List.mem_cons_self ..)
              have hbl : bs.length ≤ 200 := by have := HB.out.1; rw [List.length_cons] at this; omega
              refine (inTakeYes hp (by omega) (by omega)).mono ?_
              rintro x w4 ⟨xa, xk, rfl, rd4, xF, F', h4, s4⟩
              have Rd4 := Lib.hid rd4
              have XF := Lib.hid xF
              have H4 := Lib.hid h4
              have S4 := Lib.hid s4
              have HQ4 : Hid (RfA w4 G r (.int .i64 most) (.bool full) (y :: bs)) := HQ.out.keep (s4.other HQ.out.lt hdj).1
              have hb4 : Below w.heap.size w w4 := hB.trans (s4.below hB.size hF)
              obtain ⟨d0, d1⟩ := HDt.out w4 hb4
              have Hb4 := Lib.hid hb4
              clear hp hq hdj hF hG hB h4 s4 hb4 c0 c1
              clear rd4 xF
              go_wp2_with fail
              refine (rTakeYes HQ4.out (by omega) (by omega)).mono ?_
              rintro x w5 ⟨ya, yk, rfl, rd5, G', h5, s5⟩
              have Rd5 := Lib.hid rd5
              have R45 : Hid (RdB w5 (.slice xa y.length xk) y) := Rd.fr Rd4.out s5.fr (fun g hg e => HK.out.1 g (XF.out g hg) e)
              have hPl0 : IpX w w5 i r most _ bs := IpX.both HK.out.1 HK.out.2.1 HK.out.2.2.1 HK.out.2.2.2.1 HK.out.2.2.2.2 H4.out S4.out h5 s5
              have HB5 : Hid (bs.length ≤ k + 1 ∧ ∀ x ∈ bs, x.length ≤ 200) := ⟨by have := HB.out.1; rw [List.length_cons] at this; omega, fun x hx => HB.out.2 x (List.mem_cons_of_mem _ hx)⟩
              clear h5 s5 d0 d1 rd5
              generalize freeB full bs.length most = z at hPl0 ⊢
              have HPl0 := Lib.hid hPl0
              have Hyl := Lib.hid hyl
              clear hPl0 hyl
              cases z
              all_goals
                go_wp2_with fail
                refine (sameRows _ _ y y w5 R45.out Rd5.out (by have := Hyl.out; omega)).mono ?_
                rintro x w6 ⟨rfl, b6⟩
                rw [sameB_self]
                have hPl := HPl0.out.below b6
                clear b6
                obtain ⟨b9, hb9e⟩ : ∃ b9, b9 = bs := ⟨_, rfl⟩
                rw [← hb9e] at hPl HB5
                clear hb9e
                obtain ⟨f9, hPl⟩ : ∃ f9, IpX w w6 i r most f9 b9 := ⟨_, hPl⟩
                cases f9
                all_goals
                  have HP9 := Lib.hid hPl
                  clear hPl
                  obtain ⟨F9, G9, hb9, hr9, _, _, _, _⟩ := HP9.out
                  obtain ⟨rv, rl, hr1, hr2⟩ := hr9
                  obtain ⟨rva, rvc, hrv, _⟩ := own_shape hr1.own
                  rw [hr1.it.1] at hrv
                  subst hrv
                  have q1 : ∀ p : After w6, p.w'.cell? ⟨r, 1, none⟩ = some (.bool _) := fun p => p.cell hr1.cell1
                  have q2 : ∀ p : After w6, p.w'.cell? ⟨r, 2, none⟩ = some (.slice rva b9.length rvc) := fun p => p.cell hr1.cell2
                  have HB9 := Lib.hid hb9
                  clear hb9 hr1 hr2
                  go_wp2_with fail
                  refine wp_region_after (by kernel_rfl) (by kernel_rfl) ?_
                  repeat (go_big_quiet_step ((first
                    | (go_at_call 14; exact Calls.after_of ((inLen (HB9.out.below (After.h _))).mono fun _ _ ⟨he, hw⟩ => ⟨he, by rw [hw]; exact Below.refl _ _⟩))
                    | (go_at_call 12; exact Calls.after_of ((ifull i _ _ (HB9.out.below (After.h _)).c1).mono fun _ _ ⟨he, hw⟩ => ⟨he, by rw [hw]; exact Below.refl _ _⟩))
                    | fail)))
                  refine wpQuiet_nil ?_
                  rintro wq ⟨⟨_, hbq⟩, rfl⟩
                  clear q1 q2
                  have HPq := Lib.hid (HP9.out.below hbq)
                  clear hbq
                  go_wp2_with fail
                  go_roundg (ds.length - (k + 1))
                  case measure => have := Hin.out; omega
                  case rel => exact ⟨k + 1, _, b9, by go_num, (by have := Hin.out; omega), rfl, HB5, HPq.out⟩

          · have hd6 : decide (do' ≤ 6) = false := by simpa using hd6
            go_wp2_with fail
            obtain ⟨F, G, hp, hq, hdj, hF, hG, hB⟩ := HX.out
            have HQ := Lib.hid hq
            have HK : Hid ((∀ x, F x → G x → False) ∧ (∀ x, F x → w.heap.size ≤ x) ∧ (∀ x, G x → w.heap.size ≤ x) ∧ Below w.heap.size w wr ∧ ∀ x, G x → x < wr.heap.size) := ⟨hdj, hF, hG, hB, hq.lt⟩
            refine (inClear hp (by have := HB.out.1; omega)).mono ?_
            rintro x w4 ⟨rfl, F', h4, s4⟩
            have H4 := Lib.hid h4
            have S4 := Lib.hid s4
            have HQ4 : Hid (RfA w4 G r (.int .i64 most) (.bool full) bs) := HQ.out.keep (s4.other HQ.out.lt hdj).1
            have hb4 : Below w.heap.size w w4 := hB.trans (s4.below hB.size hF)
            obtain ⟨d0, d1⟩ := HDt.out w4 hb4
            have Hb4 := Lib.hid hb4
            clear hp hq hdj hF hG hB h4 s4 hb4 c0 c1
            go_wp2_with fail
            refine (rClear HQ4.out ⟨full, rfl⟩).mono ?_
            rintro x w5 ⟨rfl, G', h5, s5⟩
            have hPl : IpX w w5 i r most false [] := IpX.both HK.out.1 HK.out.2.1 HK.out.2.2.1 HK.out.2.2.2.1 HK.out.2.2.2.2 H4.out S4.out h5 s5
            have HB5 : Hid (([] : List (List Int)).length ≤ k + 1 ∧ ∀ x ∈ ([] : List (List Int)), x.length ≤ 200) := ⟨by simp, fun x hx => by simp at hx⟩
            clear h5 s5 d0 d1
            obtain ⟨b9, hb9e⟩ : ∃ b9, b9 = ([] : List (List Int)) := ⟨_, rfl⟩
            rw [← hb9e] at hPl HB5
            clear hb9e
            obtain ⟨f9, hf9e⟩ : ∃ f9, f9 = false := ⟨_, rfl⟩
            rw [← hf9e] at hPl
            clear hf9e
            cases f9
            all_goals
              have HP9 := Lib.hid hPl
              clear hPl
              obtain ⟨F9, G9, hb9, hr9, _, _, _, _⟩ := HP9.out
              obtain ⟨rv, rl, hr1, hr2⟩ := hr9
              obtain ⟨rva, rvc, hrv, _⟩ := own_shape hr1.own
              rw [hr1.it.1] at hrv
              subst hrv
              have q1 : ∀ p : After w5, p.w'.cell? ⟨r, 1, none⟩ = some (.bool _) := fun p => p.cell hr1.cell1
              have q2 : ∀ p : After w5, p.w'.cell? ⟨r, 2, none⟩ = some (.slice rva b9.length rvc) := fun p => p.cell hr1.cell2
              have HB9 := Lib.hid hb9
              clear hb9 hr1 hr2
              go_wp2_with fail
              refine wp_region_after (by kernel_rfl) (by kernel_rfl) ?_
              repeat (go_big_quiet_step ((first
                | (go_at_call 14; exact Calls.after_of ((inLen (HB9.out.below (After.h _))).mono fun _ _ ⟨he, hw⟩ => ⟨he, by rw [hw]; exact Below.refl _ _⟩))
                | (go_at_call 12; exact Calls.after_of ((ifull i _ _ (HB9.out.below (After.h _)).c1).mono fun _ _ ⟨he, hw⟩ => ⟨he, by rw [hw]; exact Below.refl _ _⟩))
                | fail)))
              refine wpQuiet_nil ?_
              rintro wq ⟨⟨_, hbq⟩, rfl⟩
              clear q1 q2
              have HPq := Lib.hid (HP9.out.below hbq)
              clear hbq
              go_wp2_with fail
              go_roundg (ds.length - (k + 1))
              case measure => have := Hin.out; omega
              case rel => exact ⟨k + 1, _, b9, by go_num, (by have := Hin.out; omega), rfl, HB5, HPq.out⟩
      · have hd1 : decide ((k : Int) < ds.length) = false := by simp; omega
        go_wp2_with fail
        go_ret
        exact ⟨rfl, HX.out.bel⟩
  · refine (inewNo most (by omega) w1).mono ?_
    rintro x w2 ⟨rfl, rfl⟩
    go_wp2_with fail
    refine (riNo most (by omega) w2).mono ?_
    rintro x w3 ⟨rfl, rfl⟩
    go_wp2_with fail
    go_ret
    exact ⟨rfl, B1.out⟩
end Go.Proofs.Ytfibajfhaadnfaa
