/-
  Layer 18: BackPlays: the walk.
-/
import Derived.Test.YtlpkjnafmknddaaL18D
import Derived.Test.YtlpkjnafmknddaaRfb2
namespace Go.Proofs.Ytlpkjnafmknddaa
open Go.RowKit
set_option linter.unusedVariables false


/-- The two backs, the program's at b, the reference's at r. -/
def PlX (w0 w : World) (b r : Nat) (most : Int) (out : Nat) (bs : List (List Int)) : Prop :=
  ∃ F G, BkA w F b most out bs ∧ RfA w G r (.int .i64 most) (.int .i64 out) bs ∧ (∀ x, F x → G x → False) ∧ (∀ x, F x → w0.heap.size ≤ x) ∧ (∀ x, G x → w0.heap.size ≤ x) ∧ Below w0.heap.size w0 w

section
variable {w0 w w' w'' : World} {b r : Nat} {most : Int} {out : Nat} {bs : List (List Int)}
theorem PlX.bel (h : PlX w0 w b r most out bs) : Below w0.heap.size w0 w := by obtain ⟨F, G, _, _, _, _, _, h⟩ := h; exact h
theorem PlX.below (h : PlX w0 w b r most out bs) (hb : Below w.heap.size w w') : PlX w0 w' b r most out bs := by
  obtain ⟨F, G, h1, h2, h3, h4, h5, h6⟩ := h
  exact ⟨F, G, h1.below hb, h2.below hb, h3, h4, h5, h6.trans (hb.mono h6.size)⟩
theorem PlX.le (h : PlX w0 w b r most out bs) : out ≤ bs.length ∧ (bs.length : Int) ≤ most := by obtain ⟨F, G, h, _⟩ := h; exact h.le
/-- The program's step, then the reference's. -/
theorem PlX.both {F G F' G' : Nat → Prop} {out' : Nat} {bs' : List (List Int)} (hd : ∀ x, F x → G x → False) (h4 : ∀ x, F x → w0.heap.size ≤ x) (h5 : ∀ x, G x → w0.heap.size ≤ x) (h6 : Below w0.heap.size w0 w)
    (hG : ∀ x, G x → x < w.heap.size) (p : BkA w' F' b most out' bs') (s : Stp F F' w w') (q : RfA w'' G' r (.int .i64 most) (.int .i64 out') bs') (t : Stp G G' w' w'') : PlX w0 w'' b r most out' bs' := by
  have d1 := (s.other hG hd).2
  have g1 : ∀ x, G x → x < w'.heap.size := fun x e => Nat.lt_of_lt_of_le (hG x e) s.size
  have o := t.other p.lt (fun x e e' => d1 x e' e)
  refine ⟨F', G', p.keep o.1, q, fun x e e' => o.2 x e' e, s.ge h6.size h4, t.ge (Nat.le_trans h6.size s.size) h5, (h6.trans (s.below h6.size h4)).trans (t.below (Nat.le_trans h6.size s.size) h5)⟩
end

set_option maxHeartbeats 32000000 in
set_option maxRecDepth 100000 in
theorem playsL (most : Int) (hm0 : -9223372036854775808 ≤ most ∧ most ≤ 9223372036854775807) (v : Value) (ds : List Dd) (w : World) (hl : Rd w 3 v ds.length (ds.flatMap encD)) (hok : ∀ d ∈ ds, okD w d) : Calls Try.prog 6 #[.int .i64 most, v] w fun x w' => x = .returned (.bool true) ∧ Below w.heap.size w w' := by
  obtain ⟨la, lc, rfl⟩ := hl.len
  have Hl := Lib.hid hl
  have Hok := Lib.hid hok
  clear hl hok
  go_enter Try.func6, Try.ntmps6
  go_wp2_with fail
  refine (awake w).mono ?_
  rintro x w1 ⟨rfl, b1⟩
  have B1 := Lib.hid b1
  clear b1
  go_wp2_with fail
  refine (room _ ds w1 (Hl.out.fr (Fr.of_below B1.out no) (fun _ _ e => e)) (fun d hd => ⟨(Hok.out d hd).1, (Hok.out d hd).2.1, (Hok.out d hd).2.2.fr B1.out⟩)).mono ?_
  rintro x w2 ⟨rfl, rfl⟩
  cases hr : roomB ds with
  | false =>
    clear hr
    go_wp2_with fail
    go_ret
    exact ⟨rfl, B1.out⟩
  | true =>
    have HR : Hid (ds.length ≤ 300) := roomB_few hr
    have HRs : Hid (∀ i (hi : i < ds.length), ds[i].2.2.2.length ≤ 200) := fun i hi => roomB_small hr hi
    clear hr
    by_cases hmo : 1000 < most
    · have hd : decide ((1000 : Int) < most) = true := by simpa using hmo
      go_wp2_with fail
      go_ret
      exact ⟨rfl, B1.out⟩
    have hd : decide ((1000 : Int) < most) = false := by simpa using hmo
    clear hmo
    go_wp2_with fail
    refine (bNew most (by have := hm0.2; omega) w2).mono ?_
    rintro x w3 ⟨b, F, rfl, h3, b3, g3⟩
    obtain ⟨M, hM⟩ : ∃ M, M = max most 0 := ⟨_, rfl⟩
    rw [← hM] at h3
    have ini : ∀ q : Int, q = M → Hid (PlX w (w3.alloc (.cells #[.int .i64 q, .int .i64 0, .slice none 0 0] 40)) b w3.heap.size M 0 []) := fun q hq => by
      subst hq
      have hal := (Below.refl w3.heap.size w3).alloc (Nat.le_refl _) (.cells #[.int .i64 q, .int .i64 0, .slice none 0 0] 40)
      have hb := B1.out.trans (b3.mono B1.out.size)
      refine ⟨F, _, h3.below hal, ⟨.slice none 0 0, [], ⟨heap_alloc_new' w3 _, Own.nil _ _ _ _ _, ItemsB.nil _⟩, fun _ => Iff.rfl⟩, fun x e e' => ?_, fun x e => Nat.le_trans B1.out.size (g3 x e), fun x e => ?_, hb.trans (hal.mono hb.size)⟩
      · have := h3.lt x e
        rcases e' with rfl | e' | ⟨v, hv, _⟩
        · omega
        · simp [Value.ownBlock] at e'
        · simp at hv
      · rcases e with rfl | e' | ⟨v, hv, _⟩
        · exact hb.size
        · simp [Value.ownBlock] at e'
        · simp at hv
    have Ini := Lib.hid ini
    obtain ⟨r, hr⟩ : ∃ r, r = w3.heap.size := ⟨_, rfl⟩
    clear ini h3 b3 g3
    have main : ∀ W, PlX w W b r M 0 [] → Hid (PlX w W b r M 0 []) := fun W h => h
    have hsp : (most < 0 ∧ M = 0) ∨ (0 ≤ most ∧ M = most) := by omega
    have HM := Lib.hid hM
    clear hM
    rcases hsp with ⟨hm1, hm2⟩ | ⟨hm1, hm2⟩
    · have I := (Ini.out 0 (by omega)).out
      rw [← hr] at I
      have HI := Lib.hid I
      clear I hm2
      go_wp2_with fail
      rw [← hr]
      clear hr
      go_loopg [7] ds.length (fun g s7 wx => ∃ (i out : Nat) (bs : List (List Int)), s7 = .int .i64 i ∧ i ≤ ds.length ∧ g = ds.length - i ∧ Hid (bs.length ≤ i ∧ ∀ x ∈ bs, x.length ≤ 200) ∧ PlX w wx b r M out bs)
      case atStart => exact ⟨0, 0, [], rfl, Nat.zero_le _, rfl, ⟨Nat.le_refl _, fun x hx => by simp at hx⟩, HI.out⟩
      case round =>
        obtain ⟨i, out, bs, rfl, hi, rfl, HB, hX⟩ := hrel
        have HX := Lib.hid hX
        clear hX HI
        by_cases hin : i < ds.length
        · have hd1 : decide ((i : Int) < ds.length) = true := by simp; omega
          obtain ⟨lb, lo, lc', hv⟩ := deed_ad Hl.out (by omega)
          simp at hv
          obtain ⟨rfl, rfl⟩ := hv
          have HDt : Hid (∀ W, Below w.heap.size w W → W.cell? ⟨lb, lo + i * 3, none⟩ = some (.int .i64 ds[i].1) ∧ W.cell? ⟨lb, lo + i * 3 + 1, none⟩ = some (.int .i64 ds[i].2.1) ∧ W.cell? ⟨lb, lo + i * 3 + 2, none⟩ = some ds[i].2.2.1) := fun W hb => deed_at Hl.out hb hin
          have hrd := (Hok.out _ (List.getElem_mem hin)).2.2
          have hs200 := HRs.out i hin
          obtain ⟨ba, bc, hbv⟩ := hrd.len
          rw [hbv] at HDt hrd
          clear hbv
          generalize ds[i].2.2.2 = xb at HDt hrd hs200
          generalize ds[i].1 = do' at HDt
          generalize ds[i].2.1 = n' at HDt
          have Hrd := Lib.hid hrd
          have Hs := Lib.hid hs200
          have hi300 : (i : Int) ≤ 300 := by have := HR.out; omega
          have Hin := Lib.hid hin
          clear hrd hs200 hin
          obtain ⟨c0, c1, c2⟩ := HDt.out wr HX.out.bel
          by_cases hd3 : do' ≤ 3
          · have hd3 : decide (do' ≤ 3) = true := by simpa using hd3
            go_wp2_with fail
            obtain ⟨F, G, hp, hq, hdj, hF, hG, hB⟩ := HX.out
            have HQ := Lib.hid hq
            have HK : Hid ((∀ x, F x → G x → False) ∧ (∀ x, F x → w.heap.size ≤ x) ∧ (∀ x, G x → w.heap.size ≤ x) ∧ Below w.heap.size w wr ∧ ∀ x, G x → x < wr.heap.size) := ⟨hdj, hF, hG, hB, hq.lt⟩
            refine (bPut hp (Hrd.out.fr hB) (by have := Hs.out; omega) (by have := HB.out.1; omega)).mono ?_
            rintro x w4 ⟨rfl, F', h4, s4⟩
            have H4 := Lib.hid h4
            have S4 := Lib.hid s4
            have HQ4 : Hid (RfA w4 G r (.int .i64 M) (.int .i64 out) bs) := HQ.out.keep (s4.other HQ.out.lt hdj).1
            have hb4 : Below w.heap.size w w4 := hB.trans (s4.below hB.size hF)
            obtain ⟨d0, d1, d2⟩ := HDt.out w4 hb4
            have Hb4 := Lib.hid hb4
            clear hp hq hdj hF hG hB h4 s4 hb4 c0 c1 c2
            by_cases hlt : (bs.length : Int) < M
            · have hdl : decide ((bs.length : Int) < M) = true := by simpa using hlt
              rw [show putB M bs xb = bs ++ [xb] from if_pos hlt] at H4
              rw [hdl]
              clear hdl
              go_wp2_with fail
              refine (rPutYes HQ4.out (Hrd.out.fr Hb4.out) (by have := Hs.out; omega) (by have := HB.out.1; omega) hlt).mono ?_
              rintro x w5 ⟨rfl, G', h5, s5⟩
              have hPl : PlX w w5 b r M out (bs ++ [xb]) := PlX.both HK.out.1 HK.out.2.1 HK.out.2.2.1 HK.out.2.2.2.1 HK.out.2.2.2.2 H4.out S4.out h5 s5
              have HB5 : Hid ((bs ++ [xb]).length ≤ i + 1 ∧ ∀ x ∈ bs ++ [xb], x.length ≤ 200) := ⟨by have := HB.out.1; simp; omega, fun x hx => by
                rcases List.mem_append.1 hx with hx | hx
                · exact HB.out.2 x hx
                · rw [List.mem_singleton.1 hx]; exact Hs.out⟩
              clear h5 s5 d0 d1 d2 hlt
              obtain ⟨b9, hb9e⟩ : ∃ b9, b9 = bs ++ [xb] := ⟨_, rfl⟩
              rw [← hb9e] at hPl HB5
              clear hb9e
              have HP9 := Lib.hid hPl
              obtain ⟨F9, G9, hb9, hr9, _, _, _, _⟩ := hPl
              obtain ⟨rv, rl, hr1, hr2⟩ := hr9
              obtain ⟨rva, rvc, hrv, _⟩ := own_shape hr1.own
              rw [hr1.it.1] at hrv
              subst hrv
              have q1 : ∀ p : After w5, p.w'.cell? ⟨r, 1, none⟩ = some (.int .i64 out) := fun p => p.cell hr1.cell1
              have q2 : ∀ p : After w5, p.w'.cell? ⟨r, 2, none⟩ = some (.slice rva b9.length rvc) := fun p => p.cell hr1.cell2
              have HB9 := Lib.hid hb9
              clear hb9 hr1 hr2
              go_wp2_with fail
              have hw9 : IntKind.i64.wrap ((b9.length : Int) - (out : Int)) = (b9.length : Int) - (out : Int) := IntWalk.i64_in _ (by have := HB5.out.1; have := HP9.out.le.1; have := HR.out; have := Hin.out; omega)
              refine wp_region_after (by kernel_rfl) (by kernel_rfl) ?_
              repeat (go_big_quiet_step ((first
                | (go_at_call 16; exact Calls.after_of ((bLen (HB9.out.below (After.h _))).mono fun _ _ ⟨he, hw⟩ => ⟨he, by rw [hw]; exact Below.refl _ _⟩))
                | (go_at_call 13; exact Calls.after_of ((bOutA (HB9.out.below (After.h _))).mono fun _ _ ⟨he, hw⟩ => ⟨he, by rw [hw]; exact Below.refl _ _⟩))
                | (go_at_call 14; exact Calls.after_of ((bWaits (HB9.out.below (After.h _)) (by have := HB5.out.1; omega)).mono fun _ _ ⟨he, hw⟩ => ⟨he, by rw [hw]; exact Below.refl _ _⟩))
                | fail)))
              refine wpQuiet_nil ?_
              rintro wq ⟨⟨_, hbq⟩, rfl⟩
              clear q1 q2 hw9
              have HPq := Lib.hid (HP9.out.below hbq)
              clear hbq
              go_wp2_with fail
              go_roundg (ds.length - (i + 1))
              case measure => have := Hin.out; omega
              case rel => exact ⟨i + 1, out, b9, by go_num, (by have := Hin.out; omega), rfl, HB5, HPq.out⟩
            · have hdl : decide ((bs.length : Int) < M) = false := by simpa using hlt
              rw [show putB M bs xb = bs from if_neg hlt] at H4
              rw [hdl]
              clear hdl
              go_wp2_with fail
              refine (rPutNo HQ4.out _ (by omega)).mono ?_
              rintro x w5 ⟨rfl, b5⟩
              have hPl : PlX w w5 b r M out bs := PlX.both HK.out.1 HK.out.2.1 HK.out.2.2.1 HK.out.2.2.2.1 HK.out.2.2.2.2 H4.out S4.out (HQ4.out.below b5) (Stp.of_below G b5)
              have HB5 : Hid (bs.length ≤ i + 1 ∧ ∀ x ∈ bs, x.length ≤ 200) := ⟨by have := HB.out.1; omega, HB.out.2⟩
              clear b5 d0 d1 d2 hlt
              obtain ⟨b9, hb9e⟩ : ∃ b9, b9 = bs := ⟨_, rfl⟩
              rw [← hb9e] at hPl HB5
              clear hb9e
              have HP9 := Lib.hid hPl
              obtain ⟨F9, G9, hb9, hr9, _, _, _, _⟩ := hPl
              obtain ⟨rv, rl, hr1, hr2⟩ := hr9
              obtain ⟨rva, rvc, hrv, _⟩ := own_shape hr1.own
              rw [hr1.it.1] at hrv
              subst hrv
              have q1 : ∀ p : After w5, p.w'.cell? ⟨r, 1, none⟩ = some (.int .i64 out) := fun p => p.cell hr1.cell1
              have q2 : ∀ p : After w5, p.w'.cell? ⟨r, 2, none⟩ = some (.slice rva b9.length rvc) := fun p => p.cell hr1.cell2
              have HB9 := Lib.hid hb9
              clear hb9 hr1 hr2
              go_wp2_with fail
              have hw9 : IntKind.i64.wrap ((b9.length : Int) - (out : Int)) = (b9.length : Int) - (out : Int) := IntWalk.i64_in _ (by have := HB5.out.1; have := HP9.out.le.1; have := HR.out; have := Hin.out; omega)
              refine wp_region_after (by kernel_rfl) (by kernel_rfl) ?_
              repeat (go_big_quiet_step ((first
                | (go_at_call 16; exact Calls.after_of ((bLen (HB9.out.below (After.h _))).mono fun _ _ ⟨he, hw⟩ => ⟨he, by rw [hw]; exact Below.refl _ _⟩))
                | (go_at_call 13; exact Calls.after_of ((bOutA (HB9.out.below (After.h _))).mono fun _ _ ⟨he, hw⟩ => ⟨he, by rw [hw]; exact Below.refl _ _⟩))
                | (go_at_call 14; exact Calls.after_of ((bWaits (HB9.out.below (After.h _)) (by have := HB5.out.1; omega)).mono fun _ _ ⟨he, hw⟩ => ⟨he, by rw [hw]; exact Below.refl _ _⟩))
                | fail)))
              refine wpQuiet_nil ?_
              rintro wq ⟨⟨_, hbq⟩, rfl⟩
              clear q1 q2 hw9
              have HPq := Lib.hid (HP9.out.below hbq)
              clear hbq
              go_wp2_with fail
              go_roundg (ds.length - (i + 1))
              case measure => have := Hin.out; omega
              case rel => exact ⟨i + 1, out, b9, by go_num, (by have := Hin.out; omega), rfl, HB5, HPq.out⟩
          · have hd3 : decide (do' ≤ 3) = false := by simpa using hd3
            by_cases hd6 : do' ≤ 6
            · have hd6 : decide (do' ≤ 6) = true := by simpa using hd6
              go_wp2_with fail
              obtain ⟨F, G, hp, hq, hdj, hF, hG, hB⟩ := HX.out
              have HQ := Lib.hid hq
              have HK : Hid ((∀ x, F x → G x → False) ∧ (∀ x, F x → w.heap.size ≤ x) ∧ (∀ x, G x → w.heap.size ≤ x) ∧ Below w.heap.size w wr ∧ ∀ x, G x → x < wr.heap.size) := ⟨hdj, hF, hG, hB, hq.lt⟩
              by_cases hlt : out < bs.length
              · obtain ⟨y, hy⟩ : ∃ y, bs[out]? = some y := ⟨_, List.getElem?_eq_getElem hlt⟩
                have hye : bs[out] = y := (List.getElem?_eq_some_iff.1 hy).2
                have hyl : y.length ≤ 200 := HB.out.2 y (List.mem_of_getElem? hy)
                have Hy := Lib.hid (And.intro hy hyl)
                refine (bNextYes hp hlt (by have := HB.out.1; omega) (by rw [hye]; omega)).mono ?_
                rintro x w4 ⟨vx, rfl, o4, h4, s4⟩
                rw [hye] at o4
                have O4 := Lib.hid o4
                obtain ⟨vxa, vxk, rfl, _⟩ := own_shape o4
                clear hye hy hyl
                have H4 := Lib.hid h4
                have S4 := Lib.hid s4
                have HQ4 : Hid (RfA w4 G r (.int .i64 M) (.int .i64 out) bs) := HQ.out.keep (s4.other HQ.out.lt hdj).1
                have hb4 : Below w.heap.size w w4 := hB.trans (s4.below hB.size hF)
                obtain ⟨d0, d1, d2⟩ := HDt.out w4 hb4
                have Hb4 := Lib.hid hb4
                clear hp hq hdj hF hG hB h4 s4 hb4 c0 c1 c2 o4
                go_wp2_with fail
                refine (rNextYes HQ4.out Hy.out.1 (by have := HB.out.1; omega) (by have := Hy.out.2; omega)).mono ?_
                rintro x w5 ⟨vy, rfl, o5, h5, s5⟩
                have O5 := Lib.hid o5
                have O45 : Hid (OwnB 0 w5 (.slice vxa y.length vxk) y) := own_zero (O4.out.fr s5.fr (fun g hg e => by have := (O4.out.lt g hg).1; have := HK.out.2.2.2.2 g e; omega))
                obtain ⟨vya, vyk, rfl, _⟩ := own_shape o5
                have hPl0 : PlX w w5 b r M (out + 1) bs := PlX.both HK.out.1 HK.out.2.1 HK.out.2.2.1 HK.out.2.2.2.1 HK.out.2.2.2.2 H4.out S4.out h5 s5
                have HPl0 := Lib.hid hPl0
                have HB5 : Hid (bs.length ≤ i + 1 ∧ ∀ x ∈ bs, x.length ≤ 200) := ⟨by have := HB.out.1; omega, HB.out.2⟩
                clear h5 s5 d0 d1 d2 hPl0 o5
                go_wp2_with fail
                refine (sameRows _ _ y y w5 O45.out.rd O5.out.rd (by have := Hy.out.2; omega)).mono ?_
                rintro x w6 ⟨rfl, b6⟩
                rw [sameB_self]
                have hPl := HPl0.out.below b6
                clear b6
                obtain ⟨b9, hb9e⟩ : ∃ b9, b9 = bs := ⟨_, rfl⟩
                rw [← hb9e] at hPl HB5
                clear hb9e
                obtain ⟨o9, ho9e⟩ : ∃ o9, o9 = out + 1 := ⟨_, rfl⟩
                rw [← ho9e] at hPl
                clear ho9e
                have HP9 := Lib.hid hPl
                obtain ⟨F9, G9, hb9, hr9, _, _, _, _⟩ := hPl
                obtain ⟨rv, rl, hr1, hr2⟩ := hr9
                obtain ⟨rva, rvc, hrv, _⟩ := own_shape hr1.own
                rw [hr1.it.1] at hrv
                subst hrv
                have q1 : ∀ p : After w6, p.w'.cell? ⟨r, 1, none⟩ = some (.int .i64 o9) := fun p => p.cell hr1.cell1
                have q2 : ∀ p : After w6, p.w'.cell? ⟨r, 2, none⟩ = some (.slice rva b9.length rvc) := fun p => p.cell hr1.cell2
                have HB9 := Lib.hid hb9
                clear hb9 hr1 hr2
                go_wp2_with fail
                have hw9 : IntKind.i64.wrap ((b9.length : Int) - (o9 : Int)) = (b9.length : Int) - (o9 : Int) := IntWalk.i64_in _ (by have := HB5.out.1; have := HP9.out.le.1; have := HR.out; have := Hin.out; omega)
                refine wp_region_after (by kernel_rfl) (by kernel_rfl) ?_
                repeat (go_big_quiet_step ((first
                  | (go_at_call 16; exact Calls.after_of ((bLen (HB9.out.below (After.h _))).mono fun _ _ ⟨he, hw⟩ => ⟨he, by rw [hw]; exact Below.refl _ _⟩))
                  | (go_at_call 13; exact Calls.after_of ((bOutA (HB9.out.below (After.h _))).mono fun _ _ ⟨he, hw⟩ => ⟨he, by rw [hw]; exact Below.refl _ _⟩))
                  | (go_at_call 14; exact Calls.after_of ((bWaits (HB9.out.below (After.h _)) (by have := HB5.out.1; omega)).mono fun _ _ ⟨he, hw⟩ => ⟨he, by rw [hw]; exact Below.refl _ _⟩))
                  | fail)))
                refine wpQuiet_nil ?_
                rintro wq ⟨⟨_, hbq⟩, rfl⟩
                clear q1 q2 hw9
                have HPq := Lib.hid (HP9.out.below hbq)
                clear hbq
                go_wp2_with fail
                go_roundg (ds.length - (i + 1))
                case measure => have := Hin.out; omega
                case rel => exact ⟨i + 1, o9, b9, by go_num, (by have := Hin.out; omega), rfl, HB5, HPq.out⟩
              · refine (bNextNo hp (by omega) (by have := HB.out.1; omega)).mono ?_
                rintro x w4 ⟨vx, rfl, o4, b4⟩
                have h4 := hp.below b4
                have s4 := Stp.of_below F b4
                have O4 := Lib.hid o4
                obtain ⟨vxa, vxk, rfl, _⟩ := own_shape o4
                have H4 := Lib.hid h4
                have S4 := Lib.hid s4
                have HQ4 : Hid (RfA w4 G r (.int .i64 M) (.int .i64 out) bs) := HQ.out.keep (s4.other HQ.out.lt hdj).1
                have hb4 : Below w.heap.size w w4 := hB.trans (s4.below hB.size hF)
                obtain ⟨d0, d1, d2⟩ := HDt.out w4 hb4
                have Hb4 := Lib.hid hb4
                have Hlt : Hid (bs.length ≤ out) := by unfold Hid; omega
                clear hp hq hdj hF hG hB h4 s4 hb4 c0 c1 c2 hlt o4 b4
                go_wp2_with fail
                refine (rNextNo HQ4.out Hlt.out).mono ?_
                rintro x w5 ⟨rfl, b5⟩
                have O45 : Hid (RdB w5 (.slice vxa ([] : List Int).length vxk) []) := O4.out.rd.fr (Fr.of_below b5 no) (fun _ _ e => e)
                have hPl0 : PlX w w5 b r M out bs := PlX.both HK.out.1 HK.out.2.1 HK.out.2.2.1 HK.out.2.2.2.1 HK.out.2.2.2.2 H4.out S4.out (HQ4.out.below b5) (Stp.of_below G b5)
                have HPl0 := Lib.hid hPl0
                have HB5 : Hid (bs.length ≤ i + 1 ∧ ∀ x ∈ bs, x.length ≤ 200) := ⟨by have := HB.out.1; omega, HB.out.2⟩
                clear b5 d0 d1 d2 hPl0
                go_wp2_with fail
                refine (sameRows _ _ [] [] w5 O45.out ⟨rfl, none, 0, rfl, fun _ => ⟨rfl, rfl⟩, fun _ e => by cases e⟩ (by decide)).mono ?_
                rintro x w6 ⟨rfl, b6⟩
                rw [sameB_self]
                have hPl := HPl0.out.below b6
                clear b6
                obtain ⟨b9, hb9e⟩ : ∃ b9, b9 = bs := ⟨_, rfl⟩
                rw [← hb9e] at hPl HB5
                clear hb9e
                obtain ⟨o9, ho9e⟩ : ∃ o9, o9 = out := ⟨_, rfl⟩
                rw [← ho9e] at hPl
                clear ho9e
                have HP9 := Lib.hid hPl
                obtain ⟨F9, G9, hb9, hr9, _, _, _, _⟩ := hPl
                obtain ⟨rv, rl, hr1, hr2⟩ := hr9
                obtain ⟨rva, rvc, hrv, _⟩ := own_shape hr1.own
                rw [hr1.it.1] at hrv
                subst hrv
                have q1 : ∀ p : After w6, p.w'.cell? ⟨r, 1, none⟩ = some (.int .i64 o9) := fun p => p.cell hr1.cell1
                have q2 : ∀ p : After w6, p.w'.cell? ⟨r, 2, none⟩ = some (.slice rva b9.length rvc) := fun p => p.cell hr1.cell2
                have HB9 := Lib.hid hb9
                clear hb9 hr1 hr2
                go_wp2_with fail
                have hw9 : IntKind.i64.wrap ((b9.length : Int) - (o9 : Int)) = (b9.length : Int) - (o9 : Int) := IntWalk.i64_in _ (by have := HB5.out.1; have := HP9.out.le.1; have := HR.out; have := Hin.out; omega)
                refine wp_region_after (by kernel_rfl) (by kernel_rfl) ?_
                repeat (go_big_quiet_step ((first
                  | (go_at_call 16; exact Calls.after_of ((bLen (HB9.out.below (After.h _))).mono fun _ _ ⟨he, hw⟩ => ⟨he, by rw [hw]; exact Below.refl _ _⟩))
                  | (go_at_call 13; exact Calls.after_of ((bOutA (HB9.out.below (After.h _))).mono fun _ _ ⟨he, hw⟩ => ⟨he, by rw [hw]; exact Below.refl _ _⟩))
                  | (go_at_call 14; exact Calls.after_of ((bWaits (HB9.out.below (After.h _)) (by have := HB5.out.1; omega)).mono fun _ _ ⟨he, hw⟩ => ⟨he, by rw [hw]; exact Below.refl _ _⟩))
                  | fail)))
                refine wpQuiet_nil ?_
                rintro wq ⟨⟨_, hbq⟩, rfl⟩
                clear q1 q2 hw9
                have HPq := Lib.hid (HP9.out.below hbq)
                clear hbq
                go_wp2_with fail
                go_roundg (ds.length - (i + 1))
                case measure => have := Hin.out; omega
                case rel => exact ⟨i + 1, o9, b9, by go_num, (by have := Hin.out; omega), rfl, HB5, HPq.out⟩
            · have hd6 : decide (do' ≤ 6) = false := by simpa using hd6
              by_cases hd7 : do' = 7
              · have hd7 : (do' == 7) = true := by simpa using hd7
                go_wp2_with fail
                obtain ⟨F, G, hp, hq, hdj, hF, hG, hB⟩ := HX.out
                have HQ := Lib.hid hq
                have HK : Hid ((∀ x, F x → G x → False) ∧ (∀ x, F x → w.heap.size ≤ x) ∧ (∀ x, G x → w.heap.size ≤ x) ∧ Below w.heap.size w wr ∧ ∀ x, G x → x < wr.heap.size) := ⟨hdj, hF, hG, hB, hq.lt⟩
                refine (bAcked hp n' (by have := HB.out.1; omega)).mono ?_
                rintro x w4 ⟨rfl, F', h4, s4⟩
                have hkk : min (max n' 0) (out : Int) = (ackN n' out : Int) := by unfold ackN; omega
                obtain ⟨k, hk⟩ : ∃ k, k = ackN n' out := ⟨_, rfl⟩
                rw [← hk] at h4 hkk ⊢
                have Hk := Lib.hid hkk
                clear hk hkk
                have H4 := Lib.hid h4
                have S4 := Lib.hid s4
                have HQ4 : Hid (RfA w4 G r (.int .i64 M) (.int .i64 out) bs) := HQ.out.keep (s4.other HQ.out.lt hdj).1
                have hb4 : Below w.heap.size w w4 := hB.trans (s4.below hB.size hF)
                obtain ⟨d0, d1, d2⟩ := HDt.out w4 hb4
                have Hb4 := Lib.hid hb4
                clear hp hq hdj hF hG hB h4 s4 hb4 c0 c1 c2
                go_wp2_with fail
                refine (rAcked HQ4.out n' k Hk.out HX.out.le.1 (by have := HB.out.1; omega)).mono ?_
                rintro x w5 ⟨rfl, G', h5, s5⟩
                have hPl : PlX w w5 b r M (out - k) (bs.drop k) := PlX.both HK.out.1 HK.out.2.1 HK.out.2.2.1 HK.out.2.2.2.1 HK.out.2.2.2.2 H4.out S4.out h5 s5
                have HB5 : Hid ((bs.drop k).length ≤ i + 1 ∧ ∀ x ∈ bs.drop k, x.length ≤ 200) := ⟨by have := HB.out.1; simp; omega, fun x hx => HB.out.2 x (List.mem_of_mem_drop hx)⟩
                clear h5 s5 d0 d1 d2
                obtain ⟨b9, hb9e⟩ : ∃ b9, b9 = bs.drop k := ⟨_, rfl⟩
                rw [← hb9e] at hPl HB5
                clear hb9e
                obtain ⟨o9, ho9e⟩ : ∃ o9, o9 = out - k := ⟨_, rfl⟩
                rw [← ho9e] at hPl
                clear ho9e
                have HP9 := Lib.hid hPl
                obtain ⟨F9, G9, hb9, hr9, _, _, _, _⟩ := hPl
                obtain ⟨rv, rl, hr1, hr2⟩ := hr9
                obtain ⟨rva, rvc, hrv, _⟩ := own_shape hr1.own
                rw [hr1.it.1] at hrv
                subst hrv
                have q1 : ∀ p : After w5, p.w'.cell? ⟨r, 1, none⟩ = some (.int .i64 o9) := fun p => p.cell hr1.cell1
                have q2 : ∀ p : After w5, p.w'.cell? ⟨r, 2, none⟩ = some (.slice rva b9.length rvc) := fun p => p.cell hr1.cell2
                have HB9 := Lib.hid hb9
                clear hb9 hr1 hr2
                go_wp2_with fail
                have hw9 : IntKind.i64.wrap ((b9.length : Int) - (o9 : Int)) = (b9.length : Int) - (o9 : Int) := IntWalk.i64_in _ (by have := HB5.out.1; have := HP9.out.le.1; have := HR.out; have := Hin.out; omega)
                refine wp_region_after (by kernel_rfl) (by kernel_rfl) ?_
                repeat (go_big_quiet_step ((first
                  | (go_at_call 16; exact Calls.after_of ((bLen (HB9.out.below (After.h _))).mono fun _ _ ⟨he, hw⟩ => ⟨he, by rw [hw]; exact Below.refl _ _⟩))
                  | (go_at_call 13; exact Calls.after_of ((bOutA (HB9.out.below (After.h _))).mono fun _ _ ⟨he, hw⟩ => ⟨he, by rw [hw]; exact Below.refl _ _⟩))
                  | (go_at_call 14; exact Calls.after_of ((bWaits (HB9.out.below (After.h _)) (by have := HB5.out.1; omega)).mono fun _ _ ⟨he, hw⟩ => ⟨he, by rw [hw]; exact Below.refl _ _⟩))
                  | fail)))
                refine wpQuiet_nil ?_
                rintro wq ⟨⟨_, hbq⟩, rfl⟩
                clear q1 q2 hw9
                have HPq := Lib.hid (HP9.out.below hbq)
                clear hbq
                go_wp2_with fail
                go_roundg (ds.length - (i + 1))
                case measure => have := Hin.out; omega
                case rel => exact ⟨i + 1, o9, b9, by go_num, (by have := Hin.out; omega), rfl, HB5, HPq.out⟩
              · have hd7 : (do' == 7) = false := by simpa using hd7
                by_cases hd8 : do' = 8
                · have hd8 : (do' == 8) = true := by simpa using hd8
                  go_wp2_with fail
                  obtain ⟨F, G, hp, hq, hdj, hF, hG, hB⟩ := HX.out
                  have HQ := Lib.hid hq
                  have HK : Hid ((∀ x, F x → G x → False) ∧ (∀ x, F x → w.heap.size ≤ x) ∧ (∀ x, G x → w.heap.size ≤ x) ∧ Below w.heap.size w wr ∧ ∀ x, G x → x < wr.heap.size) := ⟨hdj, hF, hG, hB, hq.lt⟩
                  refine (bAgain hp).mono ?_
                  rintro x w4 ⟨rfl, h4, s4⟩
                  have H4 := Lib.hid h4
                  have S4 := Lib.hid s4
                  have HQ4 : Hid (RfA w4 G r (.int .i64 M) (.int .i64 out) bs) := HQ.out.keep (s4.other HQ.out.lt hdj).1
                  have hb4 : Below w.heap.size w w4 := hB.trans (s4.below hB.size hF)
                  obtain ⟨d0, d1, d2⟩ := HDt.out w4 hb4
                  have Hb4 := Lib.hid hb4
                  clear hp hq hdj hF hG hB h4 s4 hb4 c0 c1 c2
                  go_wp2_with fail
                  refine (rAgain HQ4.out).mono ?_
                  rintro x w5 ⟨rfl, h5, s5⟩
                  have hPl : PlX w w5 b r M 0 bs := PlX.both HK.out.1 HK.out.2.1 HK.out.2.2.1 HK.out.2.2.2.1 HK.out.2.2.2.2 H4.out S4.out h5 s5
                  have HB5 : Hid (bs.length ≤ i + 1 ∧ ∀ x ∈ bs, x.length ≤ 200) := ⟨by have := HB.out.1; omega, HB.out.2⟩
                  clear h5 s5 d0 d1 d2
                  obtain ⟨b9, hb9e⟩ : ∃ b9, b9 = bs := ⟨_, rfl⟩
                  rw [← hb9e] at hPl HB5
                  clear hb9e
                  obtain ⟨o9, ho9e⟩ : ∃ o9, o9 = 0 := ⟨_, rfl⟩
                  rw [← ho9e] at hPl
                  clear ho9e
                  have HP9 := Lib.hid hPl
                  obtain ⟨F9, G9, hb9, hr9, _, _, _, _⟩ := hPl
                  obtain ⟨rv, rl, hr1, hr2⟩ := hr9
                  obtain ⟨rva, rvc, hrv, _⟩ := own_shape hr1.own
                  rw [hr1.it.1] at hrv
                  subst hrv
                  have q1 : ∀ p : After w5, p.w'.cell? ⟨r, 1, none⟩ = some (.int .i64 o9) := fun p => p.cell hr1.cell1
                  have q2 : ∀ p : After w5, p.w'.cell? ⟨r, 2, none⟩ = some (.slice rva b9.length rvc) := fun p => p.cell hr1.cell2
                  have HB9 := Lib.hid hb9
                  clear hb9 hr1 hr2
                  go_wp2_with fail
                  have hw9 : IntKind.i64.wrap ((b9.length : Int) - (o9 : Int)) = (b9.length : Int) - (o9 : Int) := IntWalk.i64_in _ (by have := HB5.out.1; have := HP9.out.le.1; have := HR.out; have := Hin.out; omega)
                  refine wp_region_after (by kernel_rfl) (by kernel_rfl) ?_
                  repeat (go_big_quiet_step ((first
                    | (go_at_call 16; exact Calls.after_of ((bLen (HB9.out.below (After.h _))).mono fun _ _ ⟨he, hw⟩ => ⟨he, by rw [hw]; exact Below.refl _ _⟩))
                    | (go_at_call 13; exact Calls.after_of ((bOutA (HB9.out.below (After.h _))).mono fun _ _ ⟨he, hw⟩ => ⟨he, by rw [hw]; exact Below.refl _ _⟩))
                    | (go_at_call 14; exact Calls.after_of ((bWaits (HB9.out.below (After.h _)) (by have := HB5.out.1; omega)).mono fun _ _ ⟨he, hw⟩ => ⟨he, by rw [hw]; exact Below.refl _ _⟩))
                    | fail)))
                  refine wpQuiet_nil ?_
                  rintro wq ⟨⟨_, hbq⟩, rfl⟩
                  clear q1 q2 hw9
                  have HPq := Lib.hid (HP9.out.below hbq)
                  clear hbq
                  go_wp2_with fail
                  go_roundg (ds.length - (i + 1))
                  case measure => have := Hin.out; omega
                  case rel => exact ⟨i + 1, o9, b9, by go_num, (by have := Hin.out; omega), rfl, HB5, HPq.out⟩
                · have hd8 : (do' == 8) = false := by simpa using hd8
                  go_wp2_with fail
                  obtain ⟨F, G, hp, hq, hdj, hF, hG, hB⟩ := HX.out
                  have HQ := Lib.hid hq
                  have HK : Hid ((∀ x, F x → G x → False) ∧ (∀ x, F x → w.heap.size ≤ x) ∧ (∀ x, G x → w.heap.size ≤ x) ∧ Below w.heap.size w wr ∧ ∀ x, G x → x < wr.heap.size) := ⟨hdj, hF, hG, hB, hq.lt⟩
                  refine (bClear hp (by have := HB.out.1; omega)).mono ?_
                  rintro x w4 ⟨rfl, F', h4, s4⟩
                  have H4 := Lib.hid h4
                  have S4 := Lib.hid s4
                  have HQ4 : Hid (RfA w4 G r (.int .i64 M) (.int .i64 out) bs) := HQ.out.keep (s4.other HQ.out.lt hdj).1
                  have hb4 : Below w.heap.size w w4 := hB.trans (s4.below hB.size hF)
                  obtain ⟨d0, d1, d2⟩ := HDt.out w4 hb4
                  have Hb4 := Lib.hid hb4
                  clear hp hq hdj hF hG hB h4 s4 hb4 c0 c1 c2
                  go_wp2_with fail
                  refine (rClear HQ4.out).mono ?_
                  rintro x w5 ⟨rfl, G', h5, s5⟩
                  have hPl : PlX w w5 b r M 0 [] := PlX.both HK.out.1 HK.out.2.1 HK.out.2.2.1 HK.out.2.2.2.1 HK.out.2.2.2.2 H4.out S4.out h5 s5
                  have HB5 : Hid (([] : List (List Int)).length ≤ i + 1 ∧ ∀ x ∈ ([] : List (List Int)), x.length ≤ 200) := ⟨by simp, fun x hx => by simp at hx⟩
                  clear h5 s5 d0 d1 d2
                  obtain ⟨b9, hb9e⟩ : ∃ b9, b9 = ([] : List (List Int)) := ⟨_, rfl⟩
                  rw [← hb9e] at hPl HB5
                  clear hb9e
                  obtain ⟨o9, ho9e⟩ : ∃ o9, o9 = 0 := ⟨_, rfl⟩
                  rw [← ho9e] at hPl
                  clear ho9e
                  have HP9 := Lib.hid hPl
                  obtain ⟨F9, G9, hb9, hr9, _, _, _, _⟩ := hPl
                  obtain ⟨rv, rl, hr1, hr2⟩ := hr9
                  obtain ⟨rva, rvc, hrv, _⟩ := own_shape hr1.own
                  rw [hr1.it.1] at hrv
                  subst hrv
                  have q1 : ∀ p : After w5, p.w'.cell? ⟨r, 1, none⟩ = some (.int .i64 o9) := fun p => p.cell hr1.cell1
                  have q2 : ∀ p : After w5, p.w'.cell? ⟨r, 2, none⟩ = some (.slice rva b9.length rvc) := fun p => p.cell hr1.cell2
                  have HB9 := Lib.hid hb9
                  clear hb9 hr1 hr2
                  go_wp2_with fail
                  have hw9 : IntKind.i64.wrap ((b9.length : Int) - (o9 : Int)) = (b9.length : Int) - (o9 : Int) := IntWalk.i64_in _ (by have := HB5.out.1; have := HP9.out.le.1; have := HR.out; have := Hin.out; omega)
                  refine wp_region_after (by kernel_rfl) (by kernel_rfl) ?_
                  repeat (go_big_quiet_step ((first
                    | (go_at_call 16; exact Calls.after_of ((bLen (HB9.out.below (After.h _))).mono fun _ _ ⟨he, hw⟩ => ⟨he, by rw [hw]; exact Below.refl _ _⟩))
                    | (go_at_call 13; exact Calls.after_of ((bOutA (HB9.out.below (After.h _))).mono fun _ _ ⟨he, hw⟩ => ⟨he, by rw [hw]; exact Below.refl _ _⟩))
                    | (go_at_call 14; exact Calls.after_of ((bWaits (HB9.out.below (After.h _)) (by have := HB5.out.1; omega)).mono fun _ _ ⟨he, hw⟩ => ⟨he, by rw [hw]; exact Below.refl _ _⟩))
                    | fail)))
                  refine wpQuiet_nil ?_
                  rintro wq ⟨⟨_, hbq⟩, rfl⟩
                  clear q1 q2 hw9
                  have HPq := Lib.hid (HP9.out.below hbq)
                  clear hbq
                  go_wp2_with fail
                  go_roundg (ds.length - (i + 1))
                  case measure => have := Hin.out; omega
                  case rel => exact ⟨i + 1, o9, b9, by go_num, (by have := Hin.out; omega), rfl, HB5, HPq.out⟩
        · have hd1 : decide ((i : Int) < ds.length) = false := by simp; omega
          go_wp2_with fail
          go_ret
          exact ⟨rfl, HX.out.bel⟩
    · have I := (Ini.out most (by omega)).out
      rw [← hr] at I
      have HI := Lib.hid I
      clear I hm2
      go_wp2_with fail
      rw [← hr]
      clear hr
      go_loopg [7] ds.length (fun g s7 wx => ∃ (i out : Nat) (bs : List (List Int)), s7 = .int .i64 i ∧ i ≤ ds.length ∧ g = ds.length - i ∧ Hid (bs.length ≤ i ∧ ∀ x ∈ bs, x.length ≤ 200) ∧ PlX w wx b r M out bs)
      case atStart => exact ⟨0, 0, [], rfl, Nat.zero_le _, rfl, ⟨Nat.le_refl _, fun x hx => by simp at hx⟩, HI.out⟩
      case round =>
        obtain ⟨i, out, bs, rfl, hi, rfl, HB, hX⟩ := hrel
        have HX := Lib.hid hX
        clear hX HI
        by_cases hin : i < ds.length
        · have hd1 : decide ((i : Int) < ds.length) = true := by simp; omega
          obtain ⟨lb, lo, lc', hv⟩ := deed_ad Hl.out (by omega)
          simp at hv
          obtain ⟨rfl, rfl⟩ := hv
          have HDt : Hid (∀ W, Below w.heap.size w W → W.cell? ⟨lb, lo + i * 3, none⟩ = some (.int .i64 ds[i].1) ∧ W.cell? ⟨lb, lo + i * 3 + 1, none⟩ = some (.int .i64 ds[i].2.1) ∧ W.cell? ⟨lb, lo + i * 3 + 2, none⟩ = some ds[i].2.2.1) := fun W hb => deed_at Hl.out hb hin
          have hrd := (Hok.out _ (List.getElem_mem hin)).2.2
          have hs200 := HRs.out i hin
          obtain ⟨ba, bc, hbv⟩ := hrd.len
          rw [hbv] at HDt hrd
          clear hbv
          generalize ds[i].2.2.2 = xb at HDt hrd hs200
          generalize ds[i].1 = do' at HDt
          generalize ds[i].2.1 = n' at HDt
          have Hrd := Lib.hid hrd
          have Hs := Lib.hid hs200
          have hi300 : (i : Int) ≤ 300 := by have := HR.out; omega
          have Hin := Lib.hid hin
          clear hrd hs200 hin
          obtain ⟨c0, c1, c2⟩ := HDt.out wr HX.out.bel
          by_cases hd3 : do' ≤ 3
          · have hd3 : decide (do' ≤ 3) = true := by simpa using hd3
            go_wp2_with fail
            obtain ⟨F, G, hp, hq, hdj, hF, hG, hB⟩ := HX.out
            have HQ := Lib.hid hq
            have HK : Hid ((∀ x, F x → G x → False) ∧ (∀ x, F x → w.heap.size ≤ x) ∧ (∀ x, G x → w.heap.size ≤ x) ∧ Below w.heap.size w wr ∧ ∀ x, G x → x < wr.heap.size) := ⟨hdj, hF, hG, hB, hq.lt⟩
            refine (bPut hp (Hrd.out.fr hB) (by have := Hs.out; omega) (by have := HB.out.1; omega)).mono ?_
            rintro x w4 ⟨rfl, F', h4, s4⟩
            have H4 := Lib.hid h4
            have S4 := Lib.hid s4
            have HQ4 : Hid (RfA w4 G r (.int .i64 M) (.int .i64 out) bs) := HQ.out.keep (s4.other HQ.out.lt hdj).1
            have hb4 : Below w.heap.size w w4 := hB.trans (s4.below hB.size hF)
            obtain ⟨d0, d1, d2⟩ := HDt.out w4 hb4
            have Hb4 := Lib.hid hb4
            clear hp hq hdj hF hG hB h4 s4 hb4 c0 c1 c2
            by_cases hlt : (bs.length : Int) < M
            · have hdl : decide ((bs.length : Int) < M) = true := by simpa using hlt
              rw [show putB M bs xb = bs ++ [xb] from if_pos hlt] at H4
              rw [hdl]
              clear hdl
              go_wp2_with fail
              refine (rPutYes HQ4.out (Hrd.out.fr Hb4.out) (by have := Hs.out; omega) (by have := HB.out.1; omega) hlt).mono ?_
              rintro x w5 ⟨rfl, G', h5, s5⟩
              have hPl : PlX w w5 b r M out (bs ++ [xb]) := PlX.both HK.out.1 HK.out.2.1 HK.out.2.2.1 HK.out.2.2.2.1 HK.out.2.2.2.2 H4.out S4.out h5 s5
              have HB5 : Hid ((bs ++ [xb]).length ≤ i + 1 ∧ ∀ x ∈ bs ++ [xb], x.length ≤ 200) := ⟨by have := HB.out.1; simp; omega, fun x hx => by
                rcases List.mem_append.1 hx with hx | hx
                · exact HB.out.2 x hx
                · rw [List.mem_singleton.1 hx]; exact Hs.out⟩
              clear h5 s5 d0 d1 d2 hlt
              obtain ⟨b9, hb9e⟩ : ∃ b9, b9 = bs ++ [xb] := ⟨_, rfl⟩
              rw [← hb9e] at hPl HB5
              clear hb9e
              have HP9 := Lib.hid hPl
              obtain ⟨F9, G9, hb9, hr9, _, _, _, _⟩ := hPl
              obtain ⟨rv, rl, hr1, hr2⟩ := hr9
              obtain ⟨rva, rvc, hrv, _⟩ := own_shape hr1.own
              rw [hr1.it.1] at hrv
              subst hrv
              have q1 : ∀ p : After w5, p.w'.cell? ⟨r, 1, none⟩ = some (.int .i64 out) := fun p => p.cell hr1.cell1
              have q2 : ∀ p : After w5, p.w'.cell? ⟨r, 2, none⟩ = some (.slice rva b9.length rvc) := fun p => p.cell hr1.cell2
              have HB9 := Lib.hid hb9
              clear hb9 hr1 hr2
              go_wp2_with fail
              have hw9 : IntKind.i64.wrap ((b9.length : Int) - (out : Int)) = (b9.length : Int) - (out : Int) := IntWalk.i64_in _ (by have := HB5.out.1; have := HP9.out.le.1; have := HR.out; have := Hin.out; omega)
              refine wp_region_after (by kernel_rfl) (by kernel_rfl) ?_
              repeat (go_big_quiet_step ((first
                | (go_at_call 16; exact Calls.after_of ((bLen (HB9.out.below (After.h _))).mono fun _ _ ⟨he, hw⟩ => ⟨he, by rw [hw]; exact Below.refl _ _⟩))
                | (go_at_call 13; exact Calls.after_of ((bOutA (HB9.out.below (After.h _))).mono fun _ _ ⟨he, hw⟩ => ⟨he, by rw [hw]; exact Below.refl _ _⟩))
                | (go_at_call 14; exact Calls.after_of ((bWaits (HB9.out.below (After.h _)) (by have := HB5.out.1; omega)).mono fun _ _ ⟨he, hw⟩ => ⟨he, by rw [hw]; exact Below.refl _ _⟩))
                | fail)))
              refine wpQuiet_nil ?_
              rintro wq ⟨⟨_, hbq⟩, rfl⟩
              clear q1 q2 hw9
              have HPq := Lib.hid (HP9.out.below hbq)
              clear hbq
              go_wp2_with fail
              go_roundg (ds.length - (i + 1))
              case measure => have := Hin.out; omega
              case rel => exact ⟨i + 1, out, b9, by go_num, (by have := Hin.out; omega), rfl, HB5, HPq.out⟩
            · have hdl : decide ((bs.length : Int) < M) = false := by simpa using hlt
              rw [show putB M bs xb = bs from if_neg hlt] at H4
              rw [hdl]
              clear hdl
              go_wp2_with fail
              refine (rPutNo HQ4.out _ (by omega)).mono ?_
              rintro x w5 ⟨rfl, b5⟩
              have hPl : PlX w w5 b r M out bs := PlX.both HK.out.1 HK.out.2.1 HK.out.2.2.1 HK.out.2.2.2.1 HK.out.2.2.2.2 H4.out S4.out (HQ4.out.below b5) (Stp.of_below G b5)
              have HB5 : Hid (bs.length ≤ i + 1 ∧ ∀ x ∈ bs, x.length ≤ 200) := ⟨by have := HB.out.1; omega, HB.out.2⟩
              clear b5 d0 d1 d2 hlt
              obtain ⟨b9, hb9e⟩ : ∃ b9, b9 = bs := ⟨_, rfl⟩
              rw [← hb9e] at hPl HB5
              clear hb9e
              have HP9 := Lib.hid hPl
              obtain ⟨F9, G9, hb9, hr9, _, _, _, _⟩ := hPl
              obtain ⟨rv, rl, hr1, hr2⟩ := hr9
              obtain ⟨rva, rvc, hrv, _⟩ := own_shape hr1.own
              rw [hr1.it.1] at hrv
              subst hrv
              have q1 : ∀ p : After w5, p.w'.cell? ⟨r, 1, none⟩ = some (.int .i64 out) := fun p => p.cell hr1.cell1
              have q2 : ∀ p : After w5, p.w'.cell? ⟨r, 2, none⟩ = some (.slice rva b9.length rvc) := fun p => p.cell hr1.cell2
              have HB9 := Lib.hid hb9
              clear hb9 hr1 hr2
              go_wp2_with fail
              have hw9 : IntKind.i64.wrap ((b9.length : Int) - (out : Int)) = (b9.length : Int) - (out : Int) := IntWalk.i64_in _ (by have := HB5.out.1; have := HP9.out.le.1; have := HR.out; have := Hin.out; omega)
              refine wp_region_after (by kernel_rfl) (by kernel_rfl) ?_
              repeat (go_big_quiet_step ((first
                | (go_at_call 16; exact Calls.after_of ((bLen (HB9.out.below (After.h _))).mono fun _ _ ⟨he, hw⟩ => ⟨he, by rw [hw]; exact Below.refl _ _⟩))
                | (go_at_call 13; exact Calls.after_of ((bOutA (HB9.out.below (After.h _))).mono fun _ _ ⟨he, hw⟩ => ⟨he, by rw [hw]; exact Below.refl _ _⟩))
                | (go_at_call 14; exact Calls.after_of ((bWaits (HB9.out.below (After.h _)) (by have := HB5.out.1; omega)).mono fun _ _ ⟨he, hw⟩ => ⟨he, by rw [hw]; exact Below.refl _ _⟩))
                | fail)))
              refine wpQuiet_nil ?_
              rintro wq ⟨⟨_, hbq⟩, rfl⟩
              clear q1 q2 hw9
              have HPq := Lib.hid (HP9.out.below hbq)
              clear hbq
              go_wp2_with fail
              go_roundg (ds.length - (i + 1))
              case measure => have := Hin.out; omega
              case rel => exact ⟨i + 1, out, b9, by go_num, (by have := Hin.out; omega), rfl, HB5, HPq.out⟩
          · have hd3 : decide (do' ≤ 3) = false := by simpa using hd3
            by_cases hd6 : do' ≤ 6
            · have hd6 : decide (do' ≤ 6) = true := by simpa using hd6
              go_wp2_with fail
              obtain ⟨F, G, hp, hq, hdj, hF, hG, hB⟩ := HX.out
              have HQ := Lib.hid hq
              have HK : Hid ((∀ x, F x → G x → False) ∧ (∀ x, F x → w.heap.size ≤ x) ∧ (∀ x, G x → w.heap.size ≤ x) ∧ Below w.heap.size w wr ∧ ∀ x, G x → x < wr.heap.size) := ⟨hdj, hF, hG, hB, hq.lt⟩
              by_cases hlt : out < bs.length
              · obtain ⟨y, hy⟩ : ∃ y, bs[out]? = some y := ⟨_, List.getElem?_eq_getElem hlt⟩
                have hye : bs[out] = y := (List.getElem?_eq_some_iff.1 hy).2
                have hyl : y.length ≤ 200 := HB.out.2 y (List.mem_of_getElem? hy)
                have Hy := Lib.hid (And.intro hy hyl)
                refine (bNextYes hp hlt (by have := HB.out.1; omega) (by rw [hye]; omega)).mono ?_
                rintro x w4 ⟨vx, rfl, o4, h4, s4⟩
                rw [hye] at o4
                have O4 := Lib.hid o4
                obtain ⟨vxa, vxk, rfl, _⟩ := own_shape o4
                clear hye hy hyl
                have H4 := Lib.hid h4
                have S4 := Lib.hid s4
                have HQ4 : Hid (RfA w4 G r (.int .i64 M) (.int .i64 out) bs) := HQ.out.keep (s4.other HQ.out.lt hdj).1
                have hb4 : Below w.heap.size w w4 := hB.trans (s4.below hB.size hF)
                obtain ⟨d0, d1, d2⟩ := HDt.out w4 hb4
                have Hb4 := Lib.hid hb4
                clear hp hq hdj hF hG hB h4 s4 hb4 c0 c1 c2 o4
                go_wp2_with fail
                refine (rNextYes HQ4.out Hy.out.1 (by have := HB.out.1; omega) (by have := Hy.out.2; omega)).mono ?_
                rintro x w5 ⟨vy, rfl, o5, h5, s5⟩
                have O5 := Lib.hid o5
                have O45 : Hid (OwnB 0 w5 (.slice vxa y.length vxk) y) := own_zero (O4.out.fr s5.fr (fun g hg e => by have := (O4.out.lt g hg).1; have := HK.out.2.2.2.2 g e; omega))
                obtain ⟨vya, vyk, rfl, _⟩ := own_shape o5
                have hPl0 : PlX w w5 b r M (out + 1) bs := PlX.both HK.out.1 HK.out.2.1 HK.out.2.2.1 HK.out.2.2.2.1 HK.out.2.2.2.2 H4.out S4.out h5 s5
                have HPl0 := Lib.hid hPl0
                have HB5 : Hid (bs.length ≤ i + 1 ∧ ∀ x ∈ bs, x.length ≤ 200) := ⟨by have := HB.out.1; omega, HB.out.2⟩
                clear h5 s5 d0 d1 d2 hPl0 o5
                go_wp2_with fail
                refine (sameRows _ _ y y w5 O45.out.rd O5.out.rd (by have := Hy.out.2; omega)).mono ?_
                rintro x w6 ⟨rfl, b6⟩
                rw [sameB_self]
                have hPl := HPl0.out.below b6
                clear b6
                obtain ⟨b9, hb9e⟩ : ∃ b9, b9 = bs := ⟨_, rfl⟩
                rw [← hb9e] at hPl HB5
                clear hb9e
                obtain ⟨o9, ho9e⟩ : ∃ o9, o9 = out + 1 := ⟨_, rfl⟩
                rw [← ho9e] at hPl
                clear ho9e
                have HP9 := Lib.hid hPl
                obtain ⟨F9, G9, hb9, hr9, _, _, _, _⟩ := hPl
                obtain ⟨rv, rl, hr1, hr2⟩ := hr9
                obtain ⟨rva, rvc, hrv, _⟩ := own_shape hr1.own
                rw [hr1.it.1] at hrv
                subst hrv
                have q1 : ∀ p : After w6, p.w'.cell? ⟨r, 1, none⟩ = some (.int .i64 o9) := fun p => p.cell hr1.cell1
                have q2 : ∀ p : After w6, p.w'.cell? ⟨r, 2, none⟩ = some (.slice rva b9.length rvc) := fun p => p.cell hr1.cell2
                have HB9 := Lib.hid hb9
                clear hb9 hr1 hr2
                go_wp2_with fail
                have hw9 : IntKind.i64.wrap ((b9.length : Int) - (o9 : Int)) = (b9.length : Int) - (o9 : Int) := IntWalk.i64_in _ (by have := HB5.out.1; have := HP9.out.le.1; have := HR.out; have := Hin.out; omega)
                refine wp_region_after (by kernel_rfl) (by kernel_rfl) ?_
                repeat (go_big_quiet_step ((first
                  | (go_at_call 16; exact Calls.after_of ((bLen (HB9.out.below (After.h _))).mono fun _ _ ⟨he, hw⟩ => ⟨he, by rw [hw]; exact Below.refl _ _⟩))
                  | (go_at_call 13; exact Calls.after_of ((bOutA (HB9.out.below (After.h _))).mono fun _ _ ⟨he, hw⟩ => ⟨he, by rw [hw]; exact Below.refl _ _⟩))
                  | (go_at_call 14; exact Calls.after_of ((bWaits (HB9.out.below (After.h _)) (by have := HB5.out.1; omega)).mono fun _ _ ⟨he, hw⟩ => ⟨he, by rw [hw]; exact Below.refl _ _⟩))
                  | fail)))
                refine wpQuiet_nil ?_
                rintro wq ⟨⟨_, hbq⟩, rfl⟩
                clear q1 q2 hw9
                have HPq := Lib.hid (HP9.out.below hbq)
                clear hbq
                go_wp2_with fail
                go_roundg (ds.length - (i + 1))
                case measure => have := Hin.out; omega
                case rel => exact ⟨i + 1, o9, b9, by go_num, (by have := Hin.out; omega), rfl, HB5, HPq.out⟩
              · refine (bNextNo hp (by omega) (by have := HB.out.1; omega)).mono ?_
                rintro x w4 ⟨vx, rfl, o4, b4⟩
                have h4 := hp.below b4
                have s4 := Stp.of_below F b4
                have O4 := Lib.hid o4
                obtain ⟨vxa, vxk, rfl, _⟩ := own_shape o4
                have H4 := Lib.hid h4
                have S4 := Lib.hid s4
                have HQ4 : Hid (RfA w4 G r (.int .i64 M) (.int .i64 out) bs) := HQ.out.keep (s4.other HQ.out.lt hdj).1
                have hb4 : Below w.heap.size w w4 := hB.trans (s4.below hB.size hF)
                obtain ⟨d0, d1, d2⟩ := HDt.out w4 hb4
                have Hb4 := Lib.hid hb4
                have Hlt : Hid (bs.length ≤ out) := by unfold Hid; omega
                clear hp hq hdj hF hG hB h4 s4 hb4 c0 c1 c2 hlt o4 b4
                go_wp2_with fail
                refine (rNextNo HQ4.out Hlt.out).mono ?_
                rintro x w5 ⟨rfl, b5⟩
                have O45 : Hid (RdB w5 (.slice vxa ([] : List Int).length vxk) []) := O4.out.rd.fr (Fr.of_below b5 no) (fun _ _ e => e)
                have hPl0 : PlX w w5 b r M out bs := PlX.both HK.out.1 HK.out.2.1 HK.out.2.2.1 HK.out.2.2.2.1 HK.out.2.2.2.2 H4.out S4.out (HQ4.out.below b5) (Stp.of_below G b5)
                have HPl0 := Lib.hid hPl0
                have HB5 : Hid (bs.length ≤ i + 1 ∧ ∀ x ∈ bs, x.length ≤ 200) := ⟨by have := HB.out.1; omega, HB.out.2⟩
                clear b5 d0 d1 d2 hPl0
                go_wp2_with fail
                refine (sameRows _ _ [] [] w5 O45.out ⟨rfl, none, 0, rfl, fun _ => ⟨rfl, rfl⟩, fun _ e => by cases e⟩ (by decide)).mono ?_
                rintro x w6 ⟨rfl, b6⟩
                rw [sameB_self]
                have hPl := HPl0.out.below b6
                clear b6
                obtain ⟨b9, hb9e⟩ : ∃ b9, b9 = bs := ⟨_, rfl⟩
                rw [← hb9e] at hPl HB5
                clear hb9e
                obtain ⟨o9, ho9e⟩ : ∃ o9, o9 = out := ⟨_, rfl⟩
                rw [← ho9e] at hPl
                clear ho9e
                have HP9 := Lib.hid hPl
                obtain ⟨F9, G9, hb9, hr9, _, _, _, _⟩ := hPl
                obtain ⟨rv, rl, hr1, hr2⟩ := hr9
                obtain ⟨rva, rvc, hrv, _⟩ := own_shape hr1.own
                rw [hr1.it.1] at hrv
                subst hrv
                have q1 : ∀ p : After w6, p.w'.cell? ⟨r, 1, none⟩ = some (.int .i64 o9) := fun p => p.cell hr1.cell1
                have q2 : ∀ p : After w6, p.w'.cell? ⟨r, 2, none⟩ = some (.slice rva b9.length rvc) := fun p => p.cell hr1.cell2
                have HB9 := Lib.hid hb9
                clear hb9 hr1 hr2
                go_wp2_with fail
                have hw9 : IntKind.i64.wrap ((b9.length : Int) - (o9 : Int)) = (b9.length : Int) - (o9 : Int) := IntWalk.i64_in _ (by have := HB5.out.1; have := HP9.out.le.1; have := HR.out; have := Hin.out; omega)
                refine wp_region_after (by kernel_rfl) (by kernel_rfl) ?_
                repeat (go_big_quiet_step ((first
                  | (go_at_call 16; exact Calls.after_of ((bLen (HB9.out.below (After.h _))).mono fun _ _ ⟨he, hw⟩ => ⟨he, by rw [hw]; exact Below.refl _ _⟩))
                  | (go_at_call 13; exact Calls.after_of ((bOutA (HB9.out.below (After.h _))).mono fun _ _ ⟨he, hw⟩ => ⟨he, by rw [hw]; exact Below.refl _ _⟩))
                  | (go_at_call 14; exact Calls.after_of ((bWaits (HB9.out.below (After.h _)) (by have := HB5.out.1; omega)).mono fun _ _ ⟨he, hw⟩ => ⟨he, by rw [hw]; exact Below.refl _ _⟩))
                  | fail)))
                refine wpQuiet_nil ?_
                rintro wq ⟨⟨_, hbq⟩, rfl⟩
                clear q1 q2 hw9
                have HPq := Lib.hid (HP9.out.below hbq)
                clear hbq
                go_wp2_with fail
                go_roundg (ds.length - (i + 1))
                case measure => have := Hin.out; omega
                case rel => exact ⟨i + 1, o9, b9, by go_num, (by have := Hin.out; omega), rfl, HB5, HPq.out⟩
            · have hd6 : decide (do' ≤ 6) = false := by simpa using hd6
              by_cases hd7 : do' = 7
              · have hd7 : (do' == 7) = true := by simpa using hd7
                go_wp2_with fail
                obtain ⟨F, G, hp, hq, hdj, hF, hG, hB⟩ := HX.out
                have HQ := Lib.hid hq
                have HK : Hid ((∀ x, F x → G x → False) ∧ (∀ x, F x → w.heap.size ≤ x) ∧ (∀ x, G x → w.heap.size ≤ x) ∧ Below w.heap.size w wr ∧ ∀ x, G x → x < wr.heap.size) := ⟨hdj, hF, hG, hB, hq.lt⟩
                refine (bAcked hp n' (by have := HB.out.1; omega)).mono ?_
                rintro x w4 ⟨rfl, F', h4, s4⟩
                have hkk : min (max n' 0) (out : Int) = (ackN n' out : Int) := by unfold ackN; omega
                obtain ⟨k, hk⟩ : ∃ k, k = ackN n' out := ⟨_, rfl⟩
                rw [← hk] at h4 hkk ⊢
                have Hk := Lib.hid hkk
                clear hk hkk
                have H4 := Lib.hid h4
                have S4 := Lib.hid s4
                have HQ4 : Hid (RfA w4 G r (.int .i64 M) (.int .i64 out) bs) := HQ.out.keep (s4.other HQ.out.lt hdj).1
                have hb4 : Below w.heap.size w w4 := hB.trans (s4.below hB.size hF)
                obtain ⟨d0, d1, d2⟩ := HDt.out w4 hb4
                have Hb4 := Lib.hid hb4
                clear hp hq hdj hF hG hB h4 s4 hb4 c0 c1 c2
                go_wp2_with fail
                refine (rAcked HQ4.out n' k Hk.out HX.out.le.1 (by have := HB.out.1; omega)).mono ?_
                rintro x w5 ⟨rfl, G', h5, s5⟩
                have hPl : PlX w w5 b r M (out - k) (bs.drop k) := PlX.both HK.out.1 HK.out.2.1 HK.out.2.2.1 HK.out.2.2.2.1 HK.out.2.2.2.2 H4.out S4.out h5 s5
                have HB5 : Hid ((bs.drop k).length ≤ i + 1 ∧ ∀ x ∈ bs.drop k, x.length ≤ 200) := ⟨by have := HB.out.1; simp; omega, fun x hx => HB.out.2 x (List.mem_of_mem_drop hx)⟩
                clear h5 s5 d0 d1 d2
                obtain ⟨b9, hb9e⟩ : ∃ b9, b9 = bs.drop k := ⟨_, rfl⟩
                rw [← hb9e] at hPl HB5
                clear hb9e
                obtain ⟨o9, ho9e⟩ : ∃ o9, o9 = out - k := ⟨_, rfl⟩
                rw [← ho9e] at hPl
                clear ho9e
                have HP9 := Lib.hid hPl
                obtain ⟨F9, G9, hb9, hr9, _, _, _, _⟩ := hPl
                obtain ⟨rv, rl, hr1, hr2⟩ := hr9
                obtain ⟨rva, rvc, hrv, _⟩ := own_shape hr1.own
                rw [hr1.it.1] at hrv
                subst hrv
                have q1 : ∀ p : After w5, p.w'.cell? ⟨r, 1, none⟩ = some (.int .i64 o9) := fun p => p.cell hr1.cell1
                have q2 : ∀ p : After w5, p.w'.cell? ⟨r, 2, none⟩ = some (.slice rva b9.length rvc) := fun p => p.cell hr1.cell2
                have HB9 := Lib.hid hb9
                clear hb9 hr1 hr2
                go_wp2_with fail
                have hw9 : IntKind.i64.wrap ((b9.length : Int) - (o9 : Int)) = (b9.length : Int) - (o9 : Int) := IntWalk.i64_in _ (by have := HB5.out.1; have := HP9.out.le.1; have := HR.out; have := Hin.out; omega)
                refine wp_region_after (by kernel_rfl) (by kernel_rfl) ?_
                repeat (go_big_quiet_step ((first
                  | (go_at_call 16; exact Calls.after_of ((bLen (HB9.out.below (After.h _))).mono fun _ _ ⟨he, hw⟩ => ⟨he, by rw [hw]; exact Below.refl _ _⟩))
                  | (go_at_call 13; exact Calls.after_of ((bOutA (HB9.out.below (After.h _))).mono fun _ _ ⟨he, hw⟩ => ⟨he, by rw [hw]; exact Below.refl _ _⟩))
                  | (go_at_call 14; exact Calls.after_of ((bWaits (HB9.out.below (After.h _)) (by have := HB5.out.1; omega)).mono fun _ _ ⟨he, hw⟩ => ⟨he, by rw [hw]; exact Below.refl _ _⟩))
                  | fail)))
                refine wpQuiet_nil ?_
                rintro wq ⟨⟨_, hbq⟩, rfl⟩
                clear q1 q2 hw9
                have HPq := Lib.hid (HP9.out.below hbq)
                clear hbq
                go_wp2_with fail
                go_roundg (ds.length - (i + 1))
                case measure => have := Hin.out; omega
                case rel => exact ⟨i + 1, o9, b9, by go_num, (by have := Hin.out; omega), rfl, HB5, HPq.out⟩
              · have hd7 : (do' == 7) = false := by simpa using hd7
                by_cases hd8 : do' = 8
                · have hd8 : (do' == 8) = true := by simpa using hd8
                  go_wp2_with fail
                  obtain ⟨F, G, hp, hq, hdj, hF, hG, hB⟩ := HX.out
                  have HQ := Lib.hid hq
                  have HK : Hid ((∀ x, F x → G x → False) ∧ (∀ x, F x → w.heap.size ≤ x) ∧ (∀ x, G x → w.heap.size ≤ x) ∧ Below w.heap.size w wr ∧ ∀ x, G x → x < wr.heap.size) := ⟨hdj, hF, hG, hB, hq.lt⟩
                  refine (bAgain hp).mono ?_
                  rintro x w4 ⟨rfl, h4, s4⟩
                  have H4 := Lib.hid h4
                  have S4 := Lib.hid s4
                  have HQ4 : Hid (RfA w4 G r (.int .i64 M) (.int .i64 out) bs) := HQ.out.keep (s4.other HQ.out.lt hdj).1
                  have hb4 : Below w.heap.size w w4 := hB.trans (s4.below hB.size hF)
                  obtain ⟨d0, d1, d2⟩ := HDt.out w4 hb4
                  have Hb4 := Lib.hid hb4
                  clear hp hq hdj hF hG hB h4 s4 hb4 c0 c1 c2
                  go_wp2_with fail
                  refine (rAgain HQ4.out).mono ?_
                  rintro x w5 ⟨rfl, h5, s5⟩
                  have hPl : PlX w w5 b r M 0 bs := PlX.both HK.out.1 HK.out.2.1 HK.out.2.2.1 HK.out.2.2.2.1 HK.out.2.2.2.2 H4.out S4.out h5 s5
                  have HB5 : Hid (bs.length ≤ i + 1 ∧ ∀ x ∈ bs, x.length ≤ 200) := ⟨by have := HB.out.1; omega, HB.out.2⟩
                  clear h5 s5 d0 d1 d2
                  obtain ⟨b9, hb9e⟩ : ∃ b9, b9 = bs := ⟨_, rfl⟩
                  rw [← hb9e] at hPl HB5
                  clear hb9e
                  obtain ⟨o9, ho9e⟩ : ∃ o9, o9 = 0 := ⟨_, rfl⟩
                  rw [← ho9e] at hPl
                  clear ho9e
                  have HP9 := Lib.hid hPl
                  obtain ⟨F9, G9, hb9, hr9, _, _, _, _⟩ := hPl
                  obtain ⟨rv, rl, hr1, hr2⟩ := hr9
                  obtain ⟨rva, rvc, hrv, _⟩ := own_shape hr1.own
                  rw [hr1.it.1] at hrv
                  subst hrv
                  have q1 : ∀ p : After w5, p.w'.cell? ⟨r, 1, none⟩ = some (.int .i64 o9) := fun p => p.cell hr1.cell1
                  have q2 : ∀ p : After w5, p.w'.cell? ⟨r, 2, none⟩ = some (.slice rva b9.length rvc) := fun p => p.cell hr1.cell2
                  have HB9 := Lib.hid hb9
                  clear hb9 hr1 hr2
                  go_wp2_with fail
                  have hw9 : IntKind.i64.wrap ((b9.length : Int) - (o9 : Int)) = (b9.length : Int) - (o9 : Int) := IntWalk.i64_in _ (by have := HB5.out.1; have := HP9.out.le.1; have := HR.out; have := Hin.out; omega)
                  refine wp_region_after (by kernel_rfl) (by kernel_rfl) ?_
                  repeat (go_big_quiet_step ((first
                    | (go_at_call 16; exact Calls.after_of ((bLen (HB9.out.below (After.h _))).mono fun _ _ ⟨he, hw⟩ => ⟨he, by rw [hw]; exact Below.refl _ _⟩))
                    | (go_at_call 13; exact Calls.after_of ((bOutA (HB9.out.below (After.h _))).mono fun _ _ ⟨he, hw⟩ => ⟨he, by rw [hw]; exact Below.refl _ _⟩))
                    | (go_at_call 14; exact Calls.after_of ((bWaits (HB9.out.below (After.h _)) (by have := HB5.out.1; omega)).mono fun _ _ ⟨he, hw⟩ => ⟨he, by rw [hw]; exact Below.refl _ _⟩))
                    | fail)))
                  refine wpQuiet_nil ?_
                  rintro wq ⟨⟨_, hbq⟩, rfl⟩
                  clear q1 q2 hw9
                  have HPq := Lib.hid (HP9.out.below hbq)
                  clear hbq
                  go_wp2_with fail
                  go_roundg (ds.length - (i + 1))
                  case measure => have := Hin.out; omega
                  case rel => exact ⟨i + 1, o9, b9, by go_num, (by have := Hin.out; omega), rfl, HB5, HPq.out⟩
                · have hd8 : (do' == 8) = false := by simpa using hd8
                  go_wp2_with fail
                  obtain ⟨F, G, hp, hq, hdj, hF, hG, hB⟩ := HX.out
                  have HQ := Lib.hid hq
                  have HK : Hid ((∀ x, F x → G x → False) ∧ (∀ x, F x → w.heap.size ≤ x) ∧ (∀ x, G x → w.heap.size ≤ x) ∧ Below w.heap.size w wr ∧ ∀ x, G x → x < wr.heap.size) := ⟨hdj, hF, hG, hB, hq.lt⟩
                  refine (bClear hp (by have := HB.out.1; omega)).mono ?_
                  rintro x w4 ⟨rfl, F', h4, s4⟩
                  have H4 := Lib.hid h4
                  have S4 := Lib.hid s4
                  have HQ4 : Hid (RfA w4 G r (.int .i64 M) (.int .i64 out) bs) := HQ.out.keep (s4.other HQ.out.lt hdj).1
                  have hb4 : Below w.heap.size w w4 := hB.trans (s4.below hB.size hF)
                  obtain ⟨d0, d1, d2⟩ := HDt.out w4 hb4
                  have Hb4 := Lib.hid hb4
                  clear hp hq hdj hF hG hB h4 s4 hb4 c0 c1 c2
                  go_wp2_with fail
                  refine (rClear HQ4.out).mono ?_
                  rintro x w5 ⟨rfl, G', h5, s5⟩
                  have hPl : PlX w w5 b r M 0 [] := PlX.both HK.out.1 HK.out.2.1 HK.out.2.2.1 HK.out.2.2.2.1 HK.out.2.2.2.2 H4.out S4.out h5 s5
                  have HB5 : Hid (([] : List (List Int)).length ≤ i + 1 ∧ ∀ x ∈ ([] : List (List Int)), x.length ≤ 200) := ⟨by simp, fun x hx => by simp at hx⟩
                  clear h5 s5 d0 d1 d2
                  obtain ⟨b9, hb9e⟩ : ∃ b9, b9 = ([] : List (List Int)) := ⟨_, rfl⟩
                  rw [← hb9e] at hPl HB5
                  clear hb9e
                  obtain ⟨o9, ho9e⟩ : ∃ o9, o9 = 0 := ⟨_, rfl⟩
                  rw [← ho9e] at hPl
                  clear ho9e
                  have HP9 := Lib.hid hPl
                  obtain ⟨F9, G9, hb9, hr9, _, _, _, _⟩ := hPl
                  obtain ⟨rv, rl, hr1, hr2⟩ := hr9
                  obtain ⟨rva, rvc, hrv, _⟩ := own_shape hr1.own
                  rw [hr1.it.1] at hrv
                  subst hrv
                  have q1 : ∀ p : After w5, p.w'.cell? ⟨r, 1, none⟩ = some (.int .i64 o9) := fun p => p.cell hr1.cell1
                  have q2 : ∀ p : After w5, p.w'.cell? ⟨r, 2, none⟩ = some (.slice rva b9.length rvc) := fun p => p.cell hr1.cell2
                  have HB9 := Lib.hid hb9
                  clear hb9 hr1 hr2
                  go_wp2_with fail
                  have hw9 : IntKind.i64.wrap ((b9.length : Int) - (o9 : Int)) = (b9.length : Int) - (o9 : Int) := IntWalk.i64_in _ (by have := HB5.out.1; have := HP9.out.le.1; have := HR.out; have := Hin.out; omega)
                  refine wp_region_after (by kernel_rfl) (by kernel_rfl) ?_
                  repeat (go_big_quiet_step ((first
                    | (go_at_call 16; exact Calls.after_of ((bLen (HB9.out.below (After.h _))).mono fun _ _ ⟨he, hw⟩ => ⟨he, by rw [hw]; exact Below.refl _ _⟩))
                    | (go_at_call 13; exact Calls.after_of ((bOutA (HB9.out.below (After.h _))).mono fun _ _ ⟨he, hw⟩ => ⟨he, by rw [hw]; exact Below.refl _ _⟩))
                    | (go_at_call 14; exact Calls.after_of ((bWaits (HB9.out.below (After.h _)) (by have := HB5.out.1; omega)).mono fun _ _ ⟨he, hw⟩ => ⟨he, by rw [hw]; exact Below.refl _ _⟩))
                    | fail)))
                  refine wpQuiet_nil ?_
                  rintro wq ⟨⟨_, hbq⟩, rfl⟩
                  clear q1 q2 hw9
                  have HPq := Lib.hid (HP9.out.below hbq)
                  clear hbq
                  go_wp2_with fail
                  go_roundg (ds.length - (i + 1))
                  case measure => have := Hin.out; omega
                  case rel => exact ⟨i + 1, o9, b9, by go_num, (by have := Hin.out; omega), rfl, HB5, HPq.out⟩
        · have hd1 : decide ((i : Int) < ds.length) = false := by simp; omega
          go_wp2_with fail
          go_ret
          exact ⟨rfl, HX.out.bel⟩
end Go.Proofs.Ytlpkjnafmknddaa
