/-
  Layer 4: QueueMoves: the walk.
-/
import Derived.Test.YtjefmicmhcajoaaL4G
import Derived.Test.YtjefmicmhcajoaaL4A
import Derived.Test.YtjefmicmhcajoaaR4R
namespace Go.Proofs.Ytjefmicmhcajoaa
open Go.RowKit
set_option linter.unusedVariables false


/-- Two rows of ints that a law has made. -/
structure MvI (w0 w : World) (ca cb : Nat) (most : Int) (sa sb : Value) (za zb : List Int) : Prop where
  a : IsQI w w0.heap.size ca most sa (ivsI za)
  b : IsQI w w0.heap.size cb most sb (ivsI zb)
  ne : ca ≠ cb
  d : ∀ g, sa.ownBlock = some g → ¬ sb.ownBlock = some g
  bel : Below w0.heap.size w0 w
def MvX (w0 w : World) (ca cb : Nat) (most : Int) (za zb : List Int) : Prop := ∃ sa sb, MvI w0 w ca cb most sa sb za zb
section
variable {w0 w w' : World} {ca cb : Nat} {most : Int} {sa sb : Value} {za zb : List Int}
theorem MvI.below (h : MvI w0 w ca cb most sa sb za zb) (hb : Below w.heap.size w w') : MvI w0 w' ca cb most sa sb za zb := ⟨h.a.below hb, h.b.below hb, h.ne, h.d, h.bel.trans (hb.mono h.bel.size)⟩
theorem MvX.below (h : MvX w0 w ca cb most za zb) (hb : Below w.heap.size w w') : MvX w0 w' ca cb most za zb := by
  obtain ⟨sa, sb, h⟩ := h
  exact ⟨sa, sb, h.below hb⟩
theorem MvX.bel (h : MvX w0 w ca cb most za zb) : Below w0.heap.size w0 w := by obtain ⟨sa, sb, h⟩ := h; exact h.bel
theorem MvI.swap (h : MvI w0 w ca cb most sa sb za zb) : MvI w0 w cb ca most sb sa zb za := ⟨h.b, h.a, h.ne.symm, fun g h1 h2 => h.d g h2 h1, h.bel⟩
theorem MvX.swap (h : MvX w0 w ca cb most za zb) : MvX w0 w cb ca most zb za := by
  obtain ⟨sa, sb, h⟩ := h
  exact ⟨sb, sa, h.swap⟩
/-- a turns. -/
theorem MvI.turn (h : MvI w0 w ca cb most sa sb za zb) {sa' : Value} {za' : List Int} (q : IsQI w' w0.heap.size ca most sa' (ivsI za')) (m : Mv w sa sa') (f : Fr (ftp ca sa) w w') : MvX w0 w' ca cb most za' zb := by
  refine ⟨sa', sb, q, h.b.fr f (fun e => ?_) (fun g hg e => ?_), h.ne, fun g hg e => (m g hg).elim (fun e1 => h.d g e1 e) (fun e1 => by have := own_lt h.b.own e; omega), h.bel.trans (f.below' h.bel.size h.a.ftp_ge)⟩
  · rcases e with e | e
    · exact h.ne e.symm
    · exact own_ne h.a.own h.b.blk (by decide) e
  · rcases e with e | e
    · subst e; exact own_ne h.b.own h.a.blk (by decide) hg
    · exact h.d g e hg
theorem mvPut (h : MvX w0 w ca cb most za zb) (x : Int) (hl : za.length ≤ 90000) (hf : (za.length : Int) < most) : Calls Try.prog 17 #[.pointer (some ⟨ca, 0, none⟩), .int .i64 x] w fun e w' => e = .returned (.bool true) ∧ MvX w0 w' ca cb most (za ++ [x]) zb := by
  obtain ⟨sa, sb, h⟩ := h
  refine (putQI ca most sa (ivsI za) (.int .i64 x) w _ h.bel.size h.a (by rw [ivsI_len]; omega) ⟨x, rfl⟩).mono ?_
  rintro e w' ⟨rfl, sa', q, m, f⟩
  rw [ivsI_len, decide_eq_true hf]
  rw [show putL most (ivsI za) (.int .i64 x) = ivsI (za ++ [x]) by rw [show putL most (ivsI za) (.int .i64 x) = ivsI za ++ [.int .i64 x] from if_pos (by rw [ivsI_len]; exact hf)]; simp] at q
  exact ⟨rfl, h.turn q m f⟩
theorem mvCut (h : MvX w0 w ca cb most za zb) (n : Int) (m : Nat) (hn : min (max n 0) (za.length : Int) = m) (hl : za.length ≤ 90000) : Calls Try.prog 29 #[.pointer (some ⟨ca, 0, none⟩), .int .i64 n] w fun e w' => e = .returned (.int .i64 m) ∧ MvX w0 w' ca cb most (za.drop m) zb := by
  obtain ⟨sa, sb, h⟩ := h
  by_cases h0 : m = 0
  · subst h0
    exact (cutNoI n ca most sa (ivsI za) w _ h.a (by rw [ivsI_len]; exact hn)).mono fun e w' ⟨he, hw⟩ => ⟨he, by subst hw; exact ⟨sa, sb, by simpa using h⟩⟩
  · refine (cutYesI n m ca most sa (ivsI za) w _ h.bel.size h.a (by rw [ivsI_len]; exact hn) (by omega) (by rw [ivsI_len]; omega)).mono ?_
    rintro e w' ⟨rfl, sv', q, mv, f⟩
    rw [show (ivsI za).drop m = ivsI (za.drop m) from (List.map_drop ..).symm] at q
    exact ⟨rfl, h.turn q mv (f.mono (fun _ _ e => .inl e))⟩
theorem mvTake (h : MvX w0 w ca cb most za zb) (hl : za.length ≤ 90000) : Calls Try.prog 25 #[.pointer (some ⟨ca, 0, none⟩)] w fun e w' => (∃ a b, e = .returned (.tuple #[a, b])) ∧ MvX w0 w' ca cb most (za.drop 1) zb := by
  obtain ⟨sa, sb, h⟩ := h
  cases za with
  | nil => exact (takeNoI ca most sa w _ h.a).mono fun e w' ⟨he, hw⟩ => ⟨⟨_, _, he⟩, by subst hw; exact ⟨sa, sb, h⟩⟩
  | cons z za =>
    refine (takeYesI ca most sa (.int .i64 z) (ivsI za) w _ h.bel.size h.a (by rw [List.length_cons, ivsI_len]; rw [List.length_cons] at hl; omega) ⟨z, rfl⟩).mono ?_
    rintro e w' ⟨rfl, sv', q, mv, f⟩
    exact ⟨⟨_, _, rfl⟩, h.turn q mv (f.mono (fun _ _ e => .inl e))⟩
theorem mvAll (h : MvX w0 w ca cb most za zb) (hl : za.length ≤ 90000) : Calls Try.prog 27 #[.pointer (some ⟨ca, 0, none⟩), .int .i64 (-1)] w fun e w' => ∃ ov, e = .returned ov ∧ Own enQ 3 1 w.heap.size w' ov (ivsI za) ∧ Below w.heap.size w w' := by
  obtain ⟨sa, sb, h⟩ := h
  exact all (-1) ca most sa za w _ h.a (by omega)
theorem mvIns (h : MvX w0 w ca cb most za zb) (i : Nat) (x : Int) (hl : za.length ≤ 90000) (hi : i ≤ za.length) (hf : (za.length : Int) < most) : Calls Try.prog 28 #[.pointer (some ⟨ca, 0, none⟩), .int .i64 i, .int .i64 x] w fun e w' => e = .returned (.bool true) ∧ MvX w0 w' ca cb most (insL za i x) zb := by
  obtain ⟨sa, sb, h⟩ := h
  refine (insYesAtI ca most sa (ivsI za) i (.int .i64 x) w _ h.bel.size h.a (by rw [ivsI_len]; exact hf) (by rw [ivsI_len]; exact hi) (by rw [ivsI_len]; omega) ⟨x, rfl⟩).mono ?_
  rintro e w' ⟨rfl, sv', q, mv, f⟩
  rw [show insL (ivsI za) i (.int .i64 x) = ivsI (insL za i x) by unfold insL ivsI; rw [List.map_append, List.map_cons, List.map_take, List.map_drop]] at q
  exact ⟨rfl, h.turn q mv f⟩
theorem mvInsNo (h : MvX w0 w ca cb most za zb) (i : Int) (x : Int) (hf : i < 0 ∨ (za.length : Int) < i) : Calls Try.prog 28 #[.pointer (some ⟨ca, 0, none⟩), .int .i64 i, .int .i64 x] w fun e w' => e = .returned (.bool false) ∧ MvX w0 w' ca cb most za zb := by
  have h' := h
  obtain ⟨sa, sb, h⟩ := h
  exact (insNoI ca most sa (ivsI za) i (.int .i64 x) w _ h.a (by rw [ivsI_len]; exact .inr hf)).mono fun e w' ⟨he, hb⟩ => ⟨he, h'.below hb⟩
/-- Insert, whatever befalls. -/
theorem mvInsAny (h : MvX w0 w ca cb most za zb) (i : Int) (x : Int) (hl : za.length ≤ 90000) (hf : (za.length : Int) < most) : Calls Try.prog 28 #[.pointer (some ⟨ca, 0, none⟩), .int .i64 i, .int .i64 x] w fun e w' => ∃ (ok : Bool) (za' : List Int), e = .returned (.bool ok) ∧ MvX w0 w' ca cb most za' zb ∧ ok = decide (0 ≤ i ∧ i ≤ (za.length : Int)) ∧ za'.length ≤ za.length + 1 ∧ (ok = true → ∃ k : Nat, i = k ∧ k ≤ za.length ∧ za' = insL za k x) := by
  by_cases hi : 0 ≤ i ∧ i ≤ (za.length : Int)
  · obtain ⟨k, rfl⟩ : ∃ k : Nat, i = k := ⟨i.toNat, by omega⟩
    exact (mvIns h k x hl (by omega) hf).mono fun e w' ⟨he, hx⟩ => ⟨true, _, he, hx, by simp; omega, by unfold insL; simp; omega, fun _ => ⟨k, rfl, by omega, rfl⟩⟩
  · exact (mvInsNo h i x (by omega)).mono fun e w' ⟨he, hx⟩ => ⟨false, za, he, hx, by simp; omega, by omega, fun e => by cases e⟩
theorem mvPeek (h : MvX w0 w ca cb most za zb) (i : Nat) (hi : i < za.length) : Calls Try.prog 41 #[.pointer (some ⟨ca, 0, none⟩), .int .i64 i] w fun e w' => e = .returned (.tuple #[.int .i64 za[i], .bool true]) ∧ w' = w := by
  obtain ⟨sa, sb, h⟩ := h
  refine (peekQI i ca most sa (ivsI za) w _ h.a (by rw [ivsI_len]; exact hi)).mono ?_
  rintro e w' ⟨rfl, rfl⟩
  simp
theorem mvLen (h : MvX w0 w ca cb most za zb) : Calls Try.prog 32 #[.pointer (some ⟨ca, 0, none⟩)] w fun e w' => e = .returned (.int .i64 za.length) ∧ w' = w := by
  obtain ⟨sa, sb, h⟩ := h
  have := lenQI ca most sa (ivsI za) w _ h.a
  rw [ivsI_len] at this
  exact this
theorem mvFilter (h : MvX w0 w ca cb most za zb) (x : Int) (b : Nat) (hb : w.heap[b]? = some (.cells #[.int .i64 x] 3 (0, 0))) (hl : za.length ≤ 90000) : Calls Try.prog 30 #[.pointer (some ⟨ca, 0, none⟩), .func (.func 45) #[] #[.pointer (some ⟨b, 0, none⟩)]] w fun e w' => e = .returned (.int .i64 ((za.length : Int) - ((filtL x za).length : Int))) ∧ MvX w0 w' ca cb most (filtL x za) zb := by
  obtain ⟨sa, sb, h⟩ := h
  refine (filterQ x b ca most sa za w _ h.bel.size h.a hb (by omega)).mono ?_
  rintro e w' ⟨rfl, sv', q, mv, f⟩
  exact ⟨rfl, h.turn q mv (f.mono (fun _ _ e => .inl e))⟩
end

theorem insL_get {za : List Int} {k : Nat} {x : Int} (hk : k ≤ za.length) : (insL za k x)[k]? = some x := by
  unfold insL
  rw [List.getElem?_append_right (by simp; omega)]
  simp [Nat.min_eq_left hk]
theorem insL_len {za : List Int} {k : Nat} {x : Int} (hk : k ≤ za.length) : (insL za k x).length = za.length + 1 := by unfold insL; simp; omega

set_option maxHeartbeats 8000000 in
set_option maxRecDepth 100000 in
theorem moves (la : Option Addr) (lc : Nat) (zs : List Int) (at' x n : Int) (hat : i64B at') (hn : i64B n) (w : World) (hl : RdZ w (.slice la zs.length lc) zs) : Calls Try.prog 33 #[.slice la zs.length lc, .int .i64 at', .int .i64 x, .int .i64 n] w fun x w' => x = .returned (.bool true) ∧ Below w.heap.size w w' := by
  have Hl := Lib.hid hl
  clear hl
  by_cases h60 : 60 < zs.length
  · have hd : decide ((60 : Int) < zs.length) = true := by simp; omega
    go_enter Try.func33, Try.ntmps33
    go_wp2_with fail
    refine (awake w).mono ?_
    rintro x w1 ⟨rfl, b1⟩
    go_wp2_with fail
    go_ret
    exact ⟨rfl, b1⟩
  have hd : decide ((60 : Int) < zs.length) = false := by simp; omega
  have HR : Hid (zs.length ≤ 60) := by unfold Hid; omega
  have hw1 : IntKind.i64.wrap ((zs.length : Int) + 1) = (zs.length : Int) + 1 := by rw [IntKind.wrap_i64]; omega
  clear h60
  go_enter Try.func33, Try.ntmps33
  go_wp2_with fail
  refine (newQI ((zs.length : Int) + 1) (by have := HR.out; omega) w).mono ?_
  rintro x1 w2 ⟨rfl, q2, b2⟩
  have Q2 := Lib.hid q2
  have B2 := Lib.hid b2
  clear q2 b2
  go_wp2_with fail
  refine (newQI ((zs.length : Int) + 1) (by have := HR.out; omega) w2).mono ?_
  rintro x1 w3 ⟨rfl, q3, b3⟩
  obtain ⟨most, hmost⟩ : ∃ most : Int, most = (zs.length : Int) + 1 := ⟨_, rfl⟩
  have Hmost := Lib.hid hmost
  have ini : Hid (MvX w w3 w.heap.size w2.heap.size most (zs.take 0) (zs.take 0)) := by
    have h1 := Q2.out.below b3
    have hs := B2.out.size
    rw [show max ((zs.length : Int) + 1) 0 = most by omega] at h1 q3
    exact ⟨_, _, h1, ⟨q3.blk, by omega, own_base (own_zero q3.own) (fun g hg => by simp [Value.ownBlock] at hg), q3.m0, q3.m1, q3.one, q3.le⟩, by have := lt_of_block Q2.out.blk; omega, fun g hg => by simp [Value.ownBlock] at hg, B2.out.trans (b3.mono hs)⟩
  clear q3 b3 Q2 B2 hmost
  obtain ⟨ca, hca⟩ : ∃ c, c = w.heap.size := ⟨_, rfl⟩
  obtain ⟨cb, hcb⟩ : ∃ c, c = w2.heap.size := ⟨_, rfl⟩
  have ini2 : Hid (MvX w w3 ca cb most (zs.take 0) (zs.take 0)) := by rw [hca, hcb]; exact ini
  rw [← hca, ← hcb]
  clear hcb ini hca
  go_wp2_with fail
  go_loopw [11] (fun v wr => ∃ i : Nat, i ≤ zs.length ∧ v = .int .i64 i ∧ Hid (MvX w wr ca cb most (zs.take i) (zs.take i))) (fun v _ => zs.length - (intOf v).toNat)
  case atStart => exact ⟨0, by omega, rfl, ini2⟩
  case round =>
    obtain ⟨i, hi, rfl, HX⟩ := hrel
    by_cases hlt : i < zs.length
    · have hrd := Rd.fr Hl.out (Fr.of_below HX.out.bel no) (fun _ _ e => e)
      obtain ⟨b1, o1, c1, e1, g1, x1⟩ := hrd.some (by omega) (by decide)
      simp at e1
      obtain ⟨rfl, rfl⟩ := e1
      clear x1
      have y1 := rdz_at hrd hlt
      clear hrd
      have Ht : Hid (zs.take (i + 1) = zs.take i ++ [zs[i]]) := List.take_succ_eq_append_getElem hlt
      have Hll : Hid ((zs.take i).length = i) := by unfold Hid; simp; omega
      have Hlt := Lib.hid hlt
      have hr60 : zs.length ≤ 60 := HR.out
      go_wp2_with fail
      refine (mvPut HX.out zs[i] (by rw [Hll.out]; omega) (by rw [Hll.out, Hmost.out]; omega)).mono ?_
      rintro x1 w4 ⟨rfl, h4⟩
      have H4 := Lib.hid h4.swap
      have y2 : w4.cell? ⟨b1, o1 + i, none⟩ = some (.int .i64 zs[i]) := rdz_at (Rd.fr Hl.out (Fr.of_below h4.bel no) (fun _ _ e => e)) Hlt.out
      clear h4
      go_wp2_with fail
      refine (mvPut H4.out zs[i] (by rw [Hll.out]; omega) (by rw [Hll.out, Hmost.out]; omega)).mono ?_
      rintro x1 w5 ⟨rfl, h5⟩
      have H5 := Lib.hid h5.swap
      clear h5
      go_wp2_with fail
      go_roundw
      case rel => exact ⟨i + 1, by omega, by go_num, by rw [Ht.out]; exact H5⟩
      case measure => simp [intOf]; omega
    · obtain rfl : i = zs.length := by omega
      rw [List.take_of_length_le (Nat.le_refl _)] at HX
      clear ini2
      obtain ⟨m, hm⟩ : ∃ m : Nat, min (max n 0) (zs.length : Int) = m := ⟨(min (max n 0) (zs.length : Int)).toNat, by omega⟩
      have Hm := Lib.hid hm
      clear hm
      go_wp2_with fail
      refine (mvCut HX.out n m Hm.out (by have := HR.out; omega)).mono ?_
      rintro x1 w6 ⟨rfl, h6⟩
      have H6 := Lib.hid h6.swap
      clear h6
      go_wp2_with fail
      go_loopw [13] (fun v wr => ∃ j : Nat, v = .int .i64 j ∧ Hid ((j : Int) ≤ max n 0) ∧ j ≤ 100 ∧ Hid (MvX w wr ca cb most (zs.drop m) (zs.drop j))) (fun v _ => 100 - (intOf v).toNat)
      case atStart => exact ⟨0, rfl, by unfold Hid; omega, by omega, H6.out.swap⟩
      case round =>
        obtain ⟨j, rfl, Hj, hj, HY⟩ := hrel
        go_upto_region 11 with fail
        go_cut [60] from 54 to 64 (fun v60 wx => v60 = .bool (decide ((j : Int) < n ∧ j < 100)) ∧ wx = wr)
        case first =>
          by_cases h1 : (j : Int) < n
          · by_cases h2 : j < 100
            · have hd1 : decide ((j : Int) < n) = true := by simpa using h1
              have hd2 : decide ((j : Int) < 100) = true := by simp; omega
              have hd3 : decide ((j : Int) < n ∧ j < 100) = true := by simp; omega
              have Hd3 := Lib.hid hd3
              clear hd3
              go_wp2_with fail
              go_meet
              exact ⟨by rw [Hd3.out], rfl⟩
            · have hd1 : decide ((j : Int) < n) = true := by simpa using h1
              have hd2 : decide ((j : Int) < 100) = false := by simp; omega
              have hd3 : decide ((j : Int) < n ∧ j < 100) = false := by simp; omega
              have Hd3 := Lib.hid hd3
              clear hd3
              go_wp2_with fail
              go_meet
              exact ⟨by rw [Hd3.out], rfl⟩
          · have hd1 : decide ((j : Int) < n) = false := by simpa using h1
            have hd3 : decide ((j : Int) < n ∧ j < 100) = false := by simp; omega
            have Hd3 := Lib.hid hd3
            clear hd3
            go_wp2_with fail
            go_meet
            exact ⟨by rw [Hd3.out], rfl⟩
        case rest =>
          obtain ⟨rfl, rfl⟩ := hcut
          by_cases hb : (j : Int) < n ∧ j < 100
          · have hd3 : decide ((j : Int) < n ∧ j < 100) = true := by simpa using hb
            have Hb1 := Lib.hid hb.1
            have hb2 := hb.2
            rw [hd3]
            clear hb
            go_wp2_with fail
            refine (mvTake HY.out.swap (by have := HR.out; simp; omega)).mono ?_
            rintro x1 w7 ⟨⟨y1, y2, rfl⟩, h7⟩
            rw [List.drop_drop] at h7
            have H7 := Lib.hid h7.swap
            clear h7
            go_wp2_with fail
            go_roundw
            case rel => exact ⟨j + 1, by go_num, by unfold Hid; have := Hb1.out; omega, by omega, H7⟩
            case measure => simp [intOf]; omega
          · have hd3 : decide ((j : Int) < n ∧ j < 100) = false := by simpa using hb
            rw [hd3]
            have Hdr : Hid (zs.drop j = zs.drop m) := by
              unfold Hid
              have := Hj.out
              have := Hm.out
              have := HR.out
              by_cases hjm : j = m
              · rw [hjm]
              · rw [List.drop_eq_nil_of_le (by omega), List.drop_eq_nil_of_le (by omega)]
            rename World => wA
            have HY2 : Hid (MvX w wA ca cb most (zs.drop m) (zs.drop m)) := by have := HY.out; rw [Hdr.out] at this; exact this
            obtain ⟨za, hza⟩ : ∃ za, za = zs.drop m := ⟨_, rfl⟩
            rw [← hza] at HY2
            have hzl : za.length ≤ 60 := by rw [hza]; have := HR.out; simp; omega
            have Hzl : Hid ((za.length : Int) = (zs.length : Int) - m) := by unfold Hid; rw [hza]; have := Hm.out; simp; omega
            clear hza HY Hdr hb hd3
            go_upto_region 14 with fail
            go_cut [79] (fun v79 wx => v79 = .bool false ∧ Hid (Below wA.heap.size wA wx))
            case first =>
              have hm' := Hm.out
              go_wp2_with fail
              clear hm'
              refine (mvAll HY2.out (by omega)).mono ?_
              rintro x1 w8 ⟨o1, rfl, o8, b8⟩
              obtain ⟨oa, oc, hov, _⟩ := own_shape o8
              rw [ivsI_len] at hov
              subst hov
              have O8 := Lib.hid o8
              have B8 := Lib.hid b8
              clear o8 b8
              go_wp2_with fail
              refine (mvAll (HY2.out.swap.below B8.out) (by omega)).mono ?_
              rintro x1 w9 ⟨o2, rfl, o9, b9⟩
              obtain ⟨pa, pc, hpv, _⟩ := own_shape o9
              rw [ivsI_len] at hpv
              subst hpv
              have O9 := Lib.hid o9
              have B9 := Lib.hid b9
              clear o9 b9
              go_wp2_with fail
              refine (ints _ _ za za w9 (Rd.fr (rdz_of_own O8.out) (Fr.of_below B9.out no) (fun _ _ e => e)) (rdz_of_own O9.out) (by omega)).mono ?_
              rintro x1 w10 ⟨rfl, b10⟩
              rw [sameZ_self]
              have B10 : Hid (Below wA.heap.size wA w10) := B8.out.trans ((B9.out.mono B8.out.size).trans (b10.mono (Nat.le_trans B8.out.size B9.out.size)))
              clear b10
              go_wp2_with fail
              go_meet
              exact ⟨rfl, B10⟩
            case rest =>
              obtain ⟨rfl, HB⟩ := hcut
              rename World => wd
              have hx2 : Hid (MvX w wd ca cb most za za) := HY2.out.below HB.out
              clear HB HY2
              go_wp2_with fail
              refine (mvAll hx2.out (by omega)).mono ?_
              rintro x1 w8 ⟨o1, rfl, o8, b8⟩
              obtain ⟨oa, oc, hov, _⟩ := own_shape o8
              rw [ivsI_len] at hov
              subst hov
              have H8 := Lib.hid (hx2.out.below b8)
              clear o8 b8 hx2
              go_wp2_with fail
              refine (mvInsAny H8.out at' x (by omega) (by have := Hzl.out; have := Hmost.out; omega)).mono ?_
              rintro x1 w9 ⟨ok, za', rfl, h9, hok, hlz, hins⟩
              have H9 := Lib.hid h9
              have Hlz : Hid (za'.length ≤ 61) := by unfold Hid; omega
              have Hok := Lib.hid hok
              have Hins := Lib.hid hins
              clear h9 hok hins hlz H8
              go_upto_region 18 with fail
              go_cut [95] (fun v95 wx => v95 = .bool false ∧ wx = w9)
              case first =>
                have hok := Hok.out
                by_cases h1 : 0 ≤ at'
                · have hd1 : decide (0 ≤ at') = true := by simpa using h1
                  by_cases h2 : at' ≤ (za.length : Int)
                  · have hd2 : decide (at' ≤ (za.length : Int)) = true := by simpa using h2
                    obtain rfl : ok = true := by rw [hok]; simp; omega
                    clear hok
                    go_wp2_with fail
                    go_meet
                    exact ⟨rfl, rfl⟩
                  · have hd2 : decide (at' ≤ (za.length : Int)) = false := by simpa using h2
                    obtain rfl : ok = false := by rw [hok]; simp; omega
                    clear hok
                    go_wp2_with fail
                    go_meet
                    exact ⟨rfl, rfl⟩
                · have hd1 : decide (0 ≤ at') = false := by simpa using h1
                  obtain rfl : ok = false := by rw [hok]; simp; omega
                  clear hok
                  go_wp2_with fail
                  go_meet
                  exact ⟨rfl, rfl⟩
              case rest =>
                obtain ⟨rfl, rfl⟩ := hcut
                rename World => wB
                go_upto_if 96 with fail
                go_cut [16] (fun v16 wx => wx = wB)
                case first =>
                  cases ok with
                  | false =>
                    go_wp2_with fail
                    go_meet
                    exact rfl
                  | true =>
                    obtain ⟨k, rfl, hk, hz⟩ := Hins.out rfl
                    have hlen : za'.length = za.length + 1 := by rw [hz]; exact insL_len hk
                    have Hpk : Hid (∃ h : k < za'.length, za'[k] = x) := ⟨by omega, by
                      have := insL_get (x := x) hk
                      rw [← hz] at this
                      exact (List.getElem?_eq_some_iff.1 this).2⟩
                    have hlc : ((za'.length : Int) != (za.length : Int) + 1) = false := by rw [hlen]; simp
                    have hwz : IntKind.i64.wrap ((za.length : Int) + 1) = (za.length : Int) + 1 := by rw [IntKind.wrap_i64]; omega
                    clear hz hk hlen Hok Hins
                    go_wp2_with fail
                    obtain ⟨hkl, hget⟩ := Hpk.out
                    refine (mvPeek H9.out k hkl).mono ?_
                    rintro x1 w10 ⟨rfl, rfl⟩
                    rw [hget]
                    clear hget hkl
                    go_wp2_with fail
                    refine (mvLen H9.out).mono ?_
                    rintro x1 w11 ⟨rfl, rfl⟩
                    go_wp2_with fail
                    go_meet
                    exact rfl
                case rest =>
                  obtain rfl := hcut
                  rename World => wC
                  have hx3 : bits .and .i64 x 3 = x % 4 := i64_and3 x
                  go_wp2_with fail
                  refine (unlike (x % 4) wC).mono ?_
                  rintro x1 w10 ⟨rfl, rfl⟩
                  have H10 := Lib.hid (H9.out.below ((Below.refl _ wC).alloc (Nat.le_refl _) (.cells #[.int .i64 (x % 4)] 3)))
                  go_wp2_with fail
                  refine (mvFilter H10.out (x % 4) wC.heap.size (heap_alloc_new' wC _) (by have := Hlz.out; omega)).mono ?_
                  rintro x1 w11 ⟨rfl, h11⟩
                  obtain ⟨fl, hfl⟩ : ∃ fl, fl = filtL (x % 4) za' := ⟨_, rfl⟩
                  have hfle : fl.length ≤ za'.length := by rw [hfl]; exact filtL_le _ _
                  have hlt : ok = true → fl.length < za'.length := fun e => by
                    obtain ⟨k, _, hk, hz⟩ := Hins.out e
                    rw [hfl]
                    unfold filtL
                    rw [List.length_filter_lt_length_iff_exists]
                    exact ⟨x, by rw [hz]; unfold insL; simp, by simp⟩
                  have hnot : ∀ j, (h : j < fl.length) → (fl[j] % 4 == x % 4) = false := fun j h => by
                    have : fl[j] ∈ filtL (x % 4) za' := by rw [← hfl]; exact List.getElem_mem h
                    unfold filtL at this
                    have := (List.mem_filter.1 this).2
                    simpa [bne] using this
                  rw [← hfl] at h11 ⊢
                  have H11 := Lib.hid h11
                  have Hfle := Lib.hid hfle
                  have Hflt := Lib.hid hlt
                  have Hnot := Lib.hid hnot
                  clear h11 hfl hfle hlt hnot H10 Hins Hok
                  obtain ⟨gone, hgone⟩ : ∃ g : Int, g = (za'.length : Int) - (fl.length : Int) := ⟨_, rfl⟩
                  have Hgone := Lib.hid hgone
                  rw [← hgone]
                  clear hgone
                  go_wp2_with fail
                  refine (mvAll H11.out (by have := Hlz.out; have := Hfle.out; omega)).mono ?_
                  rintro x1 w12 ⟨ov, rfl, o12, b12⟩
                  obtain ⟨qa, qc, hqv, _⟩ := own_shape o12
                  rw [ivsI_len] at hqv
                  subst hqv
                  have O12 := Lib.hid (rdz_of_own o12)
                  have H12 := Lib.hid (H11.out.below b12)
                  clear o12 b12
                  have hfl60 : fl.length ≤ 61 := by have := Hlz.out; have := Hfle.out; omega
                  go_wp2_with fail
                  go_loopw [126] (fun v wr => ∃ j : Nat, j ≤ fl.length ∧ v = .int .i64 j ∧ wr = w12) (fun v _ => fl.length - (intOf v).toNat)
                  case atStart => exact ⟨0, by omega, rfl, rfl⟩
                  case round =>
                    obtain ⟨p, hp, rfl, rfl⟩ := hrel
                    by_cases hpl : p < fl.length
                    · obtain ⟨b1, o1, c1, e1, g1, x1⟩ := O12.out.some (by omega) (by decide)
                      simp at e1
                      obtain ⟨rfl, rfl⟩ := e1
                      clear x1
                      have y1 := rdz_at O12.out hpl
                      have hne := Hnot.out p hpl
                      have hy3 : bits .and .i64 fl[p] 3 = fl[p] % 4 := i64_and3 _
                      go_wp2_with fail
                      go_roundw
                      case rel =>
                        refine ⟨p + 1, by omega, ?_⟩
                        first | exact ⟨by go_num, rfl⟩ | exact ⟨by go_num, trivial⟩ | simp
                      case measure => simp [intOf]; omega
                    · obtain rfl : p = fl.length := by omega
                      have hg0 : decide (0 ≤ gone) = true := by have := Hgone.out; have := Hfle.out; simp; omega
                      go_wp2_with fail
                      refine (awake _).mono ?_
                      rintro x1 w13 ⟨rfl, b13⟩
                      have fin : Hid (Below w.heap.size w w13) := (H12.out.below b13).bel
                      clear b13
                      cases ok with
                      | false =>
                        go_wp2_with fail
                        go_ret
                        exact ⟨rfl, fin.out⟩
                      | true =>
                        have hg1 : decide (1 ≤ gone) = true := by have := Hgone.out; have := Hflt.out rfl; simp; omega
                        go_wp2_with fail
                        go_ret
                        exact ⟨rfl, fin.out⟩

/-- The law. -/
theorem movesL (la : Option Addr) (lc : Nat) (zs : List Int) (at' x n : Int) (hat : i64B at') (hn : i64B n) (w : World) (hl : RdZ w (.slice la zs.length lc) zs) : Calls Try.prog 8 #[.slice la zs.length lc, .agg #[.int .i64 at', .int .i64 x, .int .i64 n]] w fun x w' => x = .returned (.bool true) ∧ Below w.heap.size w w' := by
  have Hl := Lib.hid hl
  clear hl
  go_enter Try.func8, Try.ntmps8
  go_wp2_with fail
  refine (awake _).mono ?_
  rintro x1 w1 ⟨rfl, b1⟩
  have k0 : w1.cell? ⟨w.heap.size, 0, none⟩ = some (.int .i64 at') := (b1.cell (by simp)).trans (by simp)
  have k1 : w1.cell? ⟨w.heap.size, 1, none⟩ = some (.int .i64 x) := (b1.cell (by simp)).trans (by simp)
  have k2 : w1.cell? ⟨w.heap.size, 2, none⟩ = some (.int .i64 n) := (b1.cell (by simp)).trans (by simp)
  have B1 : Hid (Below w.heap.size w w1) := ((Below.refl _ w).alloc (Nat.le_refl _) _).trans (b1.mono (by simp))
  clear b1
  go_wp2_with fail
  refine (moves la lc zs at' x n hat hn w1 (Rd.fr Hl.out (Fr.of_below B1.out no) (fun _ _ e => e))).mono ?_
  rintro x1 w2 ⟨rfl, b2⟩
  go_wp2_with fail
  go_ret
  exact ⟨rfl, B1.out.trans (b2.mono B1.out.size)⟩
end Go.Proofs.Ytjefmicmhcajoaa
