/-
  Layer 20: InboxOrder: the walk.
-/
import Derived.Test.YtfibajfhaadnfaaL20E
import Derived.Test.YtfibajfhaadnfaaL20A
import Derived.Test.YtfibajfhaadnfaaTl
import Derived.Test.YtfibajfhaadnfaaRBB
import Derived.Deep.LoopGhost
namespace Go.Proofs.Ytfibajfhaadnfaa
open Go.RowKit
set_option linter.unusedVariables false


/-- Each value reads as its row of bytes, all along w. -/
def RowsB (w : World) (ms : List Value) (bs : List (List Int)) : Prop := ms.length = bs.length ∧ ∀ (j : Nat) v b, ms[j]? = some v → bs[j]? = some b → RdB w v b ∧ b.length ≤ 100
theorem RowsB.nil (w : World) : RowsB w [] [] := ⟨rfl, fun j v b hv => by simp at hv⟩
theorem RowsB.snoc {w : World} {l : List Value} {bs : List (List Int)} {v : Value} {b : List Int} (h : RowsB w l bs) (o : RdB w v b) (hb : b.length ≤ 100) : RowsB w (l ++ [v]) (bs ++ [b]) :=
  ⟨by simp [h.1], fun j u x hu hx => by
    by_cases hj : j < l.length
    · rw [List.getElem?_append_left hj] at hu
      rw [List.getElem?_append_left (by rw [← h.1]; exact hj)] at hx
      exact h.2 j u x hu hx
    · rw [List.getElem?_append_right (by omega)] at hu
      rw [List.getElem?_append_right (by rw [← h.1]; omega), ← h.1] at hx
      obtain ⟨h1, h2⟩ := List.getElem?_eq_some_iff.1 hu
      obtain ⟨h3, h4⟩ := List.getElem?_eq_some_iff.1 hx
      simp at h1 h2 h3 h4
      subst h2 h4
      exact ⟨o, hb⟩⟩
theorem RowsB.cons' {w : World} {l : List Value} {b : List Int} {bs : List (List Int)} (h : RowsB w l (b :: bs)) : ∃ v r, l = v :: r ∧ RdB w v b ∧ b.length ≤ 100 ∧ RowsB w r bs := by
  cases l with
  | nil => have := h.1; simp at this
  | cons v r => exact ⟨v, r, rfl, (h.2 0 v b rfl rfl).1, (h.2 0 v b rfl rfl).2, by simpa using h.1, fun j u x hu hx => h.2 (j + 1) u x (by simpa using hu) (by simpa using hx)⟩

/-- Where the law stands: the inbox i and the row m of what is in it. -/
structure OrW (w0 w : World) (q i n : Nat) (mv : Value) (bs : List (List Int)) (F : Nat → Prop) (full : Bool) (ms : List Value) : Prop where
  I : InA w F i n full bs
  ge : ∀ b, F b → q ≤ b
  m : TlR w 29 1 q mv bs.length ms
  rows : RowsB w0 ms bs
  dis : ∀ g, mv.ownBlock = some g → ¬ F g
  bel : Below w0.heap.size w0 w
  le : q ≤ w.heap.size
  few : bs.length ≤ n

theorem OrW.step {w0 w w' : World} {q i n : Nat} {mv : Value} {bs bs' : List (List Int)} {F F' : Nat → Prop} {full full' : Bool} {ms : List Value} (h : OrW w0 w q i n mv bs F full ms) (hq : w0.heap.size ≤ q) (hI : InA w' F' i n full' bs') (s : Stp F F' w w') :
    (∀ b, F' b → q ≤ b) ∧ TlR w' 29 1 q mv bs.length ms ∧ (∀ g, mv.ownBlock = some g → ¬ F' g) ∧ Below w0.heap.size w0 w' ∧ q ≤ w'.heap.size :=
  ⟨s.ge h.le h.ge, h.m.keep (fun g hg => s.fr.blk g (h.m.lt hg).2 (h.dis g hg)), fun g hg e => (s.new g e).elim (h.dis g hg) (fun e => by have := (h.m.lt hg).2; omega),
   h.bel.trans (s.below (Nat.le_trans hq h.le) (fun b e => Nat.le_trans hq (h.ge b e))), Nat.le_trans h.le s.size⟩
theorem OrW.same {w0 w w' : World} {q i n : Nat} {mv : Value} {bs : List (List Int)} {F : Nat → Prop} {full : Bool} {ms : List Value} (h : OrW w0 w q i n mv bs F full ms) (hq : w0.heap.size ≤ q) (hb : Below w.heap.size w w') : OrW w0 w' q i n mv bs F full ms :=
  ⟨h.I.below hb, h.ge, h.m.keep (fun g hg => hb.block g (h.m.lt hg).2), h.rows, h.dis, h.bel.trans (hb.mono (Nat.le_trans hq h.le)), Nat.le_trans h.le hb.size, h.few⟩
/-- A row of m's own turns, the inbox does not. -/
theorem OrW.app {w0 w w' : World} {q i n : Nat} {mv mv' : Value} {bs bs' : List (List Int)} {F' : Nat → Prop} {full' : Bool} {ms ms' : List Value} (h1 : InA w F' i n full' bs') (hge : ∀ b, F' b → q ≤ b) (hm : TlR w 29 1 q mv bs.length ms) (hd : ∀ g, mv.ownBlock = some g → ¬ F' g) (hb : Below w0.heap.size w0 w) (hl : q ≤ w.heap.size) (hq : w0.heap.size ≤ q)
    (f : Fr (fun b => mv.ownBlock = some b) w w') (m' : TlR w' 29 1 q mv' bs'.length ms') (mm : mv'.ownBlock = mv.ownBlock ∨ ∃ b, mv'.ownBlock = some b ∧ w.heap.size ≤ b) (rows : RowsB w0 ms' bs') (few : bs'.length ≤ n) : OrW w0 w' q i n mv' bs' F' full' ms' :=
  ⟨h1.keep (fun b e => f.blk b (h1.lt b e) (fun e' => hd b e' e)), hge, m', rows, fun g hg e => by
    rcases mm with mm | ⟨b, mm, hb'⟩
    · exact hd g (by rw [← mm]; exact hg) e
    · rw [mm] at hg; injection hg with hg; subst hg; have := h1.lt _ e; omega,
   hb.trans (f.below' (Nat.le_trans hq hl) (fun b e => Nat.le_trans hq (hm.lt e).1)), Nat.le_trans hl f.size, few⟩

theorem bb_ad {w : World} {v : Value} {ds : List BB} (hl : Rd w 1 v ds.length (ds.flatMap encBB)) (hn : 0 < ds.length) : ∃ lb lo lc, v = .slice (some ⟨lb, lo, none⟩) ds.length lc := by
  obtain ⟨b', o', c', hv, _, hx⟩ := Rd.some hl hn (by decide)
  exact ⟨b', o', c', hv⟩
theorem bb_at {w w' : World} {lb lo n lc : Nat} {ds : List BB} (hl : Rd w 1 (.slice (some ⟨lb, lo, none⟩) n lc) ds.length (ds.flatMap encBB)) (hb : Below w.heap.size w w') {i : Nat} (hi : i < ds.length) : w'.cell? ⟨lb, lo + i, none⟩ = some ds[i].1 := by
  obtain ⟨b', o', c', hv, _, hx⟩ := Rd.some (Rd.fr hl (Fr.of_below hb no) (fun _ _ e => e)) (by omega) (by decide)
  simp at hv
  obtain ⟨⟨rfl, rfl⟩, _, _⟩ := hv
  have h0 := Rd.el encBB_len hx hi (j := 0) (by decide) rfl
  simpa using h0

/-- Put, told in one way. -/
theorem inPut {i : Nat} {n : Int} {full : Bool} {bs : List (List Int)} {w : World} {F : Nat → Prop} (h : InA w F i n full bs) {bv : Value} {b : List Int} (hbv : RdB w bv b) (hbl : b.length ≤ 1000000) (hl : bs.length ≤ 1000) :
    Calls Try.prog 10 #[.pointer (some ⟨i, 0, none⟩), bv] w fun e w' => ∃ ok now full' F', e = .returned (.tuple #[.bool ok, .bool now]) ∧ InA w' F' i n full' (if ok = true then bs ++ [b] else bs) ∧ Stp F F' w w' ∧ (ok = true → (bs.length : Int) < n) := by
  by_cases hf : (bs.length : Int) < n
  · exact (inPutYes h hbv hbl hl hf).mono fun e w' ⟨he, F', h1, s⟩ => ⟨true, _, _, F', he, h1, s, fun _ => hf⟩
  · exact (inPutNo h hbv hbl hl (by omega)).mono fun e w' ⟨he, F', h1, s⟩ => ⟨false, false, _, F', he, h1, s, fun e => by cases e⟩

/-- What the relation says: an inbox, a row m. -/
def OrX (w0 w : World) (q i n : Nat) (mv : Value) (bs : List (List Int)) : Prop := ∃ F full ms, OrW w0 w q i n mv bs F full ms

set_option maxHeartbeats 16000000 in
set_option maxRecDepth 100000 in
theorem orderL (most : Nat) (lv tv : Value) (ds : List BB) (ts : List Int) (w : World) (hmo : most < 256) (hl : Rd w 1 lv ds.length (ds.flatMap encBB)) (hok : ∀ d ∈ ds, okBB w d) (htv : RdB w tv ts) (hts : ∀ y ∈ ts, 0 ≤ y ∧ y ≤ 255) : Calls Try.prog 4 #[.int .u8 most, lv, tv] w fun x w' => x = .returned (.bool true) ∧ Below w.heap.size w w' := by
  obtain ⟨n, hn⟩ : ∃ n, n = 1 + most % 16 := ⟨_, rfl⟩
  obtain ⟨la, lc, rfl⟩ := hl.len
  obtain ⟨ta, tc, rfl⟩ := htv.len
  have Hl := Lib.hid hl
  have Hok := Lib.hid hok
  have Ht := Lib.hid htv
  have Hts := Lib.hid hts
  have HnB : Hid (1 ≤ n ∧ n ≤ 16) := by unfold Hid; omega
  have n16 : 1 + (most : Int) % 16 = (n : Int) := by omega
  clear hl hok htv hts hn
  go_enter Try.func4, Try.ntmps4
  go_wp2_with fail
  refine (awake w).mono ?_
  rintro x w0 ⟨rfl, b0⟩
  have B0 := Lib.hid b0
  clear b0
  by_cases h100 : 100 < ds.length
  · have hd : decide ((100 : Int) < ds.length) = true := by simp; omega
    go_wp2_with fail
    go_ret
    exact ⟨rfl, B0.out⟩
  have hd : decide ((100 : Int) < ds.length) = false := by simp; omega
  by_cases h200 : 200 < ts.length
  · have hd2 : decide ((200 : Int) < ts.length) = true := by simp; omega
    go_wp2_with fail
    go_ret
    exact ⟨rfl, B0.out⟩
  have hd2 : decide ((200 : Int) < ts.length) = false := by simp; omega
  have HLB : Hid (ds.length ≤ 100 ∧ ts.length ≤ 200) := by unfold Hid; omega
  clear h100 h200
  go_wp2_with fail
  refine (inNew n (by have := HnB.out; omega) w0).mono ?_
  rintro x w1 ⟨i, F, rfl, h1, b1, g1⟩
  obtain ⟨q, hq⟩ : ∃ q, q = w0.heap.size := ⟨_, rfl⟩
  have hqw : w.heap.size ≤ q := by rw [hq]; exact B0.out.size
  have H1 : Hid (OrX w w1 q i n (.slice none 0 0) []) := ⟨F, false, [], h1, fun b e => by rw [hq]; exact g1 b e, TlR.nil _ _ _ _, RowsB.nil _, fun g hg => by simp [Value.ownBlock] at hg, B0.out.trans (b1.mono B0.out.size), by rw [hq]; exact b1.size, Nat.zero_le _⟩
  clear h1 b1 g1 hq
  go_wp2_with fail
  clear n16
  go_loopg [10, 11] ds.length (fun g s10 s11 wx => ∃ (k : Nat) (bs : List (List Int)), s11 = .int .i64 k ∧ k ≤ ds.length ∧ g = ds.length - k ∧ bs.length ≤ k ∧ OrX w wx q i n s10 bs)
  case atStart => exact ⟨0, [], rfl, Nat.zero_le _, rfl, Nat.le_refl _, H1.out⟩
  case round =>
    obtain ⟨k, bs, rfl, hk, rfl, hbk, hX⟩ := hrel
    have HX := Lib.hid hX
    have HK : Hid (bs.length ≤ k) := hbk
    clear hX H1 hbk
    by_cases hkn : k < ds.length
    · have hd1 : decide ((k : Int) < ds.length) = true := by simp; omega
      obtain ⟨lb, lo, lc', hv⟩ := bb_ad Hl.out (by omega)
      simp at hv
      obtain ⟨rfl, rfl⟩ := hv
      obtain ⟨F, full, ms, hW⟩ := HX.out
      have HW := Lib.hid hW
      have c0 := bb_at Hl.out hW.bel hkn
      have hrd := (Hok.out _ (List.getElem_mem hkn))
      obtain ⟨ba, bc, hbv⟩ := hrd.len
      rw [hbv] at c0
      have Hrd := Lib.hid hrd
      have Hbv := Lib.hid hbv
      clear hW hrd hbv
      by_cases hs : 100 < ds[k].2.length
      · have hd3 : decide ((100 : Int) < ds[k].2.length) = true := by simp; omega
        clear hs
        go_wp2_with fail
        go_ret
        exact ⟨rfl, HW.out.bel⟩
      have hd3 : decide ((100 : Int) < ds[k].2.length) = false := by simp; omega
      have HS : Hid (ds[k].2.length ≤ 100) := by unfold Hid; omega
      clear hs
      have hlen16 : bs.length ≤ 1000 := by have := HK.out; have := HLB.out; omega
      go_wp2_with fail
      refine (inPut HW.out.I (by have := Hrd.out.fr HW.out.bel; rw [Hbv.out] at this; exact this) (by have := HS.out; omega) hlen16).mono ?_
      rintro x w2 ⟨ok, now, full', F', rfl, h2, s2, hok⟩
      obtain ⟨g2, m2, d2, bl2, le2⟩ := HW.out.step hqw h2 s2
      have H2 : Hid (InA w2 F' i n full' (if ok = true then bs ++ [ds[k].2] else bs) ∧ (ok = true → (bs.length : Int) < n) ∧ (∀ b, F' b → q ≤ b) ∧ TlR w2 29 1 q u10 bs.length ms ∧ (∀ g, u10.ownBlock = some g → ¬ F' g) ∧ Below w.heap.size w w2 ∧ q ≤ w2.heap.size) := ⟨h2, hok, g2, m2, d2, bl2, le2⟩
      have c2 := bb_at Hl.out bl2 hkn
      obtain ⟨ma, mc, hmv, _⟩ := m2.shape
      rw [Hbv.out] at c2
      clear h2 s2 hok g2 m2 d2 bl2 le2 c0
      subst hmv
      have HKN := Lib.hid hkn
      have hk100 : (k : Int) ≤ 100 := by have := HLB.out; omega
      go_upto_if 60 with fail
      go_cut [10] from 61 to 67 (fun v10 wx => ∃ bs2 : List (List Int), bs2.length ≤ k + 1 ∧ OrX w wx q i n v10 bs2)
      case first =>
        cases ok with
        | false =>
          go_wp2_with fail
          go_meet
          obtain ⟨h2, hok, g2, m2, d2, bl2, le2⟩ := H2.out
          exact ⟨bs, by have := HK.out; omega, F', full', ms, h2, g2, m2, HW.out.rows, d2, bl2, le2, HW.out.few⟩
        | true =>
          obtain ⟨i1, hi1, hz3, hz4, hz5⟩ := info_parts infoQB
          go_wp2_with (at_builtin; refine held ?_)
          refine unheld ?_
          refine wpList_appT (B := q) rfl (.tmp 61) (.tmp 66) 32 rfl 29 i1 _ 1 _ Try.underlying32 hi1 hz3 hz4 hz5 rfl (by decide) (by have := H2.out.2.2.2.2.2.2; simp; omega) rfl rfl (H2.out.2.2.2.1.keep (fun g hg => heap_alloc_lt w2 _ (H2.out.2.2.2.1.lt hg).2)) (Rd.new (by simp) rfl) (by intro u hu; simp at hu; subst hu; rfl) (by unfold maxLen; omega) (by omega) ?_
          intro v5 w5 o5 f5 m5 z5
          have f25 : Fr (fun b => (Value.slice ma bs.length mc).ownBlock = some b) w2 w5 := ((Fr.refl _ w2).alloc _).trans f5
          have fin : Hid (OrX w w5 q i n v5 (bs ++ [ds[k].2])) := by
            obtain ⟨h2, hok, g2, m2, d2, bl2, le2⟩ := H2.out
            refine ⟨F', full', _, OrW.app h2 g2 m2 d2 bl2 le2 hqw f25 (by rw [List.length_append]; exact o5) ?_ (HW.out.rows.snoc (by have := Hrd.out; unfold okBB at this; rw [Hbv.out] at this; exact this) HS.out) ?_⟩
            · rcases m5 with m5 | m5
              · exact .inl m5
              · exact .inr ⟨_, m5, by simp⟩
            · have := hok (by first | exact rfl | trivial); simp; omega
          obtain ⟨a5, k5, rfl, _⟩ := o5.shape
          clear o5 m5 f5 f25
          go_wp2_with fail
          go_meet
          exact ⟨bs ++ [ds[k].2], by have := HK.out; simp; omega, fin.out⟩
      case rest =>
        obtain ⟨bs2, hb2, hX2⟩ := hcut
        have HX2 := Lib.hid hX2
        have HB2 : Hid (bs2.length ≤ k + 1) := hb2
        clear hX2 hb2 c2 H2 HW HX
        go_wp2_with fail
        go_loopg [10, 14] 3 (fun g s10 s14 wx => ∃ (t : Nat) (bs : List (List Int)), s14 = .int .i64 t ∧ t ≤ 3 ∧ g = 3 - t ∧ bs.length ≤ k + 1 ∧ OrX w wx q i n s10 bs)
        case atStart => exact ⟨0, bs2, rfl, by omega, rfl, HB2.out, HX2.out⟩
        case round =>
          obtain ⟨t, b3, rfl, ht, rfl, hb3, hX3⟩ := hrel
          have HB3 : Hid (b3.length ≤ k + 1) := hb3
          obtain ⟨F3, full3, ms3, hW3⟩ := hX3
          have HW3 := Lib.hid hW3
          obtain ⟨ma3, mc3, hmv3, _⟩ := hW3.m.shape
          subst hmv3
          clear hb3 hW3 HX2 HB2
          -- the loop's end: Len and len(m)
          by_cases hkt : k < ts.length
          · have hd4 : decide ((k : Int) < (ts.length : Int)) = true := by simp; omega
            obtain ⟨tb, toff, tc', htv, _, _⟩ := Rd.some (Rd.fr Ht.out (Fr.of_below HW3.out.bel no) (fun _ _ e => e)) (by omega) (by decide)
            simp at htv
            obtain ⟨rfl, rfl⟩ := htv
            have y0 := RdB.at (Ht.out.fr HW3.out.bel) hkt
            have hty := Hts.out ts[k] (List.getElem_mem hkt)
            generalize ts[k] = y at y0 hty
            obtain ⟨y1, y2⟩ := hty
            by_cases hty : (t : Int) < y % 3
            · have hd5 : decide ((t : Int) < y % 3) = true := by simpa using hty
              have ht2 : (t : Int) ≤ 2 := by omega
              clear hty
              go_wp2_with fail
              cases hb : b3 with
              | nil =>
                subst hb
                refine (inTakeNo HW3.out.I).mono ?_
                rintro x w6 ⟨rfl, h6, bl6⟩
                have H6 : Hid (OrW w w6 q i n (.slice ma3 0 mc3) [] F3 full3 ms3) := HW3.out.same hqw bl6
                clear h6 bl6 y0
                go_wp2_with fail
                go_roundg (3 - (t + 1))
                case measure => omega
                case rel => exact ⟨t + 1, [], by go_num, by omega, rfl, Nat.zero_le _, F3, full3, ms3, H6.out⟩
              | cons b bs =>
                subst hb
                obtain ⟨g5, o5, c5, hm5, _, _, hc5, hc6⟩ := HW3.out.m.some' (by simp)
                simp at hm5
                obtain ⟨rfl, rfl⟩ := hm5
                obtain ⟨v0, r0, hr0, hrd0, hl0, hrr⟩ := HW3.out.rows.cons'
                subst hr0
                refine (inTakeYes HW3.out.I (by have := HnB.out; omega) (by have h1 := HW3.out.few; have h2 := HnB.out; rw [List.length_cons] at h1; omega)).mono ?_
                rintro x w6 ⟨a6, k6, rfl, rd6, _, F6, h6, s6⟩
                have hms := s6.fr
                obtain ⟨g6, m6, d6, bl6, le6⟩ := HW3.out.step hqw h6 s6
                have hcell : w6.cell? ⟨g5, o5, none⟩ = some v0 := by
                  have := m6.cells 0 v0 rfl
                  simpa using this
                have hrd0' := hrd0.fr bl6
                obtain ⟨b7, c7, hv7⟩ := hrd0'.len
                have Hrd0 := Lib.hid hrd0'
                have Rd6 := Lib.hid rd6
                rw [hv7] at hcell Hrd0
                have H6 : Hid (InA w6 F6 i n _ bs ∧ (∀ b, F6 b → q ≤ b) ∧ TlR w6 29 1 q (.slice (some ⟨g5, o5, none⟩) (b :: bs).length mc3) (b :: bs).length (v0 :: r0) ∧ (∀ g, (Value.slice (some ⟨g5, o5, none⟩) (b :: bs).length mc3).ownBlock = some g → ¬ F6 g) ∧ Below w.heap.size w w6 ∧ q ≤ w6.heap.size) := ⟨h6, g6, m6, d6, bl6, le6⟩
                have Hl0 := Lib.hid hl0
                have Hrr := Lib.hid hrr
                clear h6 g6 m6 d6 bl6 le6 s6 rd6 hrd0' hrd0 hms hv7 hl0 hrr y0
                rw [List.length_cons]
                go_wp2_with fail
                refine (sameRows _ _ b b w6 Rd6.out Hrd0.out (by have := Hl0.out; omega)).mono ?_
                rintro x w7 ⟨rfl, bl7⟩
                rw [sameB_self]
                have hmt : TlR w7 29 1 q _ _ _ := (H6.out.2.2.1.keep (fun g hg => bl7.block g (H6.out.2.2.1.lt hg).2)).drop (i := 1) (by simp)
                have fin : Hid (OrX w w7 q i n (.slice (if mc3 = 1 then some ⟨g5, o5, none⟩ else some ⟨g5, o5 + 1, none⟩) bs.length (mc3 - 1)) bs) := by
                  obtain ⟨h6, g6, m6, d6, bl6, le6⟩ := H6.out
                  refine ⟨F6, _, r0, h6.below bl7, g6, by simpa using hmt, Hrr.out, fun g hg => d6 g ?_, bl6.trans (bl7.mono (Nat.le_trans hqw le6)), Nat.le_trans le6 bl7.size, ?_⟩
                  · split at hg <;> exact hg
                  · have := HW3.out.few; rw [List.length_cons] at this; omega
                rw [List.length_cons] at hc5
                have hc7 : (1 : Int) ≤ (bs.length : Int) + 1 := by omega
                have hc8 : (bs.length : Int) + 1 ≤ (mc3 : Int) := by omega
                have hc9 : (1 : Int) ≤ (mc3 : Int) := by omega
                clear hmt bl7 hcell
                have hb1 : Hid (bs.length ≤ k + 1) := by have := HB3.out; rw [List.length_cons] at this; unfold Hid; omega
                by_cases hm1 : mc3 = 1
                · rw [if_pos hm1] at fin
                  subst hm1
                  obtain rfl : bs = [] := List.eq_nil_of_length_eq_zero (by omega)
                  go_wp2_with fail
                  go_roundg (3 - (t + 1))
                  case measure => omega
                  case rel => exact ⟨t + 1, [], by go_num, by omega, rfl, hb1.out, by simpa using fin.out⟩
                · rw [if_neg hm1] at fin
                  go_wp2_with fail
                  go_roundg (3 - (t + 1))
                  case measure => omega
                  case rel => exact ⟨t + 1, bs, by go_num, by omega, rfl, hb1.out, by simpa using fin.out⟩
            · have hd5 : decide ((t : Int) < y % 3) = false := by simpa using hty
              have hln : decide ((n : Int) < b3.length) = false := by simp; have := HW3.out.few; omega
              have hln2 : decide (n < b3.length) = false := by simp; have := HW3.out.few; omega
              go_wp2_with fail
              refine (inLen HW3.out.I).mono ?_
              rintro x w6 ⟨rfl, rfl⟩
              go_wp2_with fail
              go_roundg (ds.length - (k + 1))
              case measure => have := HKN.out; omega
              case rel => exact ⟨k + 1, b3, by go_num, (by have := HKN.out; omega), rfl, HB3.out, F3, full3, ms3, HW3.out⟩
          · have hd4 : decide ((k : Int) < (ts.length : Int)) = false := by simp; omega
            have hln : decide ((n : Int) < b3.length) = false := by simp; have := HW3.out.few; omega
            have hln2 : decide (n < b3.length) = false := by simp; have := HW3.out.few; omega
            go_wp2_with fail
            refine (inLen HW3.out.I).mono ?_
            rintro x w6 ⟨rfl, rfl⟩
            go_wp2_with fail
            go_roundg (ds.length - (k + 1))
            case measure => have := HKN.out; omega
            case rel => exact ⟨k + 1, b3, by go_num, (by have := HKN.out; omega), rfl, HB3.out, F3, full3, ms3, HW3.out⟩
    · have hd1 : decide ((k : Int) < ds.length) = false := by simp; omega
      obtain ⟨F, full, ms, hW⟩ := HX.out
      have HW := Lib.hid hW
      clear hW
      go_wp2_with fail
      go_ret
      exact ⟨rfl, HW.out.bel⟩
theorem orderZ (most : Int) (hm : 0 ≤ most ∧ most ≤ 255) (lv tv : Value) (ds : List BB) (ts : List Int) (w : World) (hl : Rd w 1 lv ds.length (ds.flatMap encBB)) (hok : ∀ d ∈ ds, okBB w d) (htv : RdB w tv ts) (hts : ∀ y ∈ ts, 0 ≤ y ∧ y ≤ 255) : Calls Try.prog 4 #[.int .u8 most, lv, tv] w fun x w' => x = .returned (.bool true) ∧ Below w.heap.size w w' := by
  obtain ⟨m, rfl⟩ := Int.eq_ofNat_of_zero_le hm.1
  exact orderL m lv tv ds ts w (by omega) hl hok htv hts
end Go.Proofs.Ytfibajfhaadnfaa
