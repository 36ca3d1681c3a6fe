/-
  Layer 21: OnceHears: the walk.
-/
import Derived.Test.YtkmeklbmjdbifaaL21A
import Derived.Test.YtkmeklbmjdbifaaOpX
import Derived.Deep.LoopGhost
import Derived.Deep.DeepCutAuto
import Derived.Deep.CutBlock
namespace Go.Proofs.Ytkmeklbmjdbifaa
open Go.RowKit
set_option linter.unusedVariables false


/-- Is it what is asked for? -/
def rightB (t : Sk) (p : Pd) : Bool := t.asks && p.resp && (p.form == 2) && (p.kind == 8 + t.bit) && (p.fr == 8) && (p.dt == 4) && (p.poll == t.poll) && decide (0 < p.info.length) && mayP p
theorem right_yes {s : Sk} {p : Pd} (h : rightB s p = true) : ∃ x l B, p.info = x :: l ∧ hearR 4 8 s p = ((true, x, B), { s with asks := false, bit := 1 - s.bit }) := by
  unfold rightB at h
  simp only [Bool.and_eq_true] at h
  obtain ⟨⟨⟨⟨⟨⟨⟨⟨e0, e1⟩, e2⟩, e3⟩, e4⟩, e5⟩, e6⟩, e7⟩, e8⟩ := h
  have hk : hearOk 4 8 s p = true := by unfold hearOk; simp [e0, e1, e2, e3, e4, e5, e6, e8]
  cases hi : p.info with
  | nil => rw [hi] at e7; simp at e7
  | cons x l => exact ⟨x, l, _, rfl, by unfold hearR; rw [if_pos hk, hi]⟩
theorem right_no {s : Sk} {p : Pd} (h : rightB s p = false) : hearR 4 8 s p = ((false, 0, []), s) := by
  unfold hearR
  cases hk : hearOk 4 8 s p with
  | false => rw [if_neg (by simp)]
  | true =>
    rw [if_pos rfl]
    cases hi : p.info with
    | nil => rfl
    | cons x l =>
      unfold hearOk at hk
      simp only [Bool.and_eq_true] at hk
      obtain ⟨⟨⟨⟨⟨⟨⟨e0, e1⟩, e2⟩, e3⟩, e4⟩, e5⟩, e6⟩, e7⟩ := hk
      unfold rightB at h
      simp [e0, e1, e2, e3, e4, e5, e6, e7, hi] at h

set_option maxHeartbeats 16000000 in
set_option maxRecDepth 100000 in
theorem hearsL (v : Value) (ds : List Dd) (p : Pd) (u : Value) (w : World) (hl : Rd w 13 v ds.length (ds.flatMap encD)) (hok : ∀ d ∈ ds, okD w d) (hp : ArgB w u p.info) : Calls Try.prog 7 #[v, pdV p u] w fun x w' => x = .returned (.bool true) ∧ Below w.heap.size w w' := by
  obtain ⟨la, lc, rfl⟩ := hl.len
  obtain ⟨dt, fr, resp, form, kind, ns, nr, pol, info⟩ := p
  obtain ⟨pa, pk, hpv, hpk, hpm⟩ := hp.sh
  dsimp only at hpv hpk
  subst hpv
  have Hl := Lib.hid hl
  have Hok := Lib.hid hok
  have Hp := Lib.hid hp
  have Hpk := Lib.hid (And.intro hpk hpm)
  clear hl hok hp hpk hpm
  show Calls Try.prog 7 #[.slice la ds.length lc, .agg #[.int .i64 dt, .int .i64 fr, .bool resp, .int .i64 form, .int .i64 kind, .int .i64 ns, .int .i64 nr, .bool pol, .slice pa info.length pk]] w _
  go_enter Try.func7, Try.ntmps7
  go_wp2_with fail
  refine (awake _).mono ?_
  rintro x w1 ⟨rfl, b1⟩
  obtain ⟨pb, hpb⟩ : ∃ pb, pb = w.heap.size := ⟨_, rfl⟩
  have B1 : Hid (Below w.heap.size w w1) := ((Below.refl _ w).alloc (Nat.le_refl _) _).trans (b1.mono (by simp))
  have P1 : Hid (w1.heap[pb]? = some (.cells #[.int .i64 dt, .int .i64 fr, .bool resp, .int .i64 form, .int .i64 kind, .int .i64 ns, .int .i64 nr, .bool pol, .slice pa info.length pk] 33 (0, 0))) := by rw [hpb]; exact (b1.block _ (by simp)).trans (heap_alloc_new' w _)
  have Hpb : Hid (pb = w.heap.size) := hpb
  rw [← hpb]
  clear b1 hpb
  have p8 : w1.cell? ⟨pb, 8, none⟩ = some (.slice pa info.length pk) := blk_cell P1.out 8
  by_cases h60 : 60 < ds.length
  · have hd : decide ((60 : Int) < ds.length) = true := by simp; omega
    as_aux_lemma =>
      go_wp2_with fail
      go_ret
      exact ⟨rfl, B1.out⟩
  have hd : decide ((60 : Int) < ds.length) = false := by simp; omega
  by_cases h11 : 1100 < info.length
  · have hd2 : decide ((1100 : Int) < info.length) = true := by simp; omega
    as_aux_lemma =>
      go_wp2_with fail
      go_ret
      exact ⟨rfl, B1.out⟩
  have hd2 : decide ((1100 : Int) < info.length) = false := by simp; omega
  have HR : Hid (ds.length ≤ 60) := by unfold Hid; omega
  have HI : Hid (info.length ≤ 1100) := by unfold Hid; omega
  clear h60 h11
  go_wp2_with fail
  refine (lcfg ⟨3, 4, 2⟩ _).mono ?_
  rintro x w2 ⟨rfl, b2⟩
  have hb12 : Below w1.heap.size w1 w2 := ((Below.refl _ w1).alloc (Nat.le_refl _) _).trans (b2.mono (by simp))
  have hcb : w2.heap[w1.heap.size]? = some (.cells #[.int .i64 3, .int .i64 4, .int .i64 2] 30 (0, 0)) := (b2.block _ (by simp)).trans (heap_alloc_new' w1 _)
  have C2 := Lib.hid hcb
  have B12 := Lib.hid hb12
  clear b2 hb12 hcb p8 hd hd2
  go_wp2_with fail
  refine (onewYes ⟨3, 4, 2⟩ 4 8 (by unfold Cf.ok; decide) (by unfold SapI; decide) (by unfold SapI; decide) _).mono ?_
  rintro x w3 ⟨o, rfl, h3, ho, b3⟩
  have hcb := (b3.block _ (lt_of_block C2.out)).trans C2.out
  have e0 : w3.cell? ⟨w1.heap.size, 0, none⟩ = some (.int .i64 3) := blk_cell hcb 0
  have e1 : w3.cell? ⟨w1.heap.size, 1, none⟩ = some (.int .i64 4) := blk_cell hcb 1
  have e2 : w3.cell? ⟨w1.heap.size, 2, none⟩ = some (.int .i64 2) := blk_cell hcb 2
  have H3 := Lib.hid h3
  have O3 := Lib.hid ho
  have B3 := Lib.hid b3
  clear h3 ho b3 hcb
  go_wp2_with fail
  refine (rnewYes ⟨3, 4, 2⟩ 4 8 (by unfold Cf.ok; decide) (by unfold SapI; decide) (by unfold SapI; decide) _).mono ?_
  rintro x w4 ⟨m, rfl, h4, hm, b4⟩
  have HX4 : Hid (OpX w w4 o m ⟨3, 4, 2⟩ sk0 sk0 [(pb, .cells #[.int .i64 dt, .int .i64 fr, .bool resp, .int .i64 form, .int .i64 kind, .int .i64 ns, .int .i64 nr, .bool pol, .slice pa info.length pk] 33 (0, 0))]) := by
    have s12 := B12.out.size
    have s1 := B1.out.size
    have s3 := B3.out.size
    have hb : Below w.heap.size w w4 := (B1.out.trans (B12.out.mono s1)).trans ((B3.out.mono (by omega)).trans (b4.mono (by omega)))
    have hpl := lt_of_block P1.out
    have hol := H3.out.lt o rfl
    refine ⟨_, _, H3.out.below b4, h4, fun x e e' => ?_, fun x e => ?_, hb, fun q hq => ?_⟩
    · have e : x = o := e
      have e' : x = m := e'
      omega
    · rcases e with e | e
      · have e : x = o := e
        have := O3.out
        omega
      · have e : x = m := e
        omega
    · simp at hq
      subst hq
      refine ⟨(b4.block _ (by omega)).trans ((B3.out.block _ (by omega)).trans ((B12.out.block _ hpl).trans P1.out)), fun e => ?_⟩
      rcases e with e | e
      · have e : pb = o := e
        have := O3.out
        omega
      · have e : pb = m := e
        omega
  clear h4 hm b4 e0 e1 e2
  go_wp2_with fail
  go_loopg [10] ds.length (fun g s10 wx => ∃ (k : Nat) (s : Sk), s10 = .int .i64 k ∧ k ≤ ds.length ∧ g = ds.length - k ∧ Hid s.live ∧ OpX w wx o m ⟨3, 4, 2⟩ s s [(pb, .cells #[.int .i64 dt, .int .i64 fr, .bool resp, .int .i64 form, .int .i64 kind, .int .i64 ns, .int .i64 nr, .bool pol, .slice pa info.length pk] 33 (0, 0))])
  case atStart => exact ⟨0, sk0, rfl, Nat.zero_le _, rfl, (by intro e; cases e), HX4.out⟩
  case round =>
    obtain ⟨k, s, rfl, hk, rfl, HLv, hX⟩ := hrel
    have HX := Lib.hid hX
    clear hX HX4
    by_cases hin : k < ds.length
    · have hd1 : decide ((k : Int) < ds.length) = true := by simp; omega
      obtain ⟨lb, lo, lc', hv⟩ := deed_ad Hl.out (by omega)
      simp at hv
      obtain ⟨rfl, rfl⟩ := hv
      have HDt : Hid (∀ W, Below w.heap.size w W → ∀ j u, (encD ds[k])[j]? = some u → W.cell? ⟨lb, lo + k * 13 + j, none⟩ = some u) := fun W hb => deed_at Hl.out hb hin
      have HA := Lib.hid (Hok.out _ (List.getElem_mem hin))
      obtain ⟨⟨dw, N, poll, bv, bl, pd, pv⟩, hde⟩ : ∃ d, d = ds[k] := ⟨_, rfl⟩
      rw [← hde] at HDt HA
      clear hde
      obtain ⟨ba, bc, hbv, hbc, hbm⟩ := HA.out.1.sh
      dsimp only at hbv
      subst hbv
      have c0 := HDt.out wr HX.out.bel 0 _ rfl
      simp only [Nat.add_zero] at c0
      have c2 := HDt.out wr HX.out.bel 2 _ rfl
      have c3 := HDt.out wr HX.out.bel 3 _ rfl
      have hk60 : (k : Int) ≤ 60 := by have := HR.out; omega
      have Hin := Lib.hid hin
      clear hbc hbm
      by_cases h1 : 1024 < bl.length
      · have hd3 : decide ((1024 : Int) < bl.length) = true := by simp; omega
        as_aux_lemma =>
          go_wp2_with fail
          go_ret
          exact ⟨rfl, HX.out.bel⟩
      have hd3 : decide ((1024 : Int) < bl.length) = false := by simp; omega
      clear h1
      by_cases h2 : dw ≤ 2
      · have hd5 : decide (dw ≤ 2) = true := by simpa using h2
        obtain ⟨P, E, s', hr⟩ : ∃ P E s', askR ⟨3, 4, 2⟩ 4 8 s bl poll = (P, E, s') := ⟨_, _, _, rfl⟩
        have Hr := Lib.hid hr
        clear hr
        have c0d : wr.drew.cell? ⟨lb, lo + k * 13, none⟩ = some (.int .i64 dw) := c0
        have c2d : wr.drew.cell? ⟨lb, lo + k * 13 + 2, none⟩ = some (.bool poll) := c2
        have c3d : wr.drew.cell? ⟨lb, lo + k * 13 + 3, none⟩ = some (.slice ba bl.length bc) := c3
        go_upto_region 16 with fail
        go_still_tail 11, (by kernel_rfl)
        change wpList _ _ _ _ _ wr.drew
        go_wp2_with fail
        refine (pask (HX.out.below (Below.refl _ wr).drew) (.slice ba bl.length bc) bl (HA.out.1.thru (w := wr.drew) HX.out.bel.drew HX.out.geo) poll Hr.out).mono ?_
        rintro x w5 ⟨a5, k5, ex, rfl, h5, _⟩
        have h5 := h5.sub (kb' := [(pb, .cells #[.int .i64 dt, .int .i64 fr, .bool resp, .int .i64 form, .int .i64 kind, .int .i64 ns, .int .i64 nr, .bool pol, .slice pa info.length pk] 33 (0, 0))]) (fun q hq => List.mem_append_right _ hq)
        have H5 := Lib.hid h5
        have c2' := HDt.out w5 h5.bel 2 _ rfl
        have c3' := HDt.out w5 h5.bel 3 _ rfl
        have c2d' : w5.drew.cell? ⟨lb, lo + k * 13 + 2, none⟩ = some (.bool poll) := c2'
        have c3d' : w5.drew.cell? ⟨lb, lo + k * 13 + 3, none⟩ = some (.slice ba bl.length bc) := c3'
        clear h5 c0 c2 c3 c0d c2d c3d
        go_upto_region 17 with fail
        go_still_tail 11, (by kernel_rfl)
        change wpList _ _ _ _ _ w5.drew
        go_wp2_with fail
        refine (qask (H5.out.below (Below.refl _ w5).drew) (.slice ba bl.length bc) bl (HA.out.1.thru (w := w5.drew) H5.out.bel.drew H5.out.gem) poll Hr.out).mono ?_
        rintro x w6 ⟨a6, k6, ex6, rfl, h6, _⟩
        have h6 := h6.sub (kb' := [(pb, .cells #[.int .i64 dt, .int .i64 fr, .bool resp, .int .i64 form, .int .i64 kind, .int .i64 ns, .int .i64 nr, .bool pol, .slice pa info.length pk] 33 (0, 0))]) (fun q hq => List.mem_append_right _ hq)
        have H6 := Lib.hid h6
        clear h6 c2' c3' c2d' c3d'
        go_wp2_with fail
        go_roundg (ds.length - (k + 1))
        case measure => have := Hin.out; omega
        case rel => exact ⟨k + 1, s', by go_num, (by have := Hin.out; omega), rfl, ask_live (by unfold Cf.ok; decide) HLv.out Hr.out, H6.out⟩
      have hd5 : decide (dw ≤ 2) = false := by simpa using h2
      by_cases h8 : 8 ≤ dw
      · have hd6 : decide (8 ≤ dw) = true := by simpa using h8
        go_wp2_with fail
        obtain ⟨P, sent, ov, st, s', hr⟩ : ∃ P sent ov st s', tickR ⟨3, 4, 2⟩ 4 8 s = (P, sent, (ov, st), s') := ⟨_, _, _, _, _, rfl⟩
        have Hr := Lib.hid hr
        clear hr
        refine (ptick HX.out HLv.out Hr.out).mono ?_
        rintro x w5 ⟨a5, k5, ex, rfl, h5, _⟩
        have H5 := Lib.hid (h5.sub (kb' := [(pb, .cells #[.int .i64 dt, .int .i64 fr, .bool resp, .int .i64 form, .int .i64 kind, .int .i64 ns, .int .i64 nr, .bool pol, .slice pa info.length pk] 33 (0, 0))]) (fun q hq => List.mem_append_right _ hq))
        clear h5 c0 c2 c3
        go_wp2_with fail
        refine (qtick H5.out HLv.out Hr.out).mono ?_
        rintro x w6 ⟨a6, k6, ex6, rfl, h6, _⟩
        have H6 := Lib.hid (h6.sub (kb' := [(pb, .cells #[.int .i64 dt, .int .i64 fr, .bool resp, .int .i64 form, .int .i64 kind, .int .i64 ns, .int .i64 nr, .bool pol, .slice pa info.length pk] 33 (0, 0))]) (fun q hq => List.mem_append_right _ hq))
        clear h6
        go_wp2_with fail
        go_roundg (ds.length - (k + 1))
        case measure => have := Hin.out; omega
        case rel => exact ⟨k + 1, s', by go_num, (by have := Hin.out; omega), rfl, tick_live (by unfold Cf.ok; decide) HLv.out Hr.out, H6.out⟩
      have hd6 : decide (8 ≤ dw) = false := by simpa using h8
      as_aux_lemma =>
        go_wp2_with fail
        go_roundg (ds.length - (k + 1))
        case measure => have := Hin.out; omega
        case rel => exact ⟨k + 1, s, by go_num, (by have := Hin.out; omega), rfl, HLv, HX.out⟩
    have hd1 : decide ((k : Int) < ds.length) = false := by simp; omega
    obtain ⟨mv, hmb, hmo⟩ := HX.out.mblk
    have hbw : IntKind.i64.wrap (8 + s.bit) = 8 + s.bit := IntWalk.i64_in _ (by have := hmo.1; omega)
    have f5 : ∀ x : After wr, x.w'.cell? ⟨m, 5, none⟩ = some (.int .i64 s.bit) := fun x => x.cell (blk_cell hmb 5)
    have f9 : ∀ x : After wr, x.w'.cell? ⟨m, 9, none⟩ = some (.bool s.asks) := fun x => x.cell (blk_cell hmb 9)
    have f10 : ∀ x : After wr, x.w'.cell? ⟨m, 10, none⟩ = some (.bool s.poll) := fun x => x.cell (blk_cell hmb 10)
    have hpb := HX.out.kept (List.mem_singleton.2 rfl)
    have g0 : ∀ x : After wr, x.w'.cell? ⟨pb, 0, none⟩ = some (.int .i64 dt) := fun x => x.cell (blk_cell hpb 0)
    have g1 : ∀ x : After wr, x.w'.cell? ⟨pb, 1, none⟩ = some (.int .i64 fr) := fun x => x.cell (blk_cell hpb 1)
    have g2 : ∀ x : After wr, x.w'.cell? ⟨pb, 2, none⟩ = some (.bool resp) := fun x => x.cell (blk_cell hpb 2)
    have g3 : ∀ x : After wr, x.w'.cell? ⟨pb, 3, none⟩ = some (.int .i64 form) := fun x => x.cell (blk_cell hpb 3)
    have g4 : ∀ x : After wr, x.w'.cell? ⟨pb, 4, none⟩ = some (.int .i64 kind) := fun x => x.cell (blk_cell hpb 4)
    have g5 : ∀ x : After wr, x.w'.cell? ⟨pb, 5, none⟩ = some (.int .i64 ns) := fun x => x.cell (blk_cell hpb 5)
    have g6 : ∀ x : After wr, x.w'.cell? ⟨pb, 6, none⟩ = some (.int .i64 nr) := fun x => x.cell (blk_cell hpb 6)
    have g7 : ∀ x : After wr, x.w'.cell? ⟨pb, 7, none⟩ = some (.bool pol) := fun x => x.cell (blk_cell hpb 7)
    have g8 : ∀ x : After wr, x.w'.cell? ⟨pb, 8, none⟩ = some (.slice pa info.length pk) := fun x => x.cell (blk_cell hpb 8)
    clear hmb hmo hpb
    go_upto_region 21 with fail
    clear hd1
    go_cut [11] (fun v11 wx => v11 = .bool (rightB s ⟨dt, fr, resp, form, kind, ns, nr, pol, info⟩) ∧ Hid (Below wr.heap.size wr wx))
    case first =>
      have Hm : ∀ W : World, Calls Try.prog 24 #[.agg #[.int .i64 dt, .int .i64 fr, .bool resp, .int .i64 form, .int .i64 kind, .int .i64 ns, .int .i64 nr, .bool pol, .slice pa info.length pk]] W fun e w' => e = .returned (.bool (mayP ⟨dt, fr, resp, form, kind, ns, nr, pol, info⟩)) ∧ Below W.heap.size W w' := fun W => rmay ⟨dt, fr, resp, form, kind, ns, nr, pol, info⟩ pa pk W
      cases e0 : s.asks with
      | false =>
        rw [e0] at f9
        have Hm := Lib.hid Hm
        have HR' : Hid (rightB s ⟨dt, fr, resp, form, kind, ns, nr, pol, info⟩ = false) := by unfold Hid rightB; simp [e0]
        refine wp_region_after (by kernel_rfl) (by kernel_rfl) ?_
        repeat (go_big_quiet_step ((first | (go_at_call 24; exact Calls.after_of (Hm.out _)) | fail)))
        refine wpQuiet_nil ?_
        rintro w1 ⟨⟨_, hb⟩, rfl⟩
        go_wp2_with fail
        go_meet
        exact ⟨by rw [HR'.out], hb⟩
      | true =>
        rw [e0] at f9
        cases e1 : resp with
        | false =>
          subst e1
          have Hm := Lib.hid Hm
          have HR' : Hid (rightB s ⟨dt, fr, false, form, kind, ns, nr, pol, info⟩ = false) := by unfold Hid rightB; simp [e0]
          refine wp_region_after (by kernel_rfl) (by kernel_rfl) ?_
          repeat (go_big_quiet_step ((first | (go_at_call 24; exact Calls.after_of (Hm.out _)) | fail)))
          refine wpQuiet_nil ?_
          rintro w1 ⟨⟨_, hb⟩, rfl⟩
          go_wp2_with fail
          go_meet
          exact ⟨by rw [HR'.out], hb⟩
        | true =>
          subst e1
          cases e2 : (form == 2) with
          | false =>
            have Hm := Lib.hid Hm
            have HR' : Hid (rightB s ⟨dt, fr, true, form, kind, ns, nr, pol, info⟩ = false) := by unfold Hid rightB; simp [e0, e2]
            refine wp_region_after (by kernel_rfl) (by kernel_rfl) ?_
            repeat (go_big_quiet_step ((first | (go_at_call 24; exact Calls.after_of (Hm.out _)) | fail)))
            refine wpQuiet_nil ?_
            rintro w1 ⟨⟨_, hb⟩, rfl⟩
            go_wp2_with fail
            go_meet
            exact ⟨by rw [HR'.out], hb⟩
          | true =>
            cases e3 : (kind == 8 + s.bit) with
            | false =>
              have Hm := Lib.hid Hm
              have HR' : Hid (rightB s ⟨dt, fr, true, form, kind, ns, nr, pol, info⟩ = false) := by unfold Hid rightB; simp [e0, e2, e3]
              refine wp_region_after (by kernel_rfl) (by kernel_rfl) ?_
              repeat (go_big_quiet_step ((first | (go_at_call 24; exact Calls.after_of (Hm.out _)) | fail)))
              refine wpQuiet_nil ?_
              rintro w1 ⟨⟨_, hb⟩, rfl⟩
              go_wp2_with fail
              go_meet
              exact ⟨by rw [HR'.out], hb⟩
            | true =>
              cases e4 : (fr == 8) with
              | false =>
                have Hm := Lib.hid Hm
                have HR' : Hid (rightB s ⟨dt, fr, true, form, kind, ns, nr, pol, info⟩ = false) := by unfold Hid rightB; simp [e0, e2, e3, e4]
                refine wp_region_after (by kernel_rfl) (by kernel_rfl) ?_
                repeat (go_big_quiet_step ((first | (go_at_call 24; exact Calls.after_of (Hm.out _)) | fail)))
                refine wpQuiet_nil ?_
                rintro w1 ⟨⟨_, hb⟩, rfl⟩
                go_wp2_with fail
                go_meet
                exact ⟨by rw [HR'.out], hb⟩
              | true =>
                cases e5 : (dt == 4) with
                | false =>
                  have Hm := Lib.hid Hm
                  have HR' : Hid (rightB s ⟨dt, fr, true, form, kind, ns, nr, pol, info⟩ = false) := by unfold Hid rightB; simp [e0, e2, e3, e4, e5]
                  refine wp_region_after (by kernel_rfl) (by kernel_rfl) ?_
                  repeat (go_big_quiet_step ((first | (go_at_call 24; exact Calls.after_of (Hm.out _)) | fail)))
                  refine wpQuiet_nil ?_
                  rintro w1 ⟨⟨_, hb⟩, rfl⟩
                  go_wp2_with fail
                  go_meet
                  exact ⟨by rw [HR'.out], hb⟩
                | true =>
                  cases e6 : (pol == s.poll) with
                  | false =>
                    have Hm := Lib.hid Hm
                    have HR' : Hid (rightB s ⟨dt, fr, true, form, kind, ns, nr, pol, info⟩ = false) := by unfold Hid rightB; simp [e0, e2, e3, e4, e5, e6]
                    refine wp_region_after (by kernel_rfl) (by kernel_rfl) ?_
                    repeat (go_big_quiet_step ((first | (go_at_call 24; exact Calls.after_of (Hm.out _)) | fail)))
                    refine wpQuiet_nil ?_
                    rintro w1 ⟨⟨_, hb⟩, rfl⟩
                    go_wp2_with fail
                    go_meet
                    exact ⟨by rw [HR'.out], hb⟩
                  | true =>
                    cases e7 : decide ((0 : Int) < info.length) with
                    | false =>
                      have e7' : decide (0 < info.length) = false := by simpa using e7
                      have Hm := Lib.hid Hm
                      have HR' : Hid (rightB s ⟨dt, fr, true, form, kind, ns, nr, pol, info⟩ = false) := by unfold Hid rightB; simp [e0, e2, e3, e4, e5, e6, e7']
                      refine wp_region_after (by kernel_rfl) (by kernel_rfl) ?_
                      repeat (go_big_quiet_step ((first | (go_at_call 24; exact Calls.after_of (Hm.out _)) | fail)))
                      refine wpQuiet_nil ?_
                      rintro w1 ⟨⟨_, hb⟩, rfl⟩
                      go_wp2_with fail
                      go_meet
                      exact ⟨by rw [HR'.out], hb⟩
                    | true =>
                      have e7' : decide (0 < info.length) = true := by simpa using e7
                      cases e8 : (mayP ⟨dt, fr, true, form, kind, ns, nr, pol, info⟩) with
                      | false =>
                        rw [e8] at Hm
                        have Hm := Lib.hid Hm
                        have HR' : Hid (rightB s ⟨dt, fr, true, form, kind, ns, nr, pol, info⟩ = false) := by unfold Hid rightB; simp [e0, e2, e3, e4, e5, e6, e7', e8]
                        refine wp_region_after (by kernel_rfl) (by kernel_rfl) ?_
                        repeat (go_big_quiet_step ((first | (go_at_call 24; exact Calls.after_of (Hm.out _)) | fail)))
                        refine wpQuiet_nil ?_
                        rintro w1 ⟨⟨_, hb⟩, rfl⟩
                        go_wp2_with fail
                        go_meet
                        exact ⟨by rw [HR'.out], hb⟩
                      | true =>
                        rw [e8] at Hm
                        have Hm := Lib.hid Hm
                        have HR' : Hid (rightB s ⟨dt, fr, true, form, kind, ns, nr, pol, info⟩ = true) := by unfold Hid rightB; simp [e0, e2, e3, e4, e5, e6, e7', e8]
                        refine wp_region_after (by kernel_rfl) (by kernel_rfl) ?_
                        repeat (go_big_quiet_step ((first | (go_at_call 24; exact Calls.after_of (Hm.out _)) | fail)))
                        refine wpQuiet_nil ?_
                        rintro w1 ⟨⟨_, hb⟩, rfl⟩
                        go_wp2_with fail
                        go_meet
                        exact ⟨by rw [HR'.out], hb⟩
    case rest =>
      obtain ⟨rfl, HB⟩ := hcut
      rename World => wx
      have HX5 := Lib.hid (HX.out.below HB.out)
      clear f5 f9 f10 g0 g1 g2 g3 g4 g5 g6 g7 g8 hbw
      have hpb := HX5.out.kept (List.mem_singleton.2 rfl)
      have g0 : wx.cell? ⟨pb, 0, none⟩ = some (.int .i64 dt) := blk_cell hpb 0
      have g1 : wx.cell? ⟨pb, 1, none⟩ = some (.int .i64 fr) := blk_cell hpb 1
      have g2 : wx.cell? ⟨pb, 2, none⟩ = some (.bool resp) := blk_cell hpb 2
      have g3 : wx.cell? ⟨pb, 3, none⟩ = some (.int .i64 form) := blk_cell hpb 3
      have g4 : wx.cell? ⟨pb, 4, none⟩ = some (.int .i64 kind) := blk_cell hpb 4
      have g5 : wx.cell? ⟨pb, 5, none⟩ = some (.int .i64 ns) := blk_cell hpb 5
      have g6 : wx.cell? ⟨pb, 6, none⟩ = some (.int .i64 nr) := blk_cell hpb 6
      have g7 : wx.cell? ⟨pb, 7, none⟩ = some (.bool pol) := blk_cell hpb 7
      have g8 : wx.cell? ⟨pb, 8, none⟩ = some (.slice pa info.length pk) := blk_cell hpb 8
      have hpl := lt_of_block hpb
      obtain ⟨z, hz⟩ : ∃ z, z = s.asks := ⟨_, rfl⟩
      obtain ⟨wt, hwt⟩ : ∃ z, z = s.wait := ⟨_, rfl⟩
      have Hz := Lib.hid (And.intro hz hwt)
      clear hpb hz hwt
      cases hR : rightB s ⟨dt, fr, resp, form, kind, ns, nr, pol, info⟩ with
      | true =>
        obtain ⟨x0, l0, B, hi, hh⟩ := right_yes hR
        have Hh := Lib.hid hh
        have Hi := Lib.hid hi
        dsimp only at hi
        subst hi
        have hx0 := Hp.out.byt x0 (by simp)
        obtain ⟨gb, go', gc, hv, _, _⟩ := Rd.some Hp.out.rd (by simp) (by decide)
        simp at hv
        obtain ⟨rfl, rfl⟩ := hv
        clear hh hR Hi
        go_wp2_with (first | (go_at_call 15; refine (pbusy HX5.out).mono ?_; rintro x w' ⟨rfl, rfl⟩; rw [← Hz.out.1]) | (go_at_call 23; refine (pwait HX5.out).mono ?_; rintro x w' ⟨rfl, rfl⟩; rw [← Hz.out.2]))
        refine (phear HX5.out ⟨dt, fr, resp, form, kind, ns, nr, pol, x0 :: l0⟩ (some ⟨gb, go', none⟩) pk (Hp.out.rd.fr HX5.out.bel) Hp.out.byt Hpk.out.1 Hpk.out.2 Hh.out).mono ?_
        rintro x w6 ⟨a6, k6, ex, rfl, h6, _⟩
        obtain ⟨W7, hW7⟩ : ∃ W7, W7 = w6.alloc (.cells #[.bool true, .int .i64 x0, .slice a6 B.length k6] 37) := ⟨_, rfl⟩
        have hX7 : OpX w W7 o m ⟨3, 4, 2⟩ { s with asks := false, bit := 1 - s.bit } s ((w6.heap.size, .cells #[.bool true, .int .i64 x0, .slice a6 B.length k6] 37 (0, 0)) :: (ex ++ [(pb, .cells #[.int .i64 dt, .int .i64 fr, .bool resp, .int .i64 form, .int .i64 kind, .int .i64 ns, .int .i64 nr, .bool pol, .slice (some ⟨gb, go', none⟩) (x0 :: l0).length pk] 33 (0, 0))])) := by rw [hW7]; exact h6.alloc _
        have HX7 := Lib.hid hX7
        have y0 : W7.cell? ⟨gb, go', none⟩ = some (.int .u8 x0) := by
          have := RdB.at (i := 0) (Hp.out.rd.fr HX7.out.bel) (by simp)
          simpa using this
        have q0 : ∀ x : After W7, x.w'.cell? ⟨w6.heap.size, 0, none⟩ = some (.bool true) := fun x => x.cell (blk_cell (HX7.out.kept (List.mem_cons_self ..)) 0)
        have q1 : ∀ x : After W7, x.w'.cell? ⟨w6.heap.size, 1, none⟩ = some (.int .i64 x0) := fun x => x.cell (blk_cell (HX7.out.kept (List.mem_cons_self ..)) 1)
        have q8 : ∀ x : After W7, x.w'.cell? ⟨pb, 8, none⟩ = some (.slice (some ⟨gb, go', none⟩) (l0.length + 1) pk) := fun x => x.cell (blk_cell (HX7.out.kept (List.mem_cons_of_mem _ (List.mem_append_right _ (List.mem_singleton.2 rfl)))) 8)
        have qy : ∀ x : After W7, x.w'.cell? ⟨gb, go', none⟩ = some (.int .u8 x0) := fun x => x.cell y0
        have hi0 : (0 : Int) < (l0.length : Int) + 1 := by omega
        have hwx : IntKind.i64.wrap x0 = x0 := IntWalk.i64_in _ (by omega)
        have hxx : (x0 != x0) = false := by simp
        clear hX7 h6 y0 g0 g1 g2 g3 g4 g5 g6 g7 g8 hx0
        go_upto_region 24 with fail
        rw [← hW7]
        clear hW7
        refine wp_region_after (by kernel_rfl) (by kernel_rfl) ?_
        repeat (go_big_quiet_step ((first | (go_at_call 15; exact Calls.after_of ((pbusy (HX7.out.below (After.h _))).mono fun _ _ ⟨he, hw⟩ => ⟨he, by rw [hw]; exact Below.refl _ _⟩)) | fail)))
        refine wpQuiet_nil ?_
        rintro w8 ⟨⟨_, hb⟩, rfl⟩
        have HX8 := Lib.hid (HX7.out.below hb)
        clear q0 q1 q8 qy hi0 hwx hxx hb
        go_wp2_with fail
        go_ret
        exact ⟨rfl, HX8.out.bel⟩
      | false =>
        have Hh := Lib.hid (right_no hR)
        clear hR
        go_wp2_with (first | (go_at_call 15; refine (pbusy HX5.out).mono ?_; rintro x w' ⟨rfl, rfl⟩; rw [← Hz.out.1]) | (go_at_call 23; refine (pwait HX5.out).mono ?_; rintro x w' ⟨rfl, rfl⟩; rw [← Hz.out.2]))
        refine (phear HX5.out ⟨dt, fr, resp, form, kind, ns, nr, pol, info⟩ pa pk (Hp.out.rd.fr HX5.out.bel) Hp.out.byt Hpk.out.1 Hpk.out.2 Hh.out).mono ?_
        rintro x w6 ⟨a6, k6, ex, rfl, h6, _⟩
        rw [show ([] : List Int).length = 0 from rfl]
        obtain ⟨W7, hW7⟩ : ∃ W7, W7 = w6.alloc (.cells #[.bool false, .int .i64 0, .slice a6 0 k6] 37) := ⟨_, rfl⟩
        have hX7 : OpX w W7 o m ⟨3, 4, 2⟩ s s [(w6.heap.size, .cells #[.bool false, .int .i64 0, .slice a6 0 k6] 37 (0, 0))] := by rw [hW7]; exact (h6.alloc _).sub (fun q hq => by rw [List.mem_singleton.1 hq]; exact List.mem_cons_self ..)
        have HX7 := Lib.hid hX7
        have q0 : ∀ x : After W7, x.w'.cell? ⟨w6.heap.size, 0, none⟩ = some (.bool false) := fun x => x.cell (blk_cell (HX7.out.kept (List.mem_cons_self ..)) 0)
        clear hX7 h6 g0 g1 g2 g3 g4 g5 g6 g7 g8
        go_upto_region 24 with fail
        rw [← hW7]
        clear hW7
        refine wp_region_after (by kernel_rfl) (by kernel_rfl) ?_
        repeat (go_big_quiet_step ((fail)))
        refine wpQuiet_nil ?_
        rintro w8 ⟨⟨_, hb⟩, rfl⟩
        have HX8 := Lib.hid (HX7.out.below hb)
        have hr8 := HX8.out.kept (List.mem_cons_self ..)
        have r1 : w8.cell? ⟨w6.heap.size, 1, none⟩ = some (.int .i64 0) := blk_cell hr8 1
        have r2 : w8.cell? ⟨w6.heap.size, 2, none⟩ = some (.slice a6 0 k6) := blk_cell hr8 2
        have hzz : (z == z) = true := by simp
        have hww : (wt == wt) = true := by simp
        clear q0 hb hr8
        go_wp2_with (first | (go_at_call 15; refine (pbusy HX8.out).mono ?_; rintro x w' ⟨rfl, rfl⟩; rw [← Hz.out.1]) | (go_at_call 23; refine (pwait HX8.out).mono ?_; rintro x w' ⟨rfl, rfl⟩; rw [← Hz.out.2]))
        go_ret
        exact ⟨rfl, HX8.out.bel⟩
end Go.Proofs.Ytkmeklbmjdbifaa
