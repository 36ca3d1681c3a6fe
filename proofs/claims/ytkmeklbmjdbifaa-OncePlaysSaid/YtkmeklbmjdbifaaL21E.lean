/-
  Layer 21: OncePlays: the walk.
-/
import Derived.Test.YtkmeklbmjdbifaaL21C
import Derived.Test.YtkmeklbmjdbifaaOpX
import Derived.Deep.RegionHeld3
namespace Go.Proofs.Ytkmeklbmjdbifaa
open Go.RowKit
set_option linter.unusedVariables false


theorem OpX.sok {w0 w : World} {o m : Nat} {c : Cf} {s t : Sk} {kb : List (Nat × Obj)} (h : OpX w0 w o m c s t kb) : s.ok := by obtain ⟨F, G, h1, _⟩ := h.ex; exact h1.ok.2

theorem own_lit (W : World) (x : Int) : (W.alloc (.cells #[.int .u8 x] 5)).drew.ownsRow W.heap.size 5 1 (.slice (some ⟨W.heap.size, 0, none⟩) 1 1) 1 [.int .u8 x] := by
  have := own_new W W.heap.size 5 1 (Nat.le_refl _) [.int .u8 x] #[] 1 1 (by simp) (Nat.le_refl _) (by decide) (by simp)
  exact own_drew (by simpa using this)
set_option maxHeartbeats 16000000 in
set_option maxRecDepth 100000 in
theorem playsL (t0 t1 t2 : Int) (v : Value) (ds : List Dd) (w : World) (hl : Rd w 13 v ds.length (ds.flatMap encD)) (hok : ∀ d ∈ ds, okD w d) : Calls Try.prog 5 #[.agg #[.int .i64 t0, .int .i64 t1, .int .i64 t2], v] w fun x w' => x = .returned (.bool true) ∧ Below w.heap.size w w' := by
  obtain ⟨la, lc, rfl⟩ := hl.len
  have Hl := Lib.hid hl
  have Hok := Lib.hid hok
  clear hl hok
  go_enter Try.func5, Try.ntmps5
  go_wp2_with fail
  refine (awake _).mono ?_
  rintro x w1 ⟨rfl, b1⟩
  obtain ⟨cb, hcb⟩ : ∃ cb, cb = w.heap.size := ⟨_, rfl⟩
  have B1 : Hid (Below w.heap.size w w1) := ((Below.refl _ w).alloc (Nat.le_refl _) _).trans (b1.mono (by simp))
  have hcbl : w1.heap[cb]? = some (.cells #[.int .i64 t0, .int .i64 t1, .int .i64 t2] 30 (0, 0)) := by rw [hcb]; exact (b1.block _ (by simp)).trans (heap_alloc_new' w _)
  have CB := Lib.hid hcbl
  rw [← hcb]
  clear b1 hcb hcbl
  by_cases h150 : 150 < ds.length
  · have hd : decide ((150 : Int) < ds.length) = true := by simp; omega
    go_wp2_with fail
    go_ret
    exact ⟨rfl, B1.out⟩
  have hd : decide ((150 : Int) < ds.length) = false := by simp; omega
  have HR : Hid (ds.length ≤ 150) := by unfold Hid; omega
  clear h150
  have k0 : w1.cell? ⟨cb, 0, none⟩ = some (.int .i64 t0) := blk_cell CB.out 0
  have k1 : w1.cell? ⟨cb, 1, none⟩ = some (.int .i64 t1) := blk_cell CB.out 1
  have k2 : w1.cell? ⟨cb, 2, none⟩ = some (.int .i64 t2) := blk_cell CB.out 2
  go_wp2_with fail
  refine (lcfg ⟨t0, t1, t2⟩ _).mono ?_
  rintro x w2 ⟨rfl, b2⟩
  have B2 : Hid (Below w.heap.size w w2) := B1.out.trans (b2.mono B1.out.size)
  have CB2 := Lib.hid ((b2.block _ (lt_of_block CB.out)).trans CB.out)
  clear b2 k0 k1 k2
  by_cases hc : (Cf.mk t0 t1 t2).ok
  rotate_left
  · go_wp2_with fail
    refine (onewNo ⟨t0, t1, t2⟩ 4 8 hc (by unfold SapI; decide) (by unfold SapI; decide) _).mono ?_
    rintro x w3 ⟨rfl, b3⟩
    have hcb := (b3.block _ (lt_of_block CB2.out)).trans CB2.out
    have e0 : w3.cell? ⟨cb, 0, none⟩ = some (.int .i64 t0) := blk_cell hcb 0
    have e1 : w3.cell? ⟨cb, 1, none⟩ = some (.int .i64 t1) := blk_cell hcb 1
    have e2 : w3.cell? ⟨cb, 2, none⟩ = some (.int .i64 t2) := blk_cell hcb 2
    have B3 : Hid (Below w.heap.size w w3) := B2.out.trans (b3.mono B2.out.size)
    have Hc := Lib.hid hc
    clear b3 hcb hc
    go_wp2_with fail
    refine (rnewNo ⟨t0, t1, t2⟩ 4 8 Hc.out _).mono ?_
    rintro x w4 ⟨rfl, b4⟩
    have B4 : Hid (Below w.heap.size w w4) := B3.out.trans (b4.mono B3.out.size)
    clear b4
    go_wp2_with fail
    go_ret
    exact ⟨rfl, B4.out⟩
  have Hc := Lib.hid hc
  clear hc
  go_wp2_with fail
  refine (onewYes ⟨t0, t1, t2⟩ 4 8 Hc.out (by unfold SapI; decide) (by unfold SapI; decide) _).mono ?_
  rintro x w3 ⟨o, rfl, h3, ho, b3⟩
  have hcb := (b3.block _ (lt_of_block CB2.out)).trans CB2.out
  have e0 : w3.cell? ⟨cb, 0, none⟩ = some (.int .i64 t0) := blk_cell hcb 0
  have e1 : w3.cell? ⟨cb, 1, none⟩ = some (.int .i64 t1) := blk_cell hcb 1
  have e2 : w3.cell? ⟨cb, 2, none⟩ = some (.int .i64 t2) := blk_cell hcb 2
  have H3 := Lib.hid h3
  have O3 := Lib.hid ho
  have B3 := Lib.hid b3
  clear h3 ho b3 hcb
  go_wp2_with fail
  refine (rnewYes ⟨t0, t1, t2⟩ 4 8 Hc.out (by unfold SapI; decide) (by unfold SapI; decide) _).mono ?_
  rintro x w4 ⟨m, rfl, h4, hm, b4⟩
  have HX4 : Hid (OpX w w4 o m ⟨t0, t1, t2⟩ sk0 sk0 []) := by
    have s2 := B2.out.size
    have s3 := B3.out.size
    have hb : Below w.heap.size w w4 := B2.out.trans ((B3.out.mono s2).trans (b4.mono (by omega)))
    have hol := H3.out.lt o rfl
    refine ⟨_, _, H3.out.below b4, h4, fun x e e' => ?_, fun x e => ?_, hb, Kept.nil _ _⟩
    · have e : x = o := e
      have e' : x = m := e'
      omega
    · rcases e with e | e
      · have e : x = o := e
        have := O3.out
        omega
      · have e : x = m := e
        omega
  clear h4 hm b4 e0 e1 e2
  go_wp2_with fail
  go_loopg [9] ds.length (fun g s9 wx => ∃ (k : Nat) (s : Sk), s9 = .int .i64 k ∧ k ≤ ds.length ∧ g = ds.length - k ∧ Hid s.live ∧ OpX w wx o m ⟨t0, t1, t2⟩ s s [])
  case atStart => exact ⟨0, sk0, rfl, Nat.zero_le _, rfl, (by intro e; cases e), HX4.out⟩
  case round =>
    obtain ⟨k, s, rfl, hk, rfl, HLv, hX⟩ := hrel
    have HX := Lib.hid hX
    clear hX HX4
    by_cases hin : k < ds.length
    rotate_left
    · have hd1 : decide ((k : Int) < ds.length) = false := by simp; omega
      go_wp2_with fail
      go_ret
      exact ⟨rfl, HX.out.bel⟩
    have hd1 : decide ((k : Int) < ds.length) = true := by simp; omega
    obtain ⟨lb, lo, lc', hv⟩ := deed_ad Hl.out (by omega)
    simp at hv
    obtain ⟨rfl, rfl⟩ := hv
    have hD := deed_at Hl.out HX.out.bel hin
    have HA := Lib.hid (Hok.out _ (List.getElem_mem hin))
    obtain ⟨⟨dw, N, poll, bv, bl, ⟨dt, fr, resp, form, kind, ns, nr, pol, info⟩, pv⟩, hde⟩ : ∃ d, d = ds[k] := ⟨_, rfl⟩
    rw [← hde] at hD HA
    clear hde
    obtain ⟨ba, bc, hbv, hbc, hbm⟩ := HA.out.1.sh
    obtain ⟨pa, pc, hpv, hpc, hpm⟩ := HA.out.2.sh
    dsimp only at hbv hpv hbc hpc
    subst hbv hpv
    have c0 := hD 0 _ rfl
    simp only [Nat.add_zero] at c0
    have c1 := hD 1 _ rfl
    have c2 := hD 2 _ rfl
    have c3 := hD 3 _ rfl
    have c4 := hD 4 _ rfl
    have c5 := hD 5 _ rfl
    have c6 := hD 6 _ rfl
    have c7 := hD 7 _ rfl
    have c8 := hD 8 _ rfl
    have c9 := hD 9 _ rfl
    have c10 := hD 10 _ rfl
    have c11 := hD 11 _ rfl
    have c12 := hD 12 _ rfl
    have hlb : lb < wr.heap.size := World.block_lt_of_cell? wr _ c0
    have Hin := Lib.hid hin
    have Hp := Lib.hid (And.intro hpc hpm)
    have hk150 : (k : Int) ≤ 150 := by have := HR.out; omega
    clear hD hin hbc hbm hpc hpm
    by_cases h1 : 1100 < bl.length
    · have hd3 : decide ((1100 : Int) < bl.length) = true := by simp; omega
      go_wp2_with fail
      go_ret
      exact ⟨rfl, HX.out.bel.alloc HX.out.bel.size _⟩
    have hd3 : decide ((1100 : Int) < bl.length) = false := by simp; omega
    by_cases h2 : 1100 < info.length
    · have hd4 : decide ((1100 : Int) < info.length) = true := by simp; omega
      go_wp2_with fail
      go_ret
      exact ⟨rfl, HX.out.bel.alloc HX.out.bel.size _⟩
    have hd4 : decide ((1100 : Int) < info.length) = false := by simp; omega
    have HB11 : Hid (bl.length ≤ 1100) := by unfold Hid; omega
    clear h1 h2
    go_upto_block 2 with fail
    obtain ⟨W4, hW4⟩ : ∃ W4, W4 = wr.alloc (.cells #[.int .i64 dw, .int .i64 N, .bool poll, .slice ba bl.length bc, .int .i64 dt, .int .i64 fr, .bool resp, .int .i64 form, .int .i64 kind, .int .i64 ns, .int .i64 nr, .bool pol, .slice pa info.length pc] 44) := ⟨_, rfl⟩
    obtain ⟨db, hdb⟩ : ∃ db, db = wr.heap.size := ⟨_, rfl⟩
    have hX4 : OpX w W4 o m ⟨t0, t1, t2⟩ s s [(db, .cells #[.int .i64 dw, .int .i64 N, .bool poll, .slice ba bl.length bc, .int .i64 dt, .int .i64 fr, .bool resp, .int .i64 form, .int .i64 kind, .int .i64 ns, .int .i64 nr, .bool pol, .slice pa info.length pc] 44 (0, 0))] := by rw [hW4, hdb]; exact HX.out.alloc _
    have HX4 := Lib.hid hX4
    have hdw : w.heap.size ≤ db := by rw [hdb]; exact HX.out.bel.size
    have hdl : db < W4.heap.size := lt_of_block (hX4.kept (List.mem_singleton.2 rfl))
    rw [← hW4, ← hdb]
    clear hX4 hW4 hdb c0 c1 c2 c3 c4 c5 c6 c7 c8 c9 c10 c11 c12 hlb hd1 hd3 hd4
    go_cut [11] (fun v11 wx => ∃ s', v11 = .bool true ∧ Hid s'.live ∧ Hid (OpX w wx o m ⟨t0, t1, t2⟩ s' s' []))
    case first =>
      have d0 : W4.cell? ⟨db, 0, none⟩ = some (.int .i64 dw) := blk_cell (HX4.out.kept (List.mem_singleton.2 rfl)) 0
      have d1 : W4.cell? ⟨db, 1, none⟩ = some (.int .i64 N) := blk_cell (HX4.out.kept (List.mem_singleton.2 rfl)) 1
      have d2 : W4.cell? ⟨db, 2, none⟩ = some (.bool poll) := blk_cell (HX4.out.kept (List.mem_singleton.2 rfl)) 2
      have d3 : W4.cell? ⟨db, 3, none⟩ = some (.slice ba bl.length bc) := blk_cell (HX4.out.kept (List.mem_singleton.2 rfl)) 3
      have d4 : W4.cell? ⟨db, 4, none⟩ = some (.int .i64 dt) := blk_cell (HX4.out.kept (List.mem_singleton.2 rfl)) 4
      have d5 : W4.cell? ⟨db, 5, none⟩ = some (.int .i64 fr) := blk_cell (HX4.out.kept (List.mem_singleton.2 rfl)) 5
      have d6 : W4.cell? ⟨db, 6, none⟩ = some (.bool resp) := blk_cell (HX4.out.kept (List.mem_singleton.2 rfl)) 6
      have d7 : W4.cell? ⟨db, 7, none⟩ = some (.int .i64 form) := blk_cell (HX4.out.kept (List.mem_singleton.2 rfl)) 7
      have d8 : W4.cell? ⟨db, 8, none⟩ = some (.int .i64 kind) := blk_cell (HX4.out.kept (List.mem_singleton.2 rfl)) 8
      have d9 : W4.cell? ⟨db, 9, none⟩ = some (.int .i64 ns) := blk_cell (HX4.out.kept (List.mem_singleton.2 rfl)) 9
      have d10 : W4.cell? ⟨db, 10, none⟩ = some (.int .i64 nr) := blk_cell (HX4.out.kept (List.mem_singleton.2 rfl)) 10
      have d11 : W4.cell? ⟨db, 11, none⟩ = some (.bool pol) := blk_cell (HX4.out.kept (List.mem_singleton.2 rfl)) 11
      have d12 : W4.cell? ⟨db, 12, none⟩ = some (.slice pa info.length pc) := blk_cell (HX4.out.kept (List.mem_singleton.2 rfl)) 12
      by_cases h2 : dw ≤ 2
      · have hd5 : decide (dw ≤ 2) = true := by simpa using h2
        go_wp2_with fail
        obtain ⟨P, E, s', hr⟩ : ∃ P E s', askR ⟨t0, t1, t2⟩ 4 8 s bl poll = (P, E, s') := ⟨_, _, _, rfl⟩
        have Hr := Lib.hid hr
        clear hr
        refine (pask HX4.out (.slice ba bl.length bc) bl (HA.out.1.thru HX4.out.bel HX4.out.geo) poll Hr.out).mono ?_
        rintro x w5 ⟨a5, k5, ex, rfl, h5, hrow5⟩
        have H5 := Lib.hid h5
        have R5 := Lib.hid hrow5
        have hd5b := h5.kept (b := db) (List.mem_append_right _ (List.mem_singleton.2 rfl))
        clear d0 d1 d2 d3 d4 d5 d6 d7 d8 d9 d10 d11 d12
        have d0 : w5.cell? ⟨db, 0, none⟩ = some (.int .i64 dw) := blk_cell (hd5b) 0
        have d1 : w5.cell? ⟨db, 1, none⟩ = some (.int .i64 N) := blk_cell (hd5b) 1
        have d2 : w5.cell? ⟨db, 2, none⟩ = some (.bool poll) := blk_cell (hd5b) 2
        have d3 : w5.cell? ⟨db, 3, none⟩ = some (.slice ba bl.length bc) := blk_cell (hd5b) 3
        have d4 : w5.cell? ⟨db, 4, none⟩ = some (.int .i64 dt) := blk_cell (hd5b) 4
        have d5 : w5.cell? ⟨db, 5, none⟩ = some (.int .i64 fr) := blk_cell (hd5b) 5
        have d6 : w5.cell? ⟨db, 6, none⟩ = some (.bool resp) := blk_cell (hd5b) 6
        have d7 : w5.cell? ⟨db, 7, none⟩ = some (.int .i64 form) := blk_cell (hd5b) 7
        have d8 : w5.cell? ⟨db, 8, none⟩ = some (.int .i64 kind) := blk_cell (hd5b) 8
        have d9 : w5.cell? ⟨db, 9, none⟩ = some (.int .i64 ns) := blk_cell (hd5b) 9
        have d10 : w5.cell? ⟨db, 10, none⟩ = some (.int .i64 nr) := blk_cell (hd5b) 10
        have d11 : w5.cell? ⟨db, 11, none⟩ = some (.bool pol) := blk_cell (hd5b) 11
        have d12 : w5.cell? ⟨db, 12, none⟩ = some (.slice pa info.length pc) := blk_cell (hd5b) 12
        have hdl5 : db < w5.heap.size := lt_of_block hd5b
        clear h5 hrow5 hd5b
        go_wp2_with fail
        obtain ⟨W6, hW6⟩ : ∃ W6, W6 = w5.alloc (.cells (pdCs P (.slice a5 P.info.length k5)) 33) := ⟨_, rfl⟩
        have h6 := H5.out.alloc (.cells (pdCs P (.slice a5 P.info.length k5)) 33)
        rw [← hW6] at h6 ⊢
        have H6 := Lib.hid h6
        clear h6 hW6
        refine (qask H6.out (.slice ba bl.length bc) bl (HA.out.1.thru H6.out.bel H6.out.gem) poll Hr.out).mono ?_
        rintro x w7 ⟨a7, k7, ex7, rfl, h7, hrow7⟩
        have H7 := Lib.hid h7
        have R7 := Lib.hid hrow7
        have hq7 := h7.kept (b := w5.heap.size) (List.mem_append_right _ (List.mem_cons_self ..))
        have hql := lt_of_block hq7
        have u0 : w7.cell? ⟨w5.heap.size, 0, none⟩ = some (.int .i64 P.dt) := blk_cell (hq7) 0
        have u1 : w7.cell? ⟨w5.heap.size, 1, none⟩ = some (.int .i64 P.fr) := blk_cell (hq7) 1
        have u2 : w7.cell? ⟨w5.heap.size, 2, none⟩ = some (.bool P.resp) := blk_cell (hq7) 2
        have u3 : w7.cell? ⟨w5.heap.size, 3, none⟩ = some (.int .i64 P.form) := blk_cell (hq7) 3
        have u4 : w7.cell? ⟨w5.heap.size, 4, none⟩ = some (.int .i64 P.kind) := blk_cell (hq7) 4
        have u5 : w7.cell? ⟨w5.heap.size, 5, none⟩ = some (.int .i64 P.ns) := blk_cell (hq7) 5
        have u6 : w7.cell? ⟨w5.heap.size, 6, none⟩ = some (.int .i64 P.nr) := blk_cell (hq7) 6
        have u7 : w7.cell? ⟨w5.heap.size, 7, none⟩ = some (.bool P.poll) := blk_cell (hq7) 7
        have u8 : w7.cell? ⟨w5.heap.size, 8, none⟩ = some (.slice a5 P.info.length k5) := blk_cell (hq7) 8
        have hee : (E == E) = true := by simp
        have HPl := Lib.hid (ask_len Hr.out)
        clear h7 hrow7 hq7
        go_wp2_with fail
        obtain ⟨W8, hW8⟩ : ∃ W8, W8 = w7.alloc (.cells (pdCs P (.slice a7 P.info.length k7)) 33) := ⟨_, rfl⟩
        have h8 := H7.out.alloc (.cells (pdCs P (.slice a7 P.info.length k7)) 33)
        rw [← hW8] at h8 ⊢
        have H8 := Lib.hid h8
        clear h8 hW8
        refine (rsameP P a5 a7 k5 k7 W8 (R5.out W8 (fun q hq => H8.out.kept (List.mem_cons_of_mem _ (List.mem_append_right _ (List.mem_cons_of_mem _ (List.mem_append_left _ hq)))))).rd (R7.out W8 (fun q hq => H8.out.kept (List.mem_cons_of_mem _ (List.mem_append_left _ hq)))).rd (by have := HPl.out; omega)).mono ?_
        rintro x w9 ⟨rfl, b9⟩
        have H9 := Lib.hid ((H8.out.below b9).sub (kb' := []) (fun q hq => by cases hq))
        clear b9
        go_wp2_with fail
        go_meet
        exact ⟨s', rfl, ask_live Hc.out HLv.out Hr.out, H9⟩
      have hd5 : decide (dw ≤ 2) = false := by simpa using h2
      by_cases h7 : dw ≤ 7
      · have hd6 : decide (dw ≤ 7) = true := by simpa using h7
        go_upto_if 132 with fail
        obtain ⟨p6, hp6⟩ : ∃ b, b = W4.heap.size := ⟨_, rfl⟩
        have Hp6 := Lib.hid hp6
        have hpw : w.heap.size ≤ p6 := by rw [hp6]; exact HX4.out.bel.size
        clear hp6
        go_cut [] (fun wx => ∃ (p : Pd) (qa : Option Addr) (qk : Nat) (ex : List (Nat × Obj)), Hid (OpX w wx o m ⟨t0, t1, t2⟩ s s ((p6, .cells (pdCs p (.slice qa p.info.length qk)) 33 (0, 0)) :: ex)) ∧ Hid (∀ W, Below w.heap.size w W → (∀ q ∈ ex, W.heap[q.1]? = some q.2) → RdB W (.slice qa p.info.length qk) p.info) ∧ Hid ((∀ y ∈ p.info, 0 ≤ y ∧ y ≤ 255) ∧ p.info.length ≤ qk ∧ qk ≤ 9223372036854775807))
        case first =>
          by_cases h55 : 5 ≤ dw
          · have hd7 : decide (5 ≤ dw) = true := by simpa using h55
            obtain ⟨i1, hi1, hz3, hz4, hz5⟩ := info_parts infoB
            obtain ⟨y1, hy1, hy1', hyb⟩ : ∃ y1, bits BinOp.and IntKind.i64 (IntKind.i64.wrap (s.bit + N)) 1 = y1 ∧ bits BinOp.and IntKind.i64 (wrap64 (s.bit + N)) 1 = y1 ∧ (0 ≤ y1 ∧ y1 ≤ 1) := ⟨(s.bit + N) % 2, by rw [i64_and1]; simp [IntKind.wrap, IntKind.bits, IntKind.signed]; omega, by rw [i64_and1]; unfold wrap64; omega, by omega⟩
            have hw8 : IntKind.i64.wrap (8 + y1) = 8 + y1 := IntWalk.i64_in _ (by omega)
            obtain ⟨y, hy, hy2⟩ : ∃ y, bits BinOp.and IntKind.i64 N 2 = y ∧ (y = 0 ∨ y = 2) := ⟨_, rfl, i64_and2 N⟩
            obtain ⟨pb, hpb⟩ : ∃ pb, (y == 2) = pb := ⟨_, rfl⟩
            obtain ⟨pq, hpq⟩ : ∃ pq, (!(s.poll == pb)) = pq := ⟨_, rfl⟩
            obtain ⟨xx, hxx, hxb⟩ : ∃ x, IntKind.u8.wrap (bits BinOp.and IntKind.i64 (N / 4) 3) = x ∧ (0 ≤ x ∧ x ≤ 255) := ⟨_, rfl, by
              rw [i64_and3]
              have h3 := Int.emod_nonneg (N / 4) (show (4 : Int) ≠ 0 by decide)
              have h4 := Int.emod_lt_of_pos (N / 4) (show (0 : Int) < 4 by decide)
              generalize N / 4 % 4 = y at *
              simp [IntKind.wrap, IntKind.bits, IntKind.signed]
              omega⟩
            have Hxb := Lib.hid hxb
            clear hxb hyb hy2
            go_upto_region 28 with fail
            obtain ⟨W5, hW5⟩ : ∃ W5, W5 = W4.alloc (.cells #[.int .i64 dt, .int .i64 fr, .bool resp, .int .i64 form, .int .i64 kind, .int .i64 ns, .int .i64 nr, .bool pol, .slice pa info.length pc] 33) := ⟨_, rfl⟩
            have hX5 : OpX w W5 o m ⟨t0, t1, t2⟩ s s ((p6, .cells #[.int .i64 dt, .int .i64 fr, .bool resp, .int .i64 form, .int .i64 kind, .int .i64 ns, .int .i64 nr, .bool pol, .slice pa info.length pc] 33 (0, 0)) :: [(db, .cells #[.int .i64 dw, .int .i64 N, .bool poll, .slice ba bl.length bc, .int .i64 dt, .int .i64 fr, .bool resp, .int .i64 form, .int .i64 kind, .int .i64 ns, .int .i64 nr, .bool pol, .slice pa info.length pc] 44 (0, 0))]) := by rw [hW5, Hp6.out]; exact HX4.out.alloc _
            have HX5 := Lib.hid hX5
            have hpd : p6 ≠ db := by have := Hp6.out; omega
            have hml : m < W5.heap.size := hX5.mlt
            have hpm : p6 ≠ m := by have := HX4.out.mlt; have := Hp6.out; omega
            rw [← hW5, ← Hp6.out]
            obtain ⟨mv, hmb, _⟩ := hX5.mblk
            have n5 : W5.drew.cell? ⟨m, 5, none⟩ = some (.int .i64 s.bit) := blk_cell hmb 5
            have n10 : W5.drew.cell? ⟨m, 10, none⟩ = some (.bool s.poll) := blk_cell hmb 10
            have hdb5 := hX5.kept (b := db) (List.mem_cons_of_mem _ (List.mem_singleton.2 rfl))
            have n1 : W5.drew.cell? ⟨db, 1, none⟩ = some (.int .i64 N) := blk_cell hdb5 1
            have n3 : W5.drew.cell? ⟨db, 3, none⟩ = some (.slice ba bl.length bc) := blk_cell hdb5 3
            have hdl5 : db < W5.heap.size := lt_of_block hdb5
            have bel5 : ∀ x, Below W5.heap.size W5 (W5.alloc x).drew := fun x => ((Below.refl _ W5).alloc (Nat.le_refl _) x).drew
            have a5 : ∀ x, (W5.alloc x).drew.cell? ⟨m, 5, none⟩ = some (.int .i64 s.bit) := fun x => cellOn' (w := W5) n5 (bel5 x)
            have a10 : ∀ x, (W5.alloc x).drew.cell? ⟨m, 10, none⟩ = some (.bool s.poll) := fun x => cellOn' (w := W5) n10 (bel5 x)
            have a1 : ∀ x, (W5.alloc x).drew.cell? ⟨db, 1, none⟩ = some (.int .i64 N) := fun x => cellOn' (w := W5) n1 (bel5 x)
            have a3 : ∀ x, (W5.alloc x).drew.cell? ⟨db, 3, none⟩ = some (.slice ba bl.length bc) := fun x => cellOn' (w := W5) n3 (bel5 x)
            have P5 := Lib.hid (hX5.kept (List.mem_cons_self ..))
            have hbl : (bl.length : Nat) ≤ 1100 := HB11.out
            have HBr : Hid (RdB w (.slice ba bl.length bc) bl) := HA.out.1.rd
            clear hX5 hW5 hmb hdb5 d0 d1 d2 d3 d4 d5 d6 d7 d8 d9 d10 d11 d12
            go_region_held3 (fun w' => w'.cell? ⟨m, 5, none⟩ = some (.int .i64 s.bit) ∧ w'.cell? ⟨m, 10, none⟩ = some (.bool s.poll) ∧ w'.cell? ⟨db, 1, none⟩ = some (.int .i64 N) ∧ w'.cell? ⟨db, 3, none⟩ = some (.slice ba bl.length bc)) (first | with_reducible assumption | with_reducible exact ⟨n5, n10, n1, n3⟩ | with_reducible exact ⟨a5 _, a10 _, a1 _, a3 _⟩ | with_reducible exact ⟨m5, m10, m1, m3⟩ | with_reducible exact ⟨far9 hpm m5 _ _ _ _ _ _ _ _ _, far9 hpm m10 _ _ _ _ _ _ _ _ _, far9 hpd m1 _ _ _ _ _ _ _ _ _, far9 hpd m3 _ _ _ _ _ _ _ _ _⟩) (first
              | (refine step_app (B := W5.heap.size) (n := 1) (v := .slice (some ⟨W5.heap.size, 0, none⟩) 1 1) rfl (.tmp 156) (.tmp 158) 31 rfl 5 i1 _ 1 _ Try.underlying31 hi1 hz3 hz4 hz5 rfl (by decide) (by simp) rfl rfl (own_lit W5 xx) (RdB.fr HBr.out (HX5.out.bel.trans ((bel5 _).mono HX5.out.bel.size))) (encB_ones _) (by unfold maxLen; omega) (by omega) ?_; intro v1 w1 o1 f1 g1 z1 z2; have hb1 : Below W5.heap.size W5 w1 := (bel5 _).trans (f1.below' (by simp) (fun b e => by simp [Value.ownBlock] at e; omega)); have m5 := cellOn' (w := W5) n5 hb1; have m10 := cellOn' (w := W5) n10 hb1; have m1 := cellOn' (w := W5) n1 hb1; have m3 := cellOn' (w := W5) n3 hb1; have HB1 := Lib.hid hb1; rw [Nat.add_comm 1 bl.length] at o1; obtain ⟨xa, xc, hxv, hxl, hxm, _⟩ := own_shape o1; subst hxv; have hp1 := (hb1.block p6 (lt_of_block P5.out)).trans P5.out; have q0 : w1.cell? ⟨p6, 0, none⟩ = some (.int .i64 dt) := blk_cell hp1 0; have q1 : w1.cell? ⟨p6, 1, none⟩ = some (.int .i64 fr) := blk_cell hp1 1; have q2 : w1.cell? ⟨p6, 2, none⟩ = some (.bool resp) := blk_cell hp1 2; have q3 : w1.cell? ⟨p6, 3, none⟩ = some (.int .i64 form) := blk_cell hp1 3; have q4 : w1.cell? ⟨p6, 4, none⟩ = some (.int .i64 kind) := blk_cell hp1 4; have q5 : w1.cell? ⟨p6, 5, none⟩ = some (.int .i64 ns) := blk_cell hp1 5; have q6 : w1.cell? ⟨p6, 6, none⟩ = some (.int .i64 nr) := blk_cell hp1 6; have q7 : w1.cell? ⟨p6, 7, none⟩ = some (.bool pol) := blk_cell hp1 7; have q8 : w1.cell? ⟨p6, 8, none⟩ = some (.slice pa info.length pc) := blk_cell hp1 8; have qz : ∀ i, w1.frozen? ⟨p6, i, none⟩ = false := fun i => blk_free hp1 i; have O1 := Lib.hid o1; have HXM := Lib.hid (And.intro hxl hxm); clear hb1 o1 f1 g1 z1 z2 hp1 hxl hxm; (try simp only [Act.put, List.setIfInBounds_toArray, List.set_cons_zero, List.set_cons_succ]))
              | fail)
            all_goals
              try simp only [Act.put, List.setIfInBounds_toArray, List.set_cons_zero, List.set_cons_succ]
              obtain ⟨W6, hW6⟩ : ∃ W6, W6 = ((((((((w1.setCell ⟨p6, 0, none⟩ (.int .i64 4)).setCell ⟨p6, 1, none⟩ (.int .i64 8)).setCell ⟨p6, 2, none⟩ (.bool true)).setCell ⟨p6, 3, none⟩ (.int .i64 2)).setCell ⟨p6, 4, none⟩ (.int .i64 (8 + y1))).setCell ⟨p6, 5, none⟩ (.int .i64 0)).setCell ⟨p6, 6, none⟩ (.int .i64 0)).setCell ⟨p6, 7, none⟩ (.bool pq)).setCell ⟨p6, 8, none⟩ (.slice xa (bl.length + 1) xc) := ⟨_, rfl⟩
              have hO1 : OwnB W5.heap.size w1 (.slice xa (bl.length + 1) xc) (xx :: bl) := by
                have h := O1.out
                unfold OwnB Own
                rw [List.length_cons, List.flatMap_cons]
                exact h
              have hX7 := ((HX5.out.rows HB1.out (v := .slice xa (bl.length + 1) xc) (fun g hg => (hO1.lt g hg).1)).sub (kb' := (p6, .cells #[.int .i64 dt, .int .i64 fr, .bool resp, .int .i64 form, .int .i64 kind, .int .i64 ns, .int .i64 nr, .bool pol, .slice pa info.length pc] 33 (0, 0)) :: rowOf w1 (.slice xa (bl.length + 1) xc)) (by
                intro q hq
                rcases List.mem_cons.1 hq with rfl | hq
                · exact List.mem_append_right _ (List.mem_cons_self ..)
                · exact List.mem_append_left _ hq)).set9 (.int .i64 4) (.int .i64 8) (.bool true) (.int .i64 2) (.int .i64 (8 + y1)) (.int .i64 0) (.int .i64 0) (.bool pq) (.slice xa (bl.length + 1) xc) hpw (fun q hq e => by have h1 := (hO1.lt _ (rowOf_own hq)).1; have h2 := lt_of_block P5.out; omega)
              rw [← hW6] at hX7 ⊢
              have HX7 := Lib.hid hX7
              have HO1 := Lib.hid hO1
              clear hX7 hW6 hO1 n5 n10 n1 n3 a5 a10 a1 a3 m5 m10 m1 m3 q0 q1 q2 q3 q4 q5 q6 q7 q8 qz
              go_wp2_with fail
              have e6 := Hp6.out
              subst e6
              go_meet
              exact ⟨⟨4, 8, true, 2, 8 + y1, 0, 0, pq, xx :: bl⟩, xa, xc, _, HX7, fun W hb hW => (rowOf_rd HO1.out hW).rd, ⟨by
                intro y hy
                rcases List.mem_cons.1 hy with rfl | hy
                · exact Hxb.out
                · exact HA.out.1.byt y hy, HXM.out.1, by have := HXM.out.2; unfold maxLen at this; omega⟩⟩
          · have hd7 : decide (5 ≤ dw) = false := by simpa using h55
            go_wp2_with fail
            go_meet
            rw [Hp6.out]
            exact ⟨⟨dt, fr, resp, form, kind, ns, nr, pol, info⟩, pa, pc, [], (HX4.out.alloc _).sub (kb' := [_]) (fun q hq => by rw [List.mem_singleton.1 hq]; exact List.mem_cons_self ..), fun W hb _ => HA.out.2.rd.fr hb, ⟨HA.out.2.byt, Hp.out.1, Hp.out.2⟩⟩
        case rest =>
          obtain ⟨p, qa, qk, ex, HX6, HRp, HPf⟩ := hcut
          rename World => w6
          rw [← Hp6.out]
          have hb6 := HX6.out.kept (List.mem_cons_self ..)
          have e0 : w6.cell? ⟨p6, 0, none⟩ = some (.int .i64 p.dt) := blk_cell (hb6) 0
          have e1 : w6.cell? ⟨p6, 1, none⟩ = some (.int .i64 p.fr) := blk_cell (hb6) 1
          have e2 : w6.cell? ⟨p6, 2, none⟩ = some (.bool p.resp) := blk_cell (hb6) 2
          have e3 : w6.cell? ⟨p6, 3, none⟩ = some (.int .i64 p.form) := blk_cell (hb6) 3
          have e4 : w6.cell? ⟨p6, 4, none⟩ = some (.int .i64 p.kind) := blk_cell (hb6) 4
          have e5 : w6.cell? ⟨p6, 5, none⟩ = some (.int .i64 p.ns) := blk_cell (hb6) 5
          have e6 : w6.cell? ⟨p6, 6, none⟩ = some (.int .i64 p.nr) := blk_cell (hb6) 6
          have e7 : w6.cell? ⟨p6, 7, none⟩ = some (.bool p.poll) := blk_cell (hb6) 7
          have e8 : w6.cell? ⟨p6, 8, none⟩ = some (.slice qa p.info.length qk) := blk_cell (hb6) 8
          have hl6 := lt_of_block hb6
          clear hb6
          go_wp2_with fail
          obtain ⟨ov, st, B, s', hr⟩ : ∃ ov st B s', hearR 4 8 s p = ((ov, st, B), s') := ⟨_, _, _, _, rfl⟩
          have Hr := Lib.hid hr
          clear hr
          refine (phear HX6.out p qa qk (HRp.out _ HX6.out.bel (fun q hq => HX6.out.kept (List.mem_cons_of_mem _ hq))) HPf.out.1 HPf.out.2.1 HPf.out.2.2 Hr.out).mono ?_
          rintro x w7 ⟨a7, k7, ex7, rfl, h7, hrow7⟩
          have H7 := Lib.hid h7
          have R7 := Lib.hid hrow7
          clear h7 hrow7 e0 e1 e2 e3 e4 e5 e6 e7 e8
          go_wp2_with fail
          refine (lres ov st a7 B.length k7 _).mono ?_
          rintro x w8 ⟨rfl, b8⟩
          have H8 := Lib.hid (H7.out.below b8)
          clear b8
          go_upto_region 30 with fail
          obtain ⟨W9, hW9⟩ : ∃ W9, W9 = w8.alloc (.cells #[.bool ov, .int .i64 st, .slice a7 B.length k7] 56) := ⟨_, rfl⟩
          obtain ⟨b8, hb8⟩ : ∃ b, b = w8.heap.size := ⟨_, rfl⟩
          have h9 : OpX w W9 o m ⟨t0, t1, t2⟩ s' s ((b8, .cells #[.bool ov, .int .i64 st, .slice a7 B.length k7] 56 (0, 0)) :: (ex7 ++ ((p6, .cells (pdCs p (.slice qa p.info.length qk)) 33 (0, 0)) :: ex))) := by rw [hW9, hb8]; exact H8.out.alloc _
          rw [← hW9, ← hb8]
          have H9 := Lib.hid h9
          have hp9 := h9.kept (b := p6) (List.mem_cons_of_mem _ (List.mem_append_right _ (List.mem_cons_self ..)))
          have hr9 := h9.kept (b := b8) (List.mem_cons_self ..)
          have e0 : W9.drew.cell? ⟨p6, 0, none⟩ = some (.int .i64 p.dt) := blk_cell hp9 0
          have e1 : W9.drew.cell? ⟨p6, 1, none⟩ = some (.int .i64 p.fr) := blk_cell hp9 1
          have e2 : W9.drew.cell? ⟨p6, 2, none⟩ = some (.bool p.resp) := blk_cell hp9 2
          have e3 : W9.drew.cell? ⟨p6, 3, none⟩ = some (.int .i64 p.form) := blk_cell hp9 3
          have e4 : W9.drew.cell? ⟨p6, 4, none⟩ = some (.int .i64 p.kind) := blk_cell hp9 4
          have e5 : W9.drew.cell? ⟨p6, 5, none⟩ = some (.int .i64 p.ns) := blk_cell hp9 5
          have e6 : W9.drew.cell? ⟨p6, 6, none⟩ = some (.int .i64 p.nr) := blk_cell hp9 6
          have e7 : W9.drew.cell? ⟨p6, 7, none⟩ = some (.bool p.poll) := blk_cell hp9 7
          have e8 : W9.drew.cell? ⟨p6, 8, none⟩ = some (.slice qa p.info.length qk) := blk_cell hp9 8
          have f0 : W9.drew.cell? ⟨b8, 0, none⟩ = some (.bool ov) := blk_cell hr9 0
          have f1 : W9.drew.cell? ⟨b8, 1, none⟩ = some (.int .i64 st) := blk_cell hr9 1
          have f2 : W9.drew.cell? ⟨b8, 2, none⟩ = some (.slice a7 B.length k7) := blk_cell hr9 2
          have e0' : W9.cell? ⟨p6, 0, none⟩ = some (.int .i64 p.dt) := blk_cell hp9 0
          have e1' : W9.cell? ⟨p6, 1, none⟩ = some (.int .i64 p.fr) := blk_cell hp9 1
          have e2' : W9.cell? ⟨p6, 2, none⟩ = some (.bool p.resp) := blk_cell hp9 2
          have e3' : W9.cell? ⟨p6, 3, none⟩ = some (.int .i64 p.form) := blk_cell hp9 3
          have e4' : W9.cell? ⟨p6, 4, none⟩ = some (.int .i64 p.kind) := blk_cell hp9 4
          have e5' : W9.cell? ⟨p6, 5, none⟩ = some (.int .i64 p.ns) := blk_cell hp9 5
          have e6' : W9.cell? ⟨p6, 6, none⟩ = some (.int .i64 p.nr) := blk_cell hp9 6
          have e7' : W9.cell? ⟨p6, 7, none⟩ = some (.bool p.poll) := blk_cell hp9 7
          have e8' : W9.cell? ⟨p6, 8, none⟩ = some (.slice qa p.info.length qk) := blk_cell hp9 8
          have f0' : W9.cell? ⟨b8, 0, none⟩ = some (.bool ov) := blk_cell hr9 0
          have f1' : W9.cell? ⟨b8, 1, none⟩ = some (.int .i64 st) := blk_cell hr9 1
          have f2' : W9.cell? ⟨b8, 2, none⟩ = some (.slice a7 B.length k7) := blk_cell hr9 2
          clear h9 hW9 hb8 hp9 hr9
          have HBl := Lib.hid (hear_len Hr.out)
          go_region_held3 (fun w' => w'.cell? ⟨p6, 0, none⟩ = some (.int .i64 p.dt) ∧ w'.cell? ⟨p6, 1, none⟩ = some (.int .i64 p.fr) ∧ w'.cell? ⟨p6, 2, none⟩ = some (.bool p.resp) ∧ w'.cell? ⟨p6, 3, none⟩ = some (.int .i64 p.form) ∧ w'.cell? ⟨p6, 4, none⟩ = some (.int .i64 p.kind) ∧ w'.cell? ⟨p6, 5, none⟩ = some (.int .i64 p.ns) ∧ w'.cell? ⟨p6, 6, none⟩ = some (.int .i64 p.nr) ∧ w'.cell? ⟨p6, 7, none⟩ = some (.bool p.poll) ∧ w'.cell? ⟨p6, 8, none⟩ = some (.slice qa p.info.length qk) ∧ w'.cell? ⟨b8, 0, none⟩ = some (.bool ov) ∧ w'.cell? ⟨b8, 1, none⟩ = some (.int .i64 st) ∧ w'.cell? ⟨b8, 2, none⟩ = some (.slice a7 B.length k7)) (first | with_reducible assumption | with_reducible exact ⟨e0, e1, e2, e3, e4, e5, e6, e7, e8, f0, f1, f2⟩ | with_reducible exact ⟨x0, x1, x2, x3, x4, x5, x6, x7, x8, x9, x10, x11⟩ | with_reducible exact ⟨y0, y1, y2, y3, y4, y5, y6, y7, y8, y9, y10, y11⟩) (first
            | (go_at_call 21; refine (qhear (H9.out.below (Below.refl _ W9).drew) p qa qk (HRp.out _ H9.out.bel.drew (fun q hq => H9.out.kept (List.mem_cons_of_mem _ (List.mem_append_right _ (List.mem_cons_of_mem _ hq))))) HPf.out.1 HPf.out.2.1 HPf.out.2.2 Hr.out).mono ?_; rintro x w10 ⟨a10, k10, ex10, rfl, h10, hrow10⟩; have H10 := Lib.hid h10; have R10 := Lib.hid hrow10; have hp10 := h10.kept (b := p6) (List.mem_append_right _ (List.mem_cons_of_mem _ (List.mem_append_right _ (List.mem_cons_self ..)))); have hr10 := h10.kept (b := b8) (List.mem_append_right _ (List.mem_cons_self ..)); have x0 : w10.cell? ⟨p6, 0, none⟩ = some (.int .i64 p.dt) := blk_cell hp10 0; have x1 : w10.cell? ⟨p6, 1, none⟩ = some (.int .i64 p.fr) := blk_cell hp10 1; have x2 : w10.cell? ⟨p6, 2, none⟩ = some (.bool p.resp) := blk_cell hp10 2; have x3 : w10.cell? ⟨p6, 3, none⟩ = some (.int .i64 p.form) := blk_cell hp10 3; have x4 : w10.cell? ⟨p6, 4, none⟩ = some (.int .i64 p.kind) := blk_cell hp10 4; have x5 : w10.cell? ⟨p6, 5, none⟩ = some (.int .i64 p.ns) := blk_cell hp10 5; have x6 : w10.cell? ⟨p6, 6, none⟩ = some (.int .i64 p.nr) := blk_cell hp10 6; have x7 : w10.cell? ⟨p6, 7, none⟩ = some (.bool p.poll) := blk_cell hp10 7; have x8 : w10.cell? ⟨p6, 8, none⟩ = some (.slice qa p.info.length qk) := blk_cell hp10 8; have x9 : w10.cell? ⟨b8, 0, none⟩ = some (.bool ov) := blk_cell hr10 0; have x10 : w10.cell? ⟨b8, 1, none⟩ = some (.int .i64 st) := blk_cell hr10 1; have x11 : w10.cell? ⟨b8, 2, none⟩ = some (.slice a7 B.length k7) := blk_cell hr10 2; have P10 := Lib.hid hp10; have Q10 := Lib.hid hr10; clear h10 hrow10 hp10 hr10)
            | (go_at_call 20; refine (rsameR ov st B B.length rfl a7 a10 k7 k10 _ (R7.out _ (fun q hq => H10.out.kept (List.mem_append_right _ (List.mem_cons_of_mem _ (List.mem_append_left _ hq))))).rd (R10.out _ (fun q hq => H10.out.kept (List.mem_append_left _ hq))).rd (by have := HBl.out; omega)).mono ?_; rintro x w11 ⟨rfl, b11⟩; have y0 : w11.cell? ⟨p6, 0, none⟩ = some (.int .i64 p.dt) := cellOn' x0 b11; have y1 : w11.cell? ⟨p6, 1, none⟩ = some (.int .i64 p.fr) := cellOn' x1 b11; have y2 : w11.cell? ⟨p6, 2, none⟩ = some (.bool p.resp) := cellOn' x2 b11; have y3 : w11.cell? ⟨p6, 3, none⟩ = some (.int .i64 p.form) := cellOn' x3 b11; have y4 : w11.cell? ⟨p6, 4, none⟩ = some (.int .i64 p.kind) := cellOn' x4 b11; have y5 : w11.cell? ⟨p6, 5, none⟩ = some (.int .i64 p.ns) := cellOn' x5 b11; have y6 : w11.cell? ⟨p6, 6, none⟩ = some (.int .i64 p.nr) := cellOn' x6 b11; have y7 : w11.cell? ⟨p6, 7, none⟩ = some (.bool p.poll) := cellOn' x7 b11; have y8 : w11.cell? ⟨p6, 8, none⟩ = some (.slice qa p.info.length qk) := cellOn' x8 b11; have y9 : w11.cell? ⟨b8, 0, none⟩ = some (.bool ov) := cellOn' x9 b11; have y10 : w11.cell? ⟨b8, 1, none⟩ = some (.int .i64 st) := cellOn' x10 b11; have y11 : w11.cell? ⟨b8, 2, none⟩ = some (.slice a7 B.length k7) := cellOn' x11 b11; have B11 := Lib.hid b11; clear b11)
            | fail)
          all_goals
            try simp only [Act.put, List.setIfInBounds_toArray, List.set_cons_zero, List.set_cons_succ]
            have H11 := Lib.hid ((H10.out.below B11.out).sub (kb' := []) (fun q hq => by cases hq))
            clear e0 e1 e2 e3 e4 e5 e6 e7 e8 f0 f1 f2 e0' e1' e2' e3' e4' e5' e6' e7' e8' f0' f1' f2' x0 x1 x2 x3 x4 x5 x6 x7 x8 x9 x10 x11 y0 y1 y2 y3 y4 y5 y6 y7 y8 y9 y10 y11
            go_wp2_with fail
            go_meet
            exact ⟨s', rfl, hear_live HLv.out Hr.out, H11⟩
      · have hd6 : decide (dw ≤ 7) = false := by simpa using h7
        go_wp2_with fail
        obtain ⟨P, sent, ov, st, s', hr⟩ : ∃ P sent ov st s', tickR ⟨t0, t1, t2⟩ 4 8 s = (P, sent, (ov, st), s') := ⟨_, _, _, _, _, rfl⟩
        have Hr := Lib.hid hr
        clear hr d0 d1 d2 d3 d4 d5 d6 d7 d8 d9 d10 d11 d12
        refine (ptick HX4.out HLv.out Hr.out).mono ?_
        rintro x w5 ⟨a5, k5, ex, rfl, h5, hrow5⟩
        have H5 := Lib.hid (h5.sub (kb' := ex) (fun q hq => List.mem_append_left _ hq))
        have R5 := Lib.hid hrow5
        clear h5 hrow5
        go_wp2_with fail
        obtain ⟨W6, hW6⟩ : ∃ W6, W6 = (w5.alloc (.cells (pdCs P (.slice a5 P.info.length k5)) 33)).alloc (.cells #[.bool ov, .int .i64 st, .slice none 0 0] 37) := ⟨_, rfl⟩
        have h6 : OpX w W6 o m ⟨t0, t1, t2⟩ s' s ((w5.heap.size + 1, .cells #[.bool ov, .int .i64 st, .slice none 0 0] 37 (0, 0)) :: (w5.heap.size, .cells (pdCs P (.slice a5 P.info.length k5)) 33 (0, 0)) :: ex) := by
          have := (H5.out.alloc (.cells (pdCs P (.slice a5 P.info.length k5)) 33)).alloc (.cells #[.bool ov, .int .i64 st, .slice none 0 0] 37)
          rw [hW6]
          simpa using this
        rw [← hW6]
        have H6 := Lib.hid h6
        clear h6 hW6
        refine (qtick H6.out HLv.out Hr.out).mono ?_
        rintro x w7 ⟨a7, k7, ex7, rfl, h7, hrow7⟩
        have H7 := Lib.hid h7
        have R7 := Lib.hid hrow7
        have HPl : Hid (P.info.length ≤ 1024) := tick_len (by obtain ⟨_, _, h⟩ := H7.out.mblk; exact (OpX.sok HX4.out)) Hr.out
        obtain ⟨b5, hb5⟩ : ∃ b, b = w5.heap.size := ⟨_, rfl⟩
        rw [← hb5] at H6 H7 ⊢
        clear h7 hrow7 hb5
        go_upto_region 20 with fail
        obtain ⟨W8, hW8⟩ : ∃ W8, W8 = (w7.alloc (.cells (pdCs P (.slice a7 P.info.length k7)) 33)).alloc (.cells #[.bool ov, .int .i64 st, .slice none 0 0] 56) := ⟨_, rfl⟩
        obtain ⟨b7, hb7⟩ : ∃ b, b = w7.heap.size := ⟨_, rfl⟩
        have h8 : OpX w W8 o m ⟨t0, t1, t2⟩ s' s' ((b7 + 1, .cells #[.bool ov, .int .i64 st, .slice none 0 0] 56 (0, 0)) :: (b7, .cells (pdCs P (.slice a7 P.info.length k7)) 33 (0, 0)) :: (ex7 ++ ((b5 + 1, .cells #[.bool ov, .int .i64 st, .slice none 0 0] 37 (0, 0)) :: (b5, .cells (pdCs P (.slice a5 P.info.length k5)) 33 (0, 0)) :: ex))) := by
          have := (H7.out.alloc (.cells (pdCs P (.slice a7 P.info.length k7)) 33)).alloc (.cells #[.bool ov, .int .i64 st, .slice none 0 0] 56)
          rw [hW8, hb7]
          simpa using this
        rw [← hW8, ← hb7]
        have H8 := Lib.hid h8
        have q5 := h8.kept (b := b5) (List.mem_cons_of_mem _ (List.mem_cons_of_mem _ (List.mem_append_right _ (List.mem_cons_of_mem _ (List.mem_cons_self ..)))))
        have q51 := h8.kept (b := b5 + 1) (List.mem_cons_of_mem _ (List.mem_cons_of_mem _ (List.mem_append_right _ (List.mem_cons_self ..))))
        have q7 := h8.kept (b := b7) (List.mem_cons_of_mem _ (List.mem_cons_self ..))
        have q71 := h8.kept (b := b7 + 1) (List.mem_cons_self ..)
        have qa0 : ∀ x : After W8, x.w'.cell? ⟨b5, 0, none⟩ = some (.int .i64 P.dt) := fun x => x.cell (blk_cell (q5) 0)
        have qa1 : ∀ x : After W8, x.w'.cell? ⟨b5, 1, none⟩ = some (.int .i64 P.fr) := fun x => x.cell (blk_cell (q5) 1)
        have qa2 : ∀ x : After W8, x.w'.cell? ⟨b5, 2, none⟩ = some (.bool P.resp) := fun x => x.cell (blk_cell (q5) 2)
        have qa3 : ∀ x : After W8, x.w'.cell? ⟨b5, 3, none⟩ = some (.int .i64 P.form) := fun x => x.cell (blk_cell (q5) 3)
        have qa4 : ∀ x : After W8, x.w'.cell? ⟨b5, 4, none⟩ = some (.int .i64 P.kind) := fun x => x.cell (blk_cell (q5) 4)
        have qa5 : ∀ x : After W8, x.w'.cell? ⟨b5, 5, none⟩ = some (.int .i64 P.ns) := fun x => x.cell (blk_cell (q5) 5)
        have qa6 : ∀ x : After W8, x.w'.cell? ⟨b5, 6, none⟩ = some (.int .i64 P.nr) := fun x => x.cell (blk_cell (q5) 6)
        have qa7 : ∀ x : After W8, x.w'.cell? ⟨b5, 7, none⟩ = some (.bool P.poll) := fun x => x.cell (blk_cell (q5) 7)
        have qa8 : ∀ x : After W8, x.w'.cell? ⟨b5, 8, none⟩ = some (.slice a5 P.info.length k5) := fun x => x.cell (blk_cell (q5) 8)
        have qb0 : ∀ x : After W8, x.w'.cell? ⟨b5 + 1, 0, none⟩ = some (.bool ov) := fun x => x.cell (blk_cell (q51) 0)
        have qb1 : ∀ x : After W8, x.w'.cell? ⟨b5 + 1, 1, none⟩ = some (.int .i64 st) := fun x => x.cell (blk_cell (q51) 1)
        have qb2 : ∀ x : After W8, x.w'.cell? ⟨b5 + 1, 2, none⟩ = some (.slice none 0 0) := fun x => x.cell (blk_cell (q51) 2)
        have qc0 : ∀ x : After W8, x.w'.cell? ⟨b7, 0, none⟩ = some (.int .i64 P.dt) := fun x => x.cell (blk_cell (q7) 0)
        have qc1 : ∀ x : After W8, x.w'.cell? ⟨b7, 1, none⟩ = some (.int .i64 P.fr) := fun x => x.cell (blk_cell (q7) 1)
        have qc2 : ∀ x : After W8, x.w'.cell? ⟨b7, 2, none⟩ = some (.bool P.resp) := fun x => x.cell (blk_cell (q7) 2)
        have qc3 : ∀ x : After W8, x.w'.cell? ⟨b7, 3, none⟩ = some (.int .i64 P.form) := fun x => x.cell (blk_cell (q7) 3)
        have qc4 : ∀ x : After W8, x.w'.cell? ⟨b7, 4, none⟩ = some (.int .i64 P.kind) := fun x => x.cell (blk_cell (q7) 4)
        have qc5 : ∀ x : After W8, x.w'.cell? ⟨b7, 5, none⟩ = some (.int .i64 P.ns) := fun x => x.cell (blk_cell (q7) 5)
        have qc6 : ∀ x : After W8, x.w'.cell? ⟨b7, 6, none⟩ = some (.int .i64 P.nr) := fun x => x.cell (blk_cell (q7) 6)
        have qc7 : ∀ x : After W8, x.w'.cell? ⟨b7, 7, none⟩ = some (.bool P.poll) := fun x => x.cell (blk_cell (q7) 7)
        have qc8 : ∀ x : After W8, x.w'.cell? ⟨b7, 8, none⟩ = some (.slice a7 P.info.length k7) := fun x => x.cell (blk_cell (q7) 8)
        have qd0 : ∀ x : After W8, x.w'.cell? ⟨b7 + 1, 0, none⟩ = some (.bool ov) := fun x => x.cell (blk_cell (q71) 0)
        have qd1 : ∀ x : After W8, x.w'.cell? ⟨b7 + 1, 1, none⟩ = some (.int .i64 st) := fun x => x.cell (blk_cell (q71) 1)
        have qd2 : ∀ x : After W8, x.w'.cell? ⟨b7 + 1, 2, none⟩ = some (.slice none 0 0) := fun x => x.cell (blk_cell (q71) 2)
        have RP5 : Hid (∀ W, Below W8.heap.size W8 W → RdB W (.slice a5 P.info.length k5) P.info) := fun W hb => (R5.out W (fun q hq => (H8.out.below hb).kept (List.mem_cons_of_mem _ (List.mem_cons_of_mem _ (List.mem_append_right _ (List.mem_cons_of_mem _ (List.mem_cons_of_mem _ hq))))))).rd
        have RP7 : Hid (∀ W, Below W8.heap.size W8 W → RdB W (.slice a7 P.info.length k7) P.info) := fun W hb => (R7.out W (fun q hq => (H8.out.below hb).kept (List.mem_cons_of_mem _ (List.mem_cons_of_mem _ (List.mem_append_left _ hq))))).rd
        have hss : (sent == sent) = true := by simp
        clear h8 hW8 hb7 q5 q51 q7 q71
        refine wp_region_after (by kernel_rfl) (by kernel_rfl) ?_
        repeat (go_big_quiet_step ((first
          | (go_at_call 18; exact Calls.after_of (rsameP P a5 a7 k5 k7 _ (RP5.out _ (After.h _)) (RP7.out _ (After.h _)) (by have := HPl.out; omega)))
          | (go_at_call 19; exact Calls.after_of (lres ov st none 0 0 _))
          | (go_at_call 20; exact Calls.after_of (rsameR ov st [] 0 rfl none none 0 0 _ (argB_nil _).rd (argB_nil _).rd (by simp)))
          | fail)))
        refine wpQuiet_nil ?_
        rintro w9 ⟨⟨_, hb⟩, rfl⟩
        have H9 := Lib.hid ((H8.out.below hb).sub (kb' := []) (fun q hq => by cases hq))
        clear hb qa0 qa1 qa2 qa3 qa4 qa5 qa6 qa7 qa8 qb0 qb1 qb2 qc0 qc1 qc2 qc3 qc4 qc5 qc6 qc7 qc8 qd0 qd1 qd2
        go_wp2_with fail
        go_meet
        exact ⟨s', rfl, tick_live Hc.out HLv.out Hr.out, H9⟩
    case rest =>
      obtain ⟨s', rfl, HL', HX5⟩ := hcut
      rename World => wx
      obtain ⟨mv, hmb, hmo⟩ := HX5.out.mblk
      obtain ⟨z, hz⟩ : ∃ z, z = s'.asks := ⟨_, rfl⟩
      obtain ⟨wt, hwt⟩ : ∃ z, z = s'.wait := ⟨_, rfl⟩
      have Hz := Lib.hid (And.intro hz hwt)
      have f8 : ∀ x : After wx, x.w'.cell? ⟨m, 8, none⟩ = some (.int .i64 wt) := fun x => by rw [Hz.out.2]; exact x.cell (blk_cell hmb 8)
      have f9 : ∀ x : After wx, x.w'.cell? ⟨m, 9, none⟩ = some (.bool z) := fun x => by rw [Hz.out.1]; exact x.cell (blk_cell hmb 9)
      have hzz : (z != z) = false := by simp
      have hww : (wt != wt) = false := by simp
      clear hmb hmo hz hwt
      go_upto_region 31 with fail
      refine wp_region_after (by kernel_rfl) (by kernel_rfl) ?_
      repeat (go_big_quiet_step ((first
        | (go_at_call 15; exact Calls.after_of ((pbusy (HX5.out.below (After.h _))).mono fun _ _ ⟨he, hw⟩ => ⟨by rw [he, ← Hz.out.1], by rw [hw]; exact Below.refl _ _⟩))
        | (go_at_call 23; exact Calls.after_of ((pwait (HX5.out.below (After.h _))).mono fun _ _ ⟨he, hw⟩ => ⟨by rw [he, ← Hz.out.2], by rw [hw]; exact Below.refl _ _⟩))
        | fail)))
      refine wpQuiet_nil ?_
      rintro w9 ⟨⟨_, hb⟩, rfl⟩
      have HX9 := Lib.hid (HX5.out.below hb)
      clear f8 f9 hzz hww hb
      go_wp2_with fail
      go_roundg (ds.length - (k + 1))
      case measure => have := Hin.out; omega
      case rel => exact ⟨k + 1, s', by go_num, (by have := Hin.out; omega), rfl, HL', HX9.out⟩
end Go.Proofs.Ytkmeklbmjdbifaa
