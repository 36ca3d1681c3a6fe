/-
  Layer 4: QueuePlays: the walk.
-/
import Derived.Test.YtjefmicmhcajoaaL4I
namespace Go.Proofs.Ytjefmicmhcajoaa
open Go.RowKit
set_option linter.unusedVariables false


theorem deed4_ad {w : World} {v : Value} {ds : List Dz} (hl : Rd w 3 v ds.length (ds.flatMap encD)) (hn : 0 < ds.length) : ∃ lb lo lc, v = .slice (some ⟨lb, lo, none⟩) ds.length lc := by
  obtain ⟨b', o', c', hv, _, hx⟩ := Rd.some hl hn (by decide)
  exact ⟨b', o', c', hv⟩
theorem deed4_at {w w' : World} {lb lo n lc : Nat} {ds : List Dz} (hl : Rd w 3 (.slice (some ⟨lb, lo, none⟩) n lc) ds.length (ds.flatMap encD)) (hb : Below w.heap.size w w') {i : Nat} (hi : i < ds.length) :
    w'.cell? ⟨lb, lo + i * 3, none⟩ = some (.int .i64 ds[i].1) ∧ w'.cell? ⟨lb, lo + i * 3 + 1, none⟩ = some (.int .i64 ds[i].2.1) ∧ w'.cell? ⟨lb, lo + i * 3 + 2, none⟩ = some (.int .i64 ds[i].2.2) := by
  obtain ⟨b', o', c', hv, _, hx⟩ := Rd.some (Rd.fr hl (Fr.of_below hb no) (fun _ _ e => e)) (by omega) (by decide)
  simp at hv
  obtain ⟨⟨rfl, rfl⟩, _, _⟩ := hv
  have h0 := Rd.el encD_len hx hi (j := 0) (by decide) rfl
  have h1 := Rd.el encD_len hx hi (j := 1) (by decide) rfl
  have h2 := Rd.el encD_len hx hi (j := 2) (by decide) rfl
  simp only [Nat.add_zero, ← Nat.add_assoc] at h0 h1 h2
  exact ⟨h0, h1, h2⟩

theorem deed4_ex {w : World} {lb lo n lc : Nat} {ds : List Dz} (hl : Rd w 3 (.slice (some ⟨lb, lo, none⟩) n lc) ds.length (ds.flatMap encD)) {i : Nat} (hi : i < ds.length) : ∃ dz : Dz, ∀ w', Below w.heap.size w w' →
    w'.cell? ⟨lb, lo + i * 3, none⟩ = some (.int .i64 dz.1) ∧ w'.cell? ⟨lb, lo + i * 3 + 1, none⟩ = some (.int .i64 dz.2.1) ∧ w'.cell? ⟨lb, lo + i * 3 + 2, none⟩ = some (.int .i64 dz.2.2) := ⟨ds[i], fun w' hb => deed4_at hl hb hi⟩

set_option maxHeartbeats 32000000 in
set_option maxRecDepth 100000 in
theorem playsL (most : Int) (hmost : i64B most) (v : Value) (ds : List Dz) (w : World) (hl : Rd w 3 v ds.length (ds.flatMap encD)) : Calls Try.prog 7 #[.int .i64 most, v] w fun x w' => x = .returned (.bool true) ∧ Below w.heap.size w w' := by
  obtain ⟨i1, hi1, hz3, hz4, hz5⟩ := info_parts infoQI
  obtain ⟨la, lc, rfl⟩ := hl.len
  have Hl := Lib.hid hl
  clear hl
  go_enter Try.func7, Try.ntmps7
  go_wp2_with fail
  refine (awake w).mono ?_
  rintro x w1 ⟨rfl, b1⟩
  have B1 := Lib.hid b1
  clear b1
  by_cases h200 : 200 < ds.length
  · have hd : decide ((200 : Int) < ds.length) = true := by simp; omega
    go_wp2_with fail
    go_ret
    exact ⟨rfl, B1.out⟩
  have hd : decide ((200 : Int) < ds.length) = false := by simp; omega
  by_cases h1000 : 1000 < most
  · have hd2 : decide ((1000 : Int) < most) = true := by simpa using h1000
    go_wp2_with fail
    go_ret
    exact ⟨rfl, B1.out⟩
  have hd2 : decide ((1000 : Int) < most) = false := by simpa using h1000
  have HR : Hid (ds.length ≤ 200) := by unfold Hid; omega
  have HM : Hid (most ≤ 1000) := by unfold Hid; omega
  clear h200 h1000
  go_wp2_with fail
  refine (newQI most (by have := HM.out; omega) w1).mono ?_
  rintro x w2 ⟨rfl, q2, b2⟩
  obtain ⟨mx, hmx⟩ : ∃ mx, max most 0 = mx := ⟨_, rfl⟩
  have HX1 : Hid (mx ≤ 1000) := by unfold Hid; have := HM.out; omega
  rw [hmx] at q2
  have Q2 := Lib.hid q2
  have B2 := Lib.hid (B1.out.trans (b2.mono B1.out.size))
  obtain ⟨ca, hca⟩ : ∃ c, c = w1.heap.size := ⟨_, rfl⟩
  have Hca : Hid (w.heap.size ≤ ca) := by unfold Hid; rw [hca]; exact B1.out.size
  rw [← hca] at Q2 ⊢
  clear q2 b2 hca
  go_wp2_with fail
  go_loopg [6, 8] ds.length (fun g s6 s8 wx => ∃ (i : Nat) (zs : List Int), s8 = .int .i64 i ∧ i ≤ ds.length ∧ g = ds.length - i ∧ Hid (∃ sa, IsQI wx w.heap.size ca mx sa (ivsI zs) ∧ TlR wx 3 1 w.heap.size s6 zs.length ((ivsI zs).flatMap enQ) ∧ (∀ g, s6.ownBlock = some g → ¬ sa.ownBlock = some g) ∧ Below w.heap.size w wx))
  case atStart => exact ⟨0, [], rfl, Nat.zero_le _, rfl, ⟨_, ⟨Q2.out.blk, Hca.out, own_base (own_zero Q2.out.own) (fun g hg => by simp [Value.ownBlock] at hg), Q2.out.m0, Q2.out.m1, by simp, Q2.out.le⟩, TlR.nil _ _ _ _, fun g hg => by simp [Value.ownBlock] at hg, B2.out⟩⟩
  case round =>
    obtain ⟨i, zs, rfl, hi, rfl, HX⟩ := hrel
    by_cases hin : i < ds.length
    · have hd1 : decide ((i : Int) < ds.length) = true := by simp; omega
      have hd1n : decide (i < ds.length) = true := by simpa using hin
      obtain ⟨lb, lo, lc', hv⟩ := deed4_ad Hl.out (by omega)
      simp at hv
      obtain ⟨rfl, rfl⟩ := hv
      obtain ⟨sa, hb1, hb2, hb3, hb4⟩ := HX.out
      obtain ⟨⟨do', X, N⟩, hdz⟩ := deed4_ex Hl.out hin
      obtain ⟨c0, c1, c2⟩ := hdz wr hb4
      dsimp only at c0 c1 c2
      have hi200 : (i : Int) ≤ 200 := by have := HR.out; omega
      have HIN := Lib.hid hin
      obtain ⟨xa, xc, hxv, hxc, hxm⟩ := hb2.shape
      subst hxv
      have hp : PqX w (wr.alloc (.cells #[.int .i64 do', .int .i64 X, .int .i64 N] 48)) ca mx (.slice xa zs.length xc) zs zs wr.heap.size (do', X, N) := by
        have hal := (Below.refl wr.heap.size wr).alloc (Nat.le_refl _) (.cells #[.int .i64 do', .int .i64 X, .int .i64 N] 48)
        exact ⟨sa, hb1.below hal, hb2.keep (fun g hg => hal.block g (hb2.lt hg).2), hb3, hb4.trans (hal.mono hb4.size), heap_alloc_new' wr _⟩
      have HP := Lib.hid hp
      clear hdz hb1 hb2 hb3 hb4 hin hp HX hmx
      go_upto_block 2 with fail
      obtain ⟨wd, hwd⟩ : ∃ wd, wd = wr.alloc (.cells #[.int .i64 do', .int .i64 X, .int .i64 N] 48) := ⟨_, rfl⟩
      obtain ⟨db, hdb⟩ : ∃ db, db = wr.heap.size := ⟨_, rfl⟩
      rw [← hwd, ← hdb] at HP ⊢
      clear hwd hdb c0 c1 c2
      have hzl : zs.length ≤ 1000 := by have := HP.out.le; have := HX1.out; omega
      go_cut [6] (fun v6 wx => ∃ zs' : List Int, Hid (PqX w wx ca mx v6 zs' zs' db (do', X, N)))
      case first =>
        obtain ⟨k0, k1, k2⟩ := HP.out.dc
        dsimp only at k0 k1 k2
        have hxm2 : xc ≤ 9223372036854775807 := by unfold maxLen at hxm; omega
        by_cases h3 : do' ≤ 3
        · have hd3 : decide (do' ≤ 3) = true := by simpa using h3
          clear h3
          as_aux_lemma =>
            go_wp2_with fail
            refine (pqPut HP.out X (by omega)).mono ?_
            rintro x w4 ⟨rfl, h4⟩
            by_cases hlt : (zs.length : Int) < mx
            · have hdl : decide ((zs.length : Int) < mx) = true := by simpa using hlt
              rw [show putZ mx zs X = zs ++ [X] from if_pos hlt] at h4
              rw [hdl]
              have H4 := Lib.hid h4
              obtain ⟨e0, e1, e2⟩ := H4.out.dc
              dsimp only at e0 e1 e2
              clear h4 k0 k1 k2 hlt
              go_wp2_with (at_builtin; refine held ?_)
              refine unheld ?_
              refine wpList_appT (B := w.heap.size) (n := zs.length) rfl (.tmp 93) (.tmp 96) 42 rfl 3 i1 _ 1 _ Try.underlying42 hi1 hz3 hz4 hz5 rfl (by decide) (by have := H4.out.bel.size; simp; omega) rfl rfl (H4.out.x.keep (fun g hg => heap_alloc_lt w4 _ (H4.out.x.lt hg).2)) (Rd.new (by simp) rfl) (by intro u hu; simp at hu; subst hu; rfl) (by unfold maxLen; omega) (by omega) ?_
              intro v5 w5 o5 f5 m5 z5
              have h8 : Hid (PqX w w5 ca mx v5 (zs ++ [X]) (zs ++ [X]) db (do', X, N)) := H4.out.turnX (((Fr.refl _ w4).alloc _).trans f5) (by rw [List.length_append]; simpa using o5) (Mv.of' m5 (by simp))
              clear o5 f5 m5 z5 e0 e1 e2
              go_wp2_with fail
              go_meet
              exact ⟨_, h8⟩
            · have hdl : decide ((zs.length : Int) < mx) = false := by simpa using hlt
              rw [show putZ mx zs X = zs from if_neg hlt] at h4
              rw [hdl]
              have H4 := Lib.hid h4
              clear h4 k0 k1 k2 hlt
              go_wp2_with fail
              go_meet
              exact ⟨_, H4⟩
        have hd3 : decide (do' ≤ 3) = false := by simpa using h3
        clear h3
        by_cases h5 : do' ≤ 5
        · have hd5 : decide (do' ≤ 5) = true := by simpa using h5
          clear h5
          as_aux_lemma =>
            go_wp2_with fail
            cases zs with
            | nil =>
              refine (pqTakeNo HP.out).mono ?_
              rintro x w4 ⟨rfl, rfl⟩
              go_wp2_with fail
              go_meet
              exact ⟨_, HP⟩
            | cons z zs =>
              refine (pqTakeYes HP.out (by rw [List.length_cons] at hzl; omega)).mono ?_
              rintro x w4 ⟨rfl, h4⟩
              have x4 := h4.x
              obtain ⟨xg, xo, xc', hxe, _, hxg, hx1, hx2⟩ := x4.some' (by simp)
              simp at hxe
              obtain ⟨rfl, rfl⟩ := hxe
              have y0 : w4.cell? ⟨xg, xo, none⟩ = some (.int .i64 z) := x4.cells 0 _ rfl
              have x5 := x4.drop (i := 1) (by simp)
              simp only [List.length_cons, Nat.add_sub_cancel, Nat.one_mul] at x5 hx1
              have x6 : TlR w4 3 1 w.heap.size (.slice (if xc = 1 then some ⟨xg, xo, none⟩ else some ⟨xg, xo + 1, none⟩) zs.length (xc - 1)) zs.length ((ivsI zs).flatMap enQ) := by simpa [enQ] using x5
              have H6 : Hid (PqX w w4 ca mx (.slice (if xc = 1 then some ⟨xg, xo, none⟩ else some ⟨xg, xo + 1, none⟩) zs.length (xc - 1)) zs zs db (do', X, N)) := h4.turnX (Fr.refl _ _) x6 (fun g hg => .inl (by split at hg <;> simpa [Value.ownBlock] using hg))
              rw [List.length_cons] at hzl
              have hc7 : (1 : Int) ≤ (zs.length : Int) + 1 := by omega
              have hc8 : (zs.length : Int) + 1 ≤ (xc : Int) := by omega
              have hc9 : (1 : Int) ≤ (xc : Int) := by omega
              have hc10 : zs.length + 1 ≤ xc := hx1
              clear h4 x4 x5 x6 k0 k1 k2 hx1 hx2 hxc hxm HP
              rw [List.length_cons]
              by_cases hm1 : xc = 1
              · subst hm1
                obtain rfl : zs = [] := List.eq_nil_of_length_eq_zero (by omega)
                rw [if_pos rfl] at H6
                clear hc7 hc8 hc9 hc10 hzl
                go_wp2_with fail
                go_meet
                exact ⟨_, H6⟩
              · rw [if_neg hm1] at H6
                go_wp2_with fail
                go_meet
                exact ⟨_, H6⟩
        have hd5 : decide (do' ≤ 5) = false := by simpa using h5
        clear h5
        by_cases h6 : do' = 6
        · have hd6 : (do' == 6) = true := by simpa using h6
          clear h6
          by_cases hA : (zs.length : Int) < mx
          · have hdA : decide ((zs.length : Int) < mx) = true := by simpa using hA
            by_cases hB : 0 ≤ N
            · have hdB : decide (0 ≤ N) = true := by simpa using hB
              by_cases hC : N ≤ (zs.length : Int)
              · have hdC : decide (N ≤ (zs.length : Int)) = true := by simpa using hC
                obtain ⟨k, rfl⟩ : ∃ k : Nat, N = k := ⟨N.toNat, by omega⟩
                have hkl : k ≤ zs.length := by omega
                as_aux_lemma =>
                  go_wp2_with fail
                  refine (pqIns HP.out k X (by omega) hkl hA).mono ?_
                  rintro x w4 ⟨rfl, h4⟩
                  have H4 := Lib.hid h4
                  obtain ⟨e0, e1, e2⟩ := H4.out.dc
                  dsimp only at e0 e1 e2
                  clear h4 k0 k1 k2 hdA hdB hdC HP
                  have hdb4 : db < w4.heap.size := World.block_lt_of_cell? w4 _ e0
                  have HTk : Hid (RdZ w4 (.slice xa k xc) (zs.take k)) := rdz_take H4.out.x.rd k hkl
                  have onesT : ∀ u ∈ (ivsI (zs.take k)).flatMap enQ, u.oneCell' = true := enQ_ones (by intro u hu; obtain ⟨_, _, rfl⟩ := List.mem_map.1 hu; rfl)
                  have onesD : ∀ u ∈ (ivsI (zs.drop k)).flatMap enQ, u.oneCell' = true := enQ_ones (by intro u hu; obtain ⟨_, _, rfl⟩ := List.mem_map.1 hu; rfl)
                  have htl : (zs.take k).length = k := by simp; omega
                  have hk1 : (k : Int) ≤ (xc : Int) := by omega
                  have hk2 : k ≤ xc := by omega
                  have x4 := H4.out.x
                  have hzd : (zs.drop k).length = zs.length - k := by simp
                  rcases id x4.2 with ⟨hn, hz⟩ | ⟨xg, xo, xc', cur, hxe, _⟩
                  · obtain rfl : zs = [] := List.eq_nil_of_length_eq_zero hz
                    simp at hn
                    obtain ⟨rfl, rfl⟩ := hn
                    obtain rfl : k = 0 := by simpa using hkl
                    have HD : Hid (RdZ w4 (.slice none 0 0) (([] : List Int).drop 0)) := x4.rd
                    have e2 : w4.cell? ⟨db, 2, none⟩ = some (.int .i64 0) := e2
                    clear x4 hzd
                    as_aux_lemma =>
                      go_upto_region 39 with fail
                      go_region_held3 (fun w' => w'.cell? ⟨db, 1, none⟩ = some (.int .i64 X) ∧ w'.cell? ⟨db, 2, none⟩ = some (.int .i64 0) ∧ Below w4.heap.size w4 w')
                        (first | exact ⟨e1, e2, (Below.refl _ w4).drew⟩ | exact pC | exact pB | exact pA | exact P39.alloc (by assumption) hdb4 _ | assumption)
                        (first
                          | (refine step_app (B := w4.heap.size) (n := 0) (v := .slice (some ⟨w4.heap.size, 0, none⟩) 0 0) rfl (.tmp 154) (.tmp 158) 42 rfl 3 i1 _ 1 _ Try.underlying42 hi1 hz3 hz4 hz5 rfl (by decide) (by simp <;> omega) rfl rfl (own_empty_at (by first | exact hnew (by simp) | exact hold (hnew (by simp))) (by simp <;> omega)) (HTk.out.fr (Fr.of_below (bel3 (by assumption)) no) (fun _ _ e => e)) onesT (by unfold maxLen; simp <;> omega) (by simp <;> omega) ?_; intro v1 w1 o1 f1 m1 n1 z1; have pA := P39.fr (by assumption) hdb4 f1 (fun b e => by simp [Value.ownBlock] at e; omega); (try simp only [Act.put, List.setIfInBounds_toArray, List.set_cons_zero, List.set_cons_succ]))
                          | (refine step_app (B := w4.heap.size) (n := 0) (v := .slice (some ⟨w4.heap.size + 1, 0, none⟩) 0 0) rfl (.tmp 154) (.tmp 158) 42 rfl 3 i1 _ 1 _ Try.underlying42 hi1 hz3 hz4 hz5 rfl (by decide) (by simp <;> omega) rfl rfl (own_empty_at (by first | exact hnew (by simp) | exact hold (hnew (by simp))) (by simp <;> omega)) (HTk.out.fr (Fr.of_below (bel3 (by assumption)) no) (fun _ _ e => e)) onesT (by unfold maxLen; simp <;> omega) (by simp <;> omega) ?_; intro v1 w1 o1 f1 m1 n1 z1; have pA := P39.fr (by assumption) hdb4 f1 (fun b e => by simp [Value.ownBlock] at e; omega); (try simp only [Act.put, List.setIfInBounds_toArray, List.set_cons_zero, List.set_cons_succ]))
                          | (refine step_app (B := w4.heap.size) (v := v1) rfl (.tmp 159) (.tmp 162) 42 rfl 3 i1 _ 1 _ Try.underlying42 hi1 hz3 hz4 hz5 rfl (by decide) (Below.size (bel3 (by assumption))) rfl rfl (by first | exact o1 | exact own_fr o1 ((Fr.refl no _).alloc _) (fun _ _ e => e)) (rd_one (by first | exact hnew (by simp) | exact f1.heap (hnew (by simp)) (by simp [Value.ownBlock]) | exact f1.heap (hold (hnew (by simp))) (by simp [Value.ownBlock]))) (by intro u hu; simp at hu; subst hu; rfl) (by unfold maxLen; simp <;> omega) (by simp <;> omega) ?_; intro v2 w2 o2 f2 m2 n2 z2; have pB := P39.fr (by assumption) hdb4 f2 (fun b e => (o1.lt b e).1); (try simp only [Act.put, List.setIfInBounds_toArray, List.set_cons_zero, List.set_cons_succ]))
                          | (refine step_app (B := w4.heap.size) (v := v2) rfl (.tmp 163) (.tmp 167) 42 rfl 3 i1 _ 1 _ Try.underlying42 hi1 hz3 hz4 hz5 rfl (by decide) (Below.size (bel3 (by assumption))) rfl rfl o2 (HD.out.fr (Fr.of_below (bel3 (by assumption)) no) (fun _ _ e => e)) onesD (by unfold maxLen; simp <;> omega) (by simp <;> omega) ?_; intro v3 w3 o3 f3 m3 n3 z3; have pC := P39.fr (by assumption) hdb4 f3 (fun b e => (o2.lt b e).1); (try simp only [Act.put, List.setIfInBounds_toArray, List.set_cons_zero, List.set_cons_succ]))
                          | fail)
                      all_goals
                        have h9 : Hid (PqX w w3 ca mx v3 (insL ([] : List Int) 0 X) (insL ([] : List Int) 0 X) db (do', X, ((0 : Nat) : Int))) := by
                          refine H4.out.turnX (Fr.of_below (bel3 pC) _) (TlR.base (B := w4.heap.size) (TlR.of_own ?_) (fun g hg => Nat.le_trans H4.out.bel.size (o3.lt g hg).1)) (fun g hg => .inr (o3.lt g hg).1)
                          have e1 : ivsI (insL ([] : List Int) 0 X) = ivsI (([] : List Int).take 0) ++ .int .i64 X :: ivsI (([] : List Int).drop 0) := by unfold insL ivsI; rw [List.map_append, List.map_cons]
                          have e2 : (insL ([] : List Int) 0 X).length = 0 + (([] : List Int).take 0).length + 1 + (([] : List Int).drop 0).length := by unfold insL; simp <;> omega
                          rw [e1, e2]
                          simpa using o3
                        obtain ⟨a3, c3, hv3, _⟩ := own_shape o3
                        obtain ⟨nn, hnn⟩ : ∃ nn, nn = 0 + (([] : List Int).take 0).length + 1 + (([] : List Int).drop 0).length := ⟨_, rfl⟩
                        rw [← hnn] at hv3
                        subst hv3
                        clear pA pB pC o1 o2 o3 f1 f2 f3 m1 m2 m3 n1 n2 n3 z1 z2 z3 hnn e0 e1 e2
                        try simp only [Act.put, List.setIfInBounds_toArray, List.set_cons_zero, List.set_cons_succ]
                        go_wp2_with fail
                        go_meet
                        exact ⟨_, h9⟩
                  · simp at hxe
                    obtain ⟨rfl, rfl⟩ := hxe
                    have x5 := x4.drop (i := k) hkl
                    have x6 : RdZ w4 (.slice (if xc = k then some ⟨xg, xo, none⟩ else some ⟨xg, xo + k, none⟩) (zs.length - k) (xc - k)) (zs.drop k) := by
                      have e1 := flat_drop enQ 1 enQ_len (ivsI zs) k
                      have h := x5.rd
                      rw [e1, show (ivsI zs).drop k = ivsI (zs.drop k) from (List.map_drop ..).symm] at h
                      show Rd w4 1 _ (zs.drop k).length _
                      rw [hzd]
                      simpa using h
                    have hk3 : k ≤ zs.length := hkl
                    clear x4 x5 hzd
                    by_cases hm1 : xc = k
                    · rw [if_pos hm1, show xc - k = 0 by omega] at x6
                      have hdn : zs.drop k = [] := List.drop_eq_nil_of_le (by omega)
                      have HD : Hid (∀ (ad : Addr) (m cc : Nat), m = 0 → RdZ w4 (.slice (some ad) m cc) (zs.drop k)) := fun ad m cc hm => by
                        subst hm
                        rw [hdn]
                        exact ⟨rfl, some ad, cc, rfl, fun e => (by cases e), fun _ _ j u hu => by simp at hu⟩
                      clear hdn
                      clear x6
                      obtain rfl : k = xc := hm1.symm
                      as_aux_lemma =>
                        go_upto_region 39 with fail
                        go_region_held3 (fun w' => w'.cell? ⟨db, 1, none⟩ = some (.int .i64 X) ∧ w'.cell? ⟨db, 2, none⟩ = some (.int .i64 k) ∧ Below w4.heap.size w4 w')
                          (first | exact ⟨e1, e2, (Below.refl _ w4).drew⟩ | exact pC | exact pB | exact pA | exact P39.alloc (by assumption) hdb4 _ | assumption)
                          (first
                            | (refine step_app (B := w4.heap.size) (n := 0) (v := .slice (some ⟨w4.heap.size, 0, none⟩) 0 0) rfl (.tmp 154) (.tmp 158) 42 rfl 3 i1 _ 1 _ Try.underlying42 hi1 hz3 hz4 hz5 rfl (by decide) (by simp <;> omega) rfl rfl (own_empty_at (by first | exact hnew (by simp) | exact hold (hnew (by simp))) (by simp <;> omega)) (HTk.out.fr (Fr.of_below (bel3 (by assumption)) no) (fun _ _ e => e)) onesT (by unfold maxLen; simp <;> omega) (by simp <;> omega) ?_; intro v1 w1 o1 f1 m1 n1 z1; have pA := P39.fr (by assumption) hdb4 f1 (fun b e => by simp [Value.ownBlock] at e; omega); (try simp only [Act.put, List.setIfInBounds_toArray, List.set_cons_zero, List.set_cons_succ]))
                            | (refine step_app (B := w4.heap.size) (n := 0) (v := .slice (some ⟨w4.heap.size + 1, 0, none⟩) 0 0) rfl (.tmp 154) (.tmp 158) 42 rfl 3 i1 _ 1 _ Try.underlying42 hi1 hz3 hz4 hz5 rfl (by decide) (by simp <;> omega) rfl rfl (own_empty_at (by first | exact hnew (by simp) | exact hold (hnew (by simp))) (by simp <;> omega)) (HTk.out.fr (Fr.of_below (bel3 (by assumption)) no) (fun _ _ e => e)) onesT (by unfold maxLen; simp <;> omega) (by simp <;> omega) ?_; intro v1 w1 o1 f1 m1 n1 z1; have pA := P39.fr (by assumption) hdb4 f1 (fun b e => by simp [Value.ownBlock] at e; omega); (try simp only [Act.put, List.setIfInBounds_toArray, List.set_cons_zero, List.set_cons_succ]))
                            | (refine step_app (B := w4.heap.size) (v := v1) rfl (.tmp 159) (.tmp 162) 42 rfl 3 i1 _ 1 _ Try.underlying42 hi1 hz3 hz4 hz5 rfl (by decide) (Below.size (bel3 (by assumption))) rfl rfl (by first | exact o1 | exact own_fr o1 ((Fr.refl no _).alloc _) (fun _ _ e => e)) (rd_one (by first | exact hnew (by simp) | exact f1.heap (hnew (by simp)) (by simp [Value.ownBlock]) | exact f1.heap (hold (hnew (by simp))) (by simp [Value.ownBlock]))) (by intro u hu; simp at hu; subst hu; rfl) (by unfold maxLen; simp <;> omega) (by simp <;> omega) ?_; intro v2 w2 o2 f2 m2 n2 z2; have pB := P39.fr (by assumption) hdb4 f2 (fun b e => (o1.lt b e).1); (try simp only [Act.put, List.setIfInBounds_toArray, List.set_cons_zero, List.set_cons_succ]))
                            | (refine step_app (B := w4.heap.size) (v := v2) rfl (.tmp 163) (.tmp 167) 42 rfl 3 i1 _ 1 _ Try.underlying42 hi1 hz3 hz4 hz5 rfl (by decide) (Below.size (bel3 (by assumption))) rfl rfl o2 (Rd.fr (HD.out _ _ _ (by first | rfl | omega)) (Fr.of_below (bel3 (by assumption)) no) (fun _ _ e => e)) onesD (by unfold maxLen; simp <;> omega) (by simp <;> omega) ?_; intro v3 w3 o3 f3 m3 n3 z3; have pC := P39.fr (by assumption) hdb4 f3 (fun b e => (o2.lt b e).1); (try simp only [Act.put, List.setIfInBounds_toArray, List.set_cons_zero, List.set_cons_succ]))
                            | fail)
                        all_goals
                          have h9 : Hid (PqX w w3 ca mx v3 (insL zs k X) (insL zs k X) db (do', X, k)) := by
                            refine H4.out.turnX (Fr.of_below (bel3 pC) _) (TlR.base (B := w4.heap.size) (TlR.of_own ?_) (fun g hg => Nat.le_trans H4.out.bel.size (o3.lt g hg).1)) (fun g hg => .inr (o3.lt g hg).1)
                            have e1 : ivsI (insL zs k X) = ivsI (zs.take k) ++ .int .i64 X :: ivsI (zs.drop k) := by unfold insL ivsI; rw [List.map_append, List.map_cons]
                            have e2 : (insL zs k X).length = 0 + (zs.take k).length + 1 + (zs.drop k).length := by unfold insL; simp <;> omega
                            rw [e1, e2]
                            simpa using o3
                          obtain ⟨a3, c3, hv3, _⟩ := own_shape o3
                          obtain ⟨nn, hnn⟩ : ∃ nn, nn = 0 + (zs.take k).length + 1 + (zs.drop k).length := ⟨_, rfl⟩
                          rw [← hnn] at hv3
                          subst hv3
                          clear pA pB pC o1 o2 o3 f1 f2 f3 m1 m2 m3 n1 n2 n3 z1 z2 z3 hnn e0 e1 e2
                          try simp only [Act.put, List.setIfInBounds_toArray, List.set_cons_zero, List.set_cons_succ]
                          go_wp2_with fail
                          go_meet
                          exact ⟨_, h9⟩
                    · rw [if_neg hm1] at x6
                      have HD := Lib.hid x6
                      have hm2 : ¬ (k = xc) := fun e => hm1 e.symm
                      clear x6
                      as_aux_lemma =>
                        go_upto_region 39 with fail
                        go_region_held3 (fun w' => w'.cell? ⟨db, 1, none⟩ = some (.int .i64 X) ∧ w'.cell? ⟨db, 2, none⟩ = some (.int .i64 k) ∧ Below w4.heap.size w4 w')
                          (first | exact ⟨e1, e2, (Below.refl _ w4).drew⟩ | exact pC | exact pB | exact pA | exact P39.alloc (by assumption) hdb4 _ | assumption)
                          (first
                            | (refine step_app (B := w4.heap.size) (n := 0) (v := .slice (some ⟨w4.heap.size, 0, none⟩) 0 0) rfl (.tmp 154) (.tmp 158) 42 rfl 3 i1 _ 1 _ Try.underlying42 hi1 hz3 hz4 hz5 rfl (by decide) (by simp <;> omega) rfl rfl (own_empty_at (by first | exact hnew (by simp) | exact hold (hnew (by simp))) (by simp <;> omega)) (HTk.out.fr (Fr.of_below (bel3 (by assumption)) no) (fun _ _ e => e)) onesT (by unfold maxLen; simp <;> omega) (by simp <;> omega) ?_; intro v1 w1 o1 f1 m1 n1 z1; have pA := P39.fr (by assumption) hdb4 f1 (fun b e => by simp [Value.ownBlock] at e; omega); (try simp only [Act.put, List.setIfInBounds_toArray, List.set_cons_zero, List.set_cons_succ]))
                            | (refine step_app (B := w4.heap.size) (n := 0) (v := .slice (some ⟨w4.heap.size + 1, 0, none⟩) 0 0) rfl (.tmp 154) (.tmp 158) 42 rfl 3 i1 _ 1 _ Try.underlying42 hi1 hz3 hz4 hz5 rfl (by decide) (by simp <;> omega) rfl rfl (own_empty_at (by first | exact hnew (by simp) | exact hold (hnew (by simp))) (by simp <;> omega)) (HTk.out.fr (Fr.of_below (bel3 (by assumption)) no) (fun _ _ e => e)) onesT (by unfold maxLen; simp <;> omega) (by simp <;> omega) ?_; intro v1 w1 o1 f1 m1 n1 z1; have pA := P39.fr (by assumption) hdb4 f1 (fun b e => by simp [Value.ownBlock] at e; omega); (try simp only [Act.put, List.setIfInBounds_toArray, List.set_cons_zero, List.set_cons_succ]))
                            | (refine step_app (B := w4.heap.size) (v := v1) rfl (.tmp 159) (.tmp 162) 42 rfl 3 i1 _ 1 _ Try.underlying42 hi1 hz3 hz4 hz5 rfl (by decide) (Below.size (bel3 (by assumption))) rfl rfl (by first | exact o1 | exact own_fr o1 ((Fr.refl no _).alloc _) (fun _ _ e => e)) (rd_one (by first | exact hnew (by simp) | exact f1.heap (hnew (by simp)) (by simp [Value.ownBlock]) | exact f1.heap (hold (hnew (by simp))) (by simp [Value.ownBlock]))) (by intro u hu; simp at hu; subst hu; rfl) (by unfold maxLen; simp <;> omega) (by simp <;> omega) ?_; intro v2 w2 o2 f2 m2 n2 z2; have pB := P39.fr (by assumption) hdb4 f2 (fun b e => (o1.lt b e).1); (try simp only [Act.put, List.setIfInBounds_toArray, List.set_cons_zero, List.set_cons_succ]))
                            | (refine step_app (B := w4.heap.size) (v := v2) rfl (.tmp 163) (.tmp 167) 42 rfl 3 i1 _ 1 _ Try.underlying42 hi1 hz3 hz4 hz5 rfl (by decide) (Below.size (bel3 (by assumption))) rfl rfl o2 (HD.out.fr (Fr.of_below (bel3 (by assumption)) no) (fun _ _ e => e)) onesD (by unfold maxLen; simp <;> omega) (by simp <;> omega) ?_; intro v3 w3 o3 f3 m3 n3 z3; have pC := P39.fr (by assumption) hdb4 f3 (fun b e => (o2.lt b e).1); (try simp only [Act.put, List.setIfInBounds_toArray, List.set_cons_zero, List.set_cons_succ]))
                            | fail)
                        all_goals
                          have h9 : Hid (PqX w w3 ca mx v3 (insL zs k X) (insL zs k X) db (do', X, k)) := by
                            refine H4.out.turnX (Fr.of_below (bel3 pC) _) (TlR.base (B := w4.heap.size) (TlR.of_own ?_) (fun g hg => Nat.le_trans H4.out.bel.size (o3.lt g hg).1)) (fun g hg => .inr (o3.lt g hg).1)
                            have e1 : ivsI (insL zs k X) = ivsI (zs.take k) ++ .int .i64 X :: ivsI (zs.drop k) := by unfold insL ivsI; rw [List.map_append, List.map_cons]
                            have e2 : (insL zs k X).length = 0 + (zs.take k).length + 1 + (zs.drop k).length := by unfold insL; simp <;> omega
                            rw [e1, e2]
                            simpa using o3
                          obtain ⟨a3, c3, hv3, _⟩ := own_shape o3
                          obtain ⟨nn, hnn⟩ : ∃ nn, nn = 0 + (zs.take k).length + 1 + (zs.drop k).length := ⟨_, rfl⟩
                          rw [← hnn] at hv3
                          subst hv3
                          clear pA pB pC o1 o2 o3 f1 f2 f3 m1 m2 m3 n1 n2 n3 z1 z2 z3 hnn e0 e1 e2
                          try simp only [Act.put, List.setIfInBounds_toArray, List.set_cons_zero, List.set_cons_succ]
                          go_wp2_with fail
                          go_meet
                          exact ⟨_, h9⟩
              · have hdC : decide (N ≤ (zs.length : Int)) = false := by simpa using hC
                as_aux_lemma =>
                  go_wp2_with fail
                  refine (pqInsNo HP.out N X (by omega)).mono ?_
                  rintro x w4 ⟨rfl, h4⟩
                  have H4 := Lib.hid h4
                  clear h4 k0 k1 k2 HP
                  go_wp2_with fail
                  go_meet
                  exact ⟨_, H4⟩
            · have hdB : decide (0 ≤ N) = false := by simpa using hB
              as_aux_lemma =>
                go_wp2_with fail
                refine (pqInsNo HP.out N X (by omega)).mono ?_
                rintro x w4 ⟨rfl, h4⟩
                have H4 := Lib.hid h4
                clear h4 k0 k1 k2 HP
                go_wp2_with fail
                go_meet
                exact ⟨_, H4⟩
          · have hdA : decide ((zs.length : Int) < mx) = false := by simpa using hA
            as_aux_lemma =>
              go_wp2_with fail
              refine (pqInsNo HP.out N X (by omega)).mono ?_
              rintro x w4 ⟨rfl, h4⟩
              have H4 := Lib.hid h4
              clear h4 k0 k1 k2 HP
              go_wp2_with fail
              go_meet
              exact ⟨_, H4⟩
        have hd6 : (do' == 6) = false := by simpa using h6
        clear h6
        by_cases h7 : do' = 7
        · have hd7 : (do' == 7) = true := by simpa using h7
          clear h7
          obtain ⟨m, hm⟩ : ∃ m : Nat, min (max N 0) (zs.length : Int) = m := ⟨(min (max N 0) (zs.length : Int)).toNat, by omega⟩
          have hml : m ≤ zs.length := by omega
          as_aux_lemma =>
            go_wp2_with fail
            refine (pqCut HP.out N m hm (by omega)).mono ?_
            rintro x w4 ⟨rfl, h4⟩
            have x4 := h4.x
            have hml2 : (m : Int) ≤ (zs.length : Int) := by omega
            have hml3 : (m : Int) ≤ (xc : Int) := by omega
            have hml4 : (zs.length : Int) ≤ (xc : Int) := by omega
            have hzd : (zs.drop m).length = zs.length - m := by simp
            rcases id x4.2 with ⟨hn, hz⟩ | ⟨xg, xo, xc', cur, hxe, _⟩
            · obtain rfl : zs = [] := List.eq_nil_of_length_eq_zero hz
              simp at hn
              obtain ⟨rfl, rfl⟩ := hn
              obtain rfl : m = 0 := by simpa using hml
              have H6 := Lib.hid h4
              clear h4 x4 k0 k1 k2 hm hml hml2 hml3 hml4 hzd HP
              go_wp2_with fail
              go_meet
              exact ⟨[], H6⟩
            · simp at hxe
              obtain ⟨rfl, rfl⟩ := hxe
              have x5 := x4.drop (i := m) hml
              have x6 : TlR w4 3 1 w.heap.size (.slice (if xc = m then some ⟨xg, xo, none⟩ else some ⟨xg, xo + m, none⟩) (zs.length - m) (xc - m)) (zs.drop m).length ((ivsI (zs.drop m)).flatMap enQ) := by
                rw [hzd]
                have e1 := flat_drop enQ 1 enQ_len (ivsI zs) m
                rw [show ivsI (zs.drop m) = (ivsI zs).drop m from List.map_drop .., ← e1]
                simpa using x5
              have H6 : Hid (PqX w w4 ca mx (.slice (if xc = m then some ⟨xg, xo, none⟩ else some ⟨xg, xo + m, none⟩) (zs.length - m) (xc - m)) (zs.drop m) (zs.drop m) db (do', X, N)) := h4.turnX (Fr.refl _ _) x6 (fun g hg => .inl (by split at hg <;> simpa [Value.ownBlock] using hg))
              clear h4 x4 x5 x6 k0 k1 k2 hxm HP hm
              by_cases hm1 : xc = m
              · rw [if_pos hm1, show xc - m = 0 by omega] at H6
                go_wp2_with fail
                go_meet
                exact ⟨_, H6⟩
              · rw [if_neg hm1] at H6
                have hm2 : ¬ (m = xc) := fun e => hm1 e.symm
                go_wp2_with fail
                go_meet
                exact ⟨_, H6⟩
        have hd7 : (do' == 7) = false := by simpa using h7
        clear h7
        have hx3 : bits .and .i64 X 3 = X % 4 := i64_and3 X
        have hsz : zs.length ≤ 9223372036854775807 := by omega
        as_aux_lemma =>
          go_wp2_with fail
          go_loopg [14, 15] zs.length (fun g s14 s15 wx => ∃ j : Nat, j ≤ zs.length ∧ s15 = .int .i64 j ∧ g = zs.length - j ∧ Hid (Below wd.heap.size wd wx ∧ Own enQ 3 1 wd.heap.size wx s14 (ivsI (filtL (X % 4) (zs.take j)))))
          case atStart => exact ⟨0, Nat.zero_le _, rfl, rfl, ⟨Below.refl _ _, Own.nil _ _ _ _ _⟩⟩
          case round =>
            obtain ⟨j, hj, rfl, rfl, HF⟩ := hrel
            obtain ⟨fa, fc, hfv, _⟩ := own_shape HF.out.2
            rw [ivsI_len] at hfv
            have HPj := Lib.hid (HP.out.below HF.out.1)
            by_cases hlt : j < zs.length
            · have kx : wr.cell? ⟨db, 1, none⟩ = some (.int .i64 X) := HPj.out.dc.2.1
              obtain ⟨xg, xo, xc', hxe, _, hxg, _⟩ := HPj.out.x.some' (by omega)
              simp at hxe
              obtain ⟨rfl, rfl⟩ := hxe
              have x0 : wr.cell? ⟨xg, xo + j, none⟩ = some (.int .i64 zs[j]) := rdz_at HPj.out.x.rd hlt
              have HS := Lib.hid (filtL_snoc (x := X % 4) hlt)
              obtain ⟨fl, hfl⟩ : ∃ fl, fl = filtL (X % 4) (zs.take j) := ⟨_, rfl⟩
              have hfl2 : fl.length ≤ 1000 := by have := filtL_le (X % 4) (zs.take j); rw [← hfl] at this; simp at this; omega
              rw [← hfl] at hfv HF HS
              clear hfl
              subst hfv
              generalize zs[j] = z at x0 HS
              have hzb : bits .and .i64 z 3 = z % 4 := i64_and3 z
              cases hq : (z % 4 != X % 4) with
              | true =>
                rw [hq] at HS
                go_wp2_with fail
                go_quiet (fail)
                go_wp2_with (at_builtin; refine held ?_)
                refine unheld ?_
                refine wpList_app (B := wd.heap.size) (v := .slice fa fl.length fc) (n := fl.length) rfl (.tmp 56) (.tmp 61) 42 rfl 3 i1 _ 1 _ Try.underlying42 hi1 hz3 hz4 hz5 rfl (by decide) (by have := HF.out.1.size; simp; omega) rfl rfl (by have h : Own enQ 3 1 wd.heap.size (wr.drewN nq) (.slice fa fl.length fc) (ivsI fl) := HF.out.2; have := Own.fr h ((Fr.refl no _).alloc (.cells #[.int .i64 z] 3)) (fun _ _ e => e); unfold Own at this; rw [ivsI_len] at this; exact this) (Rd.new (by simp) rfl) (by intro u hu; simp at hu; subst hu; rfl) (by unfold maxLen; omega) (by omega) ?_
                intro v5 w5 o5 f5 m5 n5 z5
                have fin : Hid (Below wd.heap.size wd w5 ∧ Own enQ 3 1 wd.heap.size w5 v5 (ivsI (fl ++ [z]))) := by
                  refine ⟨HF.out.1.trans (((((Fr.refl (fun b => (Value.slice fa fl.length fc).ownBlock = some b) wr).drewN nq).alloc _).trans f5).below' HF.out.1.size (fun k hk => (HF.out.2.lt k hk).1)), ?_⟩
                  have : w5.ownsRow wd.heap.size 3 1 v5 ((ivsI fl).length + 1) ((ivsI fl).flatMap enQ ++ [.int .i64 z]) := by rw [ivsI_len]; exact o5
                  have := Own.snoc (x := Value.int .i64 z) this rfl
                  simpa using this
                have HS2 : Hid (filtL (X % 4) (zs.take (j + 1)) = fl ++ [z]) := by unfold Hid; have := HS.out; simpa using this
                clear o5 f5 m5 n5 z5 HS
                go_wp2_with fail
                go_roundg (zs.length - (j + 1))
                case measure => omega
                case rel => exact ⟨j + 1, by omega, by go_num, rfl, by rw [HS2.out]; exact fin⟩
              | false =>
                rw [hq] at HS
                go_wp2_with fail
                go_quiet (fail)
                go_wp2_with fail
                go_roundg (zs.length - (j + 1))
                case measure => omega
                case rel =>
                  have HS2 : Hid (filtL (X % 4) (zs.take (j + 1)) = fl) := by unfold Hid; have := HS.out; simpa using this
                  exact ⟨j + 1, by omega, by go_num, rfl, by rw [HS2.out]; exact ⟨below_drewN HF.out.1 _, HF.out.2⟩⟩
            · obtain rfl : j = zs.length := by omega
              rw [List.take_of_length_le (Nat.le_refl _)] at HF hfv
              obtain ⟨fl, hfl⟩ : ∃ fl, fl = filtL (X % 4) zs := ⟨_, rfl⟩
              rw [← hfl] at hfv HF
              have hfl2 : fl.length ≤ zs.length := by have := filtL_le (X % 4) zs; rw [← hfl] at this; omega
              have Hfl := Lib.hid hfl
              clear hfl
              subst hfv
              have h7 : PqX w wr ca mx (.slice fa fl.length fc) zs fl db (do', X, N) := by
                refine HP.out.newX HF.out.1 (TlR.of_own ?_) (fun g hg => (HF.out.2.lt g hg).1)
                have := own_base (B := w.heap.size) (own_zero HF.out.2) (fun g hg => Nat.le_trans HP.out.bel.size (HF.out.2.lt g hg).1)
                rw [ivsI_len] at this
                exact this
              have H7 := Lib.hid h7
              clear h7
              obtain ⟨e0, e1, e2⟩ := H7.out.dc
              dsimp only at e0 e1 e2
              go_wp2_with fail
              refine (unlike (X % 4) wr).mono ?_
              rintro x w5 ⟨rfl, rfl⟩
              have H8 := Lib.hid (H7.out.below ((Below.refl _ wr).alloc (Nat.le_refl _) (.cells #[.int .i64 (X % 4)] 3)))
              go_wp2_with fail
              refine (pqFilter H8.out (X % 4) wr.heap.size (heap_alloc_new' wr _) (by omega)).mono ?_
              rintro x w6 ⟨rfl, h9⟩
              rw [← Hfl.out] at h9 ⊢
              have H9 := Lib.hid h9
              have hwz : IntKind.i64.wrap ((zs.length : Int) - (fl.length : Int)) = (zs.length : Int) - (fl.length : Int) := by rw [IntKind.wrap_i64]; omega
              clear h9 H7 H8 e0 e1 e2
              go_wp2_with fail
              go_meet
              exact ⟨fl, H9⟩
      case rest =>
        obtain ⟨zt, HT⟩ := hcut
        rename World => wE
        obtain ⟨ta, tc, htv, htc, htm⟩ := HT.out.x.shape
        subst htv
        have hztl : zt.length ≤ 1000 := by have := HT.out.le; have := HX1.out; omega
        have htm2 : tc ≤ 9223372036854775807 := by unfold maxLen at htm; omega
        obtain ⟨mm, hmm⟩ : ∃ mm : Nat, min 2 (zt.length : Int) = mm := ⟨(min 2 (zt.length : Int)).toNat, by omega⟩
        have hm1 : mm ≤ zt.length := by omega
        have hm2 : mm ≤ tc := by omega
        have hm3 : (mm : Int) ≤ (tc : Int) := by omega
        obtain ⟨z2, hz2⟩ : ∃ z2, firstN 2 zt = z2 := ⟨_, rfl⟩
        have hz3 : zt.take mm = z2 := by
          rw [← hz2]
          unfold firstN
          rw [if_neg (by decide)]
          by_cases h2 : zt.length ≤ 2
          · rw [List.take_of_length_le (by omega), List.take_of_length_le (by show zt.length ≤ 2; omega)]
          · rw [show mm = 2 by omega]; rfl
        have hz4 : z2.length = mm := by rw [← hz3, List.length_take]; omega
        have HZ1 : Hid (RdZ wE (.slice ta zt.length tc) zt) := HT.out.x.rd
        have HZ2 : Hid (RdZ wE (.slice ta mm tc) z2) := by have := rdz_take HZ1.out mm hm1; rw [hz3] at this; exact this
        have Hz2 := Lib.hid hz2
        have Hz4 := Lib.hid hz4
        have Hm1 := Lib.hid hm1
        clear hz2 hz3 hz4 hzl htc htm hm1
        as_aux_lemma =>
          go_upto_region 45 with fail
          go_region_held3 (fun w' => Below wE.heap.size wE w') (first | exact (Below.refl _ wE).drew | exact belStep (by assumption) hbb | assumption) (first
            | (go_at_call 32; refine (pqLen (HT.out.below (by assumption))).mono ?_; rintro e w2 ⟨rfl, rfl⟩)
            | (go_at_call_of 27 (Value.int .i64 2); refine (pqAllL 2 z2 Hz2.out (HT.out.below (by assumption)) (by omega)).mono ?_; rintro e w2 ⟨a2, k2, rfl, r2, hbb⟩)
            | (go_at_call 27; refine (pqAllL (-1) zt rfl (HT.out.below (by assumption)) (by omega)).mono ?_; rintro e w2 ⟨a1, k1, rfl, r1, hbb⟩)
            | (go_at_call 24; refine (ints _ _ z2 z2 _ r2 (Rd.fr HZ2.out (Fr.of_below (by assumption) no) (fun _ _ e => e)) (by have := Hz4.out; have := Hm1.out; omega)).mono ?_; rw [sameZ_self]; rintro e w2 ⟨rfl, hbb⟩)
            | (go_at_call 24; refine (ints _ _ zt zt _ r1 (Rd.fr HZ1.out (Fr.of_below (by assumption) no) (fun _ _ e => e)) (by omega)).mono ?_; rw [sameZ_self]; rintro e w2 ⟨rfl, hbb⟩)
            | fail)
          all_goals
            try simp only [Act.put, List.setIfInBounds_toArray, List.set_cons_zero, List.set_cons_succ]
            go_wp2_with fail
            go_roundg (ds.length - (i + 1))
            case measure => have := HIN.out; omega
            case rel =>
              refine ⟨i + 1, zt, by go_num, (by have := HIN.out; omega), rfl, ?_⟩
              unfold Hid
              exact PqX.ex (HT.out.below (by assumption))
    · obtain rfl : i = ds.length := by omega
      obtain ⟨sa, hb1, hb2, hb3, hb4⟩ := HX.out
      have Hb1 := Lib.hid hb1
      have Hb4 := Lib.hid hb4
      clear hb1 hb2 hb3 hb4
      as_aux_lemma =>
        go_wp2_with fail
        refine (mostQI ca mx sa (ivsI zs) _ _ Hb1.out).mono ?_
        rintro x w4 ⟨rfl, rfl⟩
        go_wp2_with fail
        go_ret
        exact ⟨by simp, Hb4.out⟩
end Go.Proofs.Ytjefmicmhcajoaa
