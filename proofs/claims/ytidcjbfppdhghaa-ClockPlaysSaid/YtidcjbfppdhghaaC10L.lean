/-
  Layer 10: ClockPlays: the walk.
-/
import Derived.Test.YtidcjbfppdhghaaC10K
import Derived.Test.YtidcjbfppdhghaaC10G
import Derived.Test.YtidcjbfppdhghaaC10E
import Derived.Deep.DeepCutAuto
import Derived.Deep.CutBlock
namespace Go.Proofs.Ytidcjbfppdhghaa
open Go.RowKit


/-- Both clocks run the same. -/
structure Play (B c m : Nat) (most now : Int) (sv sr : Value) (L : List TmI) (W : World) : Prop where
  clk : IsClkI W B c most now sv L
  ref : IsRef W B m most now sr L
  /-- What holds at a round's head, and before the region that compares. -/
structure PlayInv (B c m : Nat) (most : Int) (i : Nat) (w W : World) : Prop where
  ex : ∃ (now : Nat) (sv sr : Value) (L : List TmI), now ≤ i ∧ Play B c m most now sv sr L W
  bel : Below w.heap.size w W
  bge : w.heap.size ≤ B
  ble : B ≤ W.heap.size

theorem ref_stays {B c m : Nat} {most now most' now' : Int} {sv sr : Value} {L L' : List TmI} {W W' : World} (hc : IsClkI W B c most now sv L) (hr : IsRef W B m most' now' sr L') (hf : Fr (ftp c sv) W W') : IsRef W' B m most' now' sr L' :=
  hr.fr hf (fun e => by
    rcases e with rfl | e
    · have h1 := hc.blk; rw [hr.blk] at h1; cases h1
    · exact own_ne hc.own hr.blk (by decide) e) (fun g hg e => by
    rcases e with rfl | e
    · exact own_ne hr.own hc.blk (by decide) hg
    · exact own_sep hr.own hc.own (by decide) hg e)
theorem clk_stays {B c m : Nat} {most now most' now' : Int} {sv sr : Value} {L L' : List TmI} {W W' : World} (hc : IsClkI W B c most now sv L) (hr : IsRef W B m most' now' sr L') (hf : Fr (ftp m sr) W W') : IsClkI W' B c most now sv L :=
  hc.fr hf (fun e => by
    rcases e with rfl | e
    · have h1 := hc.blk; rw [hr.blk] at h1; cases h1
    · exact own_ne hr.own hc.blk (by decide) e) (fun g hg e => by
    rcases e with rfl | e
    · exact own_ne hc.own hr.blk (by decide) hg
    · exact own_sep hc.own hr.own (by decide) hg e)
theorem IsRef.ftp_ge {w : World} {B c : Nat} {most now : Int} {sv : Value} {l : List TmI} (h : IsRef w B c most now sv l) : ∀ k, ftp c sv k → B ≤ k := fun k hk => by
  rcases hk with rfl | hk
  · exact h.ge
  · exact (h.own.lt k hk).1
theorem IsClkI.ftp_lt {w : World} {B c : Nat} {most now : Int} {sv : Value} {l : List TmI} (h : IsClkI w B c most now sv l) : ∀ k, ftp c sv k → k < w.heap.size := fun k hk => by
  rcases hk with rfl | hk
  · exact lt_of_block h.blk
  · exact (h.own.lt k hk).2
theorem IsRef.ftp_lt {w : World} {B c : Nat} {most now : Int} {sv : Value} {l : List TmI} (h : IsRef w B c most now sv l) : ∀ k, ftp c sv k → k < w.heap.size := fun k hk => by
  rcases hk with rfl | hk
  · exact lt_of_block h.blk
  · exact (h.own.lt k hk).2
/-- A bound, behind a name. -/
def B0le (B : Nat) (W : World) : Prop := B ≤ W.heap.size
/-- Behind what is done. -/
structure PlayMid (B c m : Nat) (most : Int) (i db : Nat) (d : Deed) (w W : World) : Prop where
  ex : ∃ (now : Nat) (sv sr : Value) (L : List TmI), now ≤ i ∧ Play B c m most now sv sr L W
  deed : W.heap[db]? = some (.cells #[.int .i64 d.1, .int .i64 d.2.1, .int .i64 d.2.2] 34 (0, 0))
  bel : Below w.heap.size w W
  bge : w.heap.size ≤ B
  ble : B ≤ W.heap.size

theorem Play.below {B c m : Nat} {most now : Int} {sv sr : Value} {L : List TmI} {W W' : World} (h : Play B c m most now sv sr L W) (hb : Below W.heap.size W W') : Play B c m most now sv sr L W' :=
  ⟨h.clk.below hb, h.ref.below hb⟩

set_option maxRecDepth 100000 in
set_option maxHeartbeats 8000000 in
theorem plays (most : Int) (hmo : -9223372036854775808 ≤ most ∧ most ≤ 9223372036854775807) (v1 : Value) (l : List Deed) (w : World) (hl : Rd w 3 v1 l.length (l.flatMap encD)) (hok : ∀ d ∈ l, okD d) (hm : l.length ≤ maxLen) :
    Calls Try.prog 7 #[.int .i64 most, v1] w fun e w' => e = .returned (.bool true) ∧ Below w.heap.size w w' := by
  obtain ⟨a, cp, rfl⟩ := hl.len
  obtain ⟨hmo1, hmo2⟩ := hmo
  have hm2 : l.length ≤ 9223372036854775807 := by unfold maxLen at hm; omega
  have Hok := Lib.hid hok
  have Hl := Lib.hid hl
  clear hok hl
  by_cases hlen : 200 < l.length
  · have hd1 : decide ((200 : Int) < (l.length : Int)) = true := by simp; omega
    go_enter Try.func7, Try.ntmps7
    go_wp2_with fail
    refine (awake w).mono ?_
    rintro e w0 ⟨rfl, hb0⟩
    go_wp2_with fail
    go_ret
    exact ⟨rfl, hb0⟩
  by_cases hmost : 1000 < most
  · have hd1 : decide ((200 : Int) < (l.length : Int)) = false := by simp; omega
    have hd2 : decide ((1000 : Int) < most) = true := by simp; omega
    go_enter Try.func7, Try.ntmps7
    go_wp2_with fail
    refine (awake w).mono ?_
    rintro e w0 ⟨rfl, hb0⟩
    go_wp2_with fail
    go_ret
    exact ⟨rfl, hb0⟩
  have hd1 : decide ((200 : Int) < (l.length : Int)) = false := by simp; omega
  have hd2 : decide ((1000 : Int) < most) = false := by simp; omega
  go_enter Try.func7, Try.ntmps7
  go_wp2_with fail
  refine (awake w).mono ?_
  rintro e w0 ⟨rfl, hb0⟩
  go_wp2_with fail
  refine (newI most w0 (by omega)).mono ?_
  rintro e w1 ⟨rfl, hk1, hb1⟩
  obtain ⟨c, hc⟩ : ∃ c, c = w0.heap.size := ⟨_, rfl⟩
  rw [← hc] at hk1 ⊢
  have hcs : w.heap.size ≤ c := by rw [hc]; exact hb0.size
  have hbc : Below w.heap.size w w1 := hb0.trans (hb1.mono hb0.size)
  have hc1 := lt_of_block hk1.blk
  have fin : ∀ q : Int, q = max most 0 → PlayInv c c w1.heap.size (max most 0) 0 w (w1.alloc (.cells #[.int .i64 q, .int .i64 0, .slice none 0 0] 48)) := fun q e => by
    subst e
    exact ⟨⟨0, _, _, _, Nat.le_refl _, ⟨hk1.below ((Below.refl _ w1).alloc (Nat.le_refl _) _), ⟨heap_alloc_new' w1 _, Own.nil _ _ _ _ _, by omega, by simp; omega, by omega, by simp⟩⟩⟩, hbc.alloc hbc.size _, hcs, by simp; omega⟩
  have Fin := Lib.hid fin
  clear fin hk1 hbc hc hb0 hb1
  go_upto_region 6 with fail
  go_cut [6] from 21 (fun v6 wx => v6 = .pointer (some ⟨w1.heap.size, 0, none⟩) ∧ Hid (PlayInv c c w1.heap.size (max most 0) 0 w wx))
  case first =>
    go_wp2_with fail
    all_goals
      go_meet
      case rel => exact ⟨rfl, Fin.out _ (by omega)⟩
  case rest =>
    obtain ⟨rfl, Inv0⟩ := hcut
    obtain ⟨m, hmm⟩ : ∃ m, m = w1.heap.size := ⟨_, rfl⟩
    rw [← hmm] at Inv0 ⊢
    clear hmm Fin
    go_wp2_with fail
    go_loopw [7] (fun v7 wr => ∃ i : Nat, i ≤ l.length ∧ v7 = .int .i64 i ∧ Hid (PlayInv c c m (max most 0) i w wr)) (fun v7 _ => l.length - (intOf v7).toNat)
    case atStart => exact ⟨0, by omega, rfl, Inv0⟩
    case round =>
      obtain ⟨i, hi, rfl, Inv⟩ := hrel
      by_cases hil : i < l.length
      · obtain ⟨b, o, cp', hv, hb, hx⟩ := Hl.out.some (by omega) (by decide)
        simp at hv
        obtain ⟨rfl, rfl⟩ := hv
        have hd := Hok.out l[i] (List.getElem_mem hil)
        obtain ⟨⟨d1, d2⟩, ⟨d3, d4⟩, d5, d6⟩ := hd
        have x0 : wr.cell? ⟨b, o + i * 3, none⟩ = some (.int .i64 l[i].1) := (Inv.out.bel.cell (p := ⟨b, _, none⟩) hb).trans (Rd.el encD_len hx hil (j := 0) (by decide) rfl)
        have x1 : wr.cell? ⟨b, o + i * 3 + 1, none⟩ = some (.int .i64 l[i].2.1) := (Inv.out.bel.cell (p := ⟨b, _, none⟩) hb).trans (Rd.el encD_len hx hil (j := 1) (by decide) rfl)
        have x2 : wr.cell? ⟨b, o + i * 3 + 2, none⟩ = some (.int .i64 l[i].2.2) := (Inv.out.bel.cell (p := ⟨b, _, none⟩) hb).trans (Rd.el encD_len hx hil (j := 2) (by decide) rfl)
        have hbr : b < wr.heap.size := by have := Inv.out.bel.size; omega
        clear hx
        obtain ⟨d, hdd⟩ : ∃ d, d = l[i] := ⟨_, rfl⟩
        rw [← hdd] at x0 x1 x2 d1 d2 d3 d4 d5 d6
        clear hdd
        obtain ⟨now, sv, sr, L, hnow, hplay⟩ := Inv.out.ex
        have hcw := lt_of_block hplay.clk.blk
        have hmw := lt_of_block hplay.ref.blk
        obtain ⟨W0, hW0⟩ : ∃ W0, W0 = wr.alloc (.cells #[.int .i64 d.1, .int .i64 d.2.1, .int .i64 d.2.2] 34) := ⟨_, rfl⟩
        have hb0 : Below wr.heap.size wr W0 := by rw [hW0]; exact (Below.refl _ wr).alloc (Nat.le_refl _) _
        have hdb0 : W0.heap[wr.heap.size]? = some (.cells #[.int .i64 d.1, .int .i64 d.2.1, .int .i64 d.2.2] 34 (0, 0)) := by rw [hW0]; exact heap_alloc_new' wr _
        have hp0 := hplay.below hb0
        obtain ⟨db, hdb⟩ : ∃ db, db = wr.heap.size := ⟨_, rfl⟩
        have Hdb := Lib.hid hdb
        have hdlt : db < W0.heap.size := by rw [hdb]; exact lt_of_block hdb0
        rw [← hdb] at hdb0
        have hcd : ∀ k, ftp c sv k → ¬ k = db := fun k e e' => by have := hplay.clk.ftp_lt k e; omega
        have hmd : ∀ k, ftp m sr k → ¬ k = db := fun k e e' => by have := hplay.ref.ftp_lt k e; omega
        have hbw0 : Below w.heap.size w W0 := Inv.out.bel.trans (hb0.mono Inv.out.bel.size)
        have hble : B0le c W0 := by have := Inv.out.ble; have := hb0.size; unfold B0le; omega
        have Hp0 := Lib.hid hp0
        have Hdb0 := Lib.hid hdb0
        have Hcd := Lib.hid hcd
        have Hmd := Lib.hid hmd
        have Hbw0 := Lib.hid hbw0
        have Hble := Lib.hid hble
        clear hplay hp0 hdb0 hcd hmd hbw0 hb0 hble
        go_upto_block 2 with fail
        rw [← hW0, ← hdb]
        have y0 : W0.cell? ⟨db, 0, none⟩ = some (.int .i64 d.1) := by have := blk_cell Hdb0.out 0; simpa using this
        have y1 : W0.cell? ⟨db, 1, none⟩ = some (.int .i64 d.2.1) := by have := blk_cell Hdb0.out 1; simpa using this
        have y2 : W0.cell? ⟨db, 2, none⟩ = some (.int .i64 d.2.2) := by have := blk_cell Hdb0.out 2; simpa using this
        clear hW0 hdb x0 x1 x2
        go_cut [9] from 29 to 134 (fun v9 wx => v9 = .bool true ∧ Hid (PlayMid c c m (max most 0) (i + 1) db d w wx))
        case first =>
          rcases (show d.1 ≤ 3 ∨ d.1 = 4 ∨ 5 ≤ d.1 by omega) with hd | hd | hd
          · have hdd : decide (d.1 ≤ 3) = true := by simpa using hd
            go_wp2_with fail
            refine (startI d.2.1 d.2.2 c _ _ sv L W0 c Hble.out Hp0.out.clk).mono ?_
            rintro e w3 ⟨rfl, sv3, hk3, hm3, hf3⟩
            have hr3 := ref_stays Hp0.out.clk Hp0.out.ref hf3
            have hd3 := hf3.heap Hdb0.out (fun e => Hcd.out _ e rfl)
            have y1 : w3.cell? ⟨db, 1, none⟩ = some (.int .i64 d.2.1) := by have := blk_cell hd3 1; simpa using this
            have y2 : w3.cell? ⟨db, 2, none⟩ = some (.int .i64 d.2.2) := by have := blk_cell hd3 2; simpa using this
            have hs3 := hf3.size
            have hB3 := Lib.hid (hf3.below' Hble.out Hp0.out.clk.ftp_ge)
            have Hk3 := Lib.hid hk3
            have Hr3 := Lib.hid hr3
            have Hd3 := Lib.hid hd3
            clear hk3 hr3 hd3 hm3 hf3
            go_wp2_with fail
            refine (startR d.2.1 d.2.2 m _ _ sr L w3 c (Nat.le_trans Hble.out hs3) Hr3.out).mono ?_
            rintro e w4 ⟨rfl, sr4, hk4, hm4, hf4⟩
            have fin : Hid (PlayMid c c m (max most 0) (i + 1) db d w w4) :=
              ⟨⟨now, sv3, sr4, _, by omega, ⟨clk_stays Hk3.out Hr3.out hf4, hk4⟩⟩, hf4.heap Hd3.out (fun e => Hmd.out _ e rfl), Hbw0.out.trans ((hB3.out.trans (hf4.below' (Nat.le_trans Hble.out hs3) Hr3.out.ftp_ge)).mono Inv.out.bge), Inv.out.bge, Nat.le_trans (Nat.le_trans Hble.out hs3) hf4.size⟩
            clear hk4 hm4 hf4
            go_wp2_with fail
            go_meet
            case rel => exact ⟨rfl, fin⟩
          · have hdd : decide (d.1 ≤ 3) = false := by simp; omega
            have hdd2 : (d.1 == 4) = true := by simp; omega
            go_wp2_with fail
            refine (stopI d.2.1 c _ _ sv L W0 c Hp0.out.clk).mono ?_
            rintro e w3 ⟨rfl, sv3, hk3, hm3, hf3⟩
            have hr3 := ref_stays Hp0.out.clk Hp0.out.ref hf3
            have hd3 := hf3.heap Hdb0.out (fun e => Hcd.out _ e rfl)
            have y1 : w3.cell? ⟨db, 1, none⟩ = some (.int .i64 d.2.1) := by have := blk_cell hd3 1; simpa using this
            have hs3 := hf3.size
            have hB3 := Lib.hid (hf3.below' Hble.out Hp0.out.clk.ftp_ge)
            have Hk3 := Lib.hid hk3
            have Hr3 := Lib.hid hr3
            have Hd3 := Lib.hid hd3
            clear hk3 hr3 hd3 hm3 hf3
            go_wp2_with fail
            refine (stopR d.2.1 m _ _ sr L w3 c (Nat.le_trans Hble.out hs3) Hr3.out).mono ?_
            rintro e w4 ⟨rfl, sr4, hk4, hm4, hf4'⟩
            have hf4 : Fr (ftp m sr) w3 w4 := hf4'.mono (fun _ _ e => .inl e)
            have fin : Hid (PlayMid c c m (max most 0) (i + 1) db d w w4) :=
              ⟨⟨now, sv3, sr4, _, by omega, ⟨clk_stays Hk3.out Hr3.out hf4, hk4⟩⟩, hf4.heap Hd3.out (fun e => Hmd.out _ e rfl), Hbw0.out.trans ((hB3.out.trans (hf4.below' (Nat.le_trans Hble.out hs3) Hr3.out.ftp_ge)).mono Inv.out.bge), Inv.out.bge, Nat.le_trans (Nat.le_trans Hble.out hs3) hf4.size⟩
            clear hk4 hm4 hf4 hf4'
            go_wp2_with fail
            go_meet
            case rel => exact ⟨rfl, fin⟩
          · have hdd : decide (d.1 ≤ 3) = false := by simp; omega
            have hdd2 : (d.1 == 4) = false := by simp; omega
            go_wp2_with fail
            refine (tickI c _ now sv L W0 c Hble.out ⟨by omega, by omega⟩ Hp0.out.clk).mono ?_
            rintro e w3 ⟨ov, sv3, rfl, ho3, hk3, hm3, hf3'⟩
            have hf3 : Fr (ftp c sv) W0 w3 := hf3'.mono (fun _ _ e => .inl e)
            have hr3 := ref_stays Hp0.out.clk Hp0.out.ref hf3
            have hd3 := hf3.heap Hdb0.out (fun e => Hcd.out _ e rfl)
            have hs3 := hf3.size
            have hB3 := Lib.hid (hf3.below' Hble.out Hp0.out.clk.ftp_ge)
            have Hk3 := Lib.hid hk3
            have Hr3 := Lib.hid hr3
            have Hd3 := Lib.hid hd3
            have Ho3 := Lib.hid ho3
            clear hk3 hr3 hd3 hm3 hf3 hf3' ho3
            go_wp2_with fail
            refine (tickR m _ now sr L w3 c (Nat.le_trans Hble.out hs3) ⟨by omega, by omega⟩ Hr3.out).mono ?_
            rintro e w4 ⟨ov4, sr4, rfl, ho4, hk4, hm4, hf4'⟩
            have hf4 : Fr (ftp m sr) w3 w4 := hf4'.mono (fun _ _ e => .inl e)
            have ho5 : Own encKI 3 1 W0.heap.size w4 ov (overLI L) := Ho3.out.fr hf4' (fun g e (e' : g = m) => by subst e'; exact own_ne Ho3.out Hr3.out.blk (by decide) e)
            have fin : Hid (PlayMid c c m (max most 0) (i + 1) db d w w4) :=
              ⟨⟨now + 1, sv3, sr4, _, by omega, ⟨clk_stays Hk3.out Hr3.out hf4, hk4⟩⟩, hf4.heap Hd3.out (fun e => Hmd.out _ e rfl), Hbw0.out.trans ((hB3.out.trans (hf4.below' (Nat.le_trans Hble.out hs3) Hr3.out.ftp_ge)).mono Inv.out.bge), Inv.out.bge, Nat.le_trans (Nat.le_trans Hble.out hs3) hf4.size⟩
            have Ho4 := Lib.hid ho4
            have Ho5 := Lib.hid ho5
            have hov : (overLI L).length ≤ 1000000 := by have := overLI_le L; have := Hp0.out.clk.small; have := Hp0.out.clk.mx; omega
            clear hk4 hm4 hf4 hf4' ho4 ho5
            go_wp2_with fail
            refine (ints _ _ (overLI L) (overLI L) w4 Ho5.out.rd Ho4.out.rd hov).mono ?_
            rw [show same2 (overLI L) (overLI L) = true by simp [same2]]
            rintro e w5 ⟨rfl, hb5⟩
            have fin2 : Hid (PlayMid c c m (max most 0) (i + 1) db d w w5) := by
              obtain ⟨⟨now, sv, sr, L, h1, h2⟩, h3, h4, h5, h6⟩ := fin.out
              exact ⟨⟨now, sv, sr, L, h1, h2.below hb5⟩, (hb5.block _ (lt_of_block h3)).trans h3, h4.trans (hb5.mono h4.size), h5, Nat.le_trans h6 hb5.size⟩
            clear hb5 fin
            go_wp2_with fail
            go_meet
            case rel => exact ⟨rfl, fin2⟩
        case rest =>
          obtain ⟨rfl, Mid⟩ := hcut
          obtain ⟨now', sv', sr', L', hnow', hplay'⟩ := Mid.out.ex
          have hL1 : L'.length ≤ 1000000 := by have := hplay'.clk.small; have := hplay'.clk.mx; omega
          have z1 : wc.cell? ⟨db, 1, none⟩ = some (.int .i64 d.2.1) := by have := blk_cell Mid.out.deed 1; simpa using this
          have z2 : wc.cell? ⟨m, 1, none⟩ = some (.int .i64 now') := by have := blk_cell hplay'.ref.blk 1; simpa using this
          have z3 : wc.cell? ⟨m, 2, none⟩ = some sr' := by have := blk_cell hplay'.ref.blk 2; simpa using this
          have hsame : Hid (∀ L : List TmI, same2 L L = true) := fun L => by simp [same2]
          rcases own_cases hplay'.ref.own with ⟨rfl, hz, _⟩ | ⟨g, cap, rfl, hg, hcap, hmax⟩
          · have hL0 : L' = [] := List.eq_nil_of_length_eq_zero hz
            subst hL0
            have K := Lib.hid hplay'
            clear hplay' Hp0 Hdb0 Hcd Hmd Hbw0 Hble y0 y1 y2
            go_wp2_with fail
            go_region_held3 (fun w' => w'.cell? ⟨db, 1, none⟩ = some (.int .i64 d.2.1) ∧ w'.cell? ⟨m, 1, none⟩ = some (.int .i64 now') ∧ w'.cell? ⟨m, 2, none⟩ = some (.slice none 0 0) ∧ Below wc.heap.size wc w')
              (first | exact ⟨z1, z2, z3, (Below.refl _ wc).drew⟩ | exact keep3 (by assumption) hbb | assumption)
              (first
                | (go_at_call 20; refine (leftI d.2.1 c _ _ sv' [] _ c (K.out.clk.below (bel4 (by assumption)))).mono ?_; rintro e w2 ⟨rfl, hbb⟩)
                | (go_at_call 24; refine (leftR d.2.1 m _ _ _ [] _ c (K.out.ref.below (bel4 (by assumption)))).mono ?_; rintro e w2 ⟨rfl, rfl⟩)
                | (go_at_call 25; refine (nowI c _ _ sv' [] _ c (K.out.clk.below (bel4 (by assumption)))).mono ?_; rintro e w2 ⟨rfl, hbb⟩)
                | (go_at_call 19; refine (lenI c _ _ sv' [] _ c (K.out.clk.below (bel4 (by assumption)))).mono ?_; rintro e w2 ⟨rfl, hbb⟩)
                | (go_at_call_of 27 (Value.int .i64 1); refine (runs 1 c _ _ sv' [] _ c (K.out.clk.below (bel4 (by assumption)))).mono ?_; rintro e w2 ⟨ov, rfl, ho2, hbb⟩; change Own encI 54 2 _ w2 ov ([]) at ho2; obtain ⟨ra2, rc2, rfl, _⟩ := own_shape ho2)
                | (go_at_call 27; refine (runs (-1) c _ _ sv' [] _ c (K.out.clk.below (bel4 (by assumption)))).mono ?_; rintro e w2 ⟨ov, rfl, ho, hbb⟩; change Own encI 54 2 _ w2 ov [] at ho; obtain ⟨ra, rc, rfl, _⟩ := own_shape ho)
                | (go_at_call 26; refine (sameR _ _ ([]) ([]) _ ho2.rd ((K.out.ref.below (bel4 (by assumption))).own.rd) (by first | omega | (simp; done) | (rw [List.length_take]; omega))).mono ?_; rw [hsame.out]; rintro e w2 ⟨rfl, hbb⟩)
                | (go_at_call 26; refine (sameR _ _ [] [] _ ho.rd (K.out.ref.below (bel4 (by assumption))).own.rd (by first | omega | (simp; done) | (rw [List.length_take]; omega))).mono ?_; rw [hsame.out]; rintro e w2 ⟨rfl, hbb⟩))
            all_goals
              have fin : Hid (PlayInv c c m (max most 0) (i + 1) w _) := ⟨⟨now', _, _, _, hnow', K.out.below (bel4 (by assumption))⟩, Mid.out.bel.trans ((bel4 (by assumption) : Below wc.heap.size wc _).mono Mid.out.bel.size), Mid.out.bge, Nat.le_trans Mid.out.ble (bel4 (by assumption) : Below wc.heap.size wc _).size⟩
              clear z1 z2 z3
              go_wp2_with fail
              go_roundw
              case rel => exact ⟨i + 1, by omega, by go_num, fin⟩
              case measure => simp [intOf]; omega
          · by_cases hz : L'.length = 0
            · have hL0 : L' = [] := List.eq_nil_of_length_eq_zero hz
              subst hL0
              have K := Lib.hid hplay'
              clear hplay' Hp0 Hdb0 Hcd Hmd Hbw0 Hble y0 y1 y2
              go_wp2_with fail
              go_region_held3 (fun w' => w'.cell? ⟨db, 1, none⟩ = some (.int .i64 d.2.1) ∧ w'.cell? ⟨m, 1, none⟩ = some (.int .i64 now') ∧ w'.cell? ⟨m, 2, none⟩ = some (.slice (some ⟨g, 0, none⟩) 0 cap) ∧ Below wc.heap.size wc w')
                (first | exact ⟨z1, z2, z3, (Below.refl _ wc).drew⟩ | exact keep3 (by assumption) hbb | assumption)
                (first
                  | (go_at_call 20; refine (leftI d.2.1 c _ _ sv' [] _ c (K.out.clk.below (bel4 (by assumption)))).mono ?_; rintro e w2 ⟨rfl, hbb⟩)
                  | (go_at_call 24; refine (leftR d.2.1 m _ _ _ [] _ c (K.out.ref.below (bel4 (by assumption)))).mono ?_; rintro e w2 ⟨rfl, rfl⟩)
                  | (go_at_call 25; refine (nowI c _ _ sv' [] _ c (K.out.clk.below (bel4 (by assumption)))).mono ?_; rintro e w2 ⟨rfl, hbb⟩)
                  | (go_at_call 19; refine (lenI c _ _ sv' [] _ c (K.out.clk.below (bel4 (by assumption)))).mono ?_; rintro e w2 ⟨rfl, hbb⟩)
                  | (go_at_call_of 27 (Value.int .i64 1); refine (runs 1 c _ _ sv' [] _ c (K.out.clk.below (bel4 (by assumption)))).mono ?_; rintro e w2 ⟨ov, rfl, ho2, hbb⟩; change Own encI 54 2 _ w2 ov ([]) at ho2; obtain ⟨ra2, rc2, rfl, _⟩ := own_shape ho2)
                  | (go_at_call 27; refine (runs (-1) c _ _ sv' [] _ c (K.out.clk.below (bel4 (by assumption)))).mono ?_; rintro e w2 ⟨ov, rfl, ho, hbb⟩; change Own encI 54 2 _ w2 ov [] at ho; obtain ⟨ra, rc, rfl, _⟩ := own_shape ho)
                  | (go_at_call 26; refine (sameR _ _ ([]) ([]) _ ho2.rd ((K.out.ref.below (bel4 (by assumption))).own.rd) (by first | omega | (simp; done) | (rw [List.length_take]; omega))).mono ?_; rw [hsame.out]; rintro e w2 ⟨rfl, hbb⟩)
                  | (go_at_call 26; refine (sameR _ _ [] [] _ ho.rd (K.out.ref.below (bel4 (by assumption))).own.rd (by first | omega | (simp; done) | (rw [List.length_take]; omega))).mono ?_; rw [hsame.out]; rintro e w2 ⟨rfl, hbb⟩))
              all_goals
                have fin : Hid (PlayInv c c m (max most 0) (i + 1) w _) := ⟨⟨now', _, _, _, hnow', K.out.below (bel4 (by assumption))⟩, Mid.out.bel.trans ((bel4 (by assumption) : Below wc.heap.size wc _).mono Mid.out.bel.size), Mid.out.bge, Nat.le_trans Mid.out.ble (bel4 (by assumption) : Below wc.heap.size wc _).size⟩
                clear z1 z2 z3
                go_wp2_with fail
                go_roundw
                case rel => exact ⟨i + 1, by omega, by go_num, fin⟩
                case measure => simp [intOf]; omega
            · have hq1 : (1 : Int) ≤ (L'.length : Int) := by omega
              have hl1 : Hid ((L'.take 1).length = 1) := by
                have : (L'.take 1).length = 1 := by rw [List.length_take]; omega
                exact this
              have hq2 : 1 ≤ cap := by omega
              have hq5 : (1 : Int) ≤ (cap : Int) := by omega
              have hq4 : ((L'.length : Int) < 1) = False := by simp; omega
              have hmax2 : cap ≤ 9223372036854775807 := by unfold maxLen at hmax; omega
              have K := Lib.hid hplay'
              clear hplay' Hp0 Hdb0 Hcd Hmd Hbw0 Hble y0 y1 y2
              go_wp2_with fail
              go_region_held3 (fun w' => w'.cell? ⟨db, 1, none⟩ = some (.int .i64 d.2.1) ∧ w'.cell? ⟨m, 1, none⟩ = some (.int .i64 now') ∧ w'.cell? ⟨m, 2, none⟩ = some (.slice (some ⟨g, 0, none⟩) L'.length cap) ∧ Below wc.heap.size wc w')
                (first | exact ⟨z1, z2, z3, (Below.refl _ wc).drew⟩ | exact keep3 (by assumption) hbb | assumption)
                (first
                  | (go_at_call 20; refine (leftI d.2.1 c _ _ sv' L' _ c (K.out.clk.below (bel4 (by assumption)))).mono ?_; rintro e w2 ⟨rfl, hbb⟩)
                  | (go_at_call 24; refine (leftR d.2.1 m _ _ _ L' _ c (K.out.ref.below (bel4 (by assumption)))).mono ?_; rintro e w2 ⟨rfl, rfl⟩)
                  | (go_at_call 25; refine (nowI c _ _ sv' L' _ c (K.out.clk.below (bel4 (by assumption)))).mono ?_; rintro e w2 ⟨rfl, hbb⟩)
                  | (go_at_call 19; refine (lenI c _ _ sv' L' _ c (K.out.clk.below (bel4 (by assumption)))).mono ?_; rintro e w2 ⟨rfl, hbb⟩)
                  | (go_at_call_of 27 (Value.int .i64 1); refine (runs 1 c _ _ sv' L' _ c (K.out.clk.below (bel4 (by assumption)))).mono ?_; rintro e w2 ⟨ov, rfl, ho2, hbb⟩; change Own encI 54 2 _ w2 ov (L'.take 1) at ho2; unfold Own at ho2; rw [hl1.out] at ho2; obtain ⟨ra2, rc2, rfl, _⟩ := own_shape ho2)
                  | (go_at_call 27; refine (runs (-1) c _ _ sv' L' _ c (K.out.clk.below (bel4 (by assumption)))).mono ?_; rintro e w2 ⟨ov, rfl, ho, hbb⟩; change Own encI 54 2 _ w2 ov L' at ho; obtain ⟨ra, rc, rfl, _⟩ := own_shape ho)
                  | (go_at_call 26; refine (sameR _ _ (L'.take 1) (L'.take 1) _ (by rw [hl1.out]; exact Rd.of_own ho2) (by rw [hl1.out]; exact Own.takeRd (i := 1) encI_len (K.out.ref.below (bel4 (by assumption))).own (by omega) cap) (by first | omega | (simp; done) | (rw [List.length_take]; omega))).mono ?_; rw [hsame.out]; rintro e w2 ⟨rfl, hbb⟩)
                  | (go_at_call 26; refine (sameR _ _ L' L' _ ho.rd (K.out.ref.below (bel4 (by assumption))).own.rd (by first | omega | (simp; done) | (rw [List.length_take]; omega))).mono ?_; rw [hsame.out]; rintro e w2 ⟨rfl, hbb⟩))
              all_goals
                have fin : Hid (PlayInv c c m (max most 0) (i + 1) w _) := ⟨⟨now', _, _, _, hnow', K.out.below (bel4 (by assumption))⟩, Mid.out.bel.trans ((bel4 (by assumption) : Below wc.heap.size wc _).mono Mid.out.bel.size), Mid.out.bge, Nat.le_trans Mid.out.ble (bel4 (by assumption) : Below wc.heap.size wc _).size⟩
                clear z1 z2 z3
                go_wp2_with fail
                go_roundw
                case rel => exact ⟨i + 1, by omega, by go_num, fin⟩
                case measure => simp [intOf]; omega
      · have hbel := Inv.out.bel
        clear Inv
        go_wp2_with fail
        go_ret
        exact ⟨rfl, hbel⟩
end Go.Proofs.Ytidcjbfppdhghaa
