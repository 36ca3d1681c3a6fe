/-
  Layer 5: LanOrder: the walk. (Printed by gL5L.py.)
-/
import Derived.Test.YteihpaikdpdglaaL5K
import Derived.Test.YteihpaikdpdglaaL5A
namespace Go.Proofs.Yteihpaikdpdglaa
open Go.RowKit
set_option linter.unusedVariables false


/-- What a law holds: the line, the next number, the last one. -/
structure OX (w0 w : World) (t : Nat) (m n last : Int) (S : LS) : Prop where
  g : GX w0 w [] t 3 20 8 S
  c : OI n last S
  n : 0 ≤ n ∧ n ≤ m
  l : 0 ≤ S.2 ∧ S.2 ≤ 1000 * m
theorem OX.below {w0 w w' : World} {t : Nat} {m n last : Int} {S : LS} (h : OX w0 w t m n last S) (hb : Below w.heap.size w w') : OX w0 w' t m n last S := ⟨h.g.below hb, h.c, h.n, h.l⟩
theorem or0 (k : Int) (h : 0 ≤ k ∧ k ≤ 1000) : bits .or .i64 0 k = k := by
  have e1 : (BitVec.ofInt 64 0 ||| BitVec.ofInt 64 k).toNat = k.toNat := by
    rw [show BitVec.ofInt 64 0 = 0#64 from rfl, BitVec.zero_or, BitVec.toNat_ofInt]
    have : k % ((2 ^ 64 : Nat) : Int) = k := Int.emod_eq_of_lt h.1 (by omega)
    rw [this]
  show IntKind.i64.wrap (((BitVec.ofInt 64 0 ||| BitVec.ofInt 64 k).toNat : Nat) : Int) = k
  rw [e1, IntWalk.i64_in _ (by omega)]
  omega
theorem and2 (x : Int) : bits .and .i64 x 2 ≠ 1 := by
  obtain ⟨a, ha⟩ : ∃ a, a = (BitVec.ofInt 64 x).toNat := ⟨_, rfl⟩
  have e1 : (BitVec.ofInt 64 x &&& BitVec.ofInt 64 2).toNat = a &&& 2 := by
    rw [BitVec.toNat_and, ha]
    rfl
  intro e
  have h : IntKind.i64.wrap (((BitVec.ofInt 64 x &&& BitVec.ofInt 64 2).toNat : Nat) : Int) = 1 := e
  rw [e1] at h
  have h2 : a &&& 2 ≤ 2 := Nat.and_le_right
  rw [IntWalk.i64_in _ (by omega)] at h
  have h3 : (a &&& 2).testBit 0 = false := by rw [Nat.testBit_and]; simp
  rw [Nat.testBit_zero] at h3
  have h4 := of_decide_eq_false h3
  omega

set_option maxRecDepth 100000 in
set_option maxHeartbeats 8000000 in
theorem orderL (v : Value) (l : List De) (w : World) (hrd : Rd w 5 v l.length (l.flatMap encE)) (hok : ∀ d ∈ l, d.ok w) (hlm : l.length ≤ maxLen) :
    Calls Try.prog 8 #[v] w fun e w' => e = .returned (.bool true) ∧ Below w.heap.size w w' := by
  obtain ⟨la, lc, rfl⟩ := hrd.len
  have HRD := Lib.hid hrd
  have HOK := Lib.hid hok
  have HLM := Lib.hid hlm
  clear hrd hok hlm
  go_enter Try.func8, Try.ntmps8
  go_wp2_with fail
  refine (awake w).mono ?_
  rintro e w0 ⟨rfl, b0⟩
  have B0 := Lib.hid b0
  have RD0 := Lib.hid (Rd.fr HRD.out (Fr.of_below b0 no) (fun _ _ e => e))
  have OK0 := Lib.hid (fun d hd => (HOK.out d hd).below b0)
  clear b0
  go_wp2_with fail
  refine (room _ l 150 (by decide) w0 RD0.out OK0.out HLM.out).mono ?_
  rintro e w' ⟨rfl, hw'⟩
  obtain rfl := hw'.symm
  clear hw'
  cases hr : roomP l 150 with
  | false =>
    clear hr
    go_wp2_with fail
    go_ret
    exact ⟨rfl, B0.out⟩
  | true =>
  obtain ⟨hlen, hb200⟩ := room_true hr
  have HB2 := Lib.hid hb200
  clear hr hb200
  obtain ⟨N, hN⟩ : ∃ N, N = l.length := ⟨_, rfl⟩
  have HN := Lib.hid hN
  rw [← hN] at hlen ⊢
  clear hN
  have hN150 : N ≤ 150 := by omega
  go_wp2_with fail
  refine (gnew 3 8 20 (by decide) (by decide) (by decide) (Below.refl _ w0)).mono ?_
  rintro e w1 ⟨t, rfl, g1, _⟩
  have C1 : Hid (OX w0 w1 t 0 0 (-1) (empty0 3)) := ⟨g1, o_init, by decide, by decide⟩
  clear g1
  go_wp2_with fail
  go_loopg [5, 6, 7] N (fun g s5 s6 s7 wx => ∃ (i : Nat) (n last : Int) (S : LS), i ≤ N ∧ s5 = .int .i64 n ∧ s6 = .int .i64 last ∧ s7 = .int .i64 i ∧ g = N - i ∧ Hid (OX w0 wx t i n last S))
  case atStart => exact ⟨0, 0, -1, empty0 3, Nat.zero_le _, rfl, rfl, rfl, rfl, C1⟩
  case round =>
    obtain ⟨i, n, last, S, hi, rfl, rfl, rfl, rfl, HX⟩ := hrel
    by_cases hlt : i < N
    · have hdl : decide ((i : Int) < (N : Int)) = true := decide_eq_true (by omega)
      have hdn : decide (i < N) = true := decide_eq_true hlt
      have hil : i < l.length := by rw [← HN.out]; exact hlt
      have hi1 : (i : Int) < (N : Int) := by omega
      have rd := Rd.fr RD0.out (Fr.of_below HX.out.g.bel no) (fun _ _ e => e)
      obtain ⟨bb, o, c, hvv, _, _⟩ := Rd.some rd (by omega) (by decide)
      have hvv := hvv
      simp at hvv
      obtain ⟨rfl, hvc⟩ := hvv
      obtain ⟨y0, y1, y2, y3, y4⟩ := deedAt rd hil
      obtain ⟨d, hdd⟩ : ∃ d, d = l[i] := ⟨_, rfl⟩
      rw [← hdd] at y0 y1 y2 y3 y4
      have dok0 := OK0.out d (by rw [hdd]; exact List.getElem_mem hil)
      have dok := dok0.below HX.out.g.bel
      have db : d.b.length ≤ 200 := HB2.out d (by rw [hdd]; exact List.getElem_mem hil)
      have HDB := Lib.hid db
      clear hdd hvc rd db
      obtain ⟨ddw, dfr, dtg, dbit, da, dn, dc, db⟩ := d
      have DOK := Lib.hid dok
      have D0 := Lib.hid dok0
      clear dok0
      dsimp only at y0 y1 y2 y3 y4
      clear dok
      go_upto_block 2 with fail
      obtain ⟨wd, hwd⟩ : ∃ wd, wd = wr.alloc (.cells #[.int .i64 ddw, .int .i64 dfr, .int .i64 dtg, .int .i64 dbit, .slice da dn dc] 51) := ⟨_, rfl⟩
      have hbd : Below wr.heap.size wr wd := by rw [hwd]; exact (Below.refl _ wr).alloc (Nat.le_refl _) _
      obtain ⟨q, hqq⟩ : ∃ q, q = wr.heap.size := ⟨_, rfl⟩
      have hq : wd.heap[q]? = some (.cells #[.int .i64 ddw, .int .i64 dfr, .int .i64 dtg, .int .i64 dbit, .slice da dn dc] 51 (0, 0)) := by rw [hwd, hqq]; exact heap_alloc_new' wr _
      rw [← hwd, ← hqq]
      have k0 : wd.cell? ⟨q, 0, none⟩ = some (.int .i64 ddw) := blk_cell hq 0
      have k3 : wd.cell? ⟨q, 3, none⟩ = some (.int .i64 dbit) := blk_cell hq 3
      have HQ := Lib.hid hq
      have HD := Lib.hid (HX.out.below hbd)
      have HK := Lib.hid (HX.out.g.keepNew hbd hq (by rw [hqq]; exact Nat.le_refl _))
      have DK := Lib.hid (DOK.out.below hbd)
      clear hwd hqq hq hbd y0 y1 y2 y3 y4
      have HGO : Hid (0 ≤ S.2 ∧ S.2 ≤ 1000000000) := ⟨HD.out.l.1, by have := HD.out.l.2; omega⟩
      have HNB : Hid (0 ≤ n ∧ n ≤ 150) := ⟨HD.out.n.1, by have := HD.out.n.2; omega⟩
      have hw1 : wrap64 (n + 1) = n + 1 := IntWalk.wrap64_in _ (by have := HNB.out; omega)
      have HLN := HD.out.g.qlen
      have hlen9 := Lib.hid (show S.1.length = 9 from HLN)
      clear HLN
      by_cases h0 : ddw ≤ 3
      · have d0 : decide (ddw ≤ 3) = true := by simpa using h0
        have hsh : n / 256 = 0 := by have := HNB.out; omega
        have hu8 : n % 256 = n := by have := HNB.out; omega
        have hu8b : IntKind.u8.wrap n = n := by rw [IntKind.wrap_u8]; have := HNB.out; omega
        obtain ⟨z, hz⟩ : ∃ z, bits .and .i64 dtg 2 = z := ⟨_, rfl⟩
        have HZ : Hid (z ≠ 1) := by unfold Hid; rw [← hz]; exact and2 dtg
        obtain ⟨⟨r1, S1⟩, hR⟩ : ∃ R, R = sendP 3 8 0 1 [0, n, 7, 7, 7, 7, 7, 7] S := ⟨_, rfl⟩
        have o1 := o_send1 HD.out.c hlen9.out HNB.out.1
        have l1 := sendP_lost 3 8 0 1 [0, n, 7, 7, 7, 7, 7, 7] S
        have g1 := fun v rd => gsend (HK.out.below ((Below.refl _ wd).alloc (Nat.le_refl _) (.cells #[.int .u8 0, .int .u8 n, .int .u8 7, .int .u8 7, .int .u8 7, .int .u8 7, .int .u8 7, .int .u8 7] 5))) v [0, n, 7, 7, 7, 7, 7, 7] rd (by simp) (by intro y hy; simp at hy; have := HNB.out; omega) HGO.out 0 1
        rw [← hR] at g1 o1 l1
        dsimp only at g1 o1 l1
        obtain ⟨⟨r2, S2⟩, hR2⟩ : ∃ R, R = sendP 3 8 dfr z db S1 := ⟨_, rfl⟩
        have o2 := o_send2 o1 dfr z db HZ.out
        have l2 := sendP_lost 3 8 dfr z db S1
        rw [← hR2] at o2 l2
        dsimp only at o2 l2
        have G1 := Lib.hid g1
        have O2 := Lib.hid o2
        have L2 := Lib.hid (And.intro l1 l2)
        have HR2 := Lib.hid hR2
        clear hR g1 o1 l1 o2 l2 hR2
        go_wp2_with fail
        refine (G1.out _ (Rd.new rfl rfl)).mono ?_
        rintro e w4 ⟨rfl, g4⟩
        have hq4 := g4.kept (List.mem_singleton.2 rfl)
        have j1 : w4.cell? ⟨q, 1, none⟩ = some (.int .i64 dfr) := blk_cell hq4 1
        have j2 : w4.cell? ⟨q, 2, none⟩ = some (.int .i64 dtg) := blk_cell hq4 2
        have j4 : w4.cell? ⟨q, 4, none⟩ = some (.slice da dn dc) := blk_cell hq4 4
        have rd4 : RdB w4 (.slice da dn dc) db := RdB.fr D0.out.rd g4.bel
        have g5 := gsend g4 (.slice da dn dc) db rd4 (by have := HDB.out; omega) D0.out.byte (by have := HD.out.l; have := L2.out; omega) dfr z
        rw [← HR2.out] at g5
        dsimp only at g5
        have G5 := Lib.hid g5
        clear g4 hq4 rd4 g5 G1
        go_wp2_with fail
        refine G5.out.mono ?_
        rintro e w5 ⟨rfl, g5⟩
        have HC : Hid (OX w0 w5 t ((i + 1 : Nat) : Int) (n + 1) last S2) := ⟨g5.sub (fun q hq => by cases hq), O2.out, by have := HD.out.n; omega, by have := HD.out.l; have := L2.out; omega⟩
        clear g5 G5 j1 j2 j4
        go_wp2_with fail
        go_roundg (N - (i + 1))
        case measure => omega
        case rel => exact ⟨i + 1, n + 1, last, S2, by omega, (by first | rfl | rw [hw1]), rfl, by go_num, rfl, HC⟩
      have d0 : decide (ddw ≤ 3) = false := by simpa using h0
      by_cases h1 : ddw ≤ 6
      · have d1 : decide (ddw ≤ 6) = true := by simpa using h1
        obtain ⟨⟨r1, S1⟩, hS1⟩ : ∃ R, R = passP 3 0 1 S := ⟨_, rfl⟩
        have g1 := gpass HD.out.g 0 1
        obtain ⟨o0, o1⟩ := o_pass HD.out.c hlen9.out
        have l1 := lost_pass 3 0 1 S
        rw [← hS1] at g1 o0 o1 l1
        dsimp only at g1 o0 o1 l1
        have G1 := Lib.hid g1
        have O0 := Lib.hid o0
        have O1 := Lib.hid o1
        have L1 := Lib.hid l1
        clear hS1 g1 o0 o1 l1
        cases r1 with
        | none =>
          go_wp2_with fail
          refine G1.out.mono ?_
          rintro e w4 ⟨va, vn, vk, rfl, _, g4⟩
          have G4 := Lib.hid g4
          clear g4 G1
          dsimp only [Option.isSome]
          have HC : Hid (OX w0 w4 t ((i + 1 : Nat) : Int) n last S1) := ⟨G4.out, O1.out, by have := HD.out.n; omega, by have := HD.out.l; have := L1.out; omega⟩
          go_wp2_with fail
          go_roundg (N - (i + 1))
          case measure => omega
          case rel => exact ⟨i + 1, n, last, S1, by omega, rfl, rfl, by go_num, rfl, HC⟩
        | some x =>
          obtain ⟨ag, hx, ho⟩ := O0.out x rfl
          have HXX := Lib.hid (And.intro hx ho)
          have hlen : x.length = 8 := hx.len
          go_wp2_with fail
          refine G1.out.mono ?_
          rintro e w4 ⟨va, vn, vk, rfl, hrd, g4⟩
          dsimp only [Option.isSome]
          go_upto_region 19 with fail
          have G4 := Lib.hid g4
          obtain ⟨va', vk', hv'⟩ := hrd.len
          simp only [Option.getD_some, hlen] at hv'
          simp only [Value.slice.injEq] at hv'
          obtain ⟨rfl, rfl, rfl⟩ := hv'
          obtain ⟨xb, xo, xc, hvx, _, _⟩ := Rd.some hrd (by simp [hlen]) (by decide)
          simp only [Value.slice.injEq] at hvx
          obtain ⟨rfl, h8e, rfl⟩ := hvx
          clear h8e
          have hat : ∀ j, j < 8 → w4.cell? ⟨xb, xo + j, none⟩ = some (.int .u8 (x.getD j 0)) := fun j hj => by
            have h9 := RdB.at (show RdB w4 (.slice (some ⟨xb, xo, none⟩) 8 vk) x from hrd) (i := j) (by omega)
            rw [h9, List.getD_eq_getElem?_getD, List.getElem?_eq_getElem (by omega)]
            rfl
          have x0 : w4.cell? ⟨xb, xo, none⟩ = some (.int .u8 0) := by have := hat 0 (by decide); rw [show x.getD 0 0 = 0 from hx.hi] at this; exact this
          obtain ⟨k, hk⟩ : ∃ k, k = x.getD 1 0 := ⟨_, rfl⟩
          have x1 : w4.cell? ⟨xb, xo + 1, none⟩ = some (.int .u8 k) := by have := hat 1 (by decide); rw [← hk] at this; exact this
          obtain ⟨b2, hb2⟩ : ∃ b2, b2 = x.getD 2 0 := ⟨_, rfl⟩
          have x2 : w4.cell? ⟨xb, xo + 2, none⟩ = some (.int .u8 b2) := by have := hat 2 (by decide); rw [← hb2] at this; exact this
          obtain ⟨b3, hb3⟩ : ∃ b3, b3 = x.getD 3 0 := ⟨_, rfl⟩
          have x3 : w4.cell? ⟨xb, xo + 3, none⟩ = some (.int .u8 b3) := by have := hat 3 (by decide); rw [← hb3] at this; exact this
          have HKB : Hid (0 ≤ k ∧ k < n ∧ last ≤ k) := by unfold Hid; rw [hk]; exact ⟨hx.nn, hx.lt, hx.ge⟩
          have HKE := Lib.hid hk
          clear g4 G1 hat hx ho hrd hk hb2 hb3
          by_cases h2 : b2 = 7
          · have h2d : (b2 == 7) = true := by simpa using h2
            have h2e : (b2 != 7) = false := by simpa using h2
            by_cases h3 : b3 = 7
            · have h3d : (b3 == 7) = true := by simpa using h3
              have h3e : (b3 != 7) = false := by simpa using h3
              obtain ⟨k0', k1', k2'⟩ := HKB.out
              have hck : IntKind.i64.wrap k = k := IntWalk.i64_in _ (by have := HNB.out; omega)
              have hor := or0 k ⟨by omega, by have := HNB.out; omega⟩
              have d1 : decide (k < last) = false := decide_eq_false (by omega)
              have d2 : decide (n ≤ k) = false := decide_eq_false (by omega)
              have HC : Hid (OX w0 w4.drew t ((i + 1 : Nat) : Int) n k S1) := ⟨G4.out.below (Below.refl _ w4).drew, by have := HXX.out.2; rw [HKE.out]; exact this, by have := HD.out.n; omega, by have := HD.out.l; have := L1.out; omega⟩
              clear h2 h3 k0' k1' k2'
              go_upto_region 20 with fail
              go_region
              go_wp2_with fail
              go_roundg (N - (i + 1))
              case measure => omega
              case rel => exact ⟨i + 1, n, k, S1, by omega, rfl, rfl, by go_num, rfl, HC⟩
            · have h3d : (b3 == 7) = false := by simpa using h3
              have h3e : (b3 != 7) = true := by simpa using h3
              clear h2
              have HC : Hid (OX w0 w4 t ((i + 1 : Nat) : Int) n last S1) := ⟨G4.out, O1.out, by have := HD.out.n; omega, by have := HD.out.l; have := L1.out; omega⟩
              go_wp2_with fail
              go_roundg (N - (i + 1))
              case measure => omega
              case rel => exact ⟨i + 1, n, last, S1, by omega, rfl, rfl, by go_num, rfl, HC⟩
          · have h2d : (b2 == 7) = false := by simpa using h2
            have h2e : (b2 != 7) = true := by simpa using h2
            have HC : Hid (OX w0 w4 t ((i + 1 : Nat) : Int) n last S1) := ⟨G4.out, O1.out, by have := HD.out.n; omega, by have := HD.out.l; have := L1.out; omega⟩
            go_wp2_with fail
            go_roundg (N - (i + 1))
            case measure => omega
            case rel => exact ⟨i + 1, n, last, S1, by omega, rfl, rfl, by go_num, rfl, HC⟩
      have d1 : decide (ddw ≤ 6) = false := by simpa using h1
      by_cases h2 : ddw = 7
      · have d2 : (ddw == 7) = true := by simpa using h2
        clear h2
        obtain ⟨S1, hS1⟩ : ∃ S1, S1 = (dropP 3 0 1 S).2 := ⟨_, rfl⟩
        have g1 := gdrop HD.out.g HGO.out 0 1
        have o1 := o_drop HD.out.c hlen9.out
        have l1 := lost_drop 3 0 1 S
        rw [← hS1] at g1 o1 l1
        have G1 := Lib.hid g1
        have O1 := Lib.hid o1
        have L1 := Lib.hid l1
        clear hS1 g1 o1 l1
        go_wp2_with fail
        refine G1.out.mono ?_
        rintro e w4 ⟨rfl, g4⟩
        have HC : Hid (OX w0 w4 t ((i + 1 : Nat) : Int) n last S1) := ⟨g4, O1.out, by have := HD.out.n; omega, by have := HD.out.l; have := L1.out; omega⟩
        clear g4 G1
        go_wp2_with fail
        go_roundg (N - (i + 1))
        case measure => omega
        case rel => exact ⟨i + 1, n, last, S1, by omega, rfl, rfl, by go_num, rfl, HC⟩
      have d2 : (ddw == 7) = false := by simpa using h2
      by_cases h3 : ddw = 8
      · have d3 : (ddw == 8) = true := by simpa using h3
        clear h3
        obtain ⟨S1, hS1⟩ : ∃ S1, S1 = (twiceP 3 8 0 1 S).2 := ⟨_, rfl⟩
        have g1 := gtwice HD.out.g 0 1
        have o1 := o_twice HD.out.c hlen9.out
        have l1 := lost_twice 3 8 0 1 S
        rw [← hS1] at g1 o1 l1
        have G1 := Lib.hid g1
        have O1 := Lib.hid o1
        have L1 := Lib.hid l1
        clear hS1 g1 o1 l1
        go_wp2_with fail
        refine G1.out.mono ?_
        rintro e w4 ⟨rfl, g4⟩
        have HC : Hid (OX w0 w4 t ((i + 1 : Nat) : Int) n last S1) := ⟨g4, O1.out, by have := HD.out.n; omega, by have := HD.out.l; have := L1.out; omega⟩
        clear g4 G1
        go_wp2_with fail
        go_roundg (N - (i + 1))
        case measure => omega
        case rel => exact ⟨i + 1, n, last, S1, by omega, rfl, rfl, by go_num, rfl, HC⟩
      have d3 : (ddw == 8) = false := by simpa using h3
      by_cases h4 : ddw = 9
      · have d4 : (ddw == 9) = true := by simpa using h4
        clear h4
        obtain ⟨z, hz⟩ : ∃ z, bits .and .i64 dbit 31 = z := ⟨_, rfl⟩
        have hzb : 0 ≤ z ∧ z ≤ 31 := by rw [← hz, show (31 : Int) = ((2 ^ 5 - 1 : Nat) : Int) from rfl, i64_mask dbit 5 (by decide)]; show 0 ≤ dbit % 32 ∧ dbit % 32 ≤ 31; omega
        have hwz : wrap64 (16 + z) = 16 + z := IntWalk.wrap64_in _ (by omega)
        obtain ⟨S1, hS1⟩ : ∃ S1, S1 = (spoilP 3 0 1 (16 + z) S).2 := ⟨_, rfl⟩
        have g1 := gspoil HD.out.g 0 1 (16 + z)
        have o1 := o_spoil HD.out.c hlen9.out (16 + z) (by omega)
        have l1 := lost_spoil 3 0 1 (16 + z) S
        rw [← hS1] at g1 o1 l1
        have G1 := Lib.hid g1
        have O1 := Lib.hid o1
        have L1 := Lib.hid l1
        clear hS1 g1 o1 l1
        go_wp2_with fail
        refine G1.out.mono ?_
        rintro e w4 ⟨rfl, g4⟩
        have HC : Hid (OX w0 w4 t ((i + 1 : Nat) : Int) n last S1) := ⟨g4, O1.out, by have := HD.out.n; omega, by have := HD.out.l; have := L1.out; omega⟩
        clear g4 G1
        go_wp2_with fail
        go_roundg (N - (i + 1))
        case measure => omega
        case rel => exact ⟨i + 1, n, last, S1, by omega, rfl, rfl, by go_num, rfl, HC⟩
      have d4 : (ddw == 9) = false := by simpa using h4
      by_cases h5 : ddw = 10
      · have d5 : (ddw == 10) = true := by simpa using h5
        clear h5
        obtain ⟨S1, hS1⟩ : ∃ S1, S1 = (oldP 20 S).2 := ⟨_, rfl⟩
        have g1 := gage HD.out.g HGO.out
        have o1 := o_old HD.out.c 20
        have l1 := (show (oldP 20 S).2.2 = S.2 + gonesP 20 S.1 ∧ 0 ≤ gonesP 20 S.1 ∧ gonesP 20 S.1 ≤ 8 * ((3 * 3 : Nat) : Int) from ⟨rfl, HD.out.g.gones⟩)
        rw [← hS1] at g1 o1 l1
        have G1 := Lib.hid g1
        have O1 := Lib.hid o1
        have L1 := Lib.hid l1
        clear hS1 g1 o1 l1
        go_wp2_with fail
        refine G1.out.mono ?_
        rintro e w4 ⟨rfl, g4⟩
        have HC : Hid (OX w0 w4 t ((i + 1 : Nat) : Int) n last S1) := ⟨g4, O1.out, by have := HD.out.n; omega, by have := HD.out.l; have := L1.out; omega⟩
        clear g4 G1
        go_wp2_with fail
        go_roundg (N - (i + 1))
        case measure => omega
        case rel => exact ⟨i + 1, n, last, S1, by omega, rfl, rfl, by go_num, rfl, HC⟩
      have d5 : (ddw == 10) = false := by simpa using h5
      have HC : Hid (OX w0 wd t ((i + 1 : Nat) : Int) n last S) := ⟨HD.out.g, HD.out.c, by have := HD.out.n; omega, by have := HD.out.l; omega⟩
      go_wp2_with fail
      go_roundg (N - (i + 1))
      case measure => omega
      case rel => exact ⟨i + 1, n, last, S, by omega, rfl, rfl, by go_num, rfl, HC⟩
    · obtain rfl : i = N := by omega
      have hdl : decide ((i : Int) < (i : Int)) = false := by simp
      go_wp2_with fail
      go_ret
      exact ⟨rfl, B0.out.trans (HX.out.g.bel.mono B0.out.size)⟩
end Go.Proofs.Yteihpaikdpdglaa
