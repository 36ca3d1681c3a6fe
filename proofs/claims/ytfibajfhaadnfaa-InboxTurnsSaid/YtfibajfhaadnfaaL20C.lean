/-
  Layer 20: InboxCycle: the walk.
-/
import Derived.Test.YtfibajfhaadnfaaL20B
import Derived.Test.YtfibajfhaadnfaaInb4
import Derived.Deep.LoopGhost
namespace Go.Proofs.Ytfibajfhaadnfaa
open Go.RowKit
set_option linter.unusedVariables false


/-- The inbox i at row c, in which every item reads as b. -/
structure CyW (w0 w : World) (B i c : Nat) (n : Nat) (full : Bool) (sv : Value) (l : List Value) (b : List Int) : Prop where
  I : IsIn w B i c n full sv l
  rd : ∀ v ∈ l, OwnB 0 w v b
  bel : Below w0.heap.size w0 w
  le : B ≤ w.heap.size

theorem CyW.put {w0 w w' : World} {B i c : Nat} {n : Nat} {full f' : Bool} {sv sv' v : Value} {l : List Value} {b : List Int} (h : CyW w0 w B i c n full sv l b) (hB : w0.heap.size ≤ B) (h2 : IsIn w' B i c n f' sv' (l ++ [v])) (o : OwnB w.heap.size w' v b) (f : Fr (ftpI i c sv) w w') : CyW w0 w' B i c n f' sv' (l ++ [v]) b :=
  ⟨h2, fun u hu => by
    rcases List.mem_append.1 hu with hu | hu
    · exact OwnB.thru h.I (h.rd u hu) f
    · rw [List.mem_singleton.1 hu]; exact own_zero o,
   h.bel.trans (f.below' (Nat.le_trans hB h.le) (fun k e => Nat.le_trans hB (h.I.ftp_ge k e))), Nat.le_trans h.le f.size⟩
theorem CyW.take {w0 w w' : World} {B i c : Nat} {n : Nat} {full f' : Bool} {sv sv' v : Value} {l : List Value} {b : List Int} (h : CyW w0 w B i c n full sv (v :: l) b) (hB : w0.heap.size ≤ B) (h2 : IsIn w' B i c n f' sv' l) (f : Fr (ftpI i c sv) w w') : CyW w0 w' B i c n f' sv' l b ∧ OwnB 0 w' v b :=
  ⟨⟨h2, fun u hu => OwnB.thru h.I (h.rd u (List.mem_cons_of_mem _ hu)) f,
   h.bel.trans (f.below' (Nat.le_trans hB h.le) (fun k e => Nat.le_trans hB (h.I.ftp_ge k e))), Nat.le_trans h.le f.size⟩, OwnB.thru h.I (h.rd v (List.mem_cons_self ..)) f⟩
theorem CyW.below {w0 w w' : World} {B i c : Nat} {n : Nat} {full : Bool} {sv : Value} {l : List Value} {b : List Int} (h : CyW w0 w B i c n full sv l b) (hB : w0.heap.size ≤ w.heap.size) (hb : Below w.heap.size w w') : CyW w0 w' B i c n full sv l b :=
  ⟨h.I.below hb, fun u hu => Own.fr (h.rd u hu) (Fr.of_below hb no) (fun _ _ e => e), h.bel.trans (hb.mono hB), Nat.le_trans h.le hb.size⟩

set_option maxHeartbeats 8000000 in
set_option maxRecDepth 100000 in
theorem cycleL (most cyc : Nat) (bv : Value) (b : List Int) (w : World) (hmo : most < 256) (hcy : cyc < 256) (hbv : RdB w bv b) : Calls Try.prog 7 #[.int .u8 most, .int .u8 cyc, bv] w fun x w' => x = .returned (.bool true) ∧ Below w.heap.size w w' := by
  obtain ⟨n, hn⟩ : ∃ n, n = 1 + most % 16 := ⟨_, rfl⟩
  obtain ⟨N, hN⟩ : ∃ n, n = 1 + cyc % 5 := ⟨_, rfl⟩
  obtain ⟨ba, bc, rfl⟩ := hbv.len
  have Hbv := Lib.hid hbv
  have Hn := Lib.hid hn
  have HN := Lib.hid hN
  have HnB : Hid (1 ≤ n ∧ n ≤ 16) := by unfold Hid; omega
  have n16 : 1 + (most : Int) % 16 = (n : Int) := by omega
  have N16 : 1 + (cyc : Int) % 5 = (N : Int) := by omega
  have w64 : wrap64 ((n : Int) / 2) = (n : Int) / 2 := by have := HnB.out; unfold wrap64; omega
  clear hbv hn hN
  go_enter Try.func7, Try.ntmps7
  go_wp2_with fail
  refine (awake w).mono ?_
  rintro x w0 ⟨rfl, b0⟩
  have B0 := Lib.hid b0
  clear b0
  go_wp2_with fail
  refine (inewYes n (by have := HnB.out; omega) w0).mono ?_
  rintro x w1 ⟨i, rfl, h1, b1⟩
  obtain ⟨q, hq⟩ : ∃ q, q = w0.heap.size := ⟨_, rfl⟩
  have hqw : w.heap.size ≤ q := by rw [hq]; exact B0.out.size
  have B1 : Hid (Below w.heap.size w w1) := B0.out.trans (b1.mono B0.out.size)
  have s1 : q ≤ w1.heap.size := by rw [hq]; exact b1.size
  rw [← hq] at h1
  have H1 : Hid (CyW w w1 q i q n false (.slice none 0 0) [] b) := ⟨h1, fun v hv => (by cases hv), B1.out, s1⟩
  clear h1 b1 hq n16 s1 B1 B0
  by_cases h200 : 200 < b.length
  · have hd : decide ((200 : Int) < b.length) = true := by simp; omega
    go_wp2_with fail
    go_ret
    exact ⟨rfl, H1.out.bel⟩
  have hd : decide ((200 : Int) < b.length) = false := by simp; omega
  have hbl : b.length ≤ 1000000 := by omega
  clear h200
  go_wp2_with fail
  go_loopg [10] N (fun g s10 wx => ∃ (cy : Nat) (sv : Value) (l : List Value), s10 = .int .i64 cy ∧ cy ≤ N ∧ g = N - cy ∧ l.length ≤ n / 2 ∧ CyW w wx q i q n false sv l b)
  case atStart => exact ⟨0, _, [], rfl, Nat.zero_le _, rfl, Nat.zero_le _, H1.out⟩
  case round =>
    obtain ⟨cy, sv, l, rfl, hc, rfl, hl, hy⟩ := hrel
    have HC := Lib.hid hc
    have HL := Lib.hid hl
    have HY := Lib.hid hy
    clear hc hl hy H1
    by_cases hcn : cy < N
    · have hd1 : decide ((cy : Int) < (N : Int)) = true := by simp; omega
      go_wp2_with fail
      go_loopg [] (n - l.length) (fun g wx => ∃ (sv : Value) (l : List Value), l.length ≤ n ∧ g = n - l.length ∧ CyW w wx q i q n (decide (l.length = n)) sv l b)
      case atStart =>
        refine ⟨sv, l, ?_, ?_, ?_⟩
        · have := HL.out; have := HnB.out; omega
        · rfl
        · have e : decide (l.length = n) = false := by simp; have := HL.out; have := HnB.out; omega
          rw [e]; exact HY.out
      case round =>
        clear HY HL
        clear sv l
        obtain ⟨sv, l, hl, rfl, hy⟩ := hrel
        have HL := Lib.hid hl
        have HY := Lib.hid hy
        clear hl hy
        go_wp2_with fail
        refine (ilen i q n _ sv l wr q HY.out.I).mono ?_
        rintro x w2 ⟨rfl, rfl⟩
        by_cases hln : l.length < n
        · have hd2 : decide ((l.length : Int) < (n : Int)) = true := by simp; omega
          have hne : decide (l.length = n) = false := by simp; omega
          rw [hne] at HY
          go_wp2_with fail
          refine (iputYes i q n false sv l _ b w2 q HY.out.le HY.out.I (Hbv.out.fr HY.out.bel) hbl (by have := HnB.out; omega) (by omega)).mono ?_
          rintro x w3 ⟨rfl, sv3, v3, h3, o3, m3, f3⟩
          have H3 := Lib.hid (HY.out.put hqw h3 o3 f3)
          clear h3 o3 m3 f3
          have eb : (((l.length + 1 : Nat) : Int) == (n : Int)) = decide ((l ++ [v3]).length = n) := by
            rw [List.length_append, List.length_singleton]
            by_cases e : l.length + 1 = n
            · rw [decide_eq_true e, e]; simp
            · rw [decide_eq_false e]; simp; omega
          rw [eb, Bool.false_or] at H3
          rw [eb]
          obtain ⟨l3, hl3⟩ : ∃ l3, l3 = l ++ [v3] := ⟨_, rfl⟩
          have HLl : Hid (l3.length = l.length + 1) := by rw [hl3]; simp [Hid]
          rw [← hl3] at H3 ⊢
          clear eb hl3
          cases hq3 : decide (l3.length = n)
          all_goals
            have hq4 : ((l3.length : Int) == (n : Int)) = decide (l3.length = n) := by
              by_cases e : l3.length = n
              · rw [decide_eq_true e, e]; simp
              · rw [decide_eq_false e]; simp; omega
            rw [hq3] at H3 hq4
            have HQ := Lib.hid hq3
            clear hq3
            go_wp2_with fail
            refine (ilen i q n _ sv3 l3 w3 q H3.out.I).mono ?_
            rintro x w4 ⟨rfl, rfl⟩
            go_wp2_with fail
            refine (ifull i _ w4 H3.out.I.c1).mono ?_
            rintro x w5 ⟨rfl, rfl⟩
            go_wp2_with fail
            go_roundg (n - l3.length)
            case measure => have := HLl.out; omega
            case rel => exact ⟨sv3, l3, (by have := HLl.out; omega), rfl, (by rw [HQ.out]; exact H3.out)⟩
        · have hd2 : decide ((l.length : Int) < (n : Int)) = false := by simp; omega
          go_wp2_with fail
          have hle : l.length = n := by have := HL.out; omega
          rw [decide_eq_true hle] at HY
          have HE := Lib.hid hle
          clear hle hln hd2
          go_loopg [] l.length (fun g wx => ∃ (sv : Value) (l : List Value), l.length ≤ n ∧ g = l.length ∧ CyW w wx q i q n (decide (n / 2 < l.length)) sv l b)
          case atStart =>
            refine ⟨sv, l, by have := HE.out; omega, rfl, ?_⟩
            have e : decide (n / 2 < l.length) = true := by simp; have := HE.out; have := HnB.out; omega
            rw [e]; exact HY.out
          case round =>
            clear HY HL HE
            obtain ⟨sv5, l5, hl, rfl, hy⟩ := hrel
            have HL := Lib.hid hl
            have HY := Lib.hid hy
            clear hl hy
            go_wp2_with fail
            refine (ilen i q n _ sv5 l5 wr q HY.out.I).mono ?_
            rintro x w2 ⟨rfl, rfl⟩
            by_cases hln : n / 2 < l5.length
            · have hd2 : decide ((l5.length : Int) ≤ (n : Int) / 2) = false := by simp; omega
              rw [decide_eq_true hln] at HY
              have HH := Lib.hid hln
              clear hln
              go_wp2_with fail
              have hr : 0 < l5.length := by have := HH.out; omega
              obtain ⟨v5, r5, hv5⟩ : ∃ v r, l5 = v :: r := by cases l5 with | nil => exact absurd hr (by simp) | cons v r => exact ⟨v, r, rfl⟩
              obtain ⟨a5, k5, hs5, _⟩ := own_shape (HY.out.rd v5 (by rw [hv5]; exact List.mem_cons_self ..))
              subst hv5 hs5
              refine (itakeYes i q n true sv5 a5 b.length k5 r5 w2 q HY.out.le HY.out.I (by have := HnB.out; omega) (by have h1 := HL.out; rw [List.length_cons] at h1; have := HnB.out; omega)).mono ?_
              rintro x w3 ⟨rfl, sv3, h3, m3, f3⟩
              have H3 := Lib.hid (HY.out.take hqw h3 f3)
              clear h3 m3 f3
              have ef : freeB true r5.length n = decide ((r5.length : Int) ≤ (n : Int) / 2) := by simp [freeB]
              rw [ef] at H3 ⊢
              clear ef
              cases hq3 : decide ((r5.length : Int) ≤ (n : Int) / 2)
              all_goals
                rw [hq3] at H3
                go_wp2_with fail
                refine (sameRows _ _ b b w3 H3.out.2.rd (Hbv.out.fr H3.out.1.bel) hbl).mono ?_
                rintro x w4 ⟨rfl, hb4⟩
                rw [sameB_self]
                have H4 := Lib.hid (H3.out.1.below H3.out.1.bel.size hb4)
                clear hb4
                go_wp2_with fail
                refine (ilen i q n _ sv3 r5 w4 q H4.out.I).mono ?_
                rintro x w5 ⟨rfl, rfl⟩
                go_wp2_with fail
                go_roundg r5.length
                case measure => simp
                case rel =>
                  refine ⟨sv3, r5, by have h1 := HL.out; rw [List.length_cons] at h1; omega, rfl, ?_⟩
                  have e : decide (n / 2 < r5.length) = !decide ((r5.length : Int) ≤ (n : Int) / 2) := by
                    by_cases e : n / 2 < r5.length
                    · rw [decide_eq_true e, decide_eq_false (by omega)]; rfl
                    · rw [decide_eq_false e, decide_eq_true (by omega)]; rfl
                  rw [e, hq3]
                  exact H4.out
            · have hd2 : decide ((l5.length : Int) ≤ (n : Int) / 2) = true := by simp; omega
              rw [decide_eq_false hln] at HY
              have HH := Lib.hid hln
              clear hln
              go_wp2_with fail
              refine (ifull i _ w2 HY.out.I.c1).mono ?_
              rintro x w5 ⟨rfl, rfl⟩
              go_wp2_with fail
              go_roundg (N - (cy + 1))
              case measure => omega
              case rel => exact ⟨cy + 1, sv5, l5, (by simp), (by omega), rfl, (by have := HH.out; omega), HY.out⟩
    · have hd1 : decide ((cy : Int) < (N : Int)) = false := by simp; omega
      go_wp2_with fail
      refine (ilen i q n _ sv l wr q HY.out.I).mono ?_
      rintro x w2 ⟨rfl, rfl⟩
      go_wp2_with fail
      refine (iclear i q n _ sv l w2 q HY.out.le HY.out.I (by have := HL.out; have := HnB.out; omega)).mono ?_
      rintro x w3 ⟨rfl, sv3, h3, m3, f3⟩
      have H3 := Lib.hid h3
      have B3 : Hid (Below w.heap.size w w3) := HY.out.bel.trans (f3.below' (Nat.le_trans hqw HY.out.le) (fun k e => Nat.le_trans hqw (HY.out.I.ftp_ge k e)))
      clear h3 m3 f3
      go_wp2_with fail
      refine (ilen i q n _ sv3 [] w3 q H3.out).mono ?_
      rintro x w4 ⟨rfl, rfl⟩
      go_wp2_with fail
      refine (ifull i false w4 H3.out.c1).mono ?_
      rintro x w5 ⟨rfl, rfl⟩
      go_wp2_with fail
      go_ret
      exact ⟨rfl, B3.out⟩
theorem cycleZ (most cyc : Int) (hm : 0 ≤ most ∧ most ≤ 255) (hc : 0 ≤ cyc ∧ cyc ≤ 255) (bv : Value) (b : List Int) (w : World) (hbv : RdB w bv b) : Calls Try.prog 7 #[.int .u8 most, .int .u8 cyc, bv] w fun x w' => x = .returned (.bool true) ∧ Below w.heap.size w w' := by
  obtain ⟨m, rfl⟩ := Int.eq_ofNat_of_zero_le hm.1
  obtain ⟨c, rfl⟩ := Int.eq_ofNat_of_zero_le hc.1
  exact cycleL m c bv b w (by omega) (by omega) hbv
end Go.Proofs.Ytfibajfhaadnfaa
