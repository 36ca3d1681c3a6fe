/-
  Package grid: infos.
-/
import Derived.Test.YtnafppdnapdbcaaGrd3
namespace Go.Proofs.Ytnafppdnapdbcaa
open Go.RowKit


theorem rdA {N : Nat} {w : World} {cs : Array Value} {l : List Int} {c n b t : Nat} (hN : N ≤ w.heap.size) (hb : b = w.heap.size) (hl : n = l.length) (hc : cs.toList = l.flatMap enI) : RdN N (w.alloc (.cells cs t)).drew (.slice (some ⟨b, 0, none⟩) n c) l := RdN.drew (RdN.new hb hN hl hc)
theorem rdB {N : Nat} {w : World} {cs : Array Value} {l : List Int} {c n b t : Nat} {A : Obj} (hN : N ≤ w.heap.size) (hb : b = w.heap.size) (hl : n = l.length) (hc : cs.toList = l.flatMap enI) : RdN N ((w.alloc (.cells cs t)).alloc A).drew (.slice (some ⟨b, 0, none⟩) n c) l := RdN.drew (RdN.later (RdN.new hb hN hl hc) _)
theorem rdC {N : Nat} {w : World} {cs : Array Value} {l : List Int} {c n b t : Nat} {A B : Obj} (hN : N ≤ w.heap.size) (hb : b = w.heap.size) (hl : n = l.length) (hc : cs.toList = l.flatMap enI) : RdN N (((w.alloc (.cells cs t)).alloc A).alloc B).drew (.slice (some ⟨b, 0, none⟩) n c) l := RdN.drew (RdN.later (RdN.later (RdN.new hb hN hl hc) _) _)
theorem cellA {w : World} {a : Addr} {v : Value} (h : w.cell? a = some v) {o : Obj} : (w.alloc o).cell? a = some v := cell_on h ((Below.refl _ w).alloc (Nat.le_refl _) o)
theorem cellD {w : World} {a : Addr} {v : Value} (h : w.cell? a = some v) : w.drew.cell? a = some v := h

def gI1 (T : GT) : GT := layT T 10 31 13 [29, 14, 32]
def gI2 (T : GT) : GT := layT (layT (gI1 T) 8 13 (-1) ([19, 18] ++ 23 :: [31])) 8 (13 + 1) (-1) ([19, 18] ++ 24 :: [31])
def gI3 (T : GT) : GT := layT (layT (gI2 T) 8 16 10 ([19] ++ 27 :: [15, 31])) 8 (16 + 1) 10 ([19] ++ 28 :: [15, 31])
def gI4 (T : GT) : GT := layT (layT (gI3 T) 10 13 8 ([19, 18, 16] ++ 23 :: [31])) 10 (13 + 1) 8 ([19, 18, 16] ++ 24 :: [31])
def gI5 (T : GT) : GT := layT (gI4 T) 10 16 (-1) [19, 31]
def gI6 (T : GT) : GT := layT (gI5 T) 10 17 (-1) [19, 24, 31]
def gJ1 (e : Int) (T : GT) : GT := layT (layT T 9 e (-1) ([19] ++ 25 :: [31])) 9 (e + 1) (-1) ([19] ++ 26 :: [31])
def gJ2 (e : Int) (T : GT) : GT := layT (layT (gJ1 e T) 12 e (-1) ([19] ++ 25 :: [])) 12 (e + 1) (-1) ([19] ++ 26 :: [])
def gK1 (T : GT) : GT := layT (layT T 11 13 (-1) ([19, 18] ++ 23 :: [])) 11 (13 + 1) (-1) ([19, 18] ++ 24 :: [])
def gK2 (T : GT) : GT := layT (layT (gK1 T) 11 16 13 ([19] ++ 27 :: [15])) 11 (16 + 1) 13 ([19] ++ 28 :: [15])
def gK3 (T : GT) : GT := layT (layT (gK2 T) 13 13 11 ([19, 18, 16] ++ 23 :: [])) 13 (13 + 1) 11 ([19, 18, 16] ++ 24 :: [])
def gK4 (T : GT) : GT := layT (gK3 T) 13 16 (-1) [19]
def gK5 (T : GT) : GT := layT (gK4 T) 13 17 (-1) [19, 24]
def gK6 (T : GT) : GT := layT (gK5 T) 11 15 8 [20, 19, 18, 22, 33, 23, 31]
def gK7 (T : GT) : GT := layT (gK6 T) 11 18 10 [20, 19, 22, 33, 27, 15, 31]
def gK8 (T : GT) : GT := layT (gK7 T) 13 15 8 [20, 19, 18, 16, 22, 33, 23, 31]
def gK9 (T : GT) : GT := layT (gK8 T) 13 18 10 [20, 19, 22, 33, 31]
def gK10 (T : GT) : GT := eachT (gK9 T) [12] [15, 18] 9 [20, 19, 22, 33, 25, 31]
def infosT (T : GT) : GT := gK10 ([13, 16].foldl (fun T e => gJ2 e T) (gI6 T))

set_option maxRecDepth 100000 in
set_option maxHeartbeats 16000000 in
theorem infos_walk (t : Value) (w : World) (B N : Nat) (T : GT) (hT : Tab B N w t T) : Calls Try.prog 24 #[t] w fun x w' => x = .returned (.tuple #[]) ∧ Tab B N w' t (infosT T) ∧ Kp B N w w' := by
  obtain ⟨g, cap, r, rfl, _⟩ := hT.ex
  have HT := Lib.hid hT
  have hN := hT.size
  clear hT
  go_enter Try.func24, Try.ntmps24
  go_upto_region 2 with fail
  obtain ⟨w0, hw0⟩ : ∃ x, x = w.alloc (.cells #[.slice (some ⟨g, 0, none⟩) 14 cap] 40) := ⟨_, rfl⟩
  have H0 : Hid (Tab B N w0 (.slice (some ⟨g, 0, none⟩) 14 cap) T ∧ Kp B N w w0) := by subst hw0; exact ⟨HT.out.later _, (Fr.refl _ _).alloc _⟩
  have qt : w0.cell? ⟨w.heap.size, 0, none⟩ = some (.slice (some ⟨g, 0, none⟩) 14 cap) := by subst hw0; exact blk_cell (heap_alloc_new' w _) 0
  obtain ⟨bt, ebt⟩ : ∃ b, b = w.heap.size := ⟨_, rfl⟩
  have hbt : N ≤ bt := by omega
  rw [← hw0, ← ebt]
  rw [← ebt] at qt
  clear hw0 ebt HT
  replace hN := H0.out.1.size
  go_wp2_with fail
  refine (some_ _ _).mono ?_
  rintro x wx ⟨rfl, rfl⟩
  go_upto_region 3 with fail
  obtain ⟨b3, hb3⟩ : ∃ b, b = w0.heap.size := ⟨_, rfl⟩
  have V3 : Hid (RdN N (w0.alloc (.cells #[.int .i64 31] 3)) (.slice (some ⟨b3, 0, none⟩) 1 1) [31]) := RdN.new hb3 hN rfl rfl
  have Hn3 : Hid (Tab B N (w0.alloc (.cells #[.int .i64 31] 3)) (.slice (some ⟨g, 0, none⟩) 14 cap) T ∧ Kp B N w (w0.alloc (.cells #[.int .i64 31] 3))) := ⟨H0.out.1.later _, H0.out.2.alloc _⟩
  replace qt := cell_on qt ((Below.refl _ w0).alloc (Nat.le_refl _) (.cells #[.int .i64 31] 3))
  obtain ⟨w0a, hw0a⟩ : ∃ x, x = w0.alloc (.cells #[.int .i64 31] 3) := ⟨_, rfl⟩
  rw [← hw0a, ← hb3]
  rw [← hw0a] at V3 Hn3 qt
  clear hw0a hb3 H0
  replace hN := Hn3.out.1.size
  go_wp2_with fail
  refine (lay 10 31 13 [29, 14, 32] _ _ _ B N _ ⟨by decide, by decide, by decide, by decide⟩ ((Hn3.out.1.later _)) (RdN.new (by simp) (by first | omega | (simp; omega)) rfl rfl)).mono ?_
  rintro x w1 ⟨rfl, tj, kj⟩
  have H1 : Hid (Tab B N w1 (.slice (some ⟨g, 0, none⟩) 14 cap) (gI1 T) ∧ Kp B N w w1) := ⟨tj, (Hn3.out.2.alloc _).trans kj⟩
  have kk : Kp B N w0a w1 := ((Fr.refl _ w0a).alloc _).trans kj
  replace qt := Kp.cell kk qt hbt
  replace V3 := Lib.hid (V3.out.fr kk (Nat.le_refl _))
  replace hN := H1.out.1.size
  clear tj kj kk Hn3
  go_wp2_with fail
  refine (some_ _ _).mono ?_
  rintro x wx ⟨rfl, rfl⟩
  go_wp2_with fail
  refine (bothI bt 8 13 (-1) 23 24 _ _ _ [19, 18] [31] _ B N _ ((H1.out.1.later _)) (cell_on qt (((Below.refl _ w1).alloc (Nat.le_refl _) _))) (RdN.new (by simp) (by first | omega | (simp; omega)) rfl rfl) (V3.out.later _) hbt ⟨by decide, by decide, by decide, by decide⟩ (by decide)).mono ?_
  rintro x w2 ⟨rfl, tj, kj⟩
  have H2 : Hid (Tab B N w2 (.slice (some ⟨g, 0, none⟩) 14 cap) (gI2 T) ∧ Kp B N w w2) := ⟨tj, (H1.out.2.alloc _).trans kj⟩
  have kk : Kp B N w1 w2 := ((Fr.refl _ w1).alloc _).trans kj
  replace qt := Kp.cell kk qt hbt
  replace V3 := Lib.hid (V3.out.fr kk (Nat.le_refl _))
  replace hN := H2.out.1.size
  clear tj kj kk H1
  go_wp2_with fail
  refine (some_ _ _).mono ?_
  rintro x wx ⟨rfl, rfl⟩
  go_wp2_with fail
  refine (some_ _ _).mono ?_
  rintro x wx ⟨rfl, rfl⟩
  go_wp2_with fail
  refine (bothI bt 8 16 10 27 28 _ _ _ [19] [15, 31] _ B N _ (((H2.out.1.later _).later _)) (cell_on qt ((((Below.refl _ w2).alloc (Nat.le_refl _) _).alloc (by first | (simp; done) | (simp; omega)) _))) ((RdN.new (by simp) (by first | omega | (simp; omega)) rfl rfl).later _) (RdN.new (by simp) (by first | omega | (simp; omega)) rfl rfl) hbt ⟨by decide, by decide, by decide, by decide⟩ (by decide)).mono ?_
  rintro x w3 ⟨rfl, tj, kj⟩
  have H3 : Hid (Tab B N w3 (.slice (some ⟨g, 0, none⟩) 14 cap) (gI3 T) ∧ Kp B N w w3) := ⟨tj, ((H2.out.2.alloc _).alloc _).trans kj⟩
  have kk : Kp B N w2 w3 := (((Fr.refl _ w2).alloc _).alloc _).trans kj
  replace qt := Kp.cell kk qt hbt
  replace V3 := Lib.hid (V3.out.fr kk (Nat.le_refl _))
  replace hN := H3.out.1.size
  clear tj kj kk H2
  go_wp2_with fail
  refine (some_ _ _).mono ?_
  rintro x wx ⟨rfl, rfl⟩
  go_wp2_with fail
  refine (bothI bt 10 13 8 23 24 _ _ _ [19, 18, 16] [31] _ B N _ ((H3.out.1.later _)) (cell_on qt (((Below.refl _ w3).alloc (Nat.le_refl _) _))) (RdN.new (by simp) (by first | omega | (simp; omega)) rfl rfl) (V3.out.later _) hbt ⟨by decide, by decide, by decide, by decide⟩ (by decide)).mono ?_
  rintro x w4 ⟨rfl, tj, kj⟩
  have H4 : Hid (Tab B N w4 (.slice (some ⟨g, 0, none⟩) 14 cap) (gI4 T) ∧ Kp B N w w4) := ⟨tj, (H3.out.2.alloc _).trans kj⟩
  have kk : Kp B N w3 w4 := ((Fr.refl _ w3).alloc _).trans kj
  replace qt := Kp.cell kk qt hbt
  replace V3 := Lib.hid (V3.out.fr kk (Nat.le_refl _))
  replace hN := H4.out.1.size
  clear tj kj kk H3
  go_wp2_with fail
  refine (lay 10 16 (-1) [19, 31] _ _ _ B N _ ⟨by decide, by decide, by decide, by decide⟩ ((H4.out.1.later _)) (RdN.new (by simp) (by first | omega | (simp; omega)) rfl rfl)).mono ?_
  rintro x w5 ⟨rfl, tj, kj⟩
  have H5 : Hid (Tab B N w5 (.slice (some ⟨g, 0, none⟩) 14 cap) (gI5 T) ∧ Kp B N w w5) := ⟨tj, (H4.out.2.alloc _).trans kj⟩
  have kk : Kp B N w4 w5 := ((Fr.refl _ w4).alloc _).trans kj
  replace qt := Kp.cell kk qt hbt
  replace V3 := Lib.hid (V3.out.fr kk (Nat.le_refl _))
  replace hN := H5.out.1.size
  clear tj kj kk H4
  go_wp2_with fail
  refine (lay 10 17 (-1) [19, 24, 31] _ _ _ B N _ ⟨by decide, by decide, by decide, by decide⟩ ((H5.out.1.later _)) (RdN.new (by simp) (by first | omega | (simp; omega)) rfl rfl)).mono ?_
  rintro x w6 ⟨rfl, tj, kj⟩
  have H6 : Hid (Tab B N w6 (.slice (some ⟨g, 0, none⟩) 14 cap) (gI6 T) ∧ Kp B N w w6) := ⟨tj, (H5.out.2.alloc _).trans kj⟩
  have kk : Kp B N w5 w6 := ((Fr.refl _ w5).alloc _).trans kj
  replace qt := Kp.cell kk qt hbt
  replace V3 := Lib.hid (V3.out.fr kk (Nat.le_refl _))
  replace hN := H6.out.1.size
  clear tj kj kk H5
  go_wp2_with fail
  refine (some_ _ _).mono ?_
  rintro x wx ⟨rfl, rfl⟩
  go_wp2_with fail
  obtain ⟨b35, hb35⟩ : ∃ b, b = w6.heap.size := ⟨_, rfl⟩
  have V35 : Hid (RdN N (w6.alloc (.cells #[.int .i64 13, .int .i64 16] 3)) (.slice (some ⟨b35, 0, none⟩) 2 2) [13, 16]) := RdN.new hb35 hN rfl rfl
  have HR : Hid (Tab B N (w6.alloc (.cells #[.int .i64 13, .int .i64 16] 3)) (.slice (some ⟨g, 0, none⟩) 14 cap) (gI6 T) ∧ Kp B N w (w6.alloc (.cells #[.int .i64 13, .int .i64 16] 3))) := ⟨H6.out.1.later _, H6.out.2.alloc _⟩
  replace qt := cell_on qt ((Below.refl _ w6).alloc (Nat.le_refl _) (.cells #[.int .i64 13, .int .i64 16] 3))
  replace V3 := Lib.hid (V3.out.later (.cells #[.int .i64 13, .int .i64 16] 3))
  have Qt := Lib.hid qt
  clear qt
  obtain ⟨wz, hwz⟩ : ∃ x, x = w6.alloc (.cells #[.int .i64 13, .int .i64 16] 3) := ⟨_, rfl⟩
  rw [← hwz, ← hb35]
  rw [← hwz] at V35 HR Qt V3
  clear hwz hb35 H6
  go_loopw [37] (fun v37 wr => ∃ i : Nat, i ≤ [(13 : Int), 16].length ∧ v37 = .int .i64 i ∧ Hid (Tab B N wr (.slice (some ⟨g, 0, none⟩) 14 cap) (([13, 16].take i).foldl (fun T e => gJ2 e T) (gI6 T)) ∧ Kp B N w wr) ∧ Hid (wr.cell? ⟨bt, 0, none⟩ = some (.slice (some ⟨g, 0, none⟩) 14 cap)) ∧ Hid (RdN N wr (.slice (some ⟨b3, 0, none⟩) 1 1) [31]) ∧ Hid (RdN N wr (.slice (some ⟨b35, 0, none⟩) 2 2) [13, 16])) (fun v _ => 2 - (intOf v).toNat)
  case atStart => exact ⟨0, by decide, rfl, HR, Qt, V3, V35⟩
  case round =>
    clear HR Qt V3 V35 hN
    obtain ⟨i, hi, rfl, HR, Qt, V3, V35⟩ := hrel
    have hN := HR.out.1.size
    have qt := Qt.out
    clear Qt
    by_cases hlt : i < [(13 : Int), 16].length
    · have y := V35.out.at hlt
      have hm := List.getElem_mem hlt
      obtain ⟨e, he⟩ : ∃ e, e = [(13 : Int), 16][i] := ⟨_, rfl⟩
      rw [← he, Nat.zero_add] at y
      rw [← he] at hm
      have He : Hid (0 ≤ e ∧ e < 33) := by unfold Hid; simp at hm; omega
      have Hs : Hid (([13, 16].take (i + 1)).foldl (fun T e => gJ2 e T) (gI6 T) = gJ2 e (([13, 16].take i).foldl (fun T e => gJ2 e T) (gI6 T))) := by unfold Hid; rw [List.take_succ_eq_append_getElem hlt, List.foldl_append, ← he]; rfl
      obtain ⟨T1, hT1⟩ : ∃ X, X = ([13, 16].take i).foldl (fun T e => gJ2 e T) (gI6 T) := ⟨_, rfl⟩
      rw [← hT1] at HR Hs
      have hlt2 : i < 2 := hlt
      have hi1 : decide ((i : Int) < 2) = true := by simp; omega
      clear hm he hT1 hlt hi
      go_wp2_with fail
      refine (some_ _ _).mono ?_
      rintro x wx ⟨rfl, rfl⟩
      go_wp2_with fail
      refine (bothI bt 9 e (-1) 25 26 _ _ _ [19] [31] _ B N _ ((HR.out.1.later _)) (cell_on qt (((Below.refl _ wr).alloc (Nat.le_refl _) _))) (RdN.new (by simp) (by first | omega | (simp; omega)) rfl rfl) (V3.out.later _) hbt ⟨by decide, by decide, He.out.1, (by have := He.out.2; omega)⟩ (by decide)).mono ?_
      rintro x w1 ⟨rfl, tj, kj⟩
      have H1 : Hid (Tab B N w1 (.slice (some ⟨g, 0, none⟩) 14 cap) (gJ1 e T1) ∧ Kp B N w w1) := ⟨tj, (HR.out.2.alloc _).trans kj⟩
      have kk : Kp B N wr w1 := ((Fr.refl _ wr).alloc _).trans kj
      replace qt := Kp.cell kk qt hbt
      replace V3 := Lib.hid (V3.out.fr kk (Nat.le_refl _))
      replace V35 := Lib.hid (V35.out.fr kk (Nat.le_refl _))
      replace hN := H1.out.1.size
      clear tj kj kk HR
      go_wp2_with fail
      refine (some_ _ _).mono ?_
      rintro x wx ⟨rfl, rfl⟩
      go_wp2_with fail
      refine (bothI bt 12 e (-1) 25 26 _ _ _ [19] [] _ B N _ ((H1.out.1.later _)) (cell_on qt (((Below.refl _ w1).alloc (Nat.le_refl _) _))) (RdN.new (by simp) (by first | omega | (simp; omega)) rfl rfl) (RdN.nil _ _) hbt ⟨by decide, by decide, He.out.1, (by have := He.out.2; omega)⟩ (by decide)).mono ?_
      rintro x w2 ⟨rfl, tj, kj⟩
      have H2 : Hid (Tab B N w2 (.slice (some ⟨g, 0, none⟩) 14 cap) (gJ2 e T1) ∧ Kp B N w w2) := ⟨tj, (H1.out.2.alloc _).trans kj⟩
      have kk : Kp B N w1 w2 := ((Fr.refl _ w1).alloc _).trans kj
      replace qt := Kp.cell kk qt hbt
      replace V3 := Lib.hid (V3.out.fr kk (Nat.le_refl _))
      replace V35 := Lib.hid (V35.out.fr kk (Nat.le_refl _))
      replace hN := H2.out.1.size
      clear tj kj kk H1
      have fin : Hid (Tab B N w2 (.slice (some ⟨g, 0, none⟩) 14 cap) (([13, 16].take (i + 1)).foldl (fun T e => gJ2 e T) (gI6 T)) ∧ Kp B N w w2) := by rw [Hs.out]; exact H2.out
      have Qt := Lib.hid qt
      clear qt Hs
      go_wp2_with fail
      go_roundw
      case rel => exact ⟨i + 1, by simp; omega, by go_num, fin, Qt, V3, V35⟩
      case measure => simp [intOf]; omega
    · obtain rfl : i = 2 := by simp at hi hlt; omega
      rw [show ([(13 : Int), 16].take 2) = [13, 16] from rfl] at HR
      obtain ⟨T2, hT2⟩ : ∃ X, X = [(13 : Int), 16].foldl (fun T e => gJ2 e T) (gI6 T) := ⟨_, rfl⟩
      have Ht2 := Lib.hid hT2
      rw [← hT2] at HR
      clear hT2 hi hlt V35
      go_wp2_with fail
      refine (some_ _ _).mono ?_
      rintro x wx ⟨rfl, rfl⟩
      go_wp2_with fail
      refine (bothI bt 11 13 (-1) 23 24 _ _ _ [19, 18] [] _ B N _ ((HR.out.1.later _)) (cell_on qt (((Below.refl _ wr).alloc (Nat.le_refl _) _))) (RdN.new (by simp) (by first | omega | (simp; omega)) rfl rfl) (RdN.nil _ _) hbt ⟨by decide, by decide, by decide, by decide⟩ (by decide)).mono ?_
      rintro x w1 ⟨rfl, tj, kj⟩
      have H1 : Hid (Tab B N w1 (.slice (some ⟨g, 0, none⟩) 14 cap) (gK1 T2) ∧ Kp B N w w1) := ⟨tj, (HR.out.2.alloc _).trans kj⟩
      have kk : Kp B N wr w1 := ((Fr.refl _ wr).alloc _).trans kj
      replace qt := Kp.cell kk qt hbt
      replace V3 := Lib.hid (V3.out.fr kk (Nat.le_refl _))
      replace hN := H1.out.1.size
      clear tj kj kk HR
      go_wp2_with fail
      refine (some_ _ _).mono ?_
      rintro x wx ⟨rfl, rfl⟩
      go_wp2_with fail
      refine (some_ _ _).mono ?_
      rintro x wx ⟨rfl, rfl⟩
      go_wp2_with fail
      refine (bothI bt 11 16 13 27 28 _ _ _ [19] [15] _ B N _ (((H1.out.1.later _).later _)) (cell_on qt ((((Below.refl _ w1).alloc (Nat.le_refl _) _).alloc (by first | (simp; done) | (simp; omega)) _))) ((RdN.new (by simp) (by first | omega | (simp; omega)) rfl rfl).later _) (RdN.new (by simp) (by first | omega | (simp; omega)) rfl rfl) hbt ⟨by decide, by decide, by decide, by decide⟩ (by decide)).mono ?_
      rintro x w2 ⟨rfl, tj, kj⟩
      have H2 : Hid (Tab B N w2 (.slice (some ⟨g, 0, none⟩) 14 cap) (gK2 T2) ∧ Kp B N w w2) := ⟨tj, ((H1.out.2.alloc _).alloc _).trans kj⟩
      have kk : Kp B N w1 w2 := (((Fr.refl _ w1).alloc _).alloc _).trans kj
      replace qt := Kp.cell kk qt hbt
      replace V3 := Lib.hid (V3.out.fr kk (Nat.le_refl _))
      replace hN := H2.out.1.size
      clear tj kj kk H1
      go_wp2_with fail
      refine (some_ _ _).mono ?_
      rintro x wx ⟨rfl, rfl⟩
      go_wp2_with fail
      refine (bothI bt 13 13 11 23 24 _ _ _ [19, 18, 16] [] _ B N _ ((H2.out.1.later _)) (cell_on qt (((Below.refl _ w2).alloc (Nat.le_refl _) _))) (RdN.new (by simp) (by first | omega | (simp; omega)) rfl rfl) (RdN.nil _ _) hbt ⟨by decide, by decide, by decide, by decide⟩ (by decide)).mono ?_
      rintro x w3 ⟨rfl, tj, kj⟩
      have H3 : Hid (Tab B N w3 (.slice (some ⟨g, 0, none⟩) 14 cap) (gK3 T2) ∧ Kp B N w w3) := ⟨tj, (H2.out.2.alloc _).trans kj⟩
      have kk : Kp B N w2 w3 := ((Fr.refl _ w2).alloc _).trans kj
      replace qt := Kp.cell kk qt hbt
      replace V3 := Lib.hid (V3.out.fr kk (Nat.le_refl _))
      replace hN := H3.out.1.size
      clear tj kj kk H2
      go_wp2_with fail
      refine (lay 13 16 (-1) [19] _ _ _ B N _ ⟨by decide, by decide, by decide, by decide⟩ ((H3.out.1.later _)) (RdN.new (by simp) (by first | omega | (simp; omega)) rfl rfl)).mono ?_
      rintro x w4 ⟨rfl, tj, kj⟩
      have H4 : Hid (Tab B N w4 (.slice (some ⟨g, 0, none⟩) 14 cap) (gK4 T2) ∧ Kp B N w w4) := ⟨tj, (H3.out.2.alloc _).trans kj⟩
      have kk : Kp B N w3 w4 := ((Fr.refl _ w3).alloc _).trans kj
      replace qt := Kp.cell kk qt hbt
      replace V3 := Lib.hid (V3.out.fr kk (Nat.le_refl _))
      replace hN := H4.out.1.size
      clear tj kj kk H3
      go_wp2_with fail
      refine (lay 13 17 (-1) [19, 24] _ _ _ B N _ ⟨by decide, by decide, by decide, by decide⟩ ((H4.out.1.later _)) (RdN.new (by simp) (by first | omega | (simp; omega)) rfl rfl)).mono ?_
      rintro x w5 ⟨rfl, tj, kj⟩
      have H5 : Hid (Tab B N w5 (.slice (some ⟨g, 0, none⟩) 14 cap) (gK5 T2) ∧ Kp B N w w5) := ⟨tj, (H4.out.2.alloc _).trans kj⟩
      have kk : Kp B N w4 w5 := ((Fr.refl _ w4).alloc _).trans kj
      replace qt := Kp.cell kk qt hbt
      replace V3 := Lib.hid (V3.out.fr kk (Nat.le_refl _))
      replace hN := H5.out.1.size
      clear tj kj kk H4
      go_wp2_with fail
      refine (lay 11 15 8 [20, 19, 18, 22, 33, 23, 31] _ _ _ B N _ ⟨by decide, by decide, by decide, by decide⟩ ((H5.out.1.later _)) (RdN.new (by simp) (by first | omega | (simp; omega)) rfl rfl)).mono ?_
      rintro x w6 ⟨rfl, tj, kj⟩
      have H6 : Hid (Tab B N w6 (.slice (some ⟨g, 0, none⟩) 14 cap) (gK6 T2) ∧ Kp B N w w6) := ⟨tj, (H5.out.2.alloc _).trans kj⟩
      have kk : Kp B N w5 w6 := ((Fr.refl _ w5).alloc _).trans kj
      replace qt := Kp.cell kk qt hbt
      replace V3 := Lib.hid (V3.out.fr kk (Nat.le_refl _))
      replace hN := H6.out.1.size
      clear tj kj kk H5
      go_wp2_with fail
      refine (lay 11 18 10 [20, 19, 22, 33, 27, 15, 31] _ _ _ B N _ ⟨by decide, by decide, by decide, by decide⟩ ((H6.out.1.later _)) (RdN.new (by simp) (by first | omega | (simp; omega)) rfl rfl)).mono ?_
      rintro x w7 ⟨rfl, tj, kj⟩
      have H7 : Hid (Tab B N w7 (.slice (some ⟨g, 0, none⟩) 14 cap) (gK7 T2) ∧ Kp B N w w7) := ⟨tj, (H6.out.2.alloc _).trans kj⟩
      have kk : Kp B N w6 w7 := ((Fr.refl _ w6).alloc _).trans kj
      replace qt := Kp.cell kk qt hbt
      replace V3 := Lib.hid (V3.out.fr kk (Nat.le_refl _))
      replace hN := H7.out.1.size
      clear tj kj kk H6
      go_wp2_with fail
      refine (lay 13 15 8 [20, 19, 18, 16, 22, 33, 23, 31] _ _ _ B N _ ⟨by decide, by decide, by decide, by decide⟩ ((H7.out.1.later _)) (RdN.new (by simp) (by first | omega | (simp; omega)) rfl rfl)).mono ?_
      rintro x w8 ⟨rfl, tj, kj⟩
      have H8 : Hid (Tab B N w8 (.slice (some ⟨g, 0, none⟩) 14 cap) (gK8 T2) ∧ Kp B N w w8) := ⟨tj, (H7.out.2.alloc _).trans kj⟩
      have kk : Kp B N w7 w8 := ((Fr.refl _ w7).alloc _).trans kj
      replace qt := Kp.cell kk qt hbt
      replace V3 := Lib.hid (V3.out.fr kk (Nat.le_refl _))
      replace hN := H8.out.1.size
      clear tj kj kk H7
      go_wp2_with fail
      refine (lay 13 18 10 [20, 19, 22, 33, 31] _ _ _ B N _ ⟨by decide, by decide, by decide, by decide⟩ ((H8.out.1.later _)) (RdN.new (by simp) (by first | omega | (simp; omega)) rfl rfl)).mono ?_
      rintro x w9 ⟨rfl, tj, kj⟩
      have H9 : Hid (Tab B N w9 (.slice (some ⟨g, 0, none⟩) 14 cap) (gK9 T2) ∧ Kp B N w w9) := ⟨tj, (H8.out.2.alloc _).trans kj⟩
      have kk : Kp B N w8 w9 := ((Fr.refl _ w8).alloc _).trans kj
      replace qt := Kp.cell kk qt hbt
      replace V3 := Lib.hid (V3.out.fr kk (Nat.le_refl _))
      replace hN := H9.out.1.size
      clear tj kj kk H8
      go_wp2_with fail
      have lt_qt := World.block_lt_of_cell? w9 _ qt
      have ne_qt := World.new_ne w9 _ qt
      simp only at lt_qt ne_qt
      have nx_bt1 : ¬ bt = w9.heap.size + 1 := by omega
      have nx_bt2 : ¬ bt = w9.heap.size + 2 := by omega
      go_region_held3 (fun w' => w'.cell? ⟨bt, 0, none⟩ = some (.slice (some ⟨g, 0, none⟩) 14 cap)) (first | assumption | (with_reducible exact cellD (qt)) | (with_reducible exact cellD (cellA (qt))) | (with_reducible exact cellD (cellA (cellA (qt)))) | (with_reducible exact cellD (cellA (cellA (cellA (qt))))) | fail)
        (first
        | (go_at_call 41; refine (some_ _ _).mono ?_; rintro x w1 ⟨rfl, rfl⟩)
        | (go_at_call 40
           refine (each _ _ _ _ [12] [15, 18] [20, 19, 22, 33, 25, 31] 9 _ B N _ ?_ ?_ ?_ ((((H9.out.1.later _).later _).later _)).drew (by decide) (by decide) (by decide) (by decide) (by decide)).mono ?_
           · first
             | (refine rdC ?_ ?_ ?_ ?_ <;> first | rfl | omega | (simp; done) | (simp; omega) | fail)
             | (refine rdB ?_ ?_ ?_ ?_ <;> first | rfl | omega | (simp; done) | (simp; omega) | fail)
             | (refine rdA ?_ ?_ ?_ ?_ <;> first | rfl | omega | (simp; done) | (simp; omega) | fail)
             | fail
           · first
             | (refine rdC ?_ ?_ ?_ ?_ <;> first | rfl | omega | (simp; done) | (simp; omega) | fail)
             | (refine rdB ?_ ?_ ?_ ?_ <;> first | rfl | omega | (simp; done) | (simp; omega) | fail)
             | (refine rdA ?_ ?_ ?_ ?_ <;> first | rfl | omega | (simp; done) | (simp; omega) | fail)
             | fail
           · first
             | (refine rdC ?_ ?_ ?_ ?_ <;> first | rfl | omega | (simp; done) | (simp; omega) | fail)
             | (refine rdB ?_ ?_ ?_ ?_ <;> first | rfl | omega | (simp; done) | (simp; omega) | fail)
             | (refine rdA ?_ ?_ ?_ ?_ <;> first | rfl | omega | (simp; done) | (simp; omega) | fail)
             | fail
           rintro x w10 ⟨rfl, tj, kj⟩
           have H10 : Hid (Tab B N w10 (.slice (some ⟨g, 0, none⟩) 14 cap) (gK10 T2) ∧ Kp B N w w10) := ⟨tj, ((((H9.out.2.alloc _).alloc _).alloc _).drew).trans kj⟩
           have kk : Kp B N w9 w10 := (((((Fr.refl _ w9).alloc _).alloc _).alloc _).drew).trans kj
           have r_qt := Kp.cell kk qt hbt
           clear tj kj kk)
        | fail)
      all_goals
        go_wp2_with fail
        go_end0
        refine ⟨rfl, ?_⟩
        unfold infosT
        rw [← Ht2.out]
        exact H10.out

end Go.Proofs.Ytnafppdnapdbcaa
