/-
  Package grid: setup, busy.
-/
import Derived.Test.YtnafppdnapdbcaaGrd3
namespace Go.Proofs.Ytnafppdnapdbcaa
open Go.RowKit


def gS1 (T : GT) : GT := layT T 0 0 2 [0, 33, 13]
def gS2 (T : GT) : GT := layT (gS1 T) 0 8 1 [5]
def gS3 (T : GT) : GT := eachT (gS2 T) [0] [9, 20] (-1) [3]
def gS4 (T : GT) : GT := layT (gS3 T) 1 1 8 [2, 10]
def gS5 (T : GT) : GT := layT (gS4 T) 4 4 8 [2, 10]
def gS6 (T : GT) : GT := eachT (gS5 T) [1, 4] [2] 0 [3]
def gS7 (T : GT) : GT := eachT (gS6 T) [1, 4, 5] [9] 0 [2, 7]
def gS8 (T : GT) : GT := layT (gS7 T) 2 10 8 [12, 10, 6]
def gS9 (T : GT) : GT := layT (gS8 T) 3 10 8 [12, 10, 9]
def gS10 (T : GT) : GT := eachT (gS9 T) [2, 3] [11, 33] 0 [12, 7]
def gS11 (T : GT) : GT := eachT (gS10 T) [2, 3] [8] (-1) [2]
def gS12 (T : GT) : GT := eachT (gS11 T) [2, 3] [9] 0 [3, 12, 7]
def gS13 (T : GT) : GT := eachT (gS12 T) [2, 3] [29] (-1) [0, 32, 13]
def gS14 (T : GT) : GT := eachT (gS13 T) [2, 3, 5] [2] 6 [1, 33, 13]
def gS15 (T : GT) : GT := eachT (gS14 T) [4, 5] [11] 0 [7]
def gS16 (T : GT) : GT := layT (gS15 T) 5 3 3 [0, 33, 13]
def gS17 (T : GT) : GT := layT (gS16 T) 5 8 4 [8]
def gS18 (T : GT) : GT := eachT (gS17 T) [6] [10, 11, 33] 0 [12]
def gS19 (T : GT) : GT := layT (gS18 T) 6 8 0 [3, 12]
def gS20 (T : GT) : GT := layT (gS19 T) 6 9 (-1) [2]
def gS21 (T : GT) : GT := layT (gS20 T) 6 29 (-1) [1, 32, 13]
def gS22 (T : GT) : GT := layT (gS21 T) 7 9 0 [2, 12, 7]
def gS23 (T : GT) : GT := layT (gS22 T) 7 20 (-1) [4]
def gS24 (T : GT) : GT := layT (gS23 T) 7 29 (-1) [4, 32, 13]
def setupT (T : GT) : GT := gS24 T

set_option maxRecDepth 100000 in
set_option maxHeartbeats 8000000 in
theorem setup_walk (t : Value) (w : World) (B N : Nat) (T : GT) (hT : Tab B N w t T) : Calls Try.prog 19 #[t] w fun x w' => x = .returned (.tuple #[]) ∧ Tab B N w' t (setupT T) ∧ Kp B N w w' := by
  obtain ⟨g, cap, r, rfl, _⟩ := hT.ex
  have H0 : Hid (Tab B N w (.slice (some ⟨g, 0, none⟩) 14 cap) T ∧ Kp B N w w) := ⟨hT, Fr.refl _ _⟩
  have hN := H0.out.1.size
  clear hT
  go_enter Try.func19, Try.ntmps19
  go_wp2_with fail
  refine (lay 0 0 2 [0, 33, 13] _ _ _ B N _ ⟨by decide, by decide, by decide, by decide⟩ ((H0.out.1.later _)) (RdN.new (by simp) (by first | omega | (simp; omega)) rfl rfl)).mono ?_
  rintro x w1 ⟨rfl, tj, kj⟩
  have H1 : Hid (Tab B N w1 (.slice (some ⟨g, 0, none⟩) 14 cap) (gS1 T) ∧ Kp B N w w1) := ⟨tj, (H0.out.2.alloc _).trans kj⟩
  have kk : Kp B N w w1 := ((Fr.refl _ w).alloc _).trans kj
  replace hN := H1.out.1.size
  clear tj kj kk H0
  go_wp2_with fail
  refine (lay 0 8 1 [5] _ _ _ B N _ ⟨by decide, by decide, by decide, by decide⟩ ((H1.out.1.later _)) (RdN.new (by simp) (by first | omega | (simp; omega)) rfl rfl)).mono ?_
  rintro x w2 ⟨rfl, tj, kj⟩
  have H2 : Hid (Tab B N w2 (.slice (some ⟨g, 0, none⟩) 14 cap) (gS2 T) ∧ Kp B N w w2) := ⟨tj, (H1.out.2.alloc _).trans kj⟩
  have kk : Kp B N w1 w2 := ((Fr.refl _ w1).alloc _).trans kj
  replace hN := H2.out.1.size
  clear tj kj kk H1
  go_wp2_with fail
  refine (some_ _ _).mono ?_
  rintro x wx ⟨rfl, rfl⟩
  go_wp2_with fail
  refine (some_ _ _).mono ?_
  rintro x wx ⟨rfl, rfl⟩
  go_wp2_with fail
  refine (each _ _ _ _ [0] [9, 20] [3] (-1) _ B N _ (((RdN.new (by simp) (by first | omega | (simp; omega)) rfl rfl).later _).later _) ((RdN.new (by simp) (by first | omega | (simp; omega)) rfl rfl).later _) (RdN.new (by simp) (by first | omega | (simp; omega)) rfl rfl) ((((H2.out.1.later _).later _).later _)) (by decide) (by decide) (by decide) (by decide) (by decide)).mono ?_
  rintro x w3 ⟨rfl, tj, kj⟩
  have H3 : Hid (Tab B N w3 (.slice (some ⟨g, 0, none⟩) 14 cap) (gS3 T) ∧ Kp B N w w3) := ⟨tj, (((H2.out.2.alloc _).alloc _).alloc _).trans kj⟩
  have kk : Kp B N w2 w3 := ((((Fr.refl _ w2).alloc _).alloc _).alloc _).trans kj
  replace hN := H3.out.1.size
  clear tj kj kk H2
  go_wp2_with fail
  refine (lay 1 1 8 [2, 10] _ _ _ B N _ ⟨by decide, by decide, by decide, by decide⟩ ((H3.out.1.later _)) (RdN.new (by simp) (by first | omega | (simp; omega)) rfl rfl)).mono ?_
  rintro x w4 ⟨rfl, tj, kj⟩
  have H4 : Hid (Tab B N w4 (.slice (some ⟨g, 0, none⟩) 14 cap) (gS4 T) ∧ Kp B N w w4) := ⟨tj, (H3.out.2.alloc _).trans kj⟩
  have kk : Kp B N w3 w4 := ((Fr.refl _ w3).alloc _).trans kj
  replace hN := H4.out.1.size
  clear tj kj kk H3
  go_wp2_with fail
  refine (lay 4 4 8 [2, 10] _ _ _ B N _ ⟨by decide, by decide, by decide, by decide⟩ ((H4.out.1.later _)) (RdN.new (by simp) (by first | omega | (simp; omega)) rfl rfl)).mono ?_
  rintro x w5 ⟨rfl, tj, kj⟩
  have H5 : Hid (Tab B N w5 (.slice (some ⟨g, 0, none⟩) 14 cap) (gS5 T) ∧ Kp B N w w5) := ⟨tj, (H4.out.2.alloc _).trans kj⟩
  have kk : Kp B N w4 w5 := ((Fr.refl _ w4).alloc _).trans kj
  replace hN := H5.out.1.size
  clear tj kj kk H4
  go_wp2_with fail
  refine (some_ _ _).mono ?_
  rintro x wx ⟨rfl, rfl⟩
  go_wp2_with fail
  refine (some_ _ _).mono ?_
  rintro x wx ⟨rfl, rfl⟩
  go_wp2_with fail
  refine (each _ _ _ _ [1, 4] [2] [3] 0 _ B N _ (((RdN.new (by simp) (by first | omega | (simp; omega)) rfl rfl).later _).later _) ((RdN.new (by simp) (by first | omega | (simp; omega)) rfl rfl).later _) (RdN.new (by simp) (by first | omega | (simp; omega)) rfl rfl) ((((H5.out.1.later _).later _).later _)) (by decide) (by decide) (by decide) (by decide) (by decide)).mono ?_
  rintro x w6 ⟨rfl, tj, kj⟩
  have H6 : Hid (Tab B N w6 (.slice (some ⟨g, 0, none⟩) 14 cap) (gS6 T) ∧ Kp B N w w6) := ⟨tj, (((H5.out.2.alloc _).alloc _).alloc _).trans kj⟩
  have kk : Kp B N w5 w6 := ((((Fr.refl _ w5).alloc _).alloc _).alloc _).trans kj
  replace hN := H6.out.1.size
  clear tj kj kk H5
  go_wp2_with fail
  refine (some_ _ _).mono ?_
  rintro x wx ⟨rfl, rfl⟩
  go_wp2_with fail
  refine (some_ _ _).mono ?_
  rintro x wx ⟨rfl, rfl⟩
  go_wp2_with fail
  refine (each _ _ _ _ [1, 4, 5] [9] [2, 7] 0 _ B N _ (((RdN.new (by simp) (by first | omega | (simp; omega)) rfl rfl).later _).later _) ((RdN.new (by simp) (by first | omega | (simp; omega)) rfl rfl).later _) (RdN.new (by simp) (by first | omega | (simp; omega)) rfl rfl) ((((H6.out.1.later _).later _).later _)) (by decide) (by decide) (by decide) (by decide) (by decide)).mono ?_
  rintro x w7 ⟨rfl, tj, kj⟩
  have H7 : Hid (Tab B N w7 (.slice (some ⟨g, 0, none⟩) 14 cap) (gS7 T) ∧ Kp B N w w7) := ⟨tj, (((H6.out.2.alloc _).alloc _).alloc _).trans kj⟩
  have kk : Kp B N w6 w7 := ((((Fr.refl _ w6).alloc _).alloc _).alloc _).trans kj
  replace hN := H7.out.1.size
  clear tj kj kk H6
  go_wp2_with fail
  refine (lay 2 10 8 [12, 10, 6] _ _ _ B N _ ⟨by decide, by decide, by decide, by decide⟩ ((H7.out.1.later _)) (RdN.new (by simp) (by first | omega | (simp; omega)) rfl rfl)).mono ?_
  rintro x w8 ⟨rfl, tj, kj⟩
  have H8 : Hid (Tab B N w8 (.slice (some ⟨g, 0, none⟩) 14 cap) (gS8 T) ∧ Kp B N w w8) := ⟨tj, (H7.out.2.alloc _).trans kj⟩
  have kk : Kp B N w7 w8 := ((Fr.refl _ w7).alloc _).trans kj
  replace hN := H8.out.1.size
  clear tj kj kk H7
  go_wp2_with fail
  refine (lay 3 10 8 [12, 10, 9] _ _ _ B N _ ⟨by decide, by decide, by decide, by decide⟩ ((H8.out.1.later _)) (RdN.new (by simp) (by first | omega | (simp; omega)) rfl rfl)).mono ?_
  rintro x w9 ⟨rfl, tj, kj⟩
  have H9 : Hid (Tab B N w9 (.slice (some ⟨g, 0, none⟩) 14 cap) (gS9 T) ∧ Kp B N w w9) := ⟨tj, (H8.out.2.alloc _).trans kj⟩
  have kk : Kp B N w8 w9 := ((Fr.refl _ w8).alloc _).trans kj
  replace hN := H9.out.1.size
  clear tj kj kk H8
  go_wp2_with fail
  refine (some_ _ _).mono ?_
  rintro x wx ⟨rfl, rfl⟩
  go_upto_region 10 with fail
  obtain ⟨b2, hb2⟩ : ∃ b, b = w9.heap.size := ⟨_, rfl⟩
  have V2 : Hid (RdN N (w9.alloc (.cells #[.int .i64 2, .int .i64 3] 3)) (.slice (some ⟨b2, 0, none⟩) 2 2) [2, 3]) := RdN.new hb2 hN rfl rfl
  have Hn2 : Hid (Tab B N (w9.alloc (.cells #[.int .i64 2, .int .i64 3] 3)) (.slice (some ⟨g, 0, none⟩) 14 cap) (gS9 T) ∧ Kp B N w (w9.alloc (.cells #[.int .i64 2, .int .i64 3] 3))) := ⟨H9.out.1.later _, H9.out.2.alloc _⟩
  obtain ⟨w9a, hw9a⟩ : ∃ x, x = w9.alloc (.cells #[.int .i64 2, .int .i64 3] 3) := ⟨_, rfl⟩
  rw [← hw9a, ← hb2]
  rw [← hw9a] at V2 Hn2
  clear hw9a hb2 H9
  replace hN := Hn2.out.1.size
  go_wp2_with fail
  refine (some_ _ _).mono ?_
  rintro x wx ⟨rfl, rfl⟩
  go_wp2_with fail
  refine (each _ _ _ _ [2, 3] [11, 33] [12, 7] 0 _ B N _ ((V2.out.later _).later _) ((RdN.new (by simp) (by first | omega | (simp; omega)) rfl rfl).later _) (RdN.new (by simp) (by first | omega | (simp; omega)) rfl rfl) (((Hn2.out.1.later _).later _)) (by decide) (by decide) (by decide) (by decide) (by decide)).mono ?_
  rintro x w10 ⟨rfl, tj, kj⟩
  have H10 : Hid (Tab B N w10 (.slice (some ⟨g, 0, none⟩) 14 cap) (gS10 T) ∧ Kp B N w w10) := ⟨tj, ((Hn2.out.2.alloc _).alloc _).trans kj⟩
  have kk : Kp B N w9a w10 := (((Fr.refl _ w9a).alloc _).alloc _).trans kj
  replace V2 := Lib.hid (V2.out.fr kk (Nat.le_refl _))
  replace hN := H10.out.1.size
  clear tj kj kk Hn2
  go_wp2_with fail
  refine (some_ _ _).mono ?_
  rintro x wx ⟨rfl, rfl⟩
  go_wp2_with fail
  refine (each _ _ _ _ [2, 3] [8] [2] (-1) _ B N _ ((V2.out.later _).later _) ((RdN.new (by simp) (by first | omega | (simp; omega)) rfl rfl).later _) (RdN.new (by simp) (by first | omega | (simp; omega)) rfl rfl) (((H10.out.1.later _).later _)) (by decide) (by decide) (by decide) (by decide) (by decide)).mono ?_
  rintro x w11 ⟨rfl, tj, kj⟩
  have H11 : Hid (Tab B N w11 (.slice (some ⟨g, 0, none⟩) 14 cap) (gS11 T) ∧ Kp B N w w11) := ⟨tj, ((H10.out.2.alloc _).alloc _).trans kj⟩
  have kk : Kp B N w10 w11 := (((Fr.refl _ w10).alloc _).alloc _).trans kj
  replace V2 := Lib.hid (V2.out.fr kk (Nat.le_refl _))
  replace hN := H11.out.1.size
  clear tj kj kk H10
  go_wp2_with fail
  refine (some_ _ _).mono ?_
  rintro x wx ⟨rfl, rfl⟩
  go_wp2_with fail
  refine (each _ _ _ _ [2, 3] [9] [3, 12, 7] 0 _ B N _ ((V2.out.later _).later _) ((RdN.new (by simp) (by first | omega | (simp; omega)) rfl rfl).later _) (RdN.new (by simp) (by first | omega | (simp; omega)) rfl rfl) (((H11.out.1.later _).later _)) (by decide) (by decide) (by decide) (by decide) (by decide)).mono ?_
  rintro x w12 ⟨rfl, tj, kj⟩
  have H12 : Hid (Tab B N w12 (.slice (some ⟨g, 0, none⟩) 14 cap) (gS12 T) ∧ Kp B N w w12) := ⟨tj, ((H11.out.2.alloc _).alloc _).trans kj⟩
  have kk : Kp B N w11 w12 := (((Fr.refl _ w11).alloc _).alloc _).trans kj
  replace V2 := Lib.hid (V2.out.fr kk (Nat.le_refl _))
  replace hN := H12.out.1.size
  clear tj kj kk H11
  go_wp2_with fail
  refine (some_ _ _).mono ?_
  rintro x wx ⟨rfl, rfl⟩
  go_wp2_with fail
  refine (each _ _ _ _ [2, 3] [29] [0, 32, 13] (-1) _ B N _ ((V2.out.later _).later _) ((RdN.new (by simp) (by first | omega | (simp; omega)) rfl rfl).later _) (RdN.new (by simp) (by first | omega | (simp; omega)) rfl rfl) (((H12.out.1.later _).later _)) (by decide) (by decide) (by decide) (by decide) (by decide)).mono ?_
  rintro x w13 ⟨rfl, tj, kj⟩
  have H13 : Hid (Tab B N w13 (.slice (some ⟨g, 0, none⟩) 14 cap) (gS13 T) ∧ Kp B N w w13) := ⟨tj, ((H12.out.2.alloc _).alloc _).trans kj⟩
  have kk : Kp B N w12 w13 := (((Fr.refl _ w12).alloc _).alloc _).trans kj
  replace V2 := Lib.hid (V2.out.fr kk (Nat.le_refl _))
  replace hN := H13.out.1.size
  clear tj kj kk H12
  go_wp2_with fail
  refine (some_ _ _).mono ?_
  rintro x wx ⟨rfl, rfl⟩
  go_wp2_with fail
  refine (some_ _ _).mono ?_
  rintro x wx ⟨rfl, rfl⟩
  go_wp2_with fail
  refine (each _ _ _ _ [2, 3, 5] [2] [1, 33, 13] 6 _ B N _ (((RdN.new (by simp) (by first | omega | (simp; omega)) rfl rfl).later _).later _) ((RdN.new (by simp) (by first | omega | (simp; omega)) rfl rfl).later _) (RdN.new (by simp) (by first | omega | (simp; omega)) rfl rfl) ((((H13.out.1.later _).later _).later _)) (by decide) (by decide) (by decide) (by decide) (by decide)).mono ?_
  rintro x w14 ⟨rfl, tj, kj⟩
  have H14 : Hid (Tab B N w14 (.slice (some ⟨g, 0, none⟩) 14 cap) (gS14 T) ∧ Kp B N w w14) := ⟨tj, (((H13.out.2.alloc _).alloc _).alloc _).trans kj⟩
  have kk : Kp B N w13 w14 := ((((Fr.refl _ w13).alloc _).alloc _).alloc _).trans kj
  replace V2 := Lib.hid (V2.out.fr kk (Nat.le_refl _))
  replace hN := H14.out.1.size
  clear tj kj kk H13
  go_wp2_with fail
  refine (some_ _ _).mono ?_
  rintro x wx ⟨rfl, rfl⟩
  go_wp2_with fail
  refine (some_ _ _).mono ?_
  rintro x wx ⟨rfl, rfl⟩
  go_wp2_with fail
  refine (each _ _ _ _ [4, 5] [11] [7] 0 _ B N _ (((RdN.new (by simp) (by first | omega | (simp; omega)) rfl rfl).later _).later _) ((RdN.new (by simp) (by first | omega | (simp; omega)) rfl rfl).later _) (RdN.new (by simp) (by first | omega | (simp; omega)) rfl rfl) ((((H14.out.1.later _).later _).later _)) (by decide) (by decide) (by decide) (by decide) (by decide)).mono ?_
  rintro x w15 ⟨rfl, tj, kj⟩
  have H15 : Hid (Tab B N w15 (.slice (some ⟨g, 0, none⟩) 14 cap) (gS15 T) ∧ Kp B N w w15) := ⟨tj, (((H14.out.2.alloc _).alloc _).alloc _).trans kj⟩
  have kk : Kp B N w14 w15 := ((((Fr.refl _ w14).alloc _).alloc _).alloc _).trans kj
  replace V2 := Lib.hid (V2.out.fr kk (Nat.le_refl _))
  replace hN := H15.out.1.size
  clear tj kj kk H14
  go_wp2_with fail
  refine (lay 5 3 3 [0, 33, 13] _ _ _ B N _ ⟨by decide, by decide, by decide, by decide⟩ ((H15.out.1.later _)) (RdN.new (by simp) (by first | omega | (simp; omega)) rfl rfl)).mono ?_
  rintro x w16 ⟨rfl, tj, kj⟩
  have H16 : Hid (Tab B N w16 (.slice (some ⟨g, 0, none⟩) 14 cap) (gS16 T) ∧ Kp B N w w16) := ⟨tj, (H15.out.2.alloc _).trans kj⟩
  have kk : Kp B N w15 w16 := ((Fr.refl _ w15).alloc _).trans kj
  replace V2 := Lib.hid (V2.out.fr kk (Nat.le_refl _))
  replace hN := H16.out.1.size
  clear tj kj kk H15
  go_wp2_with fail
  refine (lay 5 8 4 [8] _ _ _ B N _ ⟨by decide, by decide, by decide, by decide⟩ ((H16.out.1.later _)) (RdN.new (by simp) (by first | omega | (simp; omega)) rfl rfl)).mono ?_
  rintro x w17 ⟨rfl, tj, kj⟩
  have H17 : Hid (Tab B N w17 (.slice (some ⟨g, 0, none⟩) 14 cap) (gS17 T) ∧ Kp B N w w17) := ⟨tj, (H16.out.2.alloc _).trans kj⟩
  have kk : Kp B N w16 w17 := ((Fr.refl _ w16).alloc _).trans kj
  replace V2 := Lib.hid (V2.out.fr kk (Nat.le_refl _))
  replace hN := H17.out.1.size
  clear tj kj kk H16
  go_wp2_with fail
  refine (some_ _ _).mono ?_
  rintro x wx ⟨rfl, rfl⟩
  go_wp2_with fail
  refine (some_ _ _).mono ?_
  rintro x wx ⟨rfl, rfl⟩
  go_wp2_with fail
  refine (each _ _ _ _ [6] [10, 11, 33] [12] 0 _ B N _ (((RdN.new (by simp) (by first | omega | (simp; omega)) rfl rfl).later _).later _) ((RdN.new (by simp) (by first | omega | (simp; omega)) rfl rfl).later _) (RdN.new (by simp) (by first | omega | (simp; omega)) rfl rfl) ((((H17.out.1.later _).later _).later _)) (by decide) (by decide) (by decide) (by decide) (by decide)).mono ?_
  rintro x w18 ⟨rfl, tj, kj⟩
  have H18 : Hid (Tab B N w18 (.slice (some ⟨g, 0, none⟩) 14 cap) (gS18 T) ∧ Kp B N w w18) := ⟨tj, (((H17.out.2.alloc _).alloc _).alloc _).trans kj⟩
  have kk : Kp B N w17 w18 := ((((Fr.refl _ w17).alloc _).alloc _).alloc _).trans kj
  replace V2 := Lib.hid (V2.out.fr kk (Nat.le_refl _))
  replace hN := H18.out.1.size
  clear tj kj kk H17
  go_wp2_with fail
  refine (lay 6 8 0 [3, 12] _ _ _ B N _ ⟨by decide, by decide, by decide, by decide⟩ ((H18.out.1.later _)) (RdN.new (by simp) (by first | omega | (simp; omega)) rfl rfl)).mono ?_
  rintro x w19 ⟨rfl, tj, kj⟩
  have H19 : Hid (Tab B N w19 (.slice (some ⟨g, 0, none⟩) 14 cap) (gS19 T) ∧ Kp B N w w19) := ⟨tj, (H18.out.2.alloc _).trans kj⟩
  have kk : Kp B N w18 w19 := ((Fr.refl _ w18).alloc _).trans kj
  replace V2 := Lib.hid (V2.out.fr kk (Nat.le_refl _))
  replace hN := H19.out.1.size
  clear tj kj kk H18
  go_wp2_with fail
  refine (lay 6 9 (-1) [2] _ _ _ B N _ ⟨by decide, by decide, by decide, by decide⟩ ((H19.out.1.later _)) (RdN.new (by simp) (by first | omega | (simp; omega)) rfl rfl)).mono ?_
  rintro x w20 ⟨rfl, tj, kj⟩
  have H20 : Hid (Tab B N w20 (.slice (some ⟨g, 0, none⟩) 14 cap) (gS20 T) ∧ Kp B N w w20) := ⟨tj, (H19.out.2.alloc _).trans kj⟩
  have kk : Kp B N w19 w20 := ((Fr.refl _ w19).alloc _).trans kj
  replace V2 := Lib.hid (V2.out.fr kk (Nat.le_refl _))
  replace hN := H20.out.1.size
  clear tj kj kk H19
  go_wp2_with fail
  refine (lay 6 29 (-1) [1, 32, 13] _ _ _ B N _ ⟨by decide, by decide, by decide, by decide⟩ ((H20.out.1.later _)) (RdN.new (by simp) (by first | omega | (simp; omega)) rfl rfl)).mono ?_
  rintro x w21 ⟨rfl, tj, kj⟩
  have H21 : Hid (Tab B N w21 (.slice (some ⟨g, 0, none⟩) 14 cap) (gS21 T) ∧ Kp B N w w21) := ⟨tj, (H20.out.2.alloc _).trans kj⟩
  have kk : Kp B N w20 w21 := ((Fr.refl _ w20).alloc _).trans kj
  replace V2 := Lib.hid (V2.out.fr kk (Nat.le_refl _))
  replace hN := H21.out.1.size
  clear tj kj kk H20
  go_wp2_with fail
  refine (lay 7 9 0 [2, 12, 7] _ _ _ B N _ ⟨by decide, by decide, by decide, by decide⟩ ((H21.out.1.later _)) (RdN.new (by simp) (by first | omega | (simp; omega)) rfl rfl)).mono ?_
  rintro x w22 ⟨rfl, tj, kj⟩
  have H22 : Hid (Tab B N w22 (.slice (some ⟨g, 0, none⟩) 14 cap) (gS22 T) ∧ Kp B N w w22) := ⟨tj, (H21.out.2.alloc _).trans kj⟩
  have kk : Kp B N w21 w22 := ((Fr.refl _ w21).alloc _).trans kj
  replace V2 := Lib.hid (V2.out.fr kk (Nat.le_refl _))
  replace hN := H22.out.1.size
  clear tj kj kk H21
  go_wp2_with fail
  refine (lay 7 20 (-1) [4] _ _ _ B N _ ⟨by decide, by decide, by decide, by decide⟩ ((H22.out.1.later _)) (RdN.new (by simp) (by first | omega | (simp; omega)) rfl rfl)).mono ?_
  rintro x w23 ⟨rfl, tj, kj⟩
  have H23 : Hid (Tab B N w23 (.slice (some ⟨g, 0, none⟩) 14 cap) (gS23 T) ∧ Kp B N w w23) := ⟨tj, (H22.out.2.alloc _).trans kj⟩
  have kk : Kp B N w22 w23 := ((Fr.refl _ w22).alloc _).trans kj
  replace V2 := Lib.hid (V2.out.fr kk (Nat.le_refl _))
  replace hN := H23.out.1.size
  clear tj kj kk H22
  go_wp2_with fail
  refine (lay 7 29 (-1) [4, 32, 13] _ _ _ B N _ ⟨by decide, by decide, by decide, by decide⟩ ((H23.out.1.later _)) (RdN.new (by simp) (by first | omega | (simp; omega)) rfl rfl)).mono ?_
  rintro x w24 ⟨rfl, tj, kj⟩
  have H24 : Hid (Tab B N w24 (.slice (some ⟨g, 0, none⟩) 14 cap) (gS24 T) ∧ Kp B N w w24) := ⟨tj, (H23.out.2.alloc _).trans kj⟩
  have kk : Kp B N w23 w24 := ((Fr.refl _ w23).alloc _).trans kj
  replace V2 := Lib.hid (V2.out.fr kk (Nat.le_refl _))
  replace hN := H24.out.1.size
  clear tj kj kk H23
  go_wp2_with fail
  go_end0
  exact ⟨rfl, H24.out⟩

def gU1 (T : GT) : GT := layT T 8 6 9 [25]
def gU2 (T : GT) : GT := layT (gU1 T) 10 6 9 [16, 25]
def gU3 (T : GT) : GT := layT (gU2 T) 11 6 12 [25]
def gU4 (T : GT) : GT := layT (gU3 T) 13 6 12 [16, 25]
def gU5 (T : GT) : GT := layT (gU4 T) 9 7 8 [23]
def gU6 (T : GT) : GT := layT (gU5 T) 12 7 11 [23]
def busyT (T : GT) : GT := gU6 T

set_option maxRecDepth 100000 in
set_option maxHeartbeats 8000000 in
theorem busy_walk (t : Value) (w : World) (B N : Nat) (T : GT) (hT : Tab B N w t T) : Calls Try.prog 21 #[t] w fun x w' => x = .returned (.tuple #[]) ∧ Tab B N w' t (busyT T) ∧ Kp B N w w' := by
  obtain ⟨g, cap, r, rfl, _⟩ := hT.ex
  have H0 : Hid (Tab B N w (.slice (some ⟨g, 0, none⟩) 14 cap) T ∧ Kp B N w w) := ⟨hT, Fr.refl _ _⟩
  have hN := H0.out.1.size
  clear hT
  go_enter Try.func21, Try.ntmps21
  go_wp2_with fail
  refine (lay 8 6 9 [25] _ _ _ B N _ ⟨by decide, by decide, by decide, by decide⟩ ((H0.out.1.later _)) (RdN.new (by simp) (by first | omega | (simp; omega)) rfl rfl)).mono ?_
  rintro x w1 ⟨rfl, tj, kj⟩
  have H1 : Hid (Tab B N w1 (.slice (some ⟨g, 0, none⟩) 14 cap) (gU1 T) ∧ Kp B N w w1) := ⟨tj, (H0.out.2.alloc _).trans kj⟩
  have kk : Kp B N w w1 := ((Fr.refl _ w).alloc _).trans kj
  replace hN := H1.out.1.size
  clear tj kj kk H0
  go_wp2_with fail
  refine (lay 10 6 9 [16, 25] _ _ _ B N _ ⟨by decide, by decide, by decide, by decide⟩ ((H1.out.1.later _)) (RdN.new (by simp) (by first | omega | (simp; omega)) rfl rfl)).mono ?_
  rintro x w2 ⟨rfl, tj, kj⟩
  have H2 : Hid (Tab B N w2 (.slice (some ⟨g, 0, none⟩) 14 cap) (gU2 T) ∧ Kp B N w w2) := ⟨tj, (H1.out.2.alloc _).trans kj⟩
  have kk : Kp B N w1 w2 := ((Fr.refl _ w1).alloc _).trans kj
  replace hN := H2.out.1.size
  clear tj kj kk H1
  go_wp2_with fail
  refine (lay 11 6 12 [25] _ _ _ B N _ ⟨by decide, by decide, by decide, by decide⟩ ((H2.out.1.later _)) (RdN.new (by simp) (by first | omega | (simp; omega)) rfl rfl)).mono ?_
  rintro x w3 ⟨rfl, tj, kj⟩
  have H3 : Hid (Tab B N w3 (.slice (some ⟨g, 0, none⟩) 14 cap) (gU3 T) ∧ Kp B N w w3) := ⟨tj, (H2.out.2.alloc _).trans kj⟩
  have kk : Kp B N w2 w3 := ((Fr.refl _ w2).alloc _).trans kj
  replace hN := H3.out.1.size
  clear tj kj kk H2
  go_wp2_with fail
  refine (lay 13 6 12 [16, 25] _ _ _ B N _ ⟨by decide, by decide, by decide, by decide⟩ ((H3.out.1.later _)) (RdN.new (by simp) (by first | omega | (simp; omega)) rfl rfl)).mono ?_
  rintro x w4 ⟨rfl, tj, kj⟩
  have H4 : Hid (Tab B N w4 (.slice (some ⟨g, 0, none⟩) 14 cap) (gU4 T) ∧ Kp B N w w4) := ⟨tj, (H3.out.2.alloc _).trans kj⟩
  have kk : Kp B N w3 w4 := ((Fr.refl _ w3).alloc _).trans kj
  replace hN := H4.out.1.size
  clear tj kj kk H3
  go_wp2_with fail
  refine (lay 9 7 8 [23] _ _ _ B N _ ⟨by decide, by decide, by decide, by decide⟩ ((H4.out.1.later _)) (RdN.new (by simp) (by first | omega | (simp; omega)) rfl rfl)).mono ?_
  rintro x w5 ⟨rfl, tj, kj⟩
  have H5 : Hid (Tab B N w5 (.slice (some ⟨g, 0, none⟩) 14 cap) (gU5 T) ∧ Kp B N w w5) := ⟨tj, (H4.out.2.alloc _).trans kj⟩
  have kk : Kp B N w4 w5 := ((Fr.refl _ w4).alloc _).trans kj
  replace hN := H5.out.1.size
  clear tj kj kk H4
  go_wp2_with fail
  refine (lay 12 7 11 [23] _ _ _ B N _ ⟨by decide, by decide, by decide, by decide⟩ ((H5.out.1.later _)) (RdN.new (by simp) (by first | omega | (simp; omega)) rfl rfl)).mono ?_
  rintro x w6 ⟨rfl, tj, kj⟩
  have H6 : Hid (Tab B N w6 (.slice (some ⟨g, 0, none⟩) 14 cap) (gU6 T) ∧ Kp B N w w6) := ⟨tj, (H5.out.2.alloc _).trans kj⟩
  have kk : Kp B N w5 w6 := ((Fr.refl _ w5).alloc _).trans kj
  replace hN := H6.out.1.size
  clear tj kj kk H5
  go_wp2_with fail
  go_end0
  exact ⟨rfl, H6.out⟩

end Go.Proofs.Ytnafppdnapdbcaa
