/-
  Package grid: shared.
-/
import Derived.Test.YtnafppdnapdbcaaGrd3
namespace Go.Proofs.Ytnafppdnapdbcaa
open Go.RowKit


def gD1 (T : GT) : GT := eachT T [7, 8, 9, 10, 11, 12, 13] [3] 3 [12, 0, 33, 13]
def gD2 (T : GT) : GT := eachT (gD1 T) [7, 8, 9, 10, 11, 12, 13] [2] 6 [12, 1, 33, 13]
def gD3 (T : GT) : GT := eachT (gD2 T) [7, 8, 9, 10, 11, 12, 13] [8] 4 [12, 8]
def gD4 (T : GT) : GT := eachT (gD3 T) [7, 8, 9, 10, 11, 12, 13] [11] 0 [12, 7]
def gD5 (T : GT) : GT := eachT (gD4 T) [7, 8, 9, 10, 11, 12, 13] [12, 33] 5 [12, 8]
def gD6 (T : GT) : GT := eachT (gD5 T) [8, 9, 10, 11, 12, 13] [9] 0 [12, 2, 7]
def gD7 (T : GT) : GT := eachT (gD6 T) [8, 9, 10, 11, 12, 13] [28] 7 [12, 4, 33, 13]
def sharedT (T : GT) : GT := gD7 T

set_option maxRecDepth 100000 in
set_option maxHeartbeats 8000000 in
theorem shared_walk (t : Value) (w : World) (B N : Nat) (T : GT) (hT : Tab B N w t T) : Calls Try.prog 20 #[t] w fun x w' => x = .returned (.tuple #[]) ∧ Tab B N w' t (sharedT T) ∧ Kp B N w w' := by
  obtain ⟨g, cap, r, rfl, _⟩ := hT.ex
  have H0 : Hid (Tab B N w (.slice (some ⟨g, 0, none⟩) 14 cap) T ∧ Kp B N w w) := ⟨hT, Fr.refl _ _⟩
  have hN := H0.out.1.size
  clear hT
  go_enter Try.func20, Try.ntmps20
  go_wp2_with fail
  refine (some_ _ _).mono ?_
  rintro x wx ⟨rfl, rfl⟩
  go_upto_region 1 with fail
  obtain ⟨b2, hb2⟩ : ∃ b, b = w.heap.size := ⟨_, rfl⟩
  have V2 : Hid (RdN N (w.alloc (.cells #[.int .i64 8, .int .i64 9, .int .i64 10, .int .i64 11, .int .i64 12, .int .i64 13] 3)) (.slice (some ⟨b2, 0, none⟩) 6 6) [8, 9, 10, 11, 12, 13]) := RdN.new hb2 hN rfl rfl
  have Hn2 : Hid (Tab B N (w.alloc (.cells #[.int .i64 8, .int .i64 9, .int .i64 10, .int .i64 11, .int .i64 12, .int .i64 13] 3)) (.slice (some ⟨g, 0, none⟩) 14 cap) T ∧ Kp B N w (w.alloc (.cells #[.int .i64 8, .int .i64 9, .int .i64 10, .int .i64 11, .int .i64 12, .int .i64 13] 3))) := ⟨H0.out.1.later _, H0.out.2.alloc _⟩
  obtain ⟨wa, hwa⟩ : ∃ x, x = w.alloc (.cells #[.int .i64 8, .int .i64 9, .int .i64 10, .int .i64 11, .int .i64 12, .int .i64 13] 3) := ⟨_, rfl⟩
  rw [← hwa, ← hb2]
  rw [← hwa] at V2 Hn2
  clear hwa hb2 H0
  replace hN := Hn2.out.1.size
  go_wp2_with fail
  refine (some_ _ _).mono ?_
  rintro x wx ⟨rfl, rfl⟩
  obtain ⟨i1, hi1, hz3, hz4, hz5⟩ := info_parts infoI
  have hon : (wa.alloc (.cells #[.int .i64 7] 3)).ownsRow N 3 1 (.slice (some ⟨wa.heap.size, 0, none⟩) 1 1) 1 [.int .i64 7] := own_new wa N 3 1 hN [.int .i64 7] #[] 1 1 rfl (Nat.le_refl _) (by unfold maxLen; omega) rfl
  have Hon := Lib.hid hon
  clear hon
  go_wp2_with (at_builtin; refine held ?_)
  refine unheld ?_
  refine wpList_app (B := N) (v := .slice (some ⟨wa.heap.size, 0, none⟩) 1 1) rfl (.tmp 7) (.tmp 8) 23 rfl 3 i1 _ 1 _ Try.underlying23 hi1 hz3 hz4 hz5 rfl (by decide) (by first | omega | (simp; omega)) rfl rfl Hon.out (V2.out.later _).rd (enI_ones _) (by unfold maxLen; decide) (by decide) ?_
  intro v5 w5 o5 f5 m5 n5 z5
  have hown : Own enI 3 1 N w5 v5 [7, 8, 9, 10, 11, 12, 13] := o5
  have V3 : Hid (RdN N w5 v5 [7, 8, 9, 10, 11, 12, 13]) := RdN.of_own hown (Nat.le_refl _)
  have k5 : Below wa.heap.size wa w5 := ((Below.refl _ wa).alloc (Nat.le_refl _) _).trans (f5.below' (by simp) (fun k e => by simp [Value.ownBlock] at e; omega))
  have H5 : Hid (Tab B N w5 (.slice (some ⟨g, 0, none⟩) 14 cap) T ∧ Kp B N w w5) := ⟨Hn2.out.1.below k5, Hn2.out.2.trans (Fr.of_below k5 _)⟩
  replace V2 := Lib.hid (V2.out.below k5)
  replace hN := H5.out.1.size
  clear hown o5 f5 m5 n5 z5 k5 Hon hi1 hz3 hz4 hz5 Hn2
  go_wp2_with fail
  refine (some_ _ _).mono ?_
  rintro x wx ⟨rfl, rfl⟩
  go_wp2_with fail
  refine (each _ _ _ _ [7, 8, 9, 10, 11, 12, 13] [3] [12, 0, 33, 13] 3 _ B N _ ((V3.out.later _).later _) ((RdN.new (by simp) (by first | omega | (simp; omega)) rfl rfl).later _) (RdN.new (by simp) (by first | omega | (simp; omega)) rfl rfl) (((H5.out.1.later _).later _)) (by decide) (by decide) (by decide) (by decide) (by decide)).mono ?_
  rintro x w1 ⟨rfl, tj, kj⟩
  have H1 : Hid (Tab B N w1 (.slice (some ⟨g, 0, none⟩) 14 cap) (gD1 T) ∧ Kp B N w w1) := ⟨tj, ((H5.out.2.alloc _).alloc _).trans kj⟩
  have kk : Kp B N w5 w1 := (((Fr.refl _ w5).alloc _).alloc _).trans kj
  replace V2 := Lib.hid (V2.out.fr kk (Nat.le_refl _))
  replace V3 := Lib.hid (V3.out.fr kk (Nat.le_refl _))
  replace hN := H1.out.1.size
  clear tj kj kk H5
  go_wp2_with fail
  refine (some_ _ _).mono ?_
  rintro x wx ⟨rfl, rfl⟩
  go_wp2_with fail
  refine (each _ _ _ _ [7, 8, 9, 10, 11, 12, 13] [2] [12, 1, 33, 13] 6 _ B N _ ((V3.out.later _).later _) ((RdN.new (by simp) (by first | omega | (simp; omega)) rfl rfl).later _) (RdN.new (by simp) (by first | omega | (simp; omega)) rfl rfl) (((H1.out.1.later _).later _)) (by decide) (by decide) (by decide) (by decide) (by decide)).mono ?_
  rintro x w2 ⟨rfl, tj, kj⟩
  have H2 : Hid (Tab B N w2 (.slice (some ⟨g, 0, none⟩) 14 cap) (gD2 T) ∧ Kp B N w w2) := ⟨tj, ((H1.out.2.alloc _).alloc _).trans kj⟩
  have kk : Kp B N w1 w2 := (((Fr.refl _ w1).alloc _).alloc _).trans kj
  replace V2 := Lib.hid (V2.out.fr kk (Nat.le_refl _))
  replace V3 := Lib.hid (V3.out.fr kk (Nat.le_refl _))
  replace hN := H2.out.1.size
  clear tj kj kk H1
  go_wp2_with fail
  refine (some_ _ _).mono ?_
  rintro x wx ⟨rfl, rfl⟩
  go_wp2_with fail
  refine (each _ _ _ _ [7, 8, 9, 10, 11, 12, 13] [8] [12, 8] 4 _ B N _ ((V3.out.later _).later _) ((RdN.new (by simp) (by first | omega | (simp; omega)) rfl rfl).later _) (RdN.new (by simp) (by first | omega | (simp; omega)) rfl rfl) (((H2.out.1.later _).later _)) (by decide) (by decide) (by decide) (by decide) (by decide)).mono ?_
  rintro x w3 ⟨rfl, tj, kj⟩
  have H3 : Hid (Tab B N w3 (.slice (some ⟨g, 0, none⟩) 14 cap) (gD3 T) ∧ Kp B N w w3) := ⟨tj, ((H2.out.2.alloc _).alloc _).trans kj⟩
  have kk : Kp B N w2 w3 := (((Fr.refl _ w2).alloc _).alloc _).trans kj
  replace V2 := Lib.hid (V2.out.fr kk (Nat.le_refl _))
  replace V3 := Lib.hid (V3.out.fr kk (Nat.le_refl _))
  replace hN := H3.out.1.size
  clear tj kj kk H2
  go_wp2_with fail
  refine (some_ _ _).mono ?_
  rintro x wx ⟨rfl, rfl⟩
  go_wp2_with fail
  refine (each _ _ _ _ [7, 8, 9, 10, 11, 12, 13] [11] [12, 7] 0 _ B N _ ((V3.out.later _).later _) ((RdN.new (by simp) (by first | omega | (simp; omega)) rfl rfl).later _) (RdN.new (by simp) (by first | omega | (simp; omega)) rfl rfl) (((H3.out.1.later _).later _)) (by decide) (by decide) (by decide) (by decide) (by decide)).mono ?_
  rintro x w4 ⟨rfl, tj, kj⟩
  have H4 : Hid (Tab B N w4 (.slice (some ⟨g, 0, none⟩) 14 cap) (gD4 T) ∧ Kp B N w w4) := ⟨tj, ((H3.out.2.alloc _).alloc _).trans kj⟩
  have kk : Kp B N w3 w4 := (((Fr.refl _ w3).alloc _).alloc _).trans kj
  replace V2 := Lib.hid (V2.out.fr kk (Nat.le_refl _))
  replace V3 := Lib.hid (V3.out.fr kk (Nat.le_refl _))
  replace hN := H4.out.1.size
  clear tj kj kk H3
  go_wp2_with fail
  refine (some_ _ _).mono ?_
  rintro x wx ⟨rfl, rfl⟩
  go_wp2_with fail
  refine (each _ _ _ _ [7, 8, 9, 10, 11, 12, 13] [12, 33] [12, 8] 5 _ B N _ ((V3.out.later _).later _) ((RdN.new (by simp) (by first | omega | (simp; omega)) rfl rfl).later _) (RdN.new (by simp) (by first | omega | (simp; omega)) rfl rfl) (((H4.out.1.later _).later _)) (by decide) (by decide) (by decide) (by decide) (by decide)).mono ?_
  rintro x w5 ⟨rfl, tj, kj⟩
  have H5 : Hid (Tab B N w5 (.slice (some ⟨g, 0, none⟩) 14 cap) (gD5 T) ∧ Kp B N w w5) := ⟨tj, ((H4.out.2.alloc _).alloc _).trans kj⟩
  have kk : Kp B N w4 w5 := (((Fr.refl _ w4).alloc _).alloc _).trans kj
  replace V2 := Lib.hid (V2.out.fr kk (Nat.le_refl _))
  replace V3 := Lib.hid (V3.out.fr kk (Nat.le_refl _))
  replace hN := H5.out.1.size
  clear tj kj kk H4
  go_wp2_with fail
  refine (some_ _ _).mono ?_
  rintro x wx ⟨rfl, rfl⟩
  go_wp2_with fail
  refine (each _ _ _ _ [8, 9, 10, 11, 12, 13] [9] [12, 2, 7] 0 _ B N _ ((V2.out.later _).later _) ((RdN.new (by simp) (by first | omega | (simp; omega)) rfl rfl).later _) (RdN.new (by simp) (by first | omega | (simp; omega)) rfl rfl) (((H5.out.1.later _).later _)) (by decide) (by decide) (by decide) (by decide) (by decide)).mono ?_
  rintro x w6 ⟨rfl, tj, kj⟩
  have H6 : Hid (Tab B N w6 (.slice (some ⟨g, 0, none⟩) 14 cap) (gD6 T) ∧ Kp B N w w6) := ⟨tj, ((H5.out.2.alloc _).alloc _).trans kj⟩
  have kk : Kp B N w5 w6 := (((Fr.refl _ w5).alloc _).alloc _).trans kj
  replace V2 := Lib.hid (V2.out.fr kk (Nat.le_refl _))
  replace V3 := Lib.hid (V3.out.fr kk (Nat.le_refl _))
  replace hN := H6.out.1.size
  clear tj kj kk H5
  go_wp2_with fail
  refine (some_ _ _).mono ?_
  rintro x wx ⟨rfl, rfl⟩
  go_wp2_with fail
  refine (each _ _ _ _ [8, 9, 10, 11, 12, 13] [28] [12, 4, 33, 13] 7 _ B N _ ((V2.out.later _).later _) ((RdN.new (by simp) (by first | omega | (simp; omega)) rfl rfl).later _) (RdN.new (by simp) (by first | omega | (simp; omega)) rfl rfl) (((H6.out.1.later _).later _)) (by decide) (by decide) (by decide) (by decide) (by decide)).mono ?_
  rintro x w7 ⟨rfl, tj, kj⟩
  have H7 : Hid (Tab B N w7 (.slice (some ⟨g, 0, none⟩) 14 cap) (gD7 T) ∧ Kp B N w w7) := ⟨tj, ((H6.out.2.alloc _).alloc _).trans kj⟩
  have kk : Kp B N w6 w7 := (((Fr.refl _ w6).alloc _).alloc _).trans kj
  replace V2 := Lib.hid (V2.out.fr kk (Nat.le_refl _))
  replace V3 := Lib.hid (V3.out.fr kk (Nat.le_refl _))
  replace hN := H7.out.1.size
  clear tj kj kk H6
  go_wp2_with fail
  go_end0
  exact ⟨rfl, H7.out⟩

end Go.Proofs.Ytnafppdnapdbcaa
