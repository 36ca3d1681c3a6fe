/-
  Package grid: answers.
-/
import Derived.Test.YtnafppdnapdbcaaGrd3
namespace Go.Proofs.Ytnafppdnapdbcaa
open Go.RowKit
set_option linter.unusedVariables false


def gA1 (o a asked poll : Int) (T : GT) : GT := layT (layT T o 19 (-1) ([20, 19] ++ [31])) o (19 + 1) (-1) ([20, 19] ++ asked :: [31])
def gA2 (o a asked poll : Int) (T : GT) : GT := layT (layT (gA1 o a asked poll T) o 22 (-1) ([19, 21, 17] ++ [])) o (22 + 1) (-1) ([19, 21, 17] ++ asked :: [])
def gA3 (o a asked poll : Int) (T : GT) : GT := layT (layT (gA2 o a asked poll T) o 25 (-1) ([20, 19, 22, 34] ++ [31])) o (25 + 1) (-1) ([20, 19, 22, 34] ++ asked :: [31])
def gA4 (o a asked poll : Int) (T : GT) : GT := layT (layT (gA3 o a asked poll T) a 19 (-1) ([20, 19] ++ [])) a (19 + 1) (-1) ([20, 19] ++ asked :: [])
def gA5 (o a asked poll : Int) (T : GT) : GT := layT (layT (gA4 o a asked poll T) a 22 (-1) ([19, 21] ++ [])) a (22 + 1) (-1) ([19, 21] ++ asked :: [])
def gA6 (o a asked poll : Int) (T : GT) : GT := layT (layT (gA5 o a asked poll T) a 25 (-1) ([20, 19] ++ [])) a (25 + 1) (-1) ([20, 19] ++ asked :: [])
def gA7 (o a asked poll : Int) (T : GT) : GT := layT (gA6 o a asked poll T) o 5 (-1) [31]
def gA8 (o a asked poll : Int) (T : GT) : GT := layT (gA7 o a asked poll T) o 29 a [poll, 14, 32, 34]
def gA9 (o a asked poll : Int) (T : GT) : GT := layT (gA8 o a asked poll T) o 32 a [poll, 14, 32]
def gA10 (o a asked poll : Int) (T : GT) : GT := layT (gA9 o a asked poll T) a 30 (-1) [poll, 14, 32]
def gA11 (o a asked poll : Int) (T : GT) : GT := layT (gA10 o a asked poll T) a 21 o [20, 19, 22, 33, 31]
def gA12 (o a asked poll : Int) (T : GT) : GT := layT (gA11 o a asked poll T) a 24 o [19, 21, 17, 22, 33]
def gA13 (o a asked poll : Int) (T : GT) : GT := layT (gA12 o a asked poll T) a 27 o [20, 19, 22, 34, 33, 31]
def answersT (o a asked poll : Int) (T : GT) : GT := gA13 o a asked poll T

set_option maxRecDepth 100000 in
set_option maxHeartbeats 16000000 in
theorem answers_walk (o a said asked poll : Int) (ho : 0 ≤ o ∧ o < 14) (ha : 0 ≤ a ∧ a < 14) (t : Value) (w : World) (B N : Nat) (T : GT) (hT : Tab B N w t T) : Calls Try.prog 23 #[t, .agg #[.int .i64 o, .int .i64 a, .int .i64 said, .int .i64 asked, .int .i64 poll]] w fun x w' => x = .returned (.tuple #[]) ∧ Tab B N w' t (answersT o a asked poll T) ∧ Kp B N w w' := by
  obtain ⟨g, cap, r, rfl, _⟩ := hT.ex
  have HT := Lib.hid hT
  have hN := hT.size
  clear hT
  go_enter Try.func23, Try.ntmps23
  go_upto_region 2 with fail
  obtain ⟨w0, hw0⟩ : ∃ x, x = (w.alloc (.cells #[.slice (some ⟨g, 0, none⟩) 14 cap] 40)).alloc (.cells #[.int .i64 o, .int .i64 a, .int .i64 said, .int .i64 asked, .int .i64 poll] 45) := ⟨_, rfl⟩
  have H0 : Hid (Tab B N w0 (.slice (some ⟨g, 0, none⟩) 14 cap) T ∧ Kp B N w w0) := by subst hw0; exact ⟨(HT.out.later _).later _, ((Fr.refl _ _).alloc _).alloc _⟩
  have qt : w0.cell? ⟨w.heap.size, 0, none⟩ = some (.slice (some ⟨g, 0, none⟩) 14 cap) := by subst hw0; exact cell_on (blk_cell (heap_alloc_new' w _) 0) ((Below.refl _ _).alloc (Nat.le_refl _) _)
  have q0 : w0.cell? ⟨w.heap.size + 1, 0, none⟩ = some (.int .i64 o) := by subst hw0; first | (simp; done) | (have h := blk_cell (heap_alloc_new' (w.alloc (.cells #[.slice (some ⟨g, 0, none⟩) 14 cap] 40)) (.cells #[.int .i64 o, .int .i64 a, .int .i64 said, .int .i64 asked, .int .i64 poll] 45)) 0; simpa using h)
  have q1 : w0.cell? ⟨w.heap.size + 1, 1, none⟩ = some (.int .i64 a) := by subst hw0; first | (simp; done) | (have h := blk_cell (heap_alloc_new' (w.alloc (.cells #[.slice (some ⟨g, 0, none⟩) 14 cap] 40)) (.cells #[.int .i64 o, .int .i64 a, .int .i64 said, .int .i64 asked, .int .i64 poll] 45)) 1; simpa using h)
  have q2 : w0.cell? ⟨w.heap.size + 1, 2, none⟩ = some (.int .i64 said) := by subst hw0; first | (simp; done) | (have h := blk_cell (heap_alloc_new' (w.alloc (.cells #[.slice (some ⟨g, 0, none⟩) 14 cap] 40)) (.cells #[.int .i64 o, .int .i64 a, .int .i64 said, .int .i64 asked, .int .i64 poll] 45)) 2; simpa using h)
  have q3 : w0.cell? ⟨w.heap.size + 1, 3, none⟩ = some (.int .i64 asked) := by subst hw0; first | (simp; done) | (have h := blk_cell (heap_alloc_new' (w.alloc (.cells #[.slice (some ⟨g, 0, none⟩) 14 cap] 40)) (.cells #[.int .i64 o, .int .i64 a, .int .i64 said, .int .i64 asked, .int .i64 poll] 45)) 3; simpa using h)
  have q4 : w0.cell? ⟨w.heap.size + 1, 4, none⟩ = some (.int .i64 poll) := by subst hw0; first | (simp; done) | (have h := blk_cell (heap_alloc_new' (w.alloc (.cells #[.slice (some ⟨g, 0, none⟩) 14 cap] 40)) (.cells #[.int .i64 o, .int .i64 a, .int .i64 said, .int .i64 asked, .int .i64 poll] 45)) 4; simpa using h)
  obtain ⟨bx, ebx⟩ : ∃ b, b = w.heap.size + 1 := ⟨_, rfl⟩
  obtain ⟨bt, ebt⟩ : ∃ b, b = w.heap.size := ⟨_, rfl⟩
  have hbt : N ≤ bt := by omega
  have hbx : N ≤ bx := by omega
  rw [← hw0, ← ebx, ← ebt]
  rw [← ebx] at q0 q1 q2 q3 q4
  rw [← ebt] at qt
  clear hw0 ebx ebt HT
  replace hN := H0.out.1.size
  go_wp2_with fail
  refine (some_ _ _).mono ?_
  rintro x wx ⟨rfl, rfl⟩
  go_upto_region 3 with fail
  obtain ⟨b5, hb5⟩ : ∃ b, b = w0.heap.size := ⟨_, rfl⟩
  have V5 : Hid (RdN N (w0.alloc (.cells #[.int .i64 31] 3)) (.slice (some ⟨b5, 0, none⟩) 1 1) [31]) := RdN.new hb5 hN rfl rfl
  have Hn5 : Hid (Tab B N (w0.alloc (.cells #[.int .i64 31] 3)) (.slice (some ⟨g, 0, none⟩) 14 cap) T ∧ Kp B N w (w0.alloc (.cells #[.int .i64 31] 3))) := ⟨H0.out.1.later _, H0.out.2.alloc _⟩
  replace qt := cell_on qt ((Below.refl _ w0).alloc (Nat.le_refl _) (.cells #[.int .i64 31] 3))
  replace q0 := cell_on q0 ((Below.refl _ w0).alloc (Nat.le_refl _) (.cells #[.int .i64 31] 3))
  replace q1 := cell_on q1 ((Below.refl _ w0).alloc (Nat.le_refl _) (.cells #[.int .i64 31] 3))
  replace q2 := cell_on q2 ((Below.refl _ w0).alloc (Nat.le_refl _) (.cells #[.int .i64 31] 3))
  replace q3 := cell_on q3 ((Below.refl _ w0).alloc (Nat.le_refl _) (.cells #[.int .i64 31] 3))
  replace q4 := cell_on q4 ((Below.refl _ w0).alloc (Nat.le_refl _) (.cells #[.int .i64 31] 3))
  obtain ⟨w0a, hw0a⟩ : ∃ x, x = w0.alloc (.cells #[.int .i64 31] 3) := ⟨_, rfl⟩
  rw [← hw0a, ← hb5]
  rw [← hw0a] at V5 Hn5 qt q0 q1 q2 q3 q4
  clear hw0a hb5 H0
  replace hN := Hn5.out.1.size
  go_wp2_with fail
  have lt_qt := World.block_lt_of_cell? w0a _ qt
  have ne_qt := World.new_ne w0a _ qt
  have lt_q0 := World.block_lt_of_cell? w0a _ q0
  have ne_q0 := World.new_ne w0a _ q0
  have lt_q1 := World.block_lt_of_cell? w0a _ q1
  have ne_q1 := World.new_ne w0a _ q1
  have lt_q2 := World.block_lt_of_cell? w0a _ q2
  have ne_q2 := World.new_ne w0a _ q2
  have lt_q3 := World.block_lt_of_cell? w0a _ q3
  have ne_q3 := World.new_ne w0a _ q3
  have lt_q4 := World.block_lt_of_cell? w0a _ q4
  have ne_q4 := World.new_ne w0a _ q4
  simp only at lt_qt ne_qt lt_q0 ne_q0 lt_q1 ne_q1 lt_q2 ne_q2 lt_q3 ne_q3 lt_q4 ne_q4
  go_region_held3 (fun w' => w'.cell? ⟨bx, 0, none⟩ = some (.int .i64 o)) (first | assumption | go_keep)
    (first
    | (go_at_call 41; refine (some_ _ _).mono ?_; rintro x w1 ⟨rfl, rfl⟩)
    | (go_at_call 42; refine (bothA bt bx o 19 asked _ _ _ [20, 19] [31] _ B N _ ((Hn5.out.1.later _)).drew (cell_on qt ((((Below.refl _ w0a).alloc (Nat.le_refl _) _)).drew)) (cell_on q3 ((((Below.refl _ w0a).alloc (Nat.le_refl _) _)).drew)) ((RdN.new (by simp) (by first | omega | (simp; omega)) rfl rfl)).drew ((V5.out.later _)).drew hbt hbx ⟨ho.1, ho.2, by decide, by decide⟩ (by decide)).mono ?_; rintro x w1 ⟨rfl, tj, kj⟩; have H1 : Hid (Tab B N w1 (.slice (some ⟨g, 0, none⟩) 14 cap) (gA1 o a asked poll T) ∧ Kp B N w w1) := ⟨tj, ((Hn5.out.2.alloc _).drew).trans kj⟩; have kk : Kp B N w0a w1 := (((Fr.refl _ w0a).alloc _).drew).trans kj; have r_qt := Kp.cell kk qt hbt; have r_q0 := Kp.cell kk q0 hbx; have r_q1 := Kp.cell kk q1 hbx; have r_q2 := Kp.cell kk q2 hbx; have r_q3 := Kp.cell kk q3 hbx; have r_q4 := Kp.cell kk q4 hbx))
  clear lt_qt ne_qt lt_q0 ne_q0 lt_q1 ne_q1 lt_q2 ne_q2 lt_q3 ne_q3 lt_q4 ne_q4
  replace qt := r_qt
  clear r_qt
  replace q0 := r_q0
  clear r_q0
  replace q1 := r_q1
  clear r_q1
  replace q2 := r_q2
  clear r_q2
  replace q3 := r_q3
  clear r_q3
  replace q4 := r_q4
  clear r_q4
  replace V5 := Lib.hid (V5.out.fr kk (Nat.le_refl _))
  replace hN := H1.out.1.size
  clear tj kj kk Hn5
  go_wp2_with fail
  have lt_qt := World.block_lt_of_cell? w1 _ qt
  have ne_qt := World.new_ne w1 _ qt
  have lt_q0 := World.block_lt_of_cell? w1 _ q0
  have ne_q0 := World.new_ne w1 _ q0
  have lt_q1 := World.block_lt_of_cell? w1 _ q1
  have ne_q1 := World.new_ne w1 _ q1
  have lt_q2 := World.block_lt_of_cell? w1 _ q2
  have ne_q2 := World.new_ne w1 _ q2
  have lt_q3 := World.block_lt_of_cell? w1 _ q3
  have ne_q3 := World.new_ne w1 _ q3
  have lt_q4 := World.block_lt_of_cell? w1 _ q4
  have ne_q4 := World.new_ne w1 _ q4
  simp only at lt_qt ne_qt lt_q0 ne_q0 lt_q1 ne_q1 lt_q2 ne_q2 lt_q3 ne_q3 lt_q4 ne_q4
  go_region_held3 (fun w' => w'.cell? ⟨bx, 0, none⟩ = some (.int .i64 o)) (first | assumption | go_keep)
    (first
    | (go_at_call 41; refine (some_ _ _).mono ?_; rintro x w1 ⟨rfl, rfl⟩)
    | (go_at_call 42; refine (bothA bt bx o 22 asked _ _ _ [19, 21, 17] [] _ B N _ ((H1.out.1.later _)).drew (cell_on qt ((((Below.refl _ w1).alloc (Nat.le_refl _) _)).drew)) (cell_on q3 ((((Below.refl _ w1).alloc (Nat.le_refl _) _)).drew)) ((RdN.new (by simp) (by first | omega | (simp; omega)) rfl rfl)).drew (RdN.nil _ _) hbt hbx ⟨ho.1, ho.2, by decide, by decide⟩ (by decide)).mono ?_; rintro x w2 ⟨rfl, tj, kj⟩; have H2 : Hid (Tab B N w2 (.slice (some ⟨g, 0, none⟩) 14 cap) (gA2 o a asked poll T) ∧ Kp B N w w2) := ⟨tj, ((H1.out.2.alloc _).drew).trans kj⟩; have kk : Kp B N w1 w2 := (((Fr.refl _ w1).alloc _).drew).trans kj; have r_qt := Kp.cell kk qt hbt; have r_q0 := Kp.cell kk q0 hbx; have r_q1 := Kp.cell kk q1 hbx; have r_q2 := Kp.cell kk q2 hbx; have r_q3 := Kp.cell kk q3 hbx; have r_q4 := Kp.cell kk q4 hbx))
  clear lt_qt ne_qt lt_q0 ne_q0 lt_q1 ne_q1 lt_q2 ne_q2 lt_q3 ne_q3 lt_q4 ne_q4
  replace qt := r_qt
  clear r_qt
  replace q0 := r_q0
  clear r_q0
  replace q1 := r_q1
  clear r_q1
  replace q2 := r_q2
  clear r_q2
  replace q3 := r_q3
  clear r_q3
  replace q4 := r_q4
  clear r_q4
  replace V5 := Lib.hid (V5.out.fr kk (Nat.le_refl _))
  replace hN := H2.out.1.size
  clear tj kj kk H1
  go_wp2_with fail
  have lt_qt := World.block_lt_of_cell? w2 _ qt
  have ne_qt := World.new_ne w2 _ qt
  have lt_q0 := World.block_lt_of_cell? w2 _ q0
  have ne_q0 := World.new_ne w2 _ q0
  have lt_q1 := World.block_lt_of_cell? w2 _ q1
  have ne_q1 := World.new_ne w2 _ q1
  have lt_q2 := World.block_lt_of_cell? w2 _ q2
  have ne_q2 := World.new_ne w2 _ q2
  have lt_q3 := World.block_lt_of_cell? w2 _ q3
  have ne_q3 := World.new_ne w2 _ q3
  have lt_q4 := World.block_lt_of_cell? w2 _ q4
  have ne_q4 := World.new_ne w2 _ q4
  simp only at lt_qt ne_qt lt_q0 ne_q0 lt_q1 ne_q1 lt_q2 ne_q2 lt_q3 ne_q3 lt_q4 ne_q4
  go_region_held3 (fun w' => w'.cell? ⟨bx, 0, none⟩ = some (.int .i64 o)) (first | assumption | go_keep)
    (first
    | (go_at_call 41; refine (some_ _ _).mono ?_; rintro x w1 ⟨rfl, rfl⟩)
    | (go_at_call 42; refine (bothA bt bx o 25 asked _ _ _ [20, 19, 22, 34] [31] _ B N _ ((H2.out.1.later _)).drew (cell_on qt ((((Below.refl _ w2).alloc (Nat.le_refl _) _)).drew)) (cell_on q3 ((((Below.refl _ w2).alloc (Nat.le_refl _) _)).drew)) ((RdN.new (by simp) (by first | omega | (simp; omega)) rfl rfl)).drew ((V5.out.later _)).drew hbt hbx ⟨ho.1, ho.2, by decide, by decide⟩ (by decide)).mono ?_; rintro x w3 ⟨rfl, tj, kj⟩; have H3 : Hid (Tab B N w3 (.slice (some ⟨g, 0, none⟩) 14 cap) (gA3 o a asked poll T) ∧ Kp B N w w3) := ⟨tj, ((H2.out.2.alloc _).drew).trans kj⟩; have kk : Kp B N w2 w3 := (((Fr.refl _ w2).alloc _).drew).trans kj; have r_qt := Kp.cell kk qt hbt; have r_q0 := Kp.cell kk q0 hbx; have r_q1 := Kp.cell kk q1 hbx; have r_q2 := Kp.cell kk q2 hbx; have r_q3 := Kp.cell kk q3 hbx; have r_q4 := Kp.cell kk q4 hbx))
  clear lt_qt ne_qt lt_q0 ne_q0 lt_q1 ne_q1 lt_q2 ne_q2 lt_q3 ne_q3 lt_q4 ne_q4
  replace qt := r_qt
  clear r_qt
  replace q0 := r_q0
  clear r_q0
  replace q1 := r_q1
  clear r_q1
  replace q2 := r_q2
  clear r_q2
  replace q3 := r_q3
  clear r_q3
  replace q4 := r_q4
  clear r_q4
  replace V5 := Lib.hid (V5.out.fr kk (Nat.le_refl _))
  replace hN := H3.out.1.size
  clear tj kj kk H2
  go_wp2_with fail
  have lt_qt := World.block_lt_of_cell? w3 _ qt
  have ne_qt := World.new_ne w3 _ qt
  have lt_q0 := World.block_lt_of_cell? w3 _ q0
  have ne_q0 := World.new_ne w3 _ q0
  have lt_q1 := World.block_lt_of_cell? w3 _ q1
  have ne_q1 := World.new_ne w3 _ q1
  have lt_q2 := World.block_lt_of_cell? w3 _ q2
  have ne_q2 := World.new_ne w3 _ q2
  have lt_q3 := World.block_lt_of_cell? w3 _ q3
  have ne_q3 := World.new_ne w3 _ q3
  have lt_q4 := World.block_lt_of_cell? w3 _ q4
  have ne_q4 := World.new_ne w3 _ q4
  simp only at lt_qt ne_qt lt_q0 ne_q0 lt_q1 ne_q1 lt_q2 ne_q2 lt_q3 ne_q3 lt_q4 ne_q4
  go_region_held3 (fun w' => w'.cell? ⟨bx, 1, none⟩ = some (.int .i64 a)) (first | assumption | go_keep)
    (first
    | (go_at_call 41; refine (some_ _ _).mono ?_; rintro x w1 ⟨rfl, rfl⟩)
    | (go_at_call 42; refine (bothA bt bx a 19 asked _ _ _ [20, 19] [] _ B N _ ((H3.out.1.later _)).drew (cell_on qt ((((Below.refl _ w3).alloc (Nat.le_refl _) _)).drew)) (cell_on q3 ((((Below.refl _ w3).alloc (Nat.le_refl _) _)).drew)) ((RdN.new (by simp) (by first | omega | (simp; omega)) rfl rfl)).drew (RdN.nil _ _) hbt hbx ⟨ha.1, ha.2, by decide, by decide⟩ (by decide)).mono ?_; rintro x w4 ⟨rfl, tj, kj⟩; have H4 : Hid (Tab B N w4 (.slice (some ⟨g, 0, none⟩) 14 cap) (gA4 o a asked poll T) ∧ Kp B N w w4) := ⟨tj, ((H3.out.2.alloc _).drew).trans kj⟩; have kk : Kp B N w3 w4 := (((Fr.refl _ w3).alloc _).drew).trans kj; have r_qt := Kp.cell kk qt hbt; have r_q0 := Kp.cell kk q0 hbx; have r_q1 := Kp.cell kk q1 hbx; have r_q2 := Kp.cell kk q2 hbx; have r_q3 := Kp.cell kk q3 hbx; have r_q4 := Kp.cell kk q4 hbx))
  clear lt_qt ne_qt lt_q0 ne_q0 lt_q1 ne_q1 lt_q2 ne_q2 lt_q3 ne_q3 lt_q4 ne_q4
  replace qt := r_qt
  clear r_qt
  replace q0 := r_q0
  clear r_q0
  replace q1 := r_q1
  clear r_q1
  replace q2 := r_q2
  clear r_q2
  replace q3 := r_q3
  clear r_q3
  replace q4 := r_q4
  clear r_q4
  replace V5 := Lib.hid (V5.out.fr kk (Nat.le_refl _))
  replace hN := H4.out.1.size
  clear tj kj kk H3
  go_wp2_with fail
  have lt_qt := World.block_lt_of_cell? w4 _ qt
  have ne_qt := World.new_ne w4 _ qt
  have lt_q0 := World.block_lt_of_cell? w4 _ q0
  have ne_q0 := World.new_ne w4 _ q0
  have lt_q1 := World.block_lt_of_cell? w4 _ q1
  have ne_q1 := World.new_ne w4 _ q1
  have lt_q2 := World.block_lt_of_cell? w4 _ q2
  have ne_q2 := World.new_ne w4 _ q2
  have lt_q3 := World.block_lt_of_cell? w4 _ q3
  have ne_q3 := World.new_ne w4 _ q3
  have lt_q4 := World.block_lt_of_cell? w4 _ q4
  have ne_q4 := World.new_ne w4 _ q4
  simp only at lt_qt ne_qt lt_q0 ne_q0 lt_q1 ne_q1 lt_q2 ne_q2 lt_q3 ne_q3 lt_q4 ne_q4
  go_region_held3 (fun w' => w'.cell? ⟨bx, 1, none⟩ = some (.int .i64 a)) (first | assumption | go_keep)
    (first
    | (go_at_call 41; refine (some_ _ _).mono ?_; rintro x w1 ⟨rfl, rfl⟩)
    | (go_at_call 42; refine (bothA bt bx a 22 asked _ _ _ [19, 21] [] _ B N _ ((H4.out.1.later _)).drew (cell_on qt ((((Below.refl _ w4).alloc (Nat.le_refl _) _)).drew)) (cell_on q3 ((((Below.refl _ w4).alloc (Nat.le_refl _) _)).drew)) ((RdN.new (by simp) (by first | omega | (simp; omega)) rfl rfl)).drew (RdN.nil _ _) hbt hbx ⟨ha.1, ha.2, by decide, by decide⟩ (by decide)).mono ?_; rintro x w5 ⟨rfl, tj, kj⟩; have H5 : Hid (Tab B N w5 (.slice (some ⟨g, 0, none⟩) 14 cap) (gA5 o a asked poll T) ∧ Kp B N w w5) := ⟨tj, ((H4.out.2.alloc _).drew).trans kj⟩; have kk : Kp B N w4 w5 := (((Fr.refl _ w4).alloc _).drew).trans kj; have r_qt := Kp.cell kk qt hbt; have r_q0 := Kp.cell kk q0 hbx; have r_q1 := Kp.cell kk q1 hbx; have r_q2 := Kp.cell kk q2 hbx; have r_q3 := Kp.cell kk q3 hbx; have r_q4 := Kp.cell kk q4 hbx))
  clear lt_qt ne_qt lt_q0 ne_q0 lt_q1 ne_q1 lt_q2 ne_q2 lt_q3 ne_q3 lt_q4 ne_q4
  replace qt := r_qt
  clear r_qt
  replace q0 := r_q0
  clear r_q0
  replace q1 := r_q1
  clear r_q1
  replace q2 := r_q2
  clear r_q2
  replace q3 := r_q3
  clear r_q3
  replace q4 := r_q4
  clear r_q4
  replace V5 := Lib.hid (V5.out.fr kk (Nat.le_refl _))
  replace hN := H5.out.1.size
  clear tj kj kk H4
  go_wp2_with fail
  have lt_qt := World.block_lt_of_cell? w5 _ qt
  have ne_qt := World.new_ne w5 _ qt
  have lt_q0 := World.block_lt_of_cell? w5 _ q0
  have ne_q0 := World.new_ne w5 _ q0
  have lt_q1 := World.block_lt_of_cell? w5 _ q1
  have ne_q1 := World.new_ne w5 _ q1
  have lt_q2 := World.block_lt_of_cell? w5 _ q2
  have ne_q2 := World.new_ne w5 _ q2
  have lt_q3 := World.block_lt_of_cell? w5 _ q3
  have ne_q3 := World.new_ne w5 _ q3
  have lt_q4 := World.block_lt_of_cell? w5 _ q4
  have ne_q4 := World.new_ne w5 _ q4
  simp only at lt_qt ne_qt lt_q0 ne_q0 lt_q1 ne_q1 lt_q2 ne_q2 lt_q3 ne_q3 lt_q4 ne_q4
  go_region_held3 (fun w' => w'.cell? ⟨bx, 1, none⟩ = some (.int .i64 a)) (first | assumption | go_keep)
    (first
    | (go_at_call 41; refine (some_ _ _).mono ?_; rintro x w1 ⟨rfl, rfl⟩)
    | (go_at_call 42; refine (bothA bt bx a 25 asked _ _ _ [20, 19] [] _ B N _ ((H5.out.1.later _)).drew (cell_on qt ((((Below.refl _ w5).alloc (Nat.le_refl _) _)).drew)) (cell_on q3 ((((Below.refl _ w5).alloc (Nat.le_refl _) _)).drew)) ((RdN.new (by simp) (by first | omega | (simp; omega)) rfl rfl)).drew (RdN.nil _ _) hbt hbx ⟨ha.1, ha.2, by decide, by decide⟩ (by decide)).mono ?_; rintro x w6 ⟨rfl, tj, kj⟩; have H6 : Hid (Tab B N w6 (.slice (some ⟨g, 0, none⟩) 14 cap) (gA6 o a asked poll T) ∧ Kp B N w w6) := ⟨tj, ((H5.out.2.alloc _).drew).trans kj⟩; have kk : Kp B N w5 w6 := (((Fr.refl _ w5).alloc _).drew).trans kj; have r_qt := Kp.cell kk qt hbt; have r_q0 := Kp.cell kk q0 hbx; have r_q1 := Kp.cell kk q1 hbx; have r_q2 := Kp.cell kk q2 hbx; have r_q3 := Kp.cell kk q3 hbx; have r_q4 := Kp.cell kk q4 hbx))
  clear lt_qt ne_qt lt_q0 ne_q0 lt_q1 ne_q1 lt_q2 ne_q2 lt_q3 ne_q3 lt_q4 ne_q4
  replace qt := r_qt
  clear r_qt
  replace q0 := r_q0
  clear r_q0
  replace q1 := r_q1
  clear r_q1
  replace q2 := r_q2
  clear r_q2
  replace q3 := r_q3
  clear r_q3
  replace q4 := r_q4
  clear r_q4
  replace V5 := Lib.hid (V5.out.fr kk (Nat.le_refl _))
  replace hN := H6.out.1.size
  clear tj kj kk H5
  go_wp2_with fail
  refine (lay o 5 (-1) [31] _ _ _ B N _ ⟨ho.1, ho.2, by decide, by decide⟩ ((H6.out.1.later _)) (RdN.new (by simp) (by first | omega | (simp; omega)) rfl rfl)).mono ?_
  rintro x w7 ⟨rfl, tj, kj⟩
  have H7 : Hid (Tab B N w7 (.slice (some ⟨g, 0, none⟩) 14 cap) (gA7 o a asked poll T) ∧ Kp B N w w7) := ⟨tj, (H6.out.2.alloc _).trans kj⟩
  have kk : Kp B N w6 w7 := ((Fr.refl _ w6).alloc _).trans kj
  replace qt := Kp.cell kk qt hbt
  replace q0 := Kp.cell kk q0 hbx
  replace q1 := Kp.cell kk q1 hbx
  replace q2 := Kp.cell kk q2 hbx
  replace q3 := Kp.cell kk q3 hbx
  replace q4 := Kp.cell kk q4 hbx
  replace V5 := Lib.hid (V5.out.fr kk (Nat.le_refl _))
  replace hN := H7.out.1.size
  clear tj kj kk H6
  go_wp2_with fail
  refine (lay o 29 a [poll, 14, 32, 34] _ _ _ B N _ ⟨ho.1, ho.2, by decide, by decide⟩ ((H7.out.1.later _)) (RdN.new (by simp) (by first | omega | (simp; omega)) rfl rfl)).mono ?_
  rintro x w8 ⟨rfl, tj, kj⟩
  have H8 : Hid (Tab B N w8 (.slice (some ⟨g, 0, none⟩) 14 cap) (gA8 o a asked poll T) ∧ Kp B N w w8) := ⟨tj, (H7.out.2.alloc _).trans kj⟩
  have kk : Kp B N w7 w8 := ((Fr.refl _ w7).alloc _).trans kj
  replace qt := Kp.cell kk qt hbt
  replace q0 := Kp.cell kk q0 hbx
  replace q1 := Kp.cell kk q1 hbx
  replace q2 := Kp.cell kk q2 hbx
  replace q3 := Kp.cell kk q3 hbx
  replace q4 := Kp.cell kk q4 hbx
  replace V5 := Lib.hid (V5.out.fr kk (Nat.le_refl _))
  replace hN := H8.out.1.size
  clear tj kj kk H7
  go_wp2_with fail
  refine (lay o 32 a [poll, 14, 32] _ _ _ B N _ ⟨ho.1, ho.2, by decide, by decide⟩ ((H8.out.1.later _)) (RdN.new (by simp) (by first | omega | (simp; omega)) rfl rfl)).mono ?_
  rintro x w9 ⟨rfl, tj, kj⟩
  have H9 : Hid (Tab B N w9 (.slice (some ⟨g, 0, none⟩) 14 cap) (gA9 o a asked poll T) ∧ Kp B N w w9) := ⟨tj, (H8.out.2.alloc _).trans kj⟩
  have kk : Kp B N w8 w9 := ((Fr.refl _ w8).alloc _).trans kj
  replace qt := Kp.cell kk qt hbt
  replace q0 := Kp.cell kk q0 hbx
  replace q1 := Kp.cell kk q1 hbx
  replace q2 := Kp.cell kk q2 hbx
  replace q3 := Kp.cell kk q3 hbx
  replace q4 := Kp.cell kk q4 hbx
  replace V5 := Lib.hid (V5.out.fr kk (Nat.le_refl _))
  replace hN := H9.out.1.size
  clear tj kj kk H8
  go_wp2_with fail
  refine (lay a 30 (-1) [poll, 14, 32] _ _ _ B N _ ⟨ha.1, ha.2, by decide, by decide⟩ ((H9.out.1.later _)) (RdN.new (by simp) (by first | omega | (simp; omega)) rfl rfl)).mono ?_
  rintro x w10 ⟨rfl, tj, kj⟩
  have H10 : Hid (Tab B N w10 (.slice (some ⟨g, 0, none⟩) 14 cap) (gA10 o a asked poll T) ∧ Kp B N w w10) := ⟨tj, (H9.out.2.alloc _).trans kj⟩
  have kk : Kp B N w9 w10 := ((Fr.refl _ w9).alloc _).trans kj
  replace qt := Kp.cell kk qt hbt
  replace q0 := Kp.cell kk q0 hbx
  replace q1 := Kp.cell kk q1 hbx
  replace q2 := Kp.cell kk q2 hbx
  replace q3 := Kp.cell kk q3 hbx
  replace q4 := Kp.cell kk q4 hbx
  replace V5 := Lib.hid (V5.out.fr kk (Nat.le_refl _))
  replace hN := H10.out.1.size
  clear tj kj kk H9
  go_wp2_with fail
  refine (lay a 21 o [20, 19, 22, 33, 31] _ _ _ B N _ ⟨ha.1, ha.2, by decide, by decide⟩ ((H10.out.1.later _)) (RdN.new (by simp) (by first | omega | (simp; omega)) rfl rfl)).mono ?_
  rintro x w11 ⟨rfl, tj, kj⟩
  have H11 : Hid (Tab B N w11 (.slice (some ⟨g, 0, none⟩) 14 cap) (gA11 o a asked poll T) ∧ Kp B N w w11) := ⟨tj, (H10.out.2.alloc _).trans kj⟩
  have kk : Kp B N w10 w11 := ((Fr.refl _ w10).alloc _).trans kj
  replace qt := Kp.cell kk qt hbt
  replace q0 := Kp.cell kk q0 hbx
  replace q1 := Kp.cell kk q1 hbx
  replace q2 := Kp.cell kk q2 hbx
  replace q3 := Kp.cell kk q3 hbx
  replace q4 := Kp.cell kk q4 hbx
  replace V5 := Lib.hid (V5.out.fr kk (Nat.le_refl _))
  replace hN := H11.out.1.size
  clear tj kj kk H10
  go_wp2_with fail
  refine (lay a 24 o [19, 21, 17, 22, 33] _ _ _ B N _ ⟨ha.1, ha.2, by decide, by decide⟩ ((H11.out.1.later _)) (RdN.new (by simp) (by first | omega | (simp; omega)) rfl rfl)).mono ?_
  rintro x w12 ⟨rfl, tj, kj⟩
  have H12 : Hid (Tab B N w12 (.slice (some ⟨g, 0, none⟩) 14 cap) (gA12 o a asked poll T) ∧ Kp B N w w12) := ⟨tj, (H11.out.2.alloc _).trans kj⟩
  have kk : Kp B N w11 w12 := ((Fr.refl _ w11).alloc _).trans kj
  replace qt := Kp.cell kk qt hbt
  replace q0 := Kp.cell kk q0 hbx
  replace q1 := Kp.cell kk q1 hbx
  replace q2 := Kp.cell kk q2 hbx
  replace q3 := Kp.cell kk q3 hbx
  replace q4 := Kp.cell kk q4 hbx
  replace V5 := Lib.hid (V5.out.fr kk (Nat.le_refl _))
  replace hN := H12.out.1.size
  clear tj kj kk H11
  go_wp2_with fail
  refine (lay a 27 o [20, 19, 22, 34, 33, 31] _ _ _ B N _ ⟨ha.1, ha.2, by decide, by decide⟩ ((H12.out.1.later _)) (RdN.new (by simp) (by first | omega | (simp; omega)) rfl rfl)).mono ?_
  rintro x w13 ⟨rfl, tj, kj⟩
  have H13 : Hid (Tab B N w13 (.slice (some ⟨g, 0, none⟩) 14 cap) (gA13 o a asked poll T) ∧ Kp B N w w13) := ⟨tj, (H12.out.2.alloc _).trans kj⟩
  have kk : Kp B N w12 w13 := ((Fr.refl _ w12).alloc _).trans kj
  replace qt := Kp.cell kk qt hbt
  replace q0 := Kp.cell kk q0 hbx
  replace q1 := Kp.cell kk q1 hbx
  replace q2 := Kp.cell kk q2 hbx
  replace q3 := Kp.cell kk q3 hbx
  replace q4 := Kp.cell kk q4 hbx
  replace V5 := Lib.hid (V5.out.fr kk (Nat.le_refl _))
  replace hN := H13.out.1.size
  clear tj kj kk H12
  go_wp2_with fail
  go_end0
  exact ⟨rfl, H13.out⟩

end Go.Proofs.Ytnafppdnapdbcaa
