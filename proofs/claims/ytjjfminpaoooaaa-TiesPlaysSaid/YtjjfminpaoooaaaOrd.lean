/-
  ties.order: what it says of two keys.
-/
import Derived.Test.YtjjfminpaoooaaaKey
import Derived.Test.YtjjfminpaoooaaaFoot
import Derived.Deep.DeepCutAuto
import Derived.Deep.CutBlock
namespace Go.Proofs.Ytjjfminpaoooaaa
open Go.RowKit
set_option linter.unusedVariables false


theorem ints3 (W : World) (x y z : Int) (b : Nat) (hb : b = W.heap.size) : (W.alloc (.cells #[.int .i64 x, .int .i64 y, .int .i64 z] 3)).drew.heap[b]? = some (.cells (([x, y, z] : List Int).map (Value.int .i64)).toArray 3 (0, 0)) := by
  subst hb
  exact heap_alloc_new' W _

set_option maxHeartbeats 2000000 in
theorem korder (a b : Ky) (ha : a.ok) (hb : b.ok) (w : World) : Calls Try.prog 25 #[kyV a, kyV b] w fun e w' => e = .returned (.int .i64 (ordK a b)) ∧ Below w.heap.size w w' := by
  obtain ⟨W2, hW2⟩ : ∃ W2, W2 = (w.alloc (.cells (kyCs a) 28)).alloc (.cells (kyCs b) 28) := ⟨_, rfl⟩
  obtain ⟨x, hx⟩ : ∃ x, x = w.heap.size := ⟨_, rfl⟩
  have hal : Below w.heap.size w W2 := by rw [hW2]; exact ((Below.refl _ w).alloc (Nat.le_refl _) _).alloc (by simp) _
  have p0 : W2.heap[x]? = some (.cells (kyCs a) 28 (0, 0)) := by
    rw [hW2, hx]
    exact (heap_alloc_lt _ _ (by simp)).trans (heap_alloc_new' w _)
  have p1 : W2.heap[x + 1]? = some (.cells (kyCs b) 28 (0, 0)) := by
    rw [hW2, hx]
    have := heap_alloc_new' (w.alloc (.cells (kyCs a) 28)) (.cells (kyCs b) 28)
    simpa using this
  have n0 : W2.drew.cell? ⟨x, 6, none⟩ = some (.int .i64 a.near) := blk_cell p0 6
  have n1 : W2.drew.cell? ⟨x, 7, none⟩ = some (.int .i64 a.there) := blk_cell p0 7
  have n2 : W2.drew.cell? ⟨x + 1, 6, none⟩ = some (.int .i64 b.near) := blk_cell p1 6
  have n3 : W2.drew.cell? ⟨x + 1, 7, none⟩ = some (.int .i64 b.there) := blk_cell p1 7
  have bel : ∀ o, Below W2.heap.size W2 (W2.alloc o).drew := fun o => ((Below.refl _ W2).alloc (Nat.le_refl _) o).drew
  have a0 : ∀ o, (W2.alloc o).drew.cell? ⟨x, 6, none⟩ = some (.int .i64 a.near) := fun o => cellOn' (w := W2) n0 (bel o)
  have a1 : ∀ o, (W2.alloc o).drew.cell? ⟨x, 7, none⟩ = some (.int .i64 a.there) := fun o => cellOn' (w := W2) n1 (bel o)
  have a2 : ∀ o, (W2.alloc o).drew.cell? ⟨x + 1, 6, none⟩ = some (.int .i64 b.near) := fun o => cellOn' (w := W2) n2 (bel o)
  have a3 : ∀ o, (W2.alloc o).drew.cell? ⟨x + 1, 7, none⟩ = some (.int .i64 b.there) := fun o => cellOn' (w := W2) n3 (bel o)
  have P0 := Lib.hid p0
  have P1 := Lib.hid p1
  have HA := Lib.hid ha
  have HB := Lib.hid hb
  have Hal := Lib.hid hal
  have Hor := Lib.hid (ordK_or a b)
  have hlx : x + 1 < W2.heap.size := lt_of_block p1
  clear p0 p1 ha hb hal
  go_enter Try.func25, Try.ntmps25
  go_upto_region 1 with fail
  rw [← hW2, ← hx]
  clear hW2 hx
  go_region_held3 (fun w' => w'.cell? ⟨x, 6, none⟩ = some (.int .i64 a.near) ∧ w'.cell? ⟨x, 7, none⟩ = some (.int .i64 a.there) ∧ w'.cell? ⟨x + 1, 6, none⟩ = some (.int .i64 b.near) ∧ w'.cell? ⟨x + 1, 7, none⟩ = some (.int .i64 b.there))
    (first | with_reducible assumption | with_reducible exact ⟨n0, n1, n2, n3⟩ | with_reducible exact ⟨a0 _, a1 _, a2 _, a3 _⟩)
    (first
      | (go_at_call 34; refine (kbcmp a b HA.out HB.out x (x + 1) W2.drew P0.out P1.out).mono ?_; rintro e w' ⟨rfl, rfl⟩)
      | (go_at_call 35; refine (kcmp _ _ _).mono ?_; rintro e w' ⟨rfl, rfl⟩)
      | (go_at_call 33; refine (kor [_, _, _] _ _ (ints3 W2 _ _ _ _ rfl) (by show 3 ≤ 1000; decide)).mono ?_; rintro e w' ⟨rfl, rfl⟩)
      | fail)
  all_goals
    try simp only [Act.put, List.setIfInBounds_toArray, List.set_cons_zero, List.set_cons_succ]
    clear n0 n1 n2 n3 a0 a1 a2 a3
    go_wp2_with fail
    go_ret
    exact ⟨by rw [Hor.out, ← nz3]; rfl, Hal.out.trans ((bel _).mono Hal.out.size)⟩
end Go.Proofs.Ytjjfminpaoooaaa
