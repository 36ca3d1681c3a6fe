/-
  Layer 10: the closed statement ClockKnown: the walk.
-/
import Derived.Test.YtidcjbfppdhghaaC10A
import Derived.KernelRfl
namespace Go.Proofs.Ytidcjbfppdhghaa
open Go.RowKit

abbrev sA : ByteArray := { data := #[97] }
abbrev sB : ByteArray := { data := #[98] }
abbrev sC : ByteArray := { data := #[99] }

theorem k1 : startOkS (max 2 0) sA 2 [] = true ∧ afterStartS (max 2 0) sA 2 [] = [(sA, 2)] := ⟨by kernel_rfl, by kernel_rfl⟩
theorem k2 : startOkS (max 2 0) sB 1 [(sA, 2)] = true ∧ afterStartS (max 2 0) sB 1 [(sA, 2)] = [(sA, 2), (sB, 1)] := ⟨by kernel_rfl, by kernel_rfl⟩
theorem k3 : startOkS (max 2 0) sC 1 [(sA, 2), (sB, 1)] = false ∧ afterStartS (max 2 0) sC 1 [(sA, 2), (sB, 1)] = [(sA, 2), (sB, 1)] := ⟨by kernel_rfl, by kernel_rfl⟩
theorem k4 : overLS [(sA, 2), (sB, 1)] = [sB] ∧ restLS [(sA, 2), (sB, 1)] = [(sA, 1)] := ⟨by kernel_rfl, by kernel_rfl⟩
theorem k5 : overLS [(sA, 1)] = [sA] ∧ restLS [(sA, 1)] = [] := ⟨by kernel_rfl, by kernel_rfl⟩
theorem k6 : overLS [] = [] ∧ restLS [] = [] := ⟨by kernel_rfl, by kernel_rfl⟩
theorem k7 : startOkS (max 2 0) sA 0 [] = false ∧ afterStartS (max 2 0) sA 0 [] = [] := ⟨by kernel_rfl, by kernel_rfl⟩
theorem k8 : decide (0 ≤ fidxS sA []) = false := by kernel_rfl

set_option maxHeartbeats 4000000 in
theorem known (w : World) : Calls Try.prog 3 #[] w fun e w' => e = .returned (.bool true) ∧ Below w.heap.size w w' := by
  go_enter Try.func3, Try.ntmps3
  go_wp2_with fail
  refine (awake w).mono ?_
  rintro e w0 ⟨rfl, hb0⟩
  go_wp2_with fail
  refine (newS' 2 w0 (by decide)).mono ?_
  rintro e w1 ⟨rfl, hk1, hb1⟩
  obtain ⟨c, hc⟩ : ∃ c, c = w0.heap.size := ⟨_, rfl⟩
  rw [← hc] at hk1 ⊢
  have Hc := Lib.hid hc
  clear hc
  go_wp2_with fail
  refine (startS' sA 2 c _ _ _ w1 c hk1).mono ?_
  rw [k1.1, k1.2]
  rintro e w2 ⟨rfl, hk2, hb2⟩
  go_wp2_with fail
  refine (startS' sB 1 c _ _ _ w2 c hk2).mono ?_
  rw [k2.1, k2.2]
  rintro e w3 ⟨rfl, hk3, hb3⟩
  go_wp2_with fail
  refine (startS' sC 1 c _ _ _ w3 c hk3).mono ?_
  rw [k3.1, k3.2]
  rintro e w4 ⟨rfl, hk4, hb4⟩
  go_wp2_with fail
  refine (tickS' c _ _ _ w4 c (by decide) hk4).mono ?_
  rw [k4.1, k4.2]
  rintro e w5 ⟨op, rfl, ho5, hk5, hf5, hb5⟩
  go_wp2_with fail
  refine (tickS' c _ _ _ w5 c (by decide) hk5).mono ?_
  rw [k5.1, k5.2]
  rintro e w6 ⟨oq, rfl, ho6, hk6, hf6, hb6⟩
  go_wp2_with fail
  refine (tickS' c _ _ _ w6 c (by decide) hk6).mono ?_
  rw [k6.1, k6.2]
  rintro e w7 ⟨or, rfl, ho7, hk7, hf7, hb7⟩
  have hp7 := over_frS (over_frS ho5 hk5 hf6) hk6 hf7
  have hq7 := over_frS ho6 hk6 hf7
  obtain ⟨gp, capp, rfl, hgp, _⟩ := own_some hp7 (by decide)
  obtain ⟨gq, capq, rfl, hgq, _⟩ := own_some hq7 (by decide)
  obtain ⟨ar, capr, rfl, _⟩ := own_shape ho7
  have x1 : w7.cell? ⟨gp, 0, none⟩ = some (.string sB) := hp7.cell encKS_len 0 0 (by decide) (by decide)
  have x2 : w7.cell? ⟨gq, 0, none⟩ = some (.string sA) := hq7.cell encKS_len 0 0 (by decide) (by decide)
  have hall : Below w.heap.size w w7 := by
    have hc := Hc.out
    subst hc
    exact hb0.trans (((((((hb1.trans hb2).trans hb3).trans hb4).trans hb5).trans hb6).trans hb7).mono hb0.size)
  have hs0 : w.heap.size ≤ c := by rw [Hc.out]; exact hb0.size
  clear ho5 ho6 ho7 hp7 hq7 hk1 hk2 hk3 hk4 hk5 hk6 hf5 hf6 hf7 hb0 hb1 hb2 hb3 hb4 hb5 hb6 hb7
  go_wp2_with fail
  refine (startS' sA 0 c _ _ _ w7 c hk7).mono ?_
  rw [k7.1, k7.2]
  rintro e w8 ⟨rfl, hk8, hb8⟩
  go_wp2_with fail
  refine (stopS' sA c _ _ _ w8 c hk8).mono ?_
  rw [k8]
  rintro e w9 ⟨rfl, hk9, hb9⟩
  go_wp2_with fail
  go_ret
  exact ⟨rfl, hall.trans ((hb8.trans hb9).mono hs0)⟩
end Go.Proofs.Ytidcjbfppdhghaa
