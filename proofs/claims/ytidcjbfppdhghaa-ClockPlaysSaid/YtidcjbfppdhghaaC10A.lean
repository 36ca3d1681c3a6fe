/-
  Layer 10: awake, and the closed statement ClockKnown: the walks.
-/
import Derived.Test.YtidcjbfppdhghaaClkTI
import Derived.Test.YtidcjbfppdhghaaClkTS
import Derived.Test.YtidcjbfppdhghaaClkRI
namespace Go.Proofs.Ytidcjbfppdhghaa
open Go.RowKit


set_option maxHeartbeats 2000000 in
theorem awake (w : World) : Calls Try.prog 9 #[] w fun e w' => e = .returned (.bool true) ∧ Below w.heap.size w w' := by
  go_enter Try.func9, Try.ntmps9
  go_wp2_with fail
  refine (newI' 2 w (by decide)).mono ?_
  rintro e w1 ⟨rfl, hk1, hb1⟩
  obtain ⟨c, hc⟩ : ∃ c, c = w.heap.size := ⟨_, rfl⟩
  rw [← hc] at hk1 ⊢
  have Hc := Lib.hid hc
  clear hc
  go_wp2_with fail
  refine (startI' 7 2 c _ _ _ w1 c hk1).mono ?_
  rw [show startOkI (max 2 0) 7 2 [] = true from by decide, show afterStartI (max 2 0) 7 2 [] = [(7, 2)] from by decide]
  rintro e w2 ⟨rfl, hk2, hb2⟩
  go_wp2_with fail
  refine (tickI' c _ _ _ w2 c (by decide) hk2).mono ?_
  rw [show overLI [(7, 2)] = [] from by decide, show restLI [(7, 2)] = [(7, 1)] from by decide]
  rintro e w3 ⟨ov, rfl, ho3, hk3, hf3, hb3⟩
  go_wp2_with fail
  refine (tickI' c _ _ _ w3 c (by decide) hk3).mono ?_
  rw [show overLI [(7, 1)] = [7] from by decide, show restLI [(7, 1)] = [] from by decide]
  rintro e w4 ⟨ov4, rfl, ho4, hk4, hf4, hb4⟩
  obtain ⟨a3, cap3, rfl, _⟩ := own_shape ho3
  obtain ⟨g4, cap4, rfl, hg4, _⟩ := own_some ho4 (by decide)
  have x4 : w4.cell? ⟨g4, 0, none⟩ = some (.int .i64 7) := ho4.cell encKI_len 0 0 (by decide) (by decide)
  have hkn : Calls Try.prog 25 #[.pointer (some ⟨c, 0, none⟩)] w4 fun e w' => e = .returned (.int .i64 2) ∧ Below w4.heap.size w4 w' := by
    obtain ⟨_, sv, hk⟩ := hk4
    exact nowI c _ _ sv _ w4 c hk
  have Hk := Lib.hid hkn
  have hall : Below w.heap.size w w4 := by
    have hc := Hc.out
    subst hc
    exact ((hb1.trans hb2).trans hb3).trans hb4
  have hsz := hall.size
  clear hkn ho3 ho4 hk1 hk2 hk3 hk4 hf3 hf4 hb1 hb2 hb3 hb4
  go_wp2_with fail
  refine Hk.out.mono ?_
  rintro e w5 ⟨rfl, hb5⟩
  go_wp2_with fail
  go_ret
  exact ⟨rfl, hall.trans (hb5.mono hsz)⟩
end Go.Proofs.Ytidcjbfppdhghaa
