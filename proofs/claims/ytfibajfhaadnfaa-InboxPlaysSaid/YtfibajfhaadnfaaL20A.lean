/-
  Layer 20: awake.
-/
import Derived.Test.YtfibajfhaadnfaaInb3
namespace Go.Proofs.Ytfibajfhaadnfaa
open Go.RowKit
set_option linter.unusedVariables false


theorem rdB_new {w : World} {cs : Array Value} {l : List Int} {c n b t : Nat} (hb : b = w.heap.size) (hl : n = l.length) (hc : cs.toList = l.flatMap encB) : RdB (w.alloc (.cells cs t)) (.slice (some ⟨b, 0, none⟩) n c) l := by
  subst hb hl
  have h := Rd.new (w := w) (cs := cs) (t := t) (k := 1) (n := l.length) (c := c) rfl (by rw [← Array.length_toList, hc, flat_len encB 1 encB_len])
  rw [hc] at h
  exact h

set_option maxHeartbeats 4000000 in
theorem awake (w : World) : Calls Try.prog 8 #[] w fun x w' => x = .returned (.bool true) ∧ Below w.heap.size w w' := by
  go_enter Try.func8, Try.ntmps8
  go_wp2_with fail
  refine (inewYes 2 (by decide) w).mono ?_
  rintro x w1 ⟨i, rfl, h1, b1⟩
  have hs := b1.size
  have H1 := Lib.hid h1
  have B1 := Lib.hid b1
  clear h1 b1
  go_wp2_with fail
  have hal := (Below.refl w1.heap.size w1).alloc (Nat.le_refl _) (.cells #[.int .u8 5] 5)
  have h2 := H1.out.below hal
  refine (iputYes i w.heap.size 2 false (.slice none 0 0) [] _ [5] _ w.heap.size (by simp; omega) h2 (rdB_new rfl rfl rfl) (by decide) (by decide) (by decide)).mono ?_
  rintro x w2 ⟨rfl, sv', v', h3, o3, m3, f3⟩
  have e1 : (((([] : List Value).length + 1 : Nat) : Int) == 2) = false := by decide
  rw [e1] at h3 ⊢
  obtain ⟨va, vk, hv, _⟩ := own_shape o3
  have B2 : Hid (Below w.heap.size w w2) := B1.out.trans ((hal.mono hs).trans (f3.below' (by simp; omega) (fun k e => by
    rcases e with rfl | rfl | e
    · exact h2.ge
    · exact h2.q.ge
    · simp [Value.ownBlock] at e)))
  have H3 := Lib.hid h3
  have O3 := Lib.hid o3
  have s2 := B2.out.size
  clear h3 o3 m3 f3 e1 hal h2
  rw [hv] at H3 O3
  simp only [List.nil_append, Bool.or_false] at H3
  clear hv
  go_wp2_with fail
  refine (itakeYes i w.heap.size 2 false sv' va 1 vk [] w2 w.heap.size s2 H3.out (by decide) (by decide)).mono ?_
  rintro x w3 ⟨rfl, sv3, h4, m4, f4⟩
  have e2 : freeB false ([] : List Value).length 2 = false := rfl
  rw [e2]
  have O4 : Hid (RdB w3 (.slice va 1 vk) [5]) := (O3.out.rd).fr f4 (fun g hg e => by
    rcases e with rfl | rfl | e
    · exact own_ne O3.out H3.out.blk (by decide) hg
    · exact own_ne O3.out H3.out.q.blk (by decide) hg
    · exact own_sep O3.out H3.out.q.own (by decide) hg e)
  have B4 : Hid (Below w.heap.size w w3) := B2.out.trans (f4.below' s2 (fun k e => by
    rcases e with rfl | rfl | e
    · exact H3.out.ge
    · exact H3.out.q.ge
    · exact (H3.out.q.own.lt k e).1))
  clear h4 m4 f4 e2
  go_wp2_with fail
  refine (sameRows _ _ [5] [5] _ (O4.out.fr ((Below.refl _ w3).alloc (Nat.le_refl _) _)) (rdB_new rfl rfl rfl) (by decide)).mono ?_
  rintro x w4 ⟨rfl, hb⟩
  rw [sameB_self]
  have B5 : Hid (Below w.heap.size w w4) := (B4.out.alloc B4.out.size _).trans (hb.mono (by have := B4.out.size; simp; omega))
  clear hb
  go_wp2_with fail
  go_ret
  exact ⟨rfl, B5.out⟩
end Go.Proofs.Ytfibajfhaadnfaa
