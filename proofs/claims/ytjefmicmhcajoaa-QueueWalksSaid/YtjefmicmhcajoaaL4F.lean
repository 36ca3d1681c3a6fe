/-
  Layer 4: QueueWalks: the walk.
-/
import Derived.Test.YtjefmicmhcajoaaL4E
import Derived.Test.YtjefmicmhcajoaaL4B
import Derived.Test.YtjefmicmhcajoaaQueFI
import Derived.Test.YtjefmicmhcajoaaR4R
namespace Go.Proofs.Ytjefmicmhcajoaa
open Go.RowKit
set_option linter.unusedVariables false


set_option maxHeartbeats 4000000 in
set_option maxRecDepth 100000 in
theorem walksL (la : Option Addr) (lc : Nat) (zs : List Int) (s ch : Int) (hs : 0 ≤ s ∧ s ≤ 255) (hc : 0 ≤ ch ∧ ch ≤ 255) (w : World) (hl : RdZ w (.slice la zs.length lc) zs) (hcap : zs.length ≤ lc) : Calls Try.prog 5 #[.slice la zs.length lc, .int .u8 s, .int .u8 ch] w fun x w' => x = .returned (.bool true) ∧ Below w.heap.size w w' := by
  have Hl := Lib.hid hl
  clear hl
  go_enter Try.func5, Try.ntmps5
  go_wp2_with fail
  refine (awake w).mono ?_
  rintro x w1 ⟨rfl, b1⟩
  have B1 := Lib.hid b1
  clear b1
  by_cases h60 : 60 < zs.length
  · have hd : decide ((60 : Int) < zs.length) = true := by simp; omega
    go_wp2_with fail
    go_ret
    exact ⟨rfl, B1.out⟩
  have hd : decide ((60 : Int) < zs.length) = false := by simp; omega
  have HR : Hid (zs.length ≤ 60) := by unfold Hid; omega
  clear h60
  go_wp2_with fail
  refine (xqNewI B1.out 100 (by decide)).mono ?_
  rintro x w2 ⟨c, rfl, hq, b2⟩
  have ini : Hid (QXI w w2 c 100 (ivsI (zs.take 0))) := by rw [show max (100 : Int) 0 = 100 by decide] at hq; exact hq
  clear hq b2
  go_wp2_with fail
  go_loopw [8] (fun v wr => ∃ i : Nat, i ≤ zs.length ∧ v = .int .i64 i ∧ Hid (QXI w wr c 100 (ivsI (zs.take i)))) (fun v _ => zs.length - (intOf v).toNat)
  case atStart => exact ⟨0, by omega, rfl, ini⟩
  case round =>
    obtain ⟨i, hi, rfl, HX⟩ := hrel
    by_cases hlt : i < zs.length
    · have hrd := Rd.fr Hl.out (Fr.of_below HX.out.bel no) (fun _ _ e => e)
      obtain ⟨b1, o1, c1, e1, g1, x1⟩ := hrd.some (by omega) (by decide)
      simp at e1
      obtain ⟨rfl, rfl⟩ := e1
      clear x1
      have y1 := rdz_at hrd hlt
      clear hrd
      have hr60 : zs.length ≤ 60 := HR.out
      have Ht : Hid (ivsI (zs.take (i + 1)) = ivsI (zs.take i) ++ [.int .i64 zs[i]]) := by unfold Hid; rw [List.take_succ_eq_append_getElem hlt, ivsI, List.map_append]; rfl
      have hll : (ivsI (zs.take i)).length = i := by simp; omega
      have Hll := Lib.hid hll
      clear hll
      go_wp2_with fail
      refine (xqPutYesI HX.out (.int .i64 zs[i]) ⟨_, rfl⟩ (by rw [Hll.out]; omega) (by rw [Hll.out]; omega)).mono ?_
      rintro x w3 ⟨rfl, hx3⟩
      have H3 := Lib.hid hx3
      clear hx3
      go_wp2_with fail
      go_roundw
      case rel => exact ⟨i + 1, by omega, by go_num, by rw [Ht.out]; exact H3⟩
      case measure => simp [intOf]; omega
    · obtain rfl : i = zs.length := by omega
      rw [List.take_of_length_le (Nat.le_refl _)] at HX
      obtain ⟨sv, hq, hb⟩ := HX.out
      have HQ := Lib.hid hq
      have HB := Lib.hid hb
      clear hq hb
      go_wp2_with fail
      have hk0 : 0 ≤ s % 70 := by omega
      have hk1 : s % 70 < 70 := by omega
      refine (walk (s % 70) (ch % 3) (by omega) c 100 sv zs wr w.heap.size HB.out.size HQ.out (by have := HR.out; omega) hk0).mono ?_
      rintro x w4 ⟨ov, rfl, o4, b4⟩
      obtain ⟨zt, hzt⟩ : ∃ zt, zt = zs.take (s % 70).toNat := ⟨_, rfl⟩
      rw [← hzt] at o4
      have Hzt := Lib.hid hzt
      obtain ⟨oa, oc, hov, _⟩ := own_shape o4
      rw [ivsI_len] at hov
      subst hov
      have O4 := Lib.hid o4
      have HB4 := Lib.hid (HB.out.trans b4)
      have Hl4 := Lib.hid (Rd.fr Hl.out (Fr.of_below HB4.out no) (fun _ _ e => e))
      clear o4 b4 hzt
      by_cases hm : (zs.length : Int) ≤ s % 70
      · have hz : zt = zs := by rw [Hzt.out]; exact List.take_of_length_le (by omega)
        subst hz
        go_wp2_with fail
        refine (ints _ _ zt zt w4 (rdz_of_own O4.out) Hl4.out (by have := HR.out; omega)).mono ?_
        rintro x w5 ⟨rfl, b5⟩
        rw [sameZ_self]
        go_wp2_with fail
        go_ret
        exact ⟨rfl, HB4.out.trans (b5.mono HB4.out.size)⟩
      · have h01 : 0 ≤ s % 70 ∧ s % 70 ≤ (lc : Int) := by omega
        have hm2 : s % 70 < (zs.length : Int) := by omega
        have hzl : zt.length = (s % 70).toNat := by rw [Hzt.out, List.length_take]; omega
        have Hzl := Lib.hid hzl
        have Hrd : Hid (RdZ w4 (.slice la (s % 70).toNat lc) zt) := by
          obtain ⟨h1, a, c', hv, h2, h3⟩ := Hl4.out
          simp at hv
          obtain ⟨rfl, rfl⟩ := hv
          refine ⟨by simp, la, lc, by rw [hzl], fun e => ?_, fun ad e j u hu => h3 ad e j u ?_⟩
          · have := (h2 e).1; have := (h2 e).2; rw [hzl]; omega
          · rw [Hzt.out] at hu
            have e1 := flat_take enQ 1 enQ_len (ivsI zs) (s % 70).toNat
            rw [← List.map_take] at e1
            rw [show ivsI (zs.take (s % 70).toNat) = (zs.take (s % 70).toNat).map (fun z => Value.int .i64 z) from rfl, ← e1, List.getElem?_take] at hu
            split at hu
            · exact hu
            · cases hu
        clear hzl
        go_wp2_with fail
        refine (ints _ _ zt zt w4 (rdz_of_own O4.out) Hrd.out (by have := HR.out; have := Hzl.out; omega)).mono ?_
        rintro x w5 ⟨rfl, b5⟩
        rw [sameZ_self]
        go_wp2_with fail
        go_ret
        exact ⟨rfl, HB4.out.trans (b5.mono HB4.out.size)⟩
end Go.Proofs.Ytjefmicmhcajoaa
