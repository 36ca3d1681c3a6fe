/-
  Layer 10: ClockLeft: the walk.
-/
import Derived.Test.YtidcjbfppdhghaaC10A
import Derived.Test.YtidcjbfppdhghaaC10F
namespace Go.Proofs.Ytidcjbfppdhghaa
open Go.RowKit


theorem left_over {left : Int} (h : left ≠ 1) : overLI [(3, left)] = [] ∧ restLI [(3, left)] = [(3, left - 1)] := by
  unfold overLI restLI
  simp [h]
theorem left_over1 : overLI [(3, 1)] = [3] ∧ restLI [(3, 1)] = [] := ⟨by decide, by decide⟩
theorem left_left (left : Int) : leftLI 3 [(3, left)] = left := by simp [leftLI, keqI]
theorem left_left0 : leftLI 3 [] = 0 := rfl
theorem left_start0 {n : Int} (h : 1 ≤ n ∧ n ≤ 10000) : startOkI (max 1 0) 3 n [] = true ∧ afterStartI (max 1 0) 3 n [] = [(3, n)] := by
  have h1 : startOkI (max 1 0) 3 n [] = true := by
    unfold startOkI
    simp
    omega
  exact ⟨h1, by unfold afterStartI; rw [if_pos h1]; rfl⟩
theorem left_start {n left : Int} (h : 1 ≤ n ∧ n ≤ 10000) : startOkI (max 1 0) 3 n [(3, left)] = true ∧ afterStartI (max 1 0) 3 n [(3, left)] = [(3, n)] := by
  have h1 : startOkI (max 1 0) 3 n [(3, left)] = true := by
    unfold startOkI fidxI
    simp [keqI, List.findIdx?_cons]
    omega
  exact ⟨h1, by unfold afterStartI; rw [if_pos h1]; simp [startLI, stopLI, keqI]⟩

structure LeftInv (c : Nat) (left now : Int) (w wr : World) : Prop where
  clk : ClkI wr c c (max 1 0) now [(3, left)]
  bel : Below w.heap.size w wr

set_option maxRecDepth 100000 in
set_option maxHeartbeats 4000000 in
theorem leftLaw (a0 : Int) (h0 : 0 ≤ a0 ∧ a0 ≤ 65535) (v1 : Value) (l : List Int) (w : World) (hl : Rd w 1 v1 l.length (l.flatMap fun z => [Value.int .u8 z])) (hok : ∀ d ∈ l, 0 ≤ d ∧ d ≤ 255) (hm : l.length ≤ maxLen) :
    Calls Try.prog 8 #[.int .u16 a0, v1] w fun e w' => e = .returned (.bool true) ∧ Below w.heap.size w w' := by
  obtain ⟨a, cp, rfl⟩ := hl.len
  obtain ⟨h10, h11⟩ := h0
  have hm2 : l.length ≤ 9223372036854775807 := by unfold maxLen at hm; omega
  have Hok := Lib.hid hok
  have Hl := Lib.hid hl
  clear hok hl
  by_cases hlen : 60 < l.length
  · go_enter Try.func8, Try.ntmps8
    go_wp2_with fail
    refine (awake w).mono ?_
    rintro e w0 ⟨rfl, hb0⟩
    go_wp2_with fail
    go_ret
    exact ⟨rfl, hb0⟩
  · go_enter Try.func8, Try.ntmps8
    go_wp2_with fail
    refine (awake w).mono ?_
    rintro e w0 ⟨rfl, hb0⟩
    go_wp2_with fail
    refine (newI' 1 w0 (by decide)).mono ?_
    rintro e w1 ⟨rfl, hk1, hb1⟩
    obtain ⟨c, hc⟩ : ∃ c, c = w0.heap.size := ⟨_, rfl⟩
    rw [← hc] at hk1 ⊢
    have hcs : w.heap.size ≤ c := by rw [hc]; exact hb0.size
    have hbc : Below w.heap.size w w1 := hb0.trans (hb1.mono hb0.size)
    clear hc hb0 hb1
    obtain ⟨n, hn⟩ := Int.eq_ofNat_of_zero_le (show (0 : Int) ≤ 1 + a0 % 10000 by omega)
    have hn1 : 1 ≤ n := by omega
    have hn2 : n ≤ 10000 := by omega
    have Hn := Lib.hid hn
    clear hn
    go_wp2_with fail
    rw [Hn.out]
    clear h10 h11
    refine (startI' 3 n c _ _ _ w1 c hk1).mono ?_
    rw [(left_start0 (n := (n : Int)) (by omega)).1, (left_start0 (n := (n : Int)) (by omega)).2]
    rintro e w2 ⟨rfl, hk2, hb2⟩
    have Inv0 : Hid (LeftInv c n 0 w w2) := ⟨hk2, hbc.trans (hb2.mono hcs)⟩
    clear hk1 hk2 hb2 hbc
    go_wp2_with fail
    go_loopw [7, 8] (fun v7 v8 wr => ∃ i left now : Nat, i ≤ l.length ∧ v8 = .int .i64 i ∧ v7 = .int .i64 left ∧ 1 ≤ left ∧ left ≤ n ∧ now ≤ 20 * i ∧ Hid (LeftInv c left now w wr)) (fun _ v8 _ => l.length - (intOf v8).toNat)
    case atStart => exact ⟨0, n, 0, by omega, rfl, rfl, hn1, Nat.le_refl _, by omega, Inv0⟩
    case round =>
      obtain ⟨i, left, now, hi, rfl, rfl, hl1, hln, hnow, Inv⟩ := hrel
      by_cases hil : i < l.length
      · obtain ⟨b, of, cp', hv, hb, hx⟩ := Hl.out.some (by omega) (by decide)
        simp at hv
        obtain ⟨rfl, rfl⟩ := hv
        obtain ⟨d1, d2⟩ := Hok.out l[i] (List.getElem_mem hil)
        have x0 : Hid (∀ wr : World, Below w.heap.size w wr → wr.cell? ⟨b, of + i, none⟩ = some (.int .u8 l[i])) := fun wr hbel => (hbel.cell (p := ⟨b, _, none⟩) hb).trans (by have := Rd.el (enc := fun z => [Value.int .u8 z]) (k := 1) (fun _ => rfl) hx hil (j := 0) (by decide) rfl; simpa using this)
        clear hx
        obtain ⟨k0, hk0⟩ := Int.eq_ofNat_of_zero_le (show (0 : Int) ≤ l[i] % 20 by omega)
        have hk20 : k0 < 20 := by omega
        have Hk0 := Lib.hid hk0
        clear hk0
        go_wp2_with fail
        go_loopw [7, 9] (fun v7 v9 wr => ∃ k left now : Nat, k ≤ k0 ∧ v9 = .int .i64 k ∧ v7 = .int .i64 left ∧ 1 ≤ left ∧ left ≤ n ∧ now ≤ 20 * i + k ∧ Hid (LeftInv c left now w wr)) (fun _ v9 _ => k0 - (intOf v9).toNat)
        case atStart => exact ⟨0, left, now, by omega, rfl, rfl, hl1, hln, by omega, Inv⟩
        case round =>
          clear Inv hl1 hln hnow
          obtain ⟨k, left, now, hk, rfl, rfl, hl1, hln, hnow, Inv⟩ := hrel
          have x1 := x0.out wr Inv.out.bel
          have x2 := Hk0.out
          by_cases hkl : k < k0
          · have hkd : decide ((k : Int) < l[i] % 20) = true := by simp; omega
            by_cases hlone : left = 1
            · subst hlone
              go_wp2_with fail
              refine (tickI' c _ _ _ wr c ⟨by omega, by omega⟩ Inv.out.clk).mono ?_
              rw [show ((1 : Nat) : Int) = 1 from rfl, left_over1.1, left_over1.2]
              rintro e w3 ⟨ov3, rfl, ho3, hk3, hf3, hb3⟩
              obtain ⟨a3, c3, rfl, _⟩ := own_shape ho3
              have hb4 := Inv.out.bel.trans (hb3.mono hcs)
              obtain ⟨_, sv3, hk4⟩ := hk3
              have Hk4 := Lib.hid hk4
              have Hb4 := Lib.hid hb4
              clear hk4 hb4 hb3 hf3 ho3
              go_wp2_with fail
              refine (leftI 3 c _ _ sv3 _ w3 c Hk4.out).mono ?_
              rw [left_left0]
              rintro e w5 ⟨rfl, hb5⟩
              have Hk6 := Lib.hid (Hk4.out.below hb5)
              have Hb6 := Lib.hid (Hb4.out.trans (hb5.mono Hb4.out.size))
              clear hb5
              go_wp2_with fail
              refine (lenI c _ _ sv3 _ w5 c Hk6.out).mono ?_
              rintro e w7 ⟨rfl, hb7⟩
              have Hk8 := Lib.hid (Hk6.out.below hb7)
              have Hb8 := Lib.hid (Hb6.out.trans (hb7.mono Hb6.out.size))
              clear hb7
              go_wp2_with fail
              refine (runs (-1) c _ _ sv3 _ w7 c Hk8.out).mono ?_
              rw [show firstN (-1) [] = [] from rfl]
              rintro e w9 ⟨ov9, rfl, ho9, hb9⟩
              obtain ⟨a9, c9, rfl, _⟩ := own_shape ho9
              have Hb10 := Lib.hid (Hb8.out.trans (hb9.mono Hb8.out.size))
              clear hb9 ho9
              go_wp2_with fail
              go_ret
              exact ⟨rfl, Hb10.out⟩
            · have hd1 : ((left : Int) - 1 == 0) = false := by simp; omega
              go_wp2_with fail
              refine (tickI' c _ _ _ wr c ⟨by omega, by omega⟩ Inv.out.clk).mono ?_
              rw [(left_over (left := (left : Int)) (by omega)).1, (left_over (left := (left : Int)) (by omega)).2]
              rintro e w3 ⟨ov3, rfl, ho3, hk3, hf3, hb3⟩
              obtain ⟨a3, c3, rfl, _⟩ := own_shape ho3
              have fin : Hid (LeftInv c ((left - 1 : Nat) : Int) ((now + 1 : Nat) : Int) w w3) := by
                refine ⟨?_, Inv.out.bel.trans (hb3.mono hcs)⟩
                rw [show ((left - 1 : Nat) : Int) = (left : Int) - 1 by omega]
                exact hk3
              clear hk3 hb3 hf3 ho3
              go_wp2_with fail
              go_roundw
              case rel => exact ⟨k + 1, left - 1, now + 1, by omega, by go_num, by go_num, by omega, by omega, by omega, fin⟩
              case measure => simp [intOf]; omega
          · have hkd : decide ((k : Int) < l[i] % 20) = false := by simp; omega
            obtain ⟨_, sv, hsv⟩ := Inv.out.clk
            have Hsv := Lib.hid hsv
            clear hsv
            go_wp2_with fail
            refine (runs (-1) c _ _ sv _ wr c Hsv.out).mono ?_
            rw [show firstN (-1) [((3 : Int), (left : Int))] = [(3, (left : Int))] from rfl]
            rintro e w3 ⟨ov3, rfl, ho3, hb3⟩
            obtain ⟨g3, c3, rfl, hg3, _⟩ := own_some (n := 1) ho3 (by decide)
            have Hk4 := Lib.hid (Hsv.out.below hb3)
            have Hb4 := Lib.hid (Inv.out.bel.trans (hb3.mono Inv.out.bel.size))
            have Ho3 := Lib.hid ho3
            clear hb3 ho3
            go_wp2_with fail
            refine (leftI 3 c _ _ sv _ w3 c Hk4.out).mono ?_
            rw [left_left]
            rintro e w5 ⟨rfl, hb5⟩
            have y0 : w5.cell? ⟨g3, 0, none⟩ = some (.int .i64 3) := Ho3.out.cell' encI_len hb5 0 0 (by simp) (by decide)
            have y1 : w5.cell? ⟨g3, 1, none⟩ = some (.int .i64 left) := Ho3.out.cell' encI_len hb5 0 1 (by simp) (by decide)
            have Hk6 := Lib.hid (Hk4.out.below hb5)
            have Hb6 := Lib.hid (Hb4.out.trans (hb5.mono Hb4.out.size))
            have x3 := x0.out w5 Hb6.out
            clear hb5
            cases h32 : (bits .and .u8 l[i] 32 == 32) with
            | false =>
              go_wp2_with fail
              go_roundw
              case rel => exact ⟨i + 1, left, now, by omega, by go_num, rfl, by omega, by omega, by omega, ⟨⟨by have := lt_of_block Hk6.out.blk; omega, sv, Hk6.out⟩, Hb6.out⟩⟩
              case measure => simp [intOf]; omega
            | true =>
              go_wp2_with fail
              refine (startI' 3 n c _ _ _ w5 c ⟨by have := lt_of_block Hk6.out.blk; omega, sv, Hk6.out⟩).mono ?_
              rw [(left_start (n := (n : Int)) (by omega)).1, (left_start (n := (n : Int)) (by omega)).2]
              rintro e w7 ⟨rfl, hk7, hb7⟩
              have fin : Hid (LeftInv c n now w w7) := ⟨hk7, Hb6.out.trans (hb7.mono hcs)⟩
              clear hk7 hb7
              go_wp2_with fail
              go_roundw
              case rel => exact ⟨i + 1, n, now, by omega, by go_num, rfl, by omega, by omega, by omega, fin⟩
              case measure => simp [intOf]; omega
      · have hbel := Inv.out.bel
        clear Inv
        go_wp2_with fail
        go_ret
        exact ⟨rfl, hbel⟩
end Go.Proofs.Ytidcjbfppdhghaa
