/-
  Layer 18: BackRoom: the walk.
-/
import Derived.Test.YtlpkjnafmknddaaL18A
import Derived.Deep.LoopGhost
namespace Go.Proofs.Ytlpkjnafmknddaa
open Go.RowKit
set_option linter.unusedVariables false


theorem one_le {bs : List (List Int)} {n : Nat} (h : ∀ x ∈ bs, x.length ≤ n) {i : Nat} (hi : i < bs.length) : bs[i].length ≤ n := h _ (List.getElem_mem hi)

set_option maxHeartbeats 8000000 in
set_option maxRecDepth 100000 in
theorem roomL (most sent acked : Nat) (w : World) (h1 : most < 256) (h2 : sent < 256) (h3 : acked < 256) : Calls Try.prog 3 #[.int .u8 most, .int .u8 sent, .int .u8 acked] w fun x w' => x = .returned (.bool true) ∧ Below w.heap.size w w' := by
  obtain ⟨n, hn⟩ : ∃ n, n = 1 + most % 60 := ⟨_, rfl⟩
  obtain ⟨s, hs⟩ : ∃ s, s = sent % (n + 1) := ⟨_, rfl⟩
  have HnB : Hid (1 ≤ n ∧ n ≤ 60) := by unfold Hid; omega
  have HsB : Hid (s ≤ n) := by have := Nat.mod_lt sent (show 0 < n + 1 by omega); unfold Hid; omega
  have n16 : 1 + (most : Int) % 60 = (n : Int) := by omega
  have s16 : (sent : Int) % ((n : Int) + 1) = (s : Int) := by rw [hs]; simp
  have hn60 : (n : Int) ≤ 60 := by omega
  have N16 := Lib.hid n16
  have S16 := Lib.hid s16
  clear hn hs s16
  go_enter Try.func3, Try.ntmps3
  go_wp2_with fail
  refine (awake w).mono ?_
  rintro x w1 ⟨rfl, b1⟩
  have B1 := Lib.hid b1
  clear b1
  go_wp2_with fail
  refine (xNew B1.out n (by omega)).mono ?_
  rintro x w2 ⟨b, rfl, h2⟩
  rw [show max (n : Int) 0 = (n : Int) by omega] at h2
  have H2 := Lib.hid h2
  clear h2 n16
  go_wp2_with fail
  go_loopg [9] n (fun g s9 wx => ∃ (i : Nat) (bs : List (List Int)), s9 = .int .i64 i ∧ i ≤ n ∧ g = n - i ∧ bs.length = i ∧ (∀ x ∈ bs, x.length = 1) ∧ BkX w wx [] b n 0 bs)
  case atStart => exact ⟨0, [], rfl, Nat.zero_le _, rfl, rfl, fun x hx => by simp at hx, H2.out⟩
  case round =>
    obtain ⟨i, bs, rfl, hi, rfl, hbl, hb1, hx⟩ := hrel
    have HX := Lib.hid hx
    have HI : Hid (bs.length = i ∧ ∀ x ∈ bs, x.length = 1) := ⟨hbl, hb1⟩
    clear hx hbl hb1 H2
    by_cases hin : i < n
    · have hd : decide ((i : Int) < (n : Int)) = true := by simp; omega
      have hi8 : (i : Int) ≤ 255 := by omega
      go_wp2_with fail
      refine (xPutYes (HX.out.below ((Below.refl _ wr).alloc (Nat.le_refl _) _)) (rdB_new (l := [(i : Int)]) rfl rfl rfl) (by simp) (by have := HI.out; omega) (by have := HI.out; omega)).mono ?_
      rintro x w3 ⟨rfl, h3⟩
      have H3 := Lib.hid h3
      clear h3
      go_wp2_with fail
      go_roundg (n - (i + 1))
      case measure => omega
      case rel =>
        refine ⟨i + 1, bs ++ [[(i : Int)]], by go_num, by omega, rfl, by have := HI.out; simp; omega, fun x hx => ?_, H3.out⟩
        rcases List.mem_append.1 hx with hx | hx
        · exact HI.out.2 x hx
        · rw [List.mem_singleton.1 hx]; rfl
    · obtain rfl : i = n := by omega
      have hd : decide ((i : Int) < (i : Int)) = false := by simp
      have s16 := S16.out
      go_wp2_with fail
      simp only [s16]
      clear s16
      go_loopg [11] s (fun g s11 wx => ∃ (j : Nat), s11 = .int .i64 j ∧ j ≤ s ∧ g = s - j ∧ BkX w wx [] b i j bs)
      case atStart => exact ⟨0, rfl, Nat.zero_le _, rfl, HX.out⟩
      case round =>
        obtain ⟨j, rfl, hj, rfl, hx⟩ := hrel
        clear HX
        have HX := Lib.hid hx
        clear hx
        by_cases hjs : j < s
        · have hd : decide ((j : Int) < (s : Int)) = true := by simp; omega
          have hj8 : (j : Int) ≤ 60 := by have := HsB.out; omega
          go_wp2_with fail
          have hjl : j < bs.length := by have := HI.out.1; have := HsB.out; omega
          refine (xNextYes HX.out hjl (by have := HI.out; omega) (by have := HI.out.2 _ (List.getElem_mem hjl); omega)).mono ?_
          rintro x w3 ⟨v, rfl, h3⟩
          have H3 := Lib.hid h3.forget
          obtain ⟨va, vk, rfl, _⟩ := own_shape (h3.own (List.mem_cons_self ..))
          clear h3
          go_wp2_with fail
          go_roundg (s - (j + 1))
          case measure => omega
          case rel => exact ⟨j + 1, by go_num, by omega, rfl, H3.out⟩
        · obtain rfl : j = s := by omega
          have hd : decide ((j : Int) < (j : Int)) = false := by simp
          go_wp2_with fail
          refine (xPutNo (HX.out.below ((Below.refl _ wr).alloc (Nat.le_refl _) _)) (rdB_new (l := [9]) rfl rfl rfl) (by simp) (by have := HI.out; omega) (by have := HI.out; omega)).mono ?_
          rintro x w3 ⟨rfl, h3⟩
          have H3 := Lib.hid h3
          clear h3
          go_wp2_with fail
          refine (xAcked H3.out acked (by have := HI.out; omega)).mono ?_
          rintro x w4 ⟨rfl, h4⟩
          by_cases hja : j < acked
          · have hdj : decide (j < acked) = true := by simpa using hja
            have HA : Hid (ackN (acked : Int) j = j) := by unfold Hid ackN; omega
            rw [HA.out] at h4 ⊢
            have HK : Hid (j ≤ j) := by unfold Hid; omega
            have H4 := Lib.hid h4
            clear h4
            have hjn : (j : Int) ≤ i := by have := HsB.out; omega
            have hk1 : (j : Int) ≤ j := by have := HK.out; omega
            have B4 : Hid ((bs.drop j).length = i - j) := by have := HI.out; unfold Hid; simp; omega
            obtain ⟨b4, hb4⟩ : ∃ b4, b4 = bs.drop j := ⟨_, rfl⟩
            rw [← hb4] at B4 H4
            clear hb4
            go_wp2_with fail
            go_loopg [15] j (fun g s15 wx => ∃ (r : Nat) (bs : List (List Int)), s15 = .int .i64 r ∧ r ≤ j ∧ g = j - r ∧ bs.length = i - j + r ∧ BkX w wx [] b i (j - j) bs)
            case atStart => exact ⟨0, b4, rfl, Nat.zero_le _, rfl, B4.out, H4.out⟩
            case round =>
              obtain ⟨r, b5, rfl, hr, rfl, hbl, hx⟩ := hrel
              have HX5 := Lib.hid hx
              have HB5 := Lib.hid hbl
              clear hx hbl
              by_cases hrk : r < j
              · go_wp2_with fail
                refine (xPutYes (HX5.out.below ((Below.refl _ wr).alloc (Nat.le_refl _) _)) (rdB_new (l := [1]) rfl rfl rfl) (by simp) (by have := HB5.out; omega) (by have := HB5.out; have := HK.out; omega)).mono ?_
                rintro x w5 ⟨rfl, h5⟩
                have H5 := Lib.hid h5
                have hr6 : (r : Int) ≤ 60 := by have := HK.out; omega
                clear h5
                go_wp2_with fail
                go_roundg (j - (r + 1))
                case measure => omega
                case rel => exact ⟨r + 1, _, by go_num, by omega, rfl, by have := HB5.out; simp; omega, H5.out⟩
              · obtain rfl : j = r := by omega
                go_wp2_with fail
                refine (xPutNo (HX5.out.below ((Below.refl _ wr).alloc (Nat.le_refl _) _)) (rdB_new (l := [1]) rfl rfl rfl) (by simp) (by have := HB5.out; omega) (by have := HB5.out; have := HK.out; have := HsB.out; omega)).mono ?_
                rintro x w5 ⟨rfl, h5⟩
                have H5 := Lib.hid h5
                clear h5
                go_wp2_with fail
                refine (xOut H5.out).mono ?_
                rintro x w6 ⟨rfl, rfl⟩
                skip
                go_wp2_with fail
                refine (xWaits H5.out (by have := HB5.out; omega)).mono ?_
                rintro x w7 ⟨rfl, rfl⟩
                have e2 : (b5.length : Int) - ((j - j : Nat) : Int) = (i : Int) - j + j := by have := HB5.out; have := HK.out; have := HsB.out; omega
                rw [e2]
                go_wp2_with fail
                go_ret
                exact ⟨rfl, H5.out.bel⟩
          · have hdj : decide (j < acked) = false := by simpa using hja
            have HA : Hid (ackN (acked : Int) j = acked) := by unfold Hid ackN; omega
            rw [HA.out] at h4 ⊢
            have HK : Hid (acked ≤ j) := by unfold Hid; omega
            have H4 := Lib.hid h4
            clear h4
            have hjn : (j : Int) ≤ i := by have := HsB.out; omega
            have hk1 : (acked : Int) ≤ j := by have := HK.out; omega
            have B4 : Hid ((bs.drop acked).length = i - acked) := by have := HI.out; unfold Hid; simp; omega
            obtain ⟨b4, hb4⟩ : ∃ b4, b4 = bs.drop acked := ⟨_, rfl⟩
            rw [← hb4] at B4 H4
            clear hb4
            go_wp2_with fail
            go_loopg [15] acked (fun g s15 wx => ∃ (r : Nat) (bs : List (List Int)), s15 = .int .i64 r ∧ r ≤ acked ∧ g = acked - r ∧ bs.length = i - acked + r ∧ BkX w wx [] b i (j - acked) bs)
            case atStart => exact ⟨0, b4, rfl, Nat.zero_le _, rfl, B4.out, H4.out⟩
            case round =>
              obtain ⟨r, b5, rfl, hr, rfl, hbl, hx⟩ := hrel
              have HX5 := Lib.hid hx
              have HB5 := Lib.hid hbl
              clear hx hbl
              by_cases hrk : r < acked
              · go_wp2_with fail
                refine (xPutYes (HX5.out.below ((Below.refl _ wr).alloc (Nat.le_refl _) _)) (rdB_new (l := [1]) rfl rfl rfl) (by simp) (by have := HB5.out; omega) (by have := HB5.out; have := HK.out; omega)).mono ?_
                rintro x w5 ⟨rfl, h5⟩
                have H5 := Lib.hid h5
                have hr6 : (r : Int) ≤ 60 := by have := HK.out; omega
                clear h5
                go_wp2_with fail
                go_roundg (acked - (r + 1))
                case measure => omega
                case rel => exact ⟨r + 1, _, by go_num, by omega, rfl, by have := HB5.out; simp; omega, H5.out⟩
              · obtain rfl : acked = r := by omega
                go_wp2_with fail
                refine (xPutNo (HX5.out.below ((Below.refl _ wr).alloc (Nat.le_refl _) _)) (rdB_new (l := [1]) rfl rfl rfl) (by simp) (by have := HB5.out; omega) (by have := HB5.out; have := HK.out; have := HsB.out; omega)).mono ?_
                rintro x w5 ⟨rfl, h5⟩
                have H5 := Lib.hid h5
                clear h5
                go_wp2_with fail
                refine (xOut H5.out).mono ?_
                rintro x w6 ⟨rfl, rfl⟩
                have e1 : ((j - acked : Nat) : Int) = (j : Int) - (acked : Int) := by have := HK.out; omega
                simp only [e1]
                go_wp2_with fail
                refine (xWaits H5.out (by have := HB5.out; omega)).mono ?_
                rintro x w7 ⟨rfl, rfl⟩
                have e2 : (b5.length : Int) - ((j - acked : Nat) : Int) = (i : Int) - j + acked := by have := HB5.out; have := HK.out; have := HsB.out; omega
                rw [e2]
                go_wp2_with fail
                go_ret
                exact ⟨rfl, H5.out.bel⟩
theorem roomZ (a b c : Int) (ha : 0 ≤ a ∧ a ≤ 255) (hb : 0 ≤ b ∧ b ≤ 255) (hc : 0 ≤ c ∧ c ≤ 255) (w : World) : Calls Try.prog 3 #[.int .u8 a, .int .u8 b, .int .u8 c] w fun x w' => x = .returned (.bool true) ∧ Below w.heap.size w w' := by
  obtain ⟨a, rfl⟩ := Int.eq_ofNat_of_zero_le ha.1
  obtain ⟨b, rfl⟩ := Int.eq_ofNat_of_zero_le hb.1
  obtain ⟨c, rfl⟩ := Int.eq_ofNat_of_zero_le hc.1
  exact roomL a b c w (by omega) (by omega) (by omega)
end Go.Proofs.Ytlpkjnafmknddaa
