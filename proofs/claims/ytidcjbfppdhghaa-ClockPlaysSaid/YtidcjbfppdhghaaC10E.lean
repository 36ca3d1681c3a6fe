/-
  Layer 10: ClockOnce: the walk.
-/
import Derived.Test.YtidcjbfppdhghaaC10D
import Derived.Test.YtidcjbfppdhghaaC10A
namespace Go.Proofs.Ytidcjbfppdhghaa
open Go.RowKit


/-- A Deed: Do, Key, N. -/
abbrev Deed := Int × Int × Int
def encD (d : Deed) : List Value := [.int .i64 d.1, .int .i64 d.2.1, .int .i64 d.2.2]
theorem encD_len (d : Deed) : (encD d).length = 3 := rfl
def okD (d : Deed) : Prop := (-9223372036854775808 ≤ d.1 ∧ d.1 ≤ 9223372036854775807) ∧ (-9223372036854775808 ≤ d.2.1 ∧ d.2.1 ≤ 9223372036854775807) ∧ (-9223372036854775808 ≤ d.2.2 ∧ d.2.2 ≤ 9223372036854775807)

/-- What holds at a round's head. -/
structure OnceInv (n : Nat) (len c : Nat) (w : World) (i now told : Nat) (wr : World) : Prop where
  clk : ∃ L, ClkI wr c c (max 50 0) now L ∧ Mine L (max ((n : Int) - now) 0)
  le : now ≤ i
  late : i ≤ len + now
  told : told = if n ≤ now then 1 else 0
  bel : Below w.heap.size w wr
  cge : w.heap.size ≤ c

set_option maxHeartbeats 4000000 in
theorem once (v0 : Value) (l : List Deed) (a1 : Int) (h1 : 0 ≤ a1 ∧ a1 ≤ 255) (w : World) (hl : Rd w 3 v0 l.length (l.flatMap encD)) (hok : ∀ d ∈ l, okD d) (hm : l.length ≤ maxLen) :
    Calls Try.prog 4 #[v0, .int .u8 a1] w fun e w' => e = .returned (.bool true) ∧ Below w.heap.size w w' := by
  obtain ⟨a, cp, rfl⟩ := hl.len
  obtain ⟨h10, h11⟩ := h1
  have hm2 : l.length ≤ 9223372036854775807 := by unfold maxLen at hm; omega
  have Hok := Lib.hid hok
  have Hl := Lib.hid hl
  clear hok hl
  by_cases hlen : 200 < l.length
  · go_enter Try.func4, Try.ntmps4
    go_wp2_with fail
    refine (awake w).mono ?_
    rintro e w0 ⟨rfl, hb0⟩
    go_wp2_with fail
    go_ret
    exact ⟨rfl, hb0⟩
  · go_enter Try.func4, Try.ntmps4
    go_wp2_with fail
    refine (awake w).mono ?_
    rintro e w0 ⟨rfl, hb0⟩
    go_wp2_with fail
    refine (newI' 50 w0 (by decide)).mono ?_
    rintro e w1 ⟨rfl, hk1, hb1⟩
    obtain ⟨c, hc⟩ : ∃ c, c = w0.heap.size := ⟨_, rfl⟩
    rw [← hc] at hk1 ⊢
    have hcs : w.heap.size ≤ c := by rw [hc]; exact hb0.size
    have hbc : Below w.heap.size w w1 := hb0.trans (hb1.mono hb0.size)
    clear hc hb0 hb1
    obtain ⟨n, hn⟩ := Int.eq_ofNat_of_zero_le (show (0 : Int) ≤ 1 + a1 % 100 by omega)
    have hn1 : 1 ≤ n := by omega
    have hn2 : n ≤ 100 := by omega
    have Hn := Lib.hid hn
    clear hn
    go_wp2_with fail
    rw [Hn.out]
    clear h10 h11
    have hst : startOkI (max 50 0) (-1) n [] = true ∧ afterStartI (max 50 0) (-1) n [] = [(-1, (n : Int))] := by
      have h : startOkI (max 50 0) (-1) n [] = true := by
        unfold startOkI
        simp
        omega
      exact ⟨h, by unfold afterStartI; rw [if_pos h]; rfl⟩
    refine (startI' (-1) n c _ _ _ w1 c hk1).mono ?_
    rw [hst.1, hst.2]
    rintro e w2 ⟨rfl, hk2, hb2⟩
    have inv0 : OnceInv n l.length c w 0 0 0 w2 := ⟨⟨_, hk2, by unfold Mine; simp; omega⟩, Nat.le_refl _, by omega, by simp; omega, hbc.trans (hb2.mono hcs), hcs⟩
    have Inv0 := Lib.hid inv0
    clear inv0 hst hk1 hk2 hb2 hbc
    go_wp2_with fail
    go_loopw [7, 8, 9] (fun v7 v8 v9 wr => ∃ i now told : Nat, i ≤ l.length + n ∧ v7 = .int .i64 now ∧ v8 = .int .i64 told ∧ v9 = .int .i64 i ∧ OnceInv n l.length c w i now told wr) (fun _ _ v9 _ => l.length + n - (intOf v9).toNat)
    case atStart => exact ⟨0, 0, 0, by omega, rfl, rfl, rfl, Inv0.out⟩
    case round =>
      obtain ⟨i, now, told, hi, rfl, rfl, rfl, hinv⟩ := hrel
      have hle := hinv.le
      have I := Lib.hid hinv
      clear hinv
      by_cases hlt : i < l.length + n
      · by_cases hil : i < l.length
        · obtain ⟨b, o, cp', hv, hb, hx⟩ := Hl.out.some (by omega) (by decide)
          simp at hv
          obtain ⟨rfl, rfl⟩ := hv
          have hd := Hok.out l[i] (List.getElem_mem hil)
          obtain ⟨⟨d1, d2⟩, ⟨d3, d4⟩, d5, d6⟩ := hd
          have x0 : wr.cell? ⟨b, o + i * 3, none⟩ = some (.int .i64 l[i].1) := (I.out.bel.cell (p := ⟨b, _, none⟩) hb).trans (Rd.el encD_len hx hil (j := 0) (by decide) rfl)
          have x1 : wr.cell? ⟨b, o + i * 3 + 1, none⟩ = some (.int .i64 l[i].2.1) := (I.out.bel.cell (p := ⟨b, _, none⟩) hb).trans (Rd.el encD_len hx hil (j := 1) (by decide) rfl)
          have x2 : wr.cell? ⟨b, o + i * 3 + 2, none⟩ = some (.int .i64 l[i].2.2) := (I.out.bel.cell (p := ⟨b, _, none⟩) hb).trans (Rd.el encD_len hx hil (j := 2) (by decide) rfl)
          have hbr : b < wr.heap.size := by have := I.out.bel.size; omega
          have Hx := Lib.hid hx
          clear hx
          have hand := i64_and15 l[i].2.1
          obtain ⟨L, hL, hmine⟩ := I.out.clk
          have hlate := I.out.late
          have HL := Lib.hid hL
          clear hL
          rcases (show l[i].1 ≤ 3 ∨ l[i].1 = 4 ∨ 5 ≤ l[i].1 by omega) with hd | hd | hd
          · go_wp2_with fail
            refine (startI' (l[i].2.1 % 16) l[i].2.2 c _ _ _ _ c (HL.out.below ((Below.refl _ wr).alloc (Nat.le_refl _) _))).mono ?_
            rintro e w3 ⟨rfl, hk3, hb3⟩
            have hend : OnceInv n l.length c w (i + 1) now told w3 := by
              have I' := I.out
              exact ⟨⟨_, hk3, mine_start _ hmine (by omega)⟩, by omega, by omega, I'.told, (I'.bel.alloc I'.bel.size _).trans (hb3.mono I'.cge), I'.cge⟩
            have Hend := Lib.hid hend
            clear hend hk3 hb3
            go_wp2_with fail
            go_roundw
            case rel => exact ⟨i + 1, now, told, by omega, rfl, rfl, by go_num, Hend.out⟩
            case measure => simp [intOf]; omega
          · have hd2 : (l[i].1 == 4) = true := by simp [hd]
            have hd3 : ¬ l[i].1 ≤ 3 := by omega
            clear hd
            go_wp2_with fail
            refine (stopI' (l[i].2.1 % 16) c _ _ _ _ c (HL.out.below ((Below.refl _ wr).alloc (Nat.le_refl _) _))).mono ?_
            rintro e w3 ⟨rfl, hk3, hb3⟩
            have hend : OnceInv n l.length c w (i + 1) now told w3 := by
              have I' := I.out
              exact ⟨⟨_, hk3, mine_stop hmine (by omega)⟩, by omega, by omega, I'.told, (I'.bel.alloc I'.bel.size _).trans (hb3.mono I'.cge), I'.cge⟩
            have Hend := Lib.hid hend
            clear hend hk3 hb3
            go_wp2_with fail
            go_roundw
            case rel => exact ⟨i + 1, now, told, by omega, rfl, rfl, by go_num, Hend.out⟩
            case measure => simp [intOf]; omega
          · have hd2 : (l[i].1 == 4) = false := by simp; omega
            have hd3 : ¬ l[i].1 ≤ 3 := by omega
            go_wp2_with fail
            have hq := HL.out.below ((Below.refl _ wr).alloc (Nat.le_refl _) (.cells #[.int .i64 l[i].1, .int .i64 l[i].2.1, .int .i64 l[i].2.2] 34))
            have hbq := I.out.bel.alloc I.out.bel.size (.cells #[.int .i64 l[i].1, .int .i64 l[i].2.1, .int .i64 l[i].2.2] 34)

            refine (tickI' c _ now L _ c ⟨by omega, by omega⟩ hq).mono ?_
            rintro e w3 ⟨ov, rfl, ho3, hk3, hf3, hb3⟩
            obtain ⟨m1, m2⟩ := mine_tick hmine (show (0 : Int) ≤ max ((n : Int) - now) 0 by omega)
            have hone : ∀ k, (hk : k < (overLI L).length) → ((overLI L)[k] == -1) = true → ((now : Int) + 1 == (n : Int)) = true := by
              intro k hk hx
              have hmem : (overLI L)[k] ∈ (overLI L).filter (fun x => x == -1) := List.mem_filter.2 ⟨List.getElem_mem hk, hx⟩
              rw [m2] at hmem
              split at hmem
              · simp; omega
              · cases hmem
            obtain ⟨xa, xcap, rfl, hxl, hxm, hxa⟩ := own_shape ho3
            have hxn : (overLI L).length ≤ 100000 := by
              obtain ⟨_, sv, h⟩ := HL.out
              have := h.small
              have := overLI_le L
              omega
            have hend : OnceInv n l.length c w (i + 1) (now + 1) (told + toldIn (overLI L) (overLI L).length) w3 := by
              have I' := I.out
              refine ⟨⟨_, by simpa using hk3, ?_⟩, by have := I'.le; omega, by have := I'.late; omega, ?_, hbq.trans (hb3.mono I'.cge), I'.cge⟩
              · have : max ((n : Int) - (now + 1 : Nat)) 0 = max (max ((n : Int) - now) 0 - 1) 0 := by omega
                rw [this]
                exact m1
              · rw [toldIn_all, m2, I'.told]
                split <;> split <;> split <;> simp <;> omega
            have htb : told ≤ 1 := by rw [I.out.told]; split <;> omega
            have hti : ∀ k, toldIn (overLI L) k ≤ (overLI L).length := fun k => by unfold toldIn; exact Nat.le_trans (List.length_filter_le _ _) (by rw [List.length_take]; omega)
            have Hend := Lib.hid hend
            have Hone := Lib.hid hone
            have Hti := Lib.hid hti
            have Ho := Lib.hid ho3
            have Hxa := Lib.hid hxa
            clear hend hone hti ho3 hxa hk3 hf3 hb3 m1 m2 hq
            go_wp2_with fail
            go_loop [8, 12] (fun v8 v12 => ∃ k : Nat, k ≤ (overLI L).length ∧ v12 = .int .i64 k ∧ v8 = .int .i64 ((told + toldIn (overLI L) k : Nat) : Int)) (fun _ v12 => (overLI L).length - (intOf v12).toNat)
            case atStart => exact ⟨0, by omega, rfl, by rw [toldIn_zero]; rfl⟩
            case round =>
              obtain ⟨k, hk, rfl, rfl⟩ := hrel
              have hk0 := Hti.out k
              by_cases hkl : k < (overLI L).length
              · obtain ⟨g, rfl, hg⟩ := Hxa.out (by omega)
                have hx0 : w3.cell? ⟨g, k, none⟩ = some (.int .i64 (overLI L)[k]) := by
                  have := Ho.out.cell encKI_len k 0 hkl (by decide)
                  rw [Nat.mul_one] at this
                  exact this
                have Hs := Lib.hid (toldIn_succ hkl)
                cases hx : ((overLI L)[k] == -1) with
                | true =>
                  have hnow := Hone.out k hkl hx
                  have hnow2 : ((now : Int) + 1 != (n : Int)) = false := by rw [bne, hnow]; rfl
                  go_wp2_with fail
                  go_round
                  case rel => exact ⟨k + 1, by omega, by go_num, by rw [Hs.out, hx]; go_num⟩
                  case measure => simp [intOf]; omega
                | false =>
                  go_wp2_with fail
                  go_round
                  case rel => exact ⟨k + 1, by omega, by go_num, by rw [Hs.out, hx]; simp⟩
                  case measure => simp [intOf]; omega
              · obtain rfl : k = (overLI L).length := by omega
                go_wp2_with fail
                go_roundw
                case rel => exact ⟨i + 1, now + 1, _, by omega, by go_num, rfl, by go_num, Hend.out⟩
                case measure => simp [intOf]; omega
        · obtain ⟨L, hL, hmine⟩ := I.out.clk
          have hlate := I.out.late
          have HL := Lib.hid hL
          clear hL
          · go_wp2_with fail
            have hq := HL.out.below ((Below.refl _ wr).alloc (Nat.le_refl _) (.cells #[.int .i64 9, .int .i64 0, .int .i64 0] 34))
            have hbq := I.out.bel.alloc I.out.bel.size (.cells #[.int .i64 9, .int .i64 0, .int .i64 0] 34)

            refine (tickI' c _ now L _ c ⟨by omega, by omega⟩ hq).mono ?_
            rintro e w3 ⟨ov, rfl, ho3, hk3, hf3, hb3⟩
            obtain ⟨m1, m2⟩ := mine_tick hmine (show (0 : Int) ≤ max ((n : Int) - now) 0 by omega)
            have hone : ∀ k, (hk : k < (overLI L).length) → ((overLI L)[k] == -1) = true → ((now : Int) + 1 == (n : Int)) = true := by
              intro k hk hx
              have hmem : (overLI L)[k] ∈ (overLI L).filter (fun x => x == -1) := List.mem_filter.2 ⟨List.getElem_mem hk, hx⟩
              rw [m2] at hmem
              split at hmem
              · simp; omega
              · cases hmem
            obtain ⟨xa, xcap, rfl, hxl, hxm, hxa⟩ := own_shape ho3
            have hxn : (overLI L).length ≤ 100000 := by
              obtain ⟨_, sv, h⟩ := HL.out
              have := h.small
              have := overLI_le L
              omega
            have hend : OnceInv n l.length c w (i + 1) (now + 1) (told + toldIn (overLI L) (overLI L).length) w3 := by
              have I' := I.out
              refine ⟨⟨_, by simpa using hk3, ?_⟩, by have := I'.le; omega, by have := I'.late; omega, ?_, hbq.trans (hb3.mono I'.cge), I'.cge⟩
              · have : max ((n : Int) - (now + 1 : Nat)) 0 = max (max ((n : Int) - now) 0 - 1) 0 := by omega
                rw [this]
                exact m1
              · rw [toldIn_all, m2, I'.told]
                split <;> split <;> split <;> simp <;> omega
            have htb : told ≤ 1 := by rw [I.out.told]; split <;> omega
            have hti : ∀ k, toldIn (overLI L) k ≤ (overLI L).length := fun k => by unfold toldIn; exact Nat.le_trans (List.length_filter_le _ _) (by rw [List.length_take]; omega)
            have Hend := Lib.hid hend
            have Hone := Lib.hid hone
            have Hti := Lib.hid hti
            have Ho := Lib.hid ho3
            have Hxa := Lib.hid hxa
            clear hend hone hti ho3 hxa hk3 hf3 hb3 m1 m2 hq
            go_wp2_with fail
            go_loop [8, 12] (fun v8 v12 => ∃ k : Nat, k ≤ (overLI L).length ∧ v12 = .int .i64 k ∧ v8 = .int .i64 ((told + toldIn (overLI L) k : Nat) : Int)) (fun _ v12 => (overLI L).length - (intOf v12).toNat)
            case atStart => exact ⟨0, by omega, rfl, by rw [toldIn_zero]; rfl⟩
            case round =>
              obtain ⟨k, hk, rfl, rfl⟩ := hrel
              have hk0 := Hti.out k
              by_cases hkl : k < (overLI L).length
              · obtain ⟨g, rfl, hg⟩ := Hxa.out (by omega)
                have hx0 : w3.cell? ⟨g, k, none⟩ = some (.int .i64 (overLI L)[k]) := by
                  have := Ho.out.cell encKI_len k 0 hkl (by decide)
                  rw [Nat.mul_one] at this
                  exact this
                have Hs := Lib.hid (toldIn_succ hkl)
                cases hx : ((overLI L)[k] == -1) with
                | true =>
                  have hnow := Hone.out k hkl hx
                  have hnow2 : ((now : Int) + 1 != (n : Int)) = false := by rw [bne, hnow]; rfl
                  go_wp2_with fail
                  go_round
                  case rel => exact ⟨k + 1, by omega, by go_num, by rw [Hs.out, hx]; go_num⟩
                  case measure => simp [intOf]; omega
                | false =>
                  go_wp2_with fail
                  go_round
                  case rel => exact ⟨k + 1, by omega, by go_num, by rw [Hs.out, hx]; simp⟩
                  case measure => simp [intOf]; omega
              · obtain rfl : k = (overLI L).length := by omega
                go_wp2_with fail
                go_roundw
                case rel => exact ⟨i + 1, now + 1, _, by omega, by go_num, rfl, by go_num, Hend.out⟩
                case measure => simp [intOf]; omega
      · have htold : told = 1 := by
          have h1 := I.out.told
          have h2 := I.out.late
          rw [h1, if_pos (by omega)]
        subst htold
        have hbel := I.out.bel
        clear I
        go_wp2_with fail
        go_ret
        exact ⟨rfl, hbel⟩
end Go.Proofs.Ytidcjbfppdhghaa
