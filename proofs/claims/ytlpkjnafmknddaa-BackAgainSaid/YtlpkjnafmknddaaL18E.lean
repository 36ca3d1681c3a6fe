/-
  Layer 18: BackAgain: the walk.
-/
import Derived.Test.YtlpkjnafmknddaaL18B
import Derived.Test.YtlpkjnafmknddaaRBB
namespace Go.Proofs.Ytlpkjnafmknddaa
open Go.RowKit
set_option linter.unusedVariables false


theorem bb_ad {w : World} {v : Value} {ds : List BB} (hl : Rd w 1 v ds.length (ds.flatMap encBB)) (hn : 0 < ds.length) : ∃ lb lo lc, v = .slice (some ⟨lb, lo, none⟩) ds.length lc := by
  obtain ⟨b', o', c', hv, _, hx⟩ := Rd.some hl hn (by decide)
  exact ⟨b', o', c', hv⟩
theorem bb_at {w w' : World} {lb lo n lc : Nat} {ds : List BB} (hl : Rd w 1 (.slice (some ⟨lb, lo, none⟩) n lc) ds.length (ds.flatMap encBB)) (hb : Below w.heap.size w w') {i : Nat} (hi : i < ds.length) : w'.cell? ⟨lb, lo + i, none⟩ = some ds[i].1 := by
  obtain ⟨b', o', c', hv, _, hx⟩ := Rd.some (Rd.fr hl (Fr.of_below hb no) (fun _ _ e => e)) (by omega) (by decide)
  simp at hv
  obtain ⟨⟨rfl, rfl⟩, _, _⟩ := hv
  have h0 := Rd.el encBB_len hx hi (j := 0) (by decide) rfl
  simpa using h0

/-- The bytes of the rows. -/
def rowsOf (ds : List BB) : List (List Int) := ds.map fun d => d.2
theorem rowsOf_len (ds : List BB) : (rowsOf ds).length = ds.length := by simp [rowsOf]
theorem rowsOf_snoc {ds : List BB} {i : Nat} (hi : i < ds.length) : rowsOf (ds.take (i + 1)) = rowsOf (ds.take i) ++ [ds[i].2] := by
  unfold rowsOf; rw [List.take_succ_eq_append_getElem hi, List.map_append]; rfl
theorem rowsOf_drop {ds : List BB} {m j : Nat} (h : j < ((rowsOf ds).drop m).length) : ((rowsOf ds).drop m)[j] = (ds[m + j]'(by rw [List.length_drop, rowsOf_len] at h; omega)).2 := by
  simp [rowsOf]

set_option maxHeartbeats 16000000 in
set_option maxRecDepth 100000 in
theorem againL (v : Value) (ds : List BB) (acks times : Nat) (w : World) (hl : Rd w 1 v ds.length (ds.flatMap encBB)) (hok : ∀ d ∈ ds, okBB w d) (ha : acks < 256) (ht : times < 256) : Calls Try.prog 7 #[v, .int .u8 acks, .int .u8 times] w fun x w' => x = .returned (.bool true) ∧ Below w.heap.size w w' := by
  obtain ⟨la, lc, rfl⟩ := hl.len
  have Hl := Lib.hid hl
  have Hok := Lib.hid hok
  clear hl hok
  go_enter Try.func7, Try.ntmps7
  go_wp2_with fail
  refine (awake w).mono ?_
  rintro x w1 ⟨rfl, b1⟩
  have B1 := Lib.hid b1
  clear b1
  by_cases h60 : 60 < ds.length
  · have hd : decide ((60 : Int) < ds.length) = true := by simp; omega
    go_wp2_with fail
    go_ret
    exact ⟨rfl, B1.out⟩
  have hd : decide ((60 : Int) < ds.length) = false := by simp; omega
  have hN60 : (ds.length : Int) ≤ 60 := by omega
  clear h60
  go_wp2_with fail
  refine (xNew B1.out ds.length (by omega)).mono ?_
  rintro x w3 ⟨b, rfl, h⟩
  rw [show max (ds.length : Int) 0 = ds.length by omega] at h
  have H3 := Lib.hid h
  clear h
  go_wp2_with fail
  go_loopg [8] ds.length (fun g s8 wx => ∃ i : Nat, s8 = .int .i64 i ∧ i ≤ ds.length ∧ g = ds.length - i ∧ Hid (∀ j (h : j < ds.length), j < i → ds[j].2.length ≤ 200) ∧ BkX w wx [] b ds.length i (rowsOf (ds.take i)))
  case atStart => exact ⟨0, rfl, Nat.zero_le _, rfl, fun j h hj => by omega, H3.out⟩
  case round =>
    obtain ⟨i, rfl, hi, rfl, hall, hX⟩ := hrel
    have HX := Lib.hid hX
    clear hX H3
    by_cases hin : i < ds.length
    · have hd1 : decide ((i : Int) < (ds.length : Int)) = true := by simp; omega
      have hil : i < ds.length := by omega
      obtain ⟨lb, lo, lc', hv⟩ := bb_ad Hl.out (by omega)
      simp at hv
      obtain ⟨rfl, rfl⟩ := hv
      have c0 := bb_at Hl.out HX.out.bel hil
      have hrd := (Hok.out _ (List.getElem_mem hil)).fr HX.out.bel
      obtain ⟨ba, bc, hbv⟩ := hrd.len
      rw [hbv] at c0 hrd
      clear hbv
      have Hrd := Lib.hid hrd
      clear hrd
      by_cases hs : ds[i].2.length ≤ 200
      · have hd2 : decide ((200 : Int) < ds[i].2.length) = false := by simp; omega
        have Hs := Lib.hid hs
        have HLn : Hid ((rowsOf (ds.take i)).length = i) := by unfold Hid; rw [rowsOf_len, List.length_take]; omega
        clear hs
        go_wp2_with fail
        refine (xPutYes HX.out Hrd.out (by have := Hs.out; omega) (by have := HLn.out; omega) (by have := HLn.out; omega)).mono ?_
        rintro x w4 ⟨rfl, h⟩
        rw [← rowsOf_snoc hil] at h
        have H4 := Lib.hid h
        have HLn2 : Hid ((rowsOf (ds.take (i + 1))).length = i + 1) := by unfold Hid; rw [rowsOf_len, List.length_take]; omega
        clear h
        go_wp2_with fail
        have hlt : i < (rowsOf (ds.take (i + 1))).length := by have := HLn2.out; omega
        have hx : (rowsOf (ds.take (i + 1)))[i] = ds[i].2 := by simp [rowsOf]
        refine (xNextYes H4.out hlt (by have := HLn2.out; omega) (by rw [hx]; have := Hs.out; omega)).mono ?_
        rintro x w5 ⟨vv, rfl, h⟩
        have H5 := Lib.hid h.forget
        obtain ⟨va, vk, rfl, _⟩ := own_shape (h.own (List.mem_cons_self ..))
        clear h
        go_wp2_with fail
        go_roundg (ds.length - (i + 1))
        case measure => omega
        case rel => exact ⟨i + 1, by go_num, by omega, rfl, fun j h hj => by
            by_cases e : j = i
            · subst e; exact Hs.out
            · exact hall.out j h (by omega), H5.out⟩
      · have hd2 : decide ((200 : Int) < ds[i].2.length) = true := by simp; omega
        clear hs
        go_wp2_with fail
        go_ret
        exact ⟨rfl, HX.out.bel⟩
    · obtain rfl : i = ds.length := by omega
      have hd1 : decide ((ds.length : Int) < (ds.length : Int)) = false := by simp
      have e0 : rowsOf (ds.take ds.length) = rowsOf ds := by rw [List.take_length]
      rw [e0] at HX
      clear e0
      obtain ⟨m, hm⟩ : ∃ m, m = acks % (ds.length + 1) := ⟨_, rfl⟩
      have hmN : Hid (m ≤ ds.length) := by have := Nat.mod_lt acks (show 0 < ds.length + 1 by omega); unfold Hid; omega
      have hm16 : (acks : Int) % ((ds.length : Int) + 1) = (m : Int) := by rw [hm]; simp
      have Hm16 := Lib.hid hm16
      have HLn : Hid ((rowsOf ds).length = ds.length) := rowsOf_len ds
      clear hm hm16
      have hm16 := Hm16.out
      go_wp2_with fail
      refine (xAcked HX.out m (by have := HLn.out; omega)).mono ?_
      rintro x w4 ⟨rfl, h⟩
      rw [show ackN (m : Int) ds.length = m by have := hmN.out; unfold ackN; omega] at h ⊢
      have H4 := Lib.hid h
      clear h hm16
      obtain ⟨T, hT⟩ : ∃ T, T = times % 4 := ⟨_, rfl⟩
      have hT4 : (times : Int) % 4 = (T : Int) := by omega
      have HT := Lib.hid hT4
      have hT5 : (T : Int) ≤ 3 := by omega
      have HLd : Hid (((rowsOf ds).drop m).length = ds.length - m) := by unfold Hid; rw [List.length_drop, HLn.out]
      have Jm : Hid ((m : Int) ≤ ds.length) := by unfold Hid; have := hmN.out; omega
      have jm := Jm.out
      clear hT hT4
      go_wp2_with fail
      go_loopg [10] T (fun g s10 wx => ∃ t : Nat, s10 = .int .i64 t ∧ t ≤ T ∧ g = T - t ∧ BkX w wx [] b ds.length (ds.length - m) ((rowsOf ds).drop m))
      case atStart => exact ⟨0, rfl, Nat.zero_le _, rfl, H4.out⟩
      case round =>
        obtain ⟨t, rfl, ht, rfl, hX⟩ := hrel
        have HX := Lib.hid hX
        clear hX H4
        have hT4 := HT.out
        by_cases htT : t < T
        · have hd2 : decide ((t : Int) < (T : Int)) = true := by simp; omega
          go_wp2_with fail
          refine (xAgain HX.out).mono ?_
          rintro x w5 ⟨rfl, h⟩
          have H5 := Lib.hid h
          clear h
          rw [show ((ds.length - m : Nat) : Int) = (ds.length : Int) - m by have := hmN.out; omega]
          go_wp2_with fail
          go_loopg [11] (ds.length - m) (fun g s11 wx => ∃ i : Nat, s11 = .int .i64 i ∧ m ≤ i ∧ i ≤ ds.length ∧ g = ds.length - i ∧ BkX w wx [] b ds.length (i - m) ((rowsOf ds).drop m))
          case atStart => exact ⟨m, rfl, Nat.le_refl _, hmN.out, rfl, by rw [Nat.sub_self]; exact H5.out⟩
          case round =>
            obtain ⟨i, rfl, hmi, hiN, rfl, hX⟩ := hrel
            clear HX
            have HX := Lib.hid hX
            clear hX H5
            by_cases hin : i < ds.length
            · have hd3 : decide ((i : Int) < (ds.length : Int)) = true := by simp; omega
              have hil : i < ds.length := by omega
              obtain ⟨lb, lo, lc', hv⟩ := bb_ad Hl.out (by omega)
              simp at hv
              obtain ⟨rfl, rfl⟩ := hv
              have hlt : i - m < ((rowsOf ds).drop m).length := by have := HLd.out; omega
              have hx : ((rowsOf ds).drop m)[i - m] = ds[i].2 := by rw [rowsOf_drop hlt]; congr 2; omega
              have hs200 : ds[i].2.length ≤ 200 := hall.out i hil (by omega)
              have Hs := Lib.hid hs200
              clear hs200
              go_wp2_with fail
              refine (xNextYes HX.out hlt (by have := HLd.out; omega) (by rw [hx]; have := Hs.out; omega)).mono ?_
              rintro x w6 ⟨vv, rfl, h⟩
              rw [hx] at h
              have H6 := Lib.hid h
              have c0 := bb_at Hl.out h.bel hil
              have hrd := (Hok.out _ (List.getElem_mem hil)).fr h.bel
              obtain ⟨ba, bc, hbv⟩ := hrd.len
              rw [hbv] at c0 hrd
              have Hrd := Lib.hid hrd
              obtain ⟨va, vk, rfl, _⟩ := own_shape (h.own (List.mem_cons_self ..))
              clear h hbv hrd
              go_wp2_with fail
              refine (sameRows _ _ ds[i].2 ds[i].2 w6 (H6.out.rd (List.mem_cons_self ..)) Hrd.out (by have := Hs.out; omega)).mono ?_
              rintro x w7 ⟨rfl, hb⟩
              rw [sameB_self]
              have H7 := Lib.hid (H6.out.forget.below hb)
              clear hb c0
              go_wp2_with fail
              go_roundg (ds.length - (i + 1))
              case measure => omega
              case rel => exact ⟨i + 1, by go_num, by omega, by omega, rfl, by rw [Nat.sub_add_comm hmi]; exact H7.out⟩
            · obtain rfl : i = ds.length := by omega
              have hd3 : decide ((ds.length : Int) < (ds.length : Int)) = false := by simp
              go_wp2_with fail
              refine (xNextNo HX.out (by have := HLd.out; omega) (by have := HLd.out; omega)).mono ?_
              rintro x w6 ⟨vv, rfl, h⟩
              have H6 := Lib.hid h.forget
              obtain ⟨va, vk, rfl, _⟩ := own_shape (h.own (List.mem_cons_self ..))
              clear h
              go_wp2_with fail
              go_roundg (T - (t + 1))
              case measure => omega
              case rel => exact ⟨t + 1, by go_num, by omega, rfl, H6.out⟩
        · have hd2 : decide ((t : Int) < (T : Int)) = false := by simp; omega
          go_wp2_with fail
          refine (xClear HX.out (by have := HLd.out; omega)).mono ?_
          rintro x w5 ⟨rfl, h⟩
          rw [HLd.out, show ((ds.length - m : Nat) : Int) = (ds.length : Int) - m by have := hmN.out; omega]
          have H5 := Lib.hid h
          clear h
          go_wp2_with fail
          refine (xLen H5.out).mono ?_
          rintro x w6 ⟨rfl, rfl⟩
          go_wp2_with fail
          go_ret
          exact ⟨rfl, H5.out.bel⟩
theorem againZ (v : Value) (ds : List BB) (a t : Int) (w : World) (hl : Rd w 1 v ds.length (ds.flatMap encBB)) (hok : ∀ d ∈ ds, okBB w d) (ha : 0 ≤ a ∧ a ≤ 255) (ht : 0 ≤ t ∧ t ≤ 255) : Calls Try.prog 7 #[v, .int .u8 a, .int .u8 t] w fun x w' => x = .returned (.bool true) ∧ Below w.heap.size w w' := by
  obtain ⟨a, rfl⟩ := Int.eq_ofNat_of_zero_le ha.1
  obtain ⟨t, rfl⟩ := Int.eq_ofNat_of_zero_le ht.1
  exact againL v ds a t w hl hok (by omega) (by omega)
end Go.Proofs.Ytlpkjnafmknddaa
