/-
  Layer 4: QueueRows: the walk.
-/
import Derived.Test.YtjefmicmhcajoaaL4A
import Derived.Test.YtjefmicmhcajoaaQueFB
import Derived.Test.YtjefmicmhcajoaaRBB
import Derived.Laws.BytesString
import Derived.Deep.LoopGhost
namespace Go.Proofs.Ytjefmicmhcajoaa
open Go.RowKit
set_option linter.unusedVariables false


theorem bb_ad {w : World} {v : Value} {ds : List BB} (hl : Rd w 1 v ds.length (ds.flatMap encBB)) (hn : 0 < ds.length) : ∃ lb lo lc, v = .slice (some ⟨lb, lo, none⟩) ds.length lc := by
  obtain ⟨b', o', c', hv, _, hx⟩ := Rd.some hl hn (by decide)
  exact ⟨b', o', c', hv⟩
theorem bb_at {w w' : World} {lb lo n lc : Nat} {ds : List BB} (hl : Rd w 1 (.slice (some ⟨lb, lo, none⟩) n lc) ds.length (ds.flatMap encBB)) (hb : Below w.heap.size w w') {i : Nat} (hi : i < ds.length) : w'.cell? ⟨lb, lo + i, none⟩ = some ds[i].1 := by
  obtain ⟨b', o', c', hv, _, hx⟩ := Rd.some (Rd.fr hl (Fr.of_below hb no) (fun _ _ e => e)) (by omega) (by decide)
  simp at hv
  obtain ⟨⟨rfl, rfl⟩, _, _⟩ := hv
  have h0 := Rd.el encBB_len hx hi (j := 0) (by decide) rfl
  simpa using h0

/-- A row of bytes that reads, as a string. -/
theorem strA {w : World} {v : Value} {l : List Int} (h : RdB w v l) : (convert 35 9 v).run Try.prog w = .ok (.string (l.foldl (fun r n => r.push (UInt8.ofNat n.toNat)) ByteArray.empty)) w := by
  obtain ⟨hl, a, c', rfl, h0, hx⟩ := h
  rw [run_convert_bytes_string w 35 9 5 _ _ _ Try.underlying35 Try.underlying5 Try.underlying9]
  cases a with
  | none =>
    obtain rfl : l = [] := List.eq_nil_of_length_eq_zero (h0 rfl).1
    rfl
  | some ad =>
    refine run_bytesToString w ad l.length _ l ?_
    have hm : ∀ l : List Int, l.map (Value.int .u8) = l.flatMap encB := fun l => by
      induction l with
      | nil => rfl
      | cons x l ih => rw [List.map_cons, List.flatMap_cons, ih]; rfl
    have := run_loadCells_list (P := Try.prog) w ad (l.flatMap encB) (hx ad rfl)
    rw [hm]
    rw [hl, Nat.mul_one] at this
    exact this

/-- The slices. -/
def slicesOf (ds : List BB) : List Value := ds.map fun d => d.1
theorem slicesOf_len (ds : List BB) : (slicesOf ds).length = ds.length := by simp [slicesOf]
theorem slicesOf_snoc {ds : List BB} {i at' : Nat} (hi : i < ds.length) (ha : at' ≤ i) : (slicesOf (ds.take (i + 1))).drop at' = (slicesOf (ds.take i)).drop at' ++ [ds[i].1] := by
  unfold slicesOf
  rw [List.take_succ_eq_append_getElem hi, List.map_append, List.drop_append_of_le_length (by rw [List.length_map, List.length_take]; omega)]
  rfl
theorem slicesOf_cons {ds : List BB} {i at' : Nat} (hi : i ≤ ds.length) (ha : at' < i) : (slicesOf (ds.take i)).drop at' = (ds[at']'(by omega)).1 :: (slicesOf (ds.take i)).drop (at' + 1) := by
  rw [List.drop_eq_getElem_cons (by rw [slicesOf_len, List.length_take]; omega)]
  simp [slicesOf]

set_option maxHeartbeats 16000000 in
set_option maxRecDepth 100000 in
theorem rowsL (lv tv : Value) (ds : List BB) (ts : List Int) (w : World) (hl : Rd w 1 lv ds.length (ds.flatMap encBB)) (hok : ∀ d ∈ ds, okBB w d) (htv : RdB w tv ts) (hts : ∀ y ∈ ts, 0 ≤ y ∧ y ≤ 255) : Calls Try.prog 4 #[lv, tv] w fun x w' => x = .returned (.bool true) ∧ Below w.heap.size w w' := by
  obtain ⟨la, lc, rfl⟩ := hl.len
  obtain ⟨ta, tc, rfl⟩ := htv.len
  have Hl := Lib.hid hl
  have Hok := Lib.hid hok
  have Ht := Lib.hid htv
  have Hts := Lib.hid hts
  clear hl hok htv hts
  go_enter Try.func4, Try.ntmps4
  go_wp2_with fail
  refine (awake w).mono ?_
  rintro x w0 ⟨rfl, b0⟩
  have B0 := Lib.hid b0
  clear b0
  by_cases h100 : 100 < ds.length
  · have hd : decide ((100 : Int) < ds.length) = true := by simp; omega
    go_wp2_with fail
    go_ret
    exact ⟨rfl, B0.out⟩
  have hd : decide ((100 : Int) < ds.length) = false := by simp; omega
  by_cases h200 : 200 < ts.length
  · have hd2 : decide ((200 : Int) < ts.length) = true := by simp; omega
    go_wp2_with fail
    go_ret
    exact ⟨rfl, B0.out⟩
  have hd2 : decide ((200 : Int) < ts.length) = false := by simp; omega
  have HLB : Hid (ds.length ≤ 100 ∧ ts.length ≤ 200) := by unfold Hid; omega
  clear h100 h200
  go_wp2_with fail
  refine (xqNewB B0.out ds.length (by have := HLB.out; omega)).mono ?_
  rintro x w1 ⟨c, rfl, h, _⟩
  rw [show max ((ds.length : Nat) : Int) 0 = (ds.length : Int) by omega] at h
  have H1 := Lib.hid h
  clear h
  go_wp2_with fail
  go_loopg [6, 7] ds.length (fun g s6 s7 wx => ∃ (a i : Nat), s6 = .int .i64 a ∧ s7 = .int .i64 i ∧ i ≤ ds.length ∧ g = ds.length - i ∧ a ≤ i ∧ QXB w wx c ds.length ((slicesOf (ds.take i)).drop a))
  case atStart => exact ⟨0, 0, rfl, rfl, Nat.zero_le _, rfl, Nat.le_refl _, H1.out⟩
  case round =>
    obtain ⟨a, i, rfl, rfl, hi, rfl, hai, hX⟩ := hrel
    have HX := Lib.hid hX
    have HA : Hid (a ≤ i) := hai
    clear hX H1 hai
    by_cases hin : i < ds.length
    · have hd1 : decide ((i : Int) < ds.length) = true := by simp; omega
      have hi100 : (i : Int) ≤ 100 := by have := HLB.out; omega
      obtain ⟨lb, lo, lc', hv⟩ := bb_ad Hl.out (by omega)
      simp at hv
      obtain ⟨rfl, rfl⟩ := hv
      have c0 := bb_at Hl.out HX.out.bel hin
      obtain ⟨ba, bc, hbv⟩ := (Hok.out _ (List.getElem_mem hin)).len
      rw [hbv] at c0
      have Hbv := Lib.hid hbv
      clear hbv
      have HLn : Hid (((slicesOf (ds.take i)).drop a).length = i - a) := by unfold Hid; rw [List.length_drop, slicesOf_len, List.length_take]; omega
      by_cases hs : 100 < ds[i].2.length
      · have hd3 : decide ((100 : Int) < ds[i].2.length) = true := by simp; omega
        clear hs
        go_wp2_with fail
        go_ret
        exact ⟨rfl, HX.out.bel⟩
      have hd3 : decide ((100 : Int) < ds[i].2.length) = false := by simp; omega
      clear hs
      have HIN : Hid (i + 1 ≤ ds.length) := hin
      go_wp2_with fail
      refine (xqPutYesB HX.out _ ⟨_, _, _, rfl⟩ (by have := HLn.out; have := HLB.out; omega) (by have := HLn.out; have := HA.out; omega)).mono ?_
      rintro x w2 ⟨rfl, h⟩
      rw [← Hbv.out, ← slicesOf_snoc hin HA.out] at h
      have H2 := Lib.hid h
      clear h c0
      go_wp2_with fail
      go_loopg [6, 8] 3 (fun g s6 s8 wx => ∃ (a t : Nat), s6 = .int .i64 a ∧ s8 = .int .i64 t ∧ t ≤ 3 ∧ g = 3 - t ∧ a ≤ i + 1 ∧ QXB w wx c ds.length ((slicesOf (ds.take (i + 1))).drop a))
      case atStart => exact ⟨a, 0, rfl, rfl, by omega, rfl, by have := HA.out; omega, H2.out⟩
      case round =>
        obtain ⟨a, t, rfl, rfl, ht, rfl, hai, hX⟩ := hrel
        clear HX HA HLn H2
        have HX := Lib.hid hX
        have HA : Hid (a ≤ i + 1) := hai
        have ha101 : (a : Int) ≤ 101 := by omega
        clear hX hai
        by_cases hkt : i < ts.length
        · have hd4 : decide ((i : Int) < (ts.length : Int)) = true := by simp; omega
          obtain ⟨tb, toff, tc', htv, _, _⟩ := Rd.some (Rd.fr Ht.out (Fr.of_below HX.out.bel no) (fun _ _ e => e)) (by omega) (by decide)
          simp at htv
          obtain ⟨rfl, rfl⟩ := htv
          have y0 := RdB.at (Ht.out.fr HX.out.bel) hkt
          have hty := Hts.out ts[i] (List.getElem_mem hkt)
          generalize ts[i] = y at y0 hty
          obtain ⟨y1, y2⟩ := hty
          by_cases hty : (t : Int) < y % 3
          · have hd5 : decide ((t : Int) < y % 3) = true := by simpa using hty
            have ht2 : (t : Int) ≤ 2 := by omega
            clear hty
            go_wp2_with fail
            by_cases hal : a < i + 1
            · have hds := slicesOf_cons (ds := ds) (i := i + 1) (by have := HIN.out; omega) hal
              have hadl : a < ds.length := by have := HIN.out; omega
              obtain ⟨bx, cx, hbx⟩ := (Hok.out _ (List.getElem_mem hadl)).len
              rw [hds, hbx] at HX
              refine (xqTakeYesB HX.out ⟨_, _, _, rfl⟩ (by rw [List.length_drop, slicesOf_len, List.length_take]; have := HLB.out; omega)).mono ?_
              rintro x w3 ⟨rfl, h⟩
              have H3 := Lib.hid h
              have hrd : RdB w3 (.slice bx ds[a].2.length cx) ds[a].2 := by rw [← hbx]; exact (Hok.out _ (List.getElem_mem hadl)).fr h.bel
              obtain ⟨s, hs⟩ : ∃ s, s = ds[a].2.foldl (fun r n => r.push (UInt8.ofNat n.toNat)) ByteArray.empty := ⟨_, rfl⟩
              have cv : ∀ m, (convert 35 9 (.slice bx ds[a].2.length cx)).run Try.prog (w3.drewN m) = .ok (.string s) (w3.drewN m) := fun m => by
                rw [hs]; exact strA (hrd.fr (below_drewN (Below.refl _ w3) m))
              clear hs
              have ca : w3.cell? ⟨lb, lo + a, none⟩ = some (.slice bx ds[a].2.length cx) := by rw [← hbx]; exact bb_at Hl.out h.bel hadl
              have hd6 : decide (a ≤ i) = true := by simp; omega
              have ha2 : (a : Int) < (ds.length : Int) := by omega
              have HXd : Hid (∀ m, QXB w (w3.drewN m) c ds.length ((slicesOf (ds.take (i + 1))).drop (a + 1))) := fun m => h.below (below_drewN (Below.refl _ _) m)
              clear h hrd
              go_wp2_with fail
              go_quiet (fail)
              clear cv ca
              go_wp2_with fail
              go_roundg (3 - (t + 1))
              case measure => omega
              case rel => exact ⟨a + 1, t + 1, by go_num, by go_num, by omega, rfl, by omega, HXd.out _⟩
            · have hae : a = i + 1 := by have := HA.out; omega
              have hnil : (slicesOf (ds.take (i + 1))).drop a = [] := List.drop_eq_nil_of_le (by rw [slicesOf_len, List.length_take]; omega)
              rw [hnil] at HX
              refine (xqTakeNoB HX.out).mono ?_
              rintro x w3 ⟨rfl, rfl⟩
              have hd6 : decide (a ≤ i) = false := by simp; omega
              have HXd : Hid (∀ m, QXB w (w3.drewN m) c ds.length ((slicesOf (ds.take (i + 1))).drop a)) := fun m => by rw [hnil]; exact HX.out.below (below_drewN (Below.refl _ _) m)
              clear hae hnil y0
              go_wp2_with fail
              go_quiet (fail)
              go_wp2_with fail
              go_roundg (3 - (t + 1))
              case measure => omega
              case rel => exact ⟨a, t + 1, rfl, by go_num, by omega, rfl, HA.out, HXd.out _⟩
          · have hd5 : decide ((t : Int) < y % 3) = false := by simpa using hty
            go_wp2_with fail
            go_roundg (ds.length - (i + 1))
            case measure => have := HIN.out; omega
            case rel => exact ⟨a, i + 1, rfl, by go_num, by have := HIN.out; omega, rfl, HA.out, HX.out⟩
        · have hd4 : decide ((i : Int) < (ts.length : Int)) = false := by simp; omega
          go_wp2_with fail
          go_roundg (ds.length - (i + 1))
          case measure => have := HIN.out; omega
          case rel => exact ⟨a, i + 1, rfl, by go_num, by have := HIN.out; omega, rfl, HA.out, HX.out⟩
    · have hd1 : decide ((i : Int) < ds.length) = false := by simp; omega
      have hie : i = ds.length := by omega
      have HLn : Hid (((slicesOf (ds.take i)).drop a).length = ds.length - a) := by unfold Hid; rw [List.length_drop, slicesOf_len, List.length_take]; omega
      have hal : (a : Int) ≤ ds.length := by have := HA.out; omega
      have hl100 : (ds.length : Int) ≤ 100 := by have := HLB.out; omega
      clear hie
      go_wp2_with fail
      refine (xqLenB HX.out).mono ?_
      rintro x w5 ⟨rfl, rfl⟩
      rw [HLn.out, show ((ds.length - a : Nat) : Int) = (ds.length : Int) - a by omega]
      go_wp2_with fail
      go_ret
      exact ⟨rfl, HX.out.bel⟩
end Go.Proofs.Ytjefmicmhcajoaa
