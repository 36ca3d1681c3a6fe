/-
  Layer 20: InboxKnown: the walk.
-/
import Derived.Test.YtfibajfhaadnfaaL20A
import Derived.Laws.BytesString
import Derived.Lib.SlBytesConst
namespace Go.Proofs.Ytfibajfhaadnfaa
open Go.RowKit
set_option linter.unusedVariables false


theorem strB {w : World} {ad : Addr} {n c : Nat} {l : List Int} (h : RdB w (.slice (some ad) n c) l) : (convert 29 9 (.slice (some ad) n c)).run Try.prog w = .ok (.string (l.foldl (fun r n => r.push (UInt8.ofNat n.toNat)) ByteArray.empty)) w := by
  obtain ⟨hl, a, c', hv, _, hx⟩ := h
  simp at hv
  obtain ⟨rfl, rfl, rfl⟩ := hv
  rw [run_convert_bytes_string w 29 9 5 _ _ _ Try.underlying29 Try.underlying5 Try.underlying9]
  refine run_bytesToString w ad l.length _ l ?_
  have hm : ∀ l : List Int, l.map (Value.int .u8) = l.flatMap encB := fun l => by
    induction l with
    | nil => rfl
    | cons x l ih => rw [List.map_cons, List.flatMap_cons, ih]; rfl
  have := run_loadCells_list (P := Try.prog) w ad (l.flatMap encB) (hx ad rfl)
  rw [hm]
  rw [hl, Nat.mul_one] at this
  exact this

theorem rdB_newF {w : World} {cs : Array Value} {l : List Int} {c n b t : Nat} {fr : Nat × Nat} (hb : b = w.heap.size) (hl : n = l.length) (hc : cs.toList = l.flatMap encB) : RdB (w.alloc (.cells cs t fr)) (.slice (some ⟨b, 0, none⟩) n c) l := by
  subst hb hl
  refine ⟨by rw [flat_len encB 1 encB_len], _, _, rfl, fun e => (by cases e), fun ad e j u hu => ?_⟩
  cases e
  rw [Addr.add_lit, Nat.zero_add]
  have h := heap_alloc_new' w (.cells cs t fr)
  rw [← hc] at hu
  simp only [World.cell?, h]
  simpa using hu

theorem IsIn.ftp_ge {w : World} {B i c : Nat} {most : Int} {full : Bool} {sv : Value} {l : List Value} (h : IsIn w B i c most full sv l) : ∀ k, ftpI i c sv k → B ≤ k := fun k e => by
  rcases e with rfl | rfl | e
  · exact h.ge
  · exact h.q.ge
  · exact (h.q.own.lt k e).1
theorem OwnB.thru {w w' : World} {B B' i c : Nat} {most : Int} {full : Bool} {sv : Value} {l : List Value} {v : Value} {b : List Int} (h : IsIn w B i c most full sv l) (o : OwnB B' w v b) (f : Fr (ftpI i c sv) w w') : OwnB B' w' v b :=
  o.fr f (fun g hg e => by
    rcases e with rfl | rfl | e
    · exact own_ne o h.blk (by decide) hg
    · exact own_ne o h.q.blk (by decide) hg
    · exact own_sep o h.q.own (by decide) hg e)

set_option maxHeartbeats 8000000 in
theorem knownL (w : World) : Calls Try.prog 3 #[] w fun x w' => x = .returned (.bool true) ∧ Below w.heap.size w w' := by
  go_enter Try.func3, Try.ntmps3
  go_wp2_with fail
  refine (awake w).mono ?_
  rintro x w0 ⟨rfl, b0⟩
  have B0 := Lib.hid b0
  clear b0
  have kc := fun (w : World) (C : Array Value) (n c : Nat) => Lib.run_convert_bytes_const (P := Try.prog) w 29 5 C n c Try.underlying29 Try.underlying5
  go_wp2_with fail
  refine (inewNo 17 (by decide) w0).mono ?_
  rintro x w0' ⟨rfl, rfl⟩
  go_wp2_with fail
  refine (inewYes 2 (by decide) _).mono ?_
  rintro x w1 ⟨i, rfl, h1, b1⟩
  obtain ⟨q, hq⟩ : ∃ q, q = w0'.heap.size := ⟨_, rfl⟩
  have hqw : w.heap.size ≤ q := by rw [hq]; exact B0.out.size
  have B1 : Hid (Below w.heap.size w w1) := B0.out.trans (b1.mono B0.out.size)
  have s1 : q ≤ w1.heap.size := by rw [hq]; exact b1.size
  rw [← hq] at h1
  have H1 := Lib.hid h1
  clear h1 b1 hq
  go_wp2_with fail
  have al1 := (Below.refl w1.heap.size w1).alloc (Nat.le_refl _) (.cells #[.int .u8 97] 5 (1, 2))
  have A1 := Lib.hid al1
  have HA1 := Lib.hid (H1.out.below al1)
  have t1 := al1.size
  clear al1
  refine (iputYes i q 2 false _ [] _ [97] _ q (by omega) HA1.out (rdB_newF rfl rfl rfl) (by decide) (by decide) (by decide)).mono ?_
  rintro x w2 ⟨rfl, sv1, v1, h2, o1, m2, f2⟩
  rw [show (((([] : List Value).length + 1 : Nat) : Int) == 2) = false from rfl] at h2 ⊢
  simp only [List.nil_append, Bool.or_false] at h2
  obtain ⟨a1, k1, hv1, _⟩ := own_shape o1
  simp only [List.length_cons, List.length_nil, Nat.zero_add] at hv1
  subst hv1
  have B2 : Hid (Below w.heap.size w w2) := B1.out.trans ((A1.out.mono (by omega)).trans (f2.below' (by omega) (fun k e => Nat.le_trans hqw (HA1.out.ftp_ge k e))))
  have H2 := Lib.hid h2
  have O1 := Lib.hid o1
  have s2 : q ≤ w2.heap.size := by have := f2.size; omega
  clear h2 o1 m2 f2
  go_wp2_with fail
  have al2 := (Below.refl w2.heap.size w2).alloc (Nat.le_refl _) (.cells #[.int .u8 98] 5 (1, 2))
  have A2 := Lib.hid al2
  have HA2 := Lib.hid (H2.out.below al2)
  have OA2 := Lib.hid (Own.fr O1.out (Fr.of_below al2 no) (fun _ _ e => e))
  have t2 := al2.size
  clear al2
  refine (iputYes i q 2 false _ [.slice a1 1 k1] _ [98] _ q (by omega) HA2.out (rdB_newF rfl rfl rfl) (by decide) (by simp) (by simp)).mono ?_
  rintro x w3 ⟨rfl, sv2, v2, h3, o2, m3, f3⟩
  rw [show (((([Value.slice a1 1 k1] : List Value).length + 1 : Nat) : Int) == 2) = true from rfl] at h3 ⊢
  simp only [List.cons_append, List.nil_append, Bool.or_true] at h3
  have B3 : Hid (Below w.heap.size w w3) := B2.out.trans ((A2.out.mono (by omega)).trans (f3.below' (by omega) (fun k e => Nat.le_trans hqw (HA2.out.ftp_ge k e))))
  have H3 := Lib.hid h3
  have O3 := Lib.hid (OwnB.thru HA2.out OA2.out f3)
  have s3 : q ≤ w3.heap.size := by have := f3.size; omega
  clear h3 o2 m3 f3
  go_wp2_with fail
  have al3 := (Below.refl w3.heap.size w3).alloc (Nat.le_refl _) (.cells #[.int .u8 99] 5 (1, 2))
  have A3 := Lib.hid al3
  have HA3 := Lib.hid (H3.out.below al3)
  have OA3 := Lib.hid (Own.fr O3.out (Fr.of_below al3 no) (fun _ _ e => e))
  have t3 := al3.size
  clear al3
  refine (iputNo i q 2 true _ [.slice a1 1 k1, v2] _ [99] _ q (by omega) HA3.out (rdB_newF rfl rfl rfl) (by decide) (by simp) (by simp)).mono ?_
  rintro x w4 ⟨rfl, sv3, h4, m4, f4⟩
  have B4 : Hid (Below w.heap.size w w4) := B3.out.trans ((A3.out.mono (by omega)).trans (f4.below' (by omega) (fun k e => Nat.le_trans hqw (HA3.out.ftp_ge k e))))
  have H4 := Lib.hid h4
  have O4 := Lib.hid (OwnB.thru HA3.out OA3.out f4)
  have s4 : q ≤ w4.heap.size := by have := f4.size; omega
  clear h4 m4 f4
  go_wp2_with fail
  refine (itakeYes i q 2 true _ a1 1 k1 [v2] w4 q s4 H4.out (by decide) (by simp)).mono ?_
  rintro x w5 ⟨rfl, sv4, h5, m5, f5⟩
  rw [show freeB true ([v2] : List Value).length 2 = true from rfl] at h5 ⊢
  have B5 : Hid (Below w.heap.size w w5) := B4.out.trans (f5.below' (by omega) (fun k e => Nat.le_trans hqw (H4.out.ftp_ge k e)))
  have O5 := OwnB.thru H4.out O4.out f5
  have i1 : w5.cell? ⟨i, 1, none⟩ = some (.bool false) := h5.c1
  rcases own_cases O5 with ⟨e, _⟩ | ⟨g, k, e, _⟩
  · simp at e
  simp at e
  obtain ⟨rfl, rfl⟩ := e
  have cv := strB O5.rd
  rw [show ([97] : List Int).foldl (fun r n => r.push (UInt8.ofNat n.toNat)) ByteArray.empty = ⟨#[97]⟩ from rfl] at cv
  clear h5 m5 f5 O5
  go_wp2_with (go_at_call 12; refine (ifull i false _ i1).mono ?_; rintro x w' ⟨rfl, rfl⟩)
  go_ret
  exact ⟨rfl, B5.out⟩
end Go.Proofs.Ytfibajfhaadnfaa
