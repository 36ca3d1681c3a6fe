/-
  Rows of bytes: bytes.Clone, antiphonref1.Copy, antiphonref1.Same.
-/
import Derived.Test.YteihpaikdpdglaaSub
import Derived.Test.YteihpaikdpdglaaRows
namespace Go.Proofs.Yteihpaikdpdglaa
open Go.RowKit


def encB (z : Int) : List Value := [.int .u8 z]
theorem encB_len (z : Int) : (encB z).length = 1 := rfl
theorem encB_one (z : Int) : ∀ u ∈ encB z, u.oneCell' = true := by intro u hu; simp [encB] at hu; subst hu; rfl
theorem encB_ones (l : List Int) : ∀ u ∈ l.flatMap encB, u.oneCell' = true := fun u hu => by
  obtain ⟨x, _, hx⟩ := List.mem_flatMap.1 hu
  exact encB_one x u hx
/-- A slice of bytes that is read. -/
abbrev RdB (w : World) (v : Value) (l : List Int) : Prop := Rd w 1 v l.length (l.flatMap encB)
abbrev OwnB (B : Nat) (w : World) (v : Value) (l : List Int) : Prop := Own encB 5 1 B w v l

theorem infoB : (Try.prog.info? 5).map (fun i => (i.zero, i.size, i.bytes)) = some (some (.int .u8 0), 1, 1) := by kernel_rfl

theorem RdB.at {w : World} {b o n c : Nat} {l : List Int} (h : RdB w (.slice (some ⟨b, o, none⟩) n c) l) {i : Nat} (hi : i < l.length) : w.cell? ⟨b, o + i, none⟩ = some (.int .u8 l[i]) := by
  obtain ⟨b', o', c', hv, _, hx⟩ := Rd.some h (by omega) (by decide)
  simp at hv
  obtain ⟨⟨rfl, rfl⟩, _, _⟩ := hv
  have := Rd.el encB_len hx hi (j := 0) (by decide) rfl
  simpa using this
theorem RdB.fr {w w' : World} {v : Value} {l : List Int} (h : RdB w v l) (hb : Below w.heap.size w w') : RdB w' v l := Rd.fr h (Fr.of_below hb no) (fun _ _ e => e)

/-- Are two rows one? -/
def sameB (a b : List Int) : Bool := decide (a = b)
theorem sameB_len {a b : List Int} (h : a.length ≠ b.length) : sameB a b = false := by
  unfold sameB; simp; exact fun e => h (by rw [e])
theorem sameB_no {a b : List Int} {i : Nat} (ha : i < a.length) (hb : i < b.length) (h : a[i] ≠ b[i]) : sameB a b = false := by
  unfold sameB; simp; intro e; subst e; exact h rfl
theorem sameB_yes {a b : List Int} (hl : a.length = b.length) (h : ∀ i, (ha : i < a.length) → (hb : i < b.length) → a[i] = b[i]) : sameB a b = true := by
  unfold sameB; simp; exact List.ext_getElem hl (fun i h1 h2 => h i h1 h2)
theorem sameB_self (a : List Int) : sameB a a = true := by simp [sameB]

set_option maxHeartbeats 1000000 in
theorem sameRows (va vb : Value) (la lb : List Int) (w : World) (ha : RdB w va la) (hb : RdB w vb lb) (hm : la.length ≤ 1000000) :
    Calls Try.prog 16 #[va, vb] w fun e w' => e = .returned (.bool (sameB la lb)) ∧ Below w.heap.size w w' := by
  obtain ⟨aa, ac, rfl⟩ := ha.len
  obtain ⟨ba, bc, rfl⟩ := hb.len
  have Ha := Lib.hid ha
  have Hb := Lib.hid hb
  clear ha hb
  cases hl : ((la.length : Int) == (lb.length : Int)) with
  | false =>
    have hs := Lib.hid (sameB_len (a := la) (b := lb) (by simp at hl; omega))
    go_enter Try.func16, Try.ntmps16
    go_wp2_with fail
    go_ret
    exact ⟨by rw [hs.out]; rfl, Below.refl _ _⟩
  | true =>
    have hlen : la.length = lb.length := by simp at hl; omega
    have Hlen := Lib.hid hlen
    clear hlen
    go_enter Try.func16, Try.ntmps16
    go_wp2_with fail
    go_loopw [5] (fun v wr => ∃ i : Nat, i ≤ la.length ∧ v = .int .i64 i ∧ Hid (Below w.heap.size w wr) ∧ Hid (∀ j, j < i → (h1 : j < la.length) → (h2 : j < lb.length) → la[j] = lb[j])) (fun v _ => la.length - (intOf v).toNat)
    case atStart => exact ⟨0, by omega, rfl, Below.refl _ _, fun j hj => by omega⟩
    case round =>
      obtain ⟨i, hi, rfl, Hw, hall⟩ := hrel
      by_cases hlt : i < la.length
      · have hlt2 : i < lb.length := by have := Hlen.out; omega
        obtain ⟨b1, o1, c1, e1, g1, x1⟩ := (Ha.out.fr Hw.out).some (by omega) (by decide)
        obtain ⟨b2, o2, c2, e2, g2, x2⟩ := (Hb.out.fr Hw.out).some (by omega) (by decide)
        simp at e1 e2
        obtain ⟨rfl, rfl⟩ := e1
        obtain ⟨rfl, rfl⟩ := e2
        clear x1 x2
        have y1 := RdB.at (Ha.out.fr Hw.out) hlt
        have y2 := RdB.at (Hb.out.fr Hw.out) hlt2
        cases hq : (la[i] == lb[i]) with
        | true =>
          have hq2 : (la[i] != lb[i]) = false := by rw [bne, hq]; rfl
          go_wp2_with fail
          go_quiet (fail)
          go_wp2_with fail
          go_roundw
          case rel => exact ⟨i + 1, by omega, by go_num, below_drewN Hw.out _, fun j hj h1 h2 => by
            by_cases e : j = i
            · subst e; simpa using hq
            · exact hall.out j (by omega) h1 h2⟩
          case measure => simp [intOf]; omega
        | false =>
          have hq2 : (la[i] != lb[i]) = true := by rw [bne, hq]; rfl
          have hs := Lib.hid (sameB_no hlt hlt2 (by simpa using hq))
          go_wp2_with fail
          go_quiet (fail)
          go_wp2_with fail
          go_ret
          exact ⟨by rw [hs.out]; rfl, below_drewN Hw.out _⟩
      · have hs := Lib.hid (sameB_yes Hlen.out (fun j h1 h2 => hall.out j (by omega) h1 h2))
        go_wp2_with fail
        go_ret
        exact ⟨by rw [hs.out]; rfl, Hw.out⟩

set_option maxHeartbeats 1000000 in
theorem copyB (v : Value) (l : List Int) (w : World) (h : RdB w v l) (hm : l.length ≤ 1000000) :
    Calls Try.prog 60 #[v] w fun e w' => ∃ v', e = .returned v' ∧ OwnB w.heap.size w' v' l ∧ Below w.heap.size w w' := by
  obtain ⟨i1, hi1, hz3, hz4, hz5⟩ := info_parts infoB
  obtain ⟨aa, ac, rfl⟩ := h.len
  have H := Lib.hid h
  clear h
  go_enter Try.func60, Try.ntmps60
  go_wp2_with fail
  go_loopw [3, 4] (fun v3 v4 wr => ∃ i : Nat, i ≤ l.length ∧ v4 = .int .i64 i ∧ OwnB w.heap.size wr v3 (l.take i) ∧ Below w.heap.size w wr) (fun _ v _ => l.length - (intOf v).toNat)
  case atStart => exact ⟨0, by omega, rfl, Own.nil _ _ _ _ _, Below.refl _ _⟩
  case round =>
    obtain ⟨i, hi, rfl, ho, hb⟩ := hrel
    have hs := hb.size
    have Ho := Lib.hid ho
    have Hb := Lib.hid hb
    have htl : (l.take i).length ≤ l.length := by rw [List.length_take]; omega
    by_cases hlt : i < l.length
    · obtain ⟨b1, o1, c1, e1, g1, x1⟩ := (H.out.fr hb).some (by omega) (by decide)
      simp at e1
      obtain ⟨rfl, rfl⟩ := e1
      clear x1 ho hb
      have y1 := RdB.at (H.out.fr Hb.out) hlt
      have ht : Hid (l.take (i + 1) = l.take i ++ [l[i]]) := List.take_succ_eq_append_getElem hlt
      go_wp2_with (at_builtin; refine held ?_)
      refine unheld ?_
      refine wpList_app (B := w.heap.size) (v := u3) rfl (.tmp 11) (.tmp 16) 28 rfl 5 i1 _ 1 _ Try.underlying28 hi1 hz3 hz4 hz5 rfl (by decide) (by simp; omega) rfl rfl (Ho.out.fr ((Fr.refl no wr).alloc _) (fun _ _ e => e)) (Rd.new (by simp) rfl) (by intro u hu; simp at hu; subst hu; rfl) (by unfold maxLen; omega) (by omega) ?_
      intro v5 w5 o5 f5 m5 n5 z5
      have f25 : Fr (fun b => u3.ownBlock = some b) wr w5 := (((Fr.refl _ wr).alloc _)).trans f5
      have fin1 : OwnB w.heap.size w5 v5 (l.take (i + 1)) := by rw [ht.out]; exact Own.snoc o5 rfl
      have fin2 : Below w.heap.size w w5 := Hb.out.trans (f25.below' hs (fun b e => (Ho.out.lt b e).1))
      have Fin1 := Lib.hid fin1
      have Fin2 := Lib.hid fin2
      clear fin1 fin2 o5 n5 m5
      go_wp2_with fail
      go_roundw
      case rel => exact ⟨i + 1, by omega, by go_num, Fin1.out, Fin2.out⟩
      case measure => simp [intOf]; omega
    · have ht : l.take i = l := List.take_of_length_le (by omega)
      rw [ht] at ho htl
      have Ho := Lib.hid ho
      clear ho hb ht
      go_wp2_with fail
      go_ret
      exact ⟨_, rfl, Ho.out, Hb.out⟩

theorem cloneB (v : Value) (l : List Int) (w : World) (h : RdB w v l) (hm : l.length ≤ 1000000) :
    Calls Try.prog 33 #[v] w fun e w' => ∃ v', e = .returned v' ∧ OwnB w.heap.size w' v' l ∧ Below w.heap.size w w' := by
  obtain ⟨i1, hi1, hz3, hz4, hz5⟩ := info_parts infoB
  obtain ⟨aa, ac, rfl⟩ := h.len
  have hq := fun (w : World) => Lib.run_eql_slice_nil (P := Try.prog) w 28 5 aa l.length ac 0 0 Try.underlying28
  cases aa with
  | none =>
    obtain ⟨_, a, c, hv, h0, _⟩ := h
    simp at hv
    obtain ⟨rfl, rfl⟩ := hv
    have hl : l = [] := List.eq_nil_of_length_eq_zero (h0 rfl).1
    have hc0 : ac = 0 := (h0 rfl).2
    subst hl hc0
    clear hq
    have hq := fun (w : World) => Lib.run_eql_slice_nil (P := Try.prog) w 28 5 none 0 0 0 0 Try.underlying28
    change Calls Try.prog 33 #[.slice none 0 0] w _
    go_enter Try.func33, Try.ntmps33
    go_wp2_with fail
    go_ret
    exact ⟨_, rfl, Own.nil _ _ _ _ _, Below.refl _ _⟩
  | some ad =>
    have H := Lib.hid h
    have H1 := Lib.hid (encB_ones l)
    clear h
    go_enter Try.func33, Try.ntmps33
    go_wp2_with (at_builtin; refine held ?_)
    refine unheld ?_
    refine wpList_app (B := w.heap.size) (v := .slice (some ⟨w.heap.size, 0, none⟩) 0 0) rfl (.tmp 5) (.tmp 6) 28 rfl 5 i1 _ 1 _ Try.underlying28 hi1 hz3 hz4 hz5 rfl (by decide) (by simp) rfl rfl (own_empty w _ _ _ (Nat.le_refl _)) (H.out.fr ((Below.refl _ w).alloc (Nat.le_refl _) _)) H1.out (by unfold maxLen; omega) (by omega) ?_
    intro v5 w5 o5 f5 m5 n5 z5
    have f25 := ((Fr.refl (fun b => w.heap.size ≤ b) w).alloc (.cells #[] 5)).trans' f5 (T := fun b => w.heap.size ≤ b) (fun _ _ e => e) (fun b _ e => by simp [Value.ownBlock] at e; omega)
    have fin : OwnB w.heap.size w5 v5 l := by
      unfold OwnB Own
      have h := o5
      rw [Nat.zero_add, List.nil_append] at h
      exact h
    have Fin := Lib.hid fin
    have Fb := Lib.hid (f25.below' (Nat.le_refl _) (fun _ e => e))
    clear fin o5 n5 m5 f25 f5
    go_wp2_with fail
    go_ret
    exact ⟨_, rfl, Fin.out, Fb.out⟩
end Go.Proofs.Yteihpaikdpdglaa
