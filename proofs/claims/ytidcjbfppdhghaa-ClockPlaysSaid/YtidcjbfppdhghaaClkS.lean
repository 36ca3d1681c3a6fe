/-
  Package clock at one key type: what each function does to a clock in memory.
-/
import Derived.Test.YtidcjbfppdhghaaDelS
namespace Go.Proofs.Ytidcjbfppdhghaa
open Go.RowKit

/-- A timer: its key, and what is left. -/
abbrev TmS := ByteArray × Int
abbrev keqS (a b : ByteArray) : Bool := a.toList == b.toList
def encS (t : TmS) : List Value := [.string t.1, .int .i64 t.2]
theorem encS_len (t : TmS) : (encS t).length = 2 := rfl
theorem encS_one (t : TmS) : ∀ u ∈ encS t, u.oneCell' = true := by intro u hu; simp [encS] at hu; rcases hu with rfl | rfl <;> rfl

/-- Where a key's timer is; -1: it does not run. -/
def fidxS (k : ByteArray) (l : List TmS) : Int := match l.findIdx? (fun x => keqS x.1 k) with | some i => (i : Int) | none => -1

theorem fidxS_none {k : ByteArray} {l : List TmS} (h : ∀ i, (hi : i < l.length) → keqS l[i].1 k = false) : fidxS k l = -1 := by
  unfold fidxS
  rw [List.findIdx?_eq_none_iff.2 (fun x hx => by obtain ⟨i, hi, rfl⟩ := List.getElem_of_mem hx; exact h i hi)]
theorem fidxS_some {k : ByteArray} {l : List TmS} {j : Nat} (hj : j < l.length) (hy : keqS l[j].1 k = true) (h : ∀ i, i < j → (hi : i < l.length) → keqS l[i].1 k = false) : fidxS k l = j := by
  unfold fidxS
  rw [List.findIdx?_eq_some_iff_getElem.2 ⟨hj, hy, fun i hi => by simpa using h i hi (by omega)⟩]
theorem fidxS_cases (k : ByteArray) (l : List TmS) : (fidxS k l = -1 ∧ l.findIdx? (fun x => keqS x.1 k) = none) ∨ ∃ i : Nat, fidxS k l = i ∧ i < l.length ∧ l.findIdx? (fun x => keqS x.1 k) = some i := by
  unfold fidxS
  cases h : l.findIdx? (fun x => keqS x.1 k) with
  | none => exact .inl ⟨rfl, rfl⟩
  | some i => exact .inr ⟨i, rfl, (List.findIdx?_eq_some_iff_getElem.1 h).1, rfl⟩

theorem placefS (k kk : ByteArray) (left : Int) (kb : Nat) (w : World) (hk : w.cell? ⟨kb, 0, none⟩ = some (.string k)) (hb : kb < w.heap.size) :
    Calls Try.prog 35 #[.agg #[.string kk, .int .i64 left], .pointer (some ⟨kb, 0, none⟩)] w fun e w' => e = .returned (.bool (keqS kk k)) ∧ w' = w.alloc (.cells #[.string kk, .int .i64 left] 61) := by
  go_enter Try.func35, Try.ntmps35
  go_wp2
  go_ret
  exact ⟨rfl, rfl⟩

set_option maxHeartbeats 1000000 in
theorem indexfS (k : ByteArray) (kb : Nat) (sv : Value) (l : List TmS) (w : World) (B : Nat) (hk : w.cell? ⟨kb, 0, none⟩ = some (.string k)) (hown : Own encS 61 2 B w sv l) :
    Calls Try.prog 34 #[sv, .func (.func 35) #[] #[.pointer (some ⟨kb, 0, none⟩)]] w fun e w' => e = .returned (.int .i64 (fidxS k l)) ∧ Below w.heap.size w w' := by
  obtain ⟨a, cap, rfl, hcap, hmax, ha⟩ := own_shape hown
  have hlen : l.length ≤ 9223372036854775807 := by unfold maxLen at hmax; omega
  have hb : kb < w.heap.size := World.block_lt_of_cell? w _ hk
  have Ha := Lib.hid ha
  have Ho := Lib.hid hown
  clear ha hown
  go_enter Try.func34, Try.ntmps34
  go_wp2_with fail
  go_loopw [8] (fun v wr => ∃ j : Nat, j ≤ l.length ∧ v = .int .i64 j ∧ Below w.heap.size w wr ∧ Hid (∀ i, i < j → (hi : i < l.length) → keqS l[i].1 k = false)) (fun v _ => l.length - (intOf v).toNat)
  case atStart => exact ⟨0, by omega, rfl, Below.refl _ _, fun i hi => by omega⟩
  case round =>
    obtain ⟨j, hj, rfl, hB, hno⟩ := hrel
    have hk' := (hB.cell (p := ⟨kb, 0, none⟩) hb).trans hk
    have hsz := hB.size
    by_cases hlt : j < l.length
    · obtain ⟨g, rfl, hg⟩ := Ha.out (by omega)
      have h0 : wr.cell? ⟨g, j * 2, none⟩ = some (.string l[j].1) := Ho.out.cell' encS_len hB j 0 hlt (by omega)
      have h1 : wr.cell? ⟨g, j * 2 + 1, none⟩ = some (.int .i64 l[j].2) := Ho.out.cell' encS_len hB j 1 hlt (by omega)
      have hbk : kb < wr.heap.size := by omega
      cases hx : keqS l[j].1 k with
      | false =>
        go_wp2_with (go_at_call 35; refine (placefS k _ _ kb _ hk' hbk).mono ?_; rintro e w' ⟨rfl, rfl⟩)
        go_roundw
        case rel => exact ⟨j + 1, by omega, by go_num, hB.alloc (by omega) _, fun i hi hl => by
          by_cases e : i = j
          · subst e; exact hx
          · exact hno.out i (by omega) hl⟩
        case measure => simp [intOf]; omega
      | true =>
        have hf := Lib.hid (fidxS_some hlt hx hno.out)
        go_wp2_with (go_at_call 35; refine (placefS k _ _ kb _ hk' hbk).mono ?_; rintro e w' ⟨rfl, rfl⟩)
        go_ret
        exact ⟨by rw [hf.out]; rfl, hB.alloc (by omega) _⟩
    · have hf := Lib.hid (fidxS_none (k := k) (l := l) (fun i hi => hno.out i (by omega) hi))
      go_wp2
      go_ret
      exact ⟨by rw [hf.out]; rfl, hB⟩

/-- A clock in memory: its block, and the row of its timers. -/
structure IsClkS (w : World) (B c : Nat) (most now : Int) (sv : Value) (l : List TmS) : Prop where
  blk : w.heap[c]? = some (.cells #[.int .i64 most, .int .i64 now, sv] 58 (0, 0))
  own : Own encS 61 2 B w sv l
  ge : B ≤ c
  small : (l.length : Int) ≤ most
  mx : most ≤ 100000
  tk : ∀ x ∈ l, 1 ≤ x.2 ∧ x.2 ≤ 10000

theorem IsClkS.fr {w w' : World} {B c : Nat} {most now : Int} {sv : Value} {l : List TmS} {S : Nat → Prop} (h : IsClkS w B c most now sv l) (hf : Fr S w w') (h1 : ¬ S c) (h2 : ∀ g, sv.ownBlock = some g → ¬ S g) : IsClkS w' B c most now sv l :=
  ⟨hf.heap h.blk h1, h.own.fr hf h2, h.ge, h.small, h.mx, h.tk⟩
theorem IsClkS.below {w w' : World} {B c : Nat} {most now : Int} {sv : Value} {l : List TmS} (h : IsClkS w B c most now sv l) (hf : Below w.heap.size w w') : IsClkS w' B c most now sv l :=
  h.fr (Fr.of_below hf no) (fun e => e) (fun _ _ e => e)
theorem IsClkS.ne {w : World} {B c : Nat} {most now : Int} {sv : Value} {l : List TmS} (h : IsClkS w B c most now sv l) : sv.ownBlock ≠ some c := own_ne h.own h.blk (by decide)

theorem placeS (k : ByteArray) (c : Nat) (most now : Int) (sv : Value) (l : List TmS) (w : World) (B : Nat) (h : IsClkS w B c most now sv l) :
    Calls Try.prog 28 #[.pointer (some ⟨c, 0, none⟩), .string k] w fun e w' => e = .returned (.int .i64 (fidxS k l)) ∧ Below w.heap.size w w' := by
  have hc := lt_of_block h.blk
  have c2 := blk_cell h.blk 2
  simp at c2
  have H := Lib.hid h
  clear h
  go_enter Try.func28, Try.ntmps28
  go_wp2_with (go_at_call 34; refine (indexfS k _ sv l _ B ?_ ?_).mono ?_)
  · exact World.cell?_alloc_at _ _ _ _ rfl
  · exact H.out.own.fr ((Fr.refl no w).alloc _) (fun _ _ e => e)
  · rintro e w' ⟨rfl, hb⟩
    go_wp2
    go_ret
    exact ⟨rfl, ((Below.refl _ w).alloc (Nat.le_refl _) _).trans (hb.mono (by simp))⟩

/-- Without a key's timer. -/
def stopLS (k : ByteArray) (l : List TmS) : List TmS := l.eraseP (fun x => keqS x.1 k)

set_option maxHeartbeats 1000000 in
theorem stopS (k : ByteArray) (c : Nat) (most now : Int) (sv : Value) (l : List TmS) (w : World) (B : Nat) (h : IsClkS w B c most now sv l) :
    Calls Try.prog 13 #[.pointer (some ⟨c, 0, none⟩), .string k] w fun e w' => e = .returned (.bool (decide (0 ≤ fidxS k l))) ∧ ∃ sv', IsClkS w' B c most now sv' (stopLS k l) ∧ Mv w sv sv' ∧ Fr (ftp c sv) w w' := by
  have hc := lt_of_block h.blk
  have hne := h.ne
  rcases fidxS_cases k l with ⟨hi, hfi⟩ | ⟨i, hi, hlt, hfi⟩
  · have Hi := Lib.hid hi
    have hi' : ¬ (0 ≤ fidxS k l) := by omega
    have hi2 : decide (0 ≤ fidxS k l) = false := by simpa using hi'
    have Hs : Hid (stopLS k l = l) := by unfold stopLS; rw [List.eraseP_eq_eraseIdx, hfi]; rfl
    have H := Lib.hid h
    clear h hi hfi hi'
    go_enter Try.func13, Try.ntmps13
    go_wp2_with (go_at_call 28; refine (placeS k c most now sv l _ B H.out).mono ?_; rintro e w' ⟨rfl, hb⟩)
    go_ret
    refine ⟨by rw [hi2]; rfl, sv, ?_, Mv.refl _ _, Fr.of_below hb _⟩
    rw [Hs.out]
    exact H.out.below hb
  · obtain ⟨g, cap, rfl, hg, hcap, hmax⟩ := own_some h.own (by omega)
    have hcg : c ≠ g := fun e => hne (by rw [e]; rfl)
    have Hi := Lib.hid hi
    have hi2 : decide (0 ≤ fidxS k l) = true := by rw [hi]; simp
    have Hs : Hid (stopLS k l = l.eraseIdx i) := by unfold stopLS; rw [List.eraseP_eq_eraseIdx, hfi]; rfl
    have Hl : Hid ((l.eraseIdx i).length = l.length - 1) := List.length_eraseIdx_of_lt hlt
    have H := Lib.hid h
    have hsm : l.length ≤ 1000000 := by have := h.small; have := h.mx; omega
    clear h hfi
    have hfin : ∀ w' : World, Below w.heap.size w w' → w'.cell? ⟨c, 2, none⟩ = some (.slice (some ⟨g, 0, none⟩) l.length cap) := fun w' hb => by
      have := blk_cell (H.out.below hb).blk 2
      simpa using this
    have Hfin := Lib.hid hfin
    clear hfin
    rw [hi]
    clear hi
    go_enter Try.func13, Try.ntmps13
    go_wp2_with fail
    refine (placeS k c most now _ l _ B H.out).mono ?_
    rw [Hi.out]
    rintro e w1 ⟨rfl, hb⟩
    have k2 := Hfin.out w1 hb
    have H1 := Lib.hid (H.out.below hb)
    have hs1 := hb.size
    go_wp2_with fail
    refine (del29 encS encS_len encS_one w1 B g cap l i hlt H1.out.own hsm).mono ?_
    rintro e w2 ⟨rfl, ho, hf⟩
    have b2 := hf.heap H1.out.blk (show ¬ c = g from hcg)
    have k3 : w2.cell? ⟨c, 2, none⟩ = some (.slice (some ⟨g, 0, none⟩) l.length cap) := by have := blk_cell b2 2; simpa using this
    have z3 := blk_free b2 2
    have Ho := Lib.hid ho
    have B2 := Lib.hid b2
    clear ho b2
    go_wp2_with fail
    go_ret
    refine ⟨by simp, .slice (some ⟨g, 0, none⟩) (l.length - 1) cap, ⟨by simpa using heap_setCell_same B2.out (i := 2) (.slice (some ⟨g, 0, none⟩) (l.length - 1) cap), ?_, H.out.ge, ?_, H.out.mx, fun x hx => H.out.tk x (List.mem_of_mem_eraseP hx)⟩, Mv.refl _ _, ?_⟩
    · rw [Hs.out]
      exact Ho.out.fr ((Fr.refl (fun b => b = c) _).setCell (fun _ => rfl) _) (fun g' e e' => by simp [Value.ownBlock] at e; omega)
    · rw [Hs.out, Hl.out]; have := H.out.small; omega
    · exact ((Fr.of_below hb _).trans' hf (fun _ _ e => e) (fun i _ e => .inr (by rw [e]; rfl))).setCell (fun _ => .inl rfl) _

/-- Whether a timer is started; and what runs then. -/
def startOkS (most : Int) (k : ByteArray) (n : Int) (l : List TmS) : Bool := decide (1 ≤ n) && decide (n ≤ 10000) && !(decide (fidxS k l < 0) && decide (most ≤ (l.length : Int)))
def startLS (k : ByteArray) (n : Int) (l : List TmS) : List TmS := stopLS k l ++ [(k, n)]

set_option maxHeartbeats 1000000 in
theorem startNoS (k : ByteArray) (n : Int) (c : Nat) (most now : Int) (sv : Value) (l : List TmS) (w : World) (B : Nat) (h : IsClkS w B c most now sv l) (hno : startOkS most k n l = false) :
    Calls Try.prog 11 #[.pointer (some ⟨c, 0, none⟩), .string k, .int .i64 n] w fun e w' => e = .returned (.bool false) ∧ Below w.heap.size w w' := by
  by_cases h1 : n < 1
  · have d1 : decide (n < 1) = true := by simpa using h1
    clear hno h1 h
    go_enter Try.func11, Try.ntmps11
    go_wp2_with fail
    refine wp_region_after (by kernel_rfl) (by kernel_rfl) ?_
    repeat (go_big_quiet_step (fail))
    refine wpQuiet_nil ?_
    rintro w1 ⟨⟨_, hb⟩, rfl⟩
    go_wp2_with fail
    go_ret
    exact ⟨rfl, hb⟩
  by_cases h2 : 10000 < n
  · have d1 : decide (n < 1) = false := by simpa using h1
    have d2 : decide (10000 < n) = true := by simpa using h2
    clear hno h1 h h2
    go_enter Try.func11, Try.ntmps11
    go_wp2_with fail
    refine wp_region_after (by kernel_rfl) (by kernel_rfl) ?_
    repeat (go_big_quiet_step (fail))
    refine wpQuiet_nil ?_
    rintro w1 ⟨⟨_, hb⟩, rfl⟩
    go_wp2_with fail
    go_ret
    exact ⟨rfl, hb⟩
  have h3 : fidxS k l < 0 ∧ most ≤ (l.length : Int) := by
    simp [startOkS] at hno
    exact hno (by omega) (by omega)
  have d1 : decide (n < 1) = false := by simpa using h1
  have d2 : decide (10000 < n) = false := by simpa using h2
  have d3 : decide (fidxS k l < 0) = true := by simpa using h3.1
  have d4 : decide (most ≤ (l.length : Int)) = true := by simpa using h3.2
  have c0 : ∀ p : After w, p.w'.cell? ⟨c, 0, none⟩ = some (.int .i64 most) := fun p => p.cell (by have := blk_cell h.blk 0; simpa using this)
  have c2 : ∀ p : After w, p.w'.cell? ⟨c, 2, none⟩ = some sv := fun p => p.cell (by have := blk_cell h.blk 2; simpa using this)
  obtain ⟨a, cap, rfl, _⟩ := own_shape h.own
  have H := Lib.hid h
  clear hno h1 h h2 h3
  go_enter Try.func11, Try.ntmps11
  go_wp2_with fail
  refine wp_region_after (by kernel_rfl) (by kernel_rfl) ?_
  repeat (go_big_quiet_step ((go_at_call 28; exact Calls.after_of (placeS k c most now _ l _ B (H.out.below (After.h _))))))
  refine wpQuiet_nil ?_
  rintro w1 ⟨⟨_, hb⟩, rfl⟩
  go_wp2_with fail
  go_ret
  exact ⟨rfl, hb⟩

/-- Behind the test: the rest of Start. -/
theorem startYesS (k : ByteArray) (n : Int) (c : Nat) (most now : Int) (sv : Value) (l : List TmS) (w : World) (B : Nat) (hB : B ≤ w.heap.size) (h : IsClkS w B c most now sv l) (hyes : startOkS most k n l = true) :
    Calls Try.prog 11 #[.pointer (some ⟨c, 0, none⟩), .string k, .int .i64 n] w fun e w' => e = .returned (.bool true) ∧ ∃ sv', IsClkS w' B c most now sv' (startLS k n l) ∧ Mv w sv sv' ∧ Fr (ftp c sv) w w' := by
  obtain ⟨i0, hi0, hz0, hz1, hz2⟩ := info_parts info61
  have hy : (1 ≤ n ∧ n ≤ 10000) ∧ (fidxS k l < 0 → (l.length : Int) < most) := by
    simp [startOkS] at hyes
    exact ⟨hyes.1, fun h => by omega⟩
  have hlen : ((stopLS k l).length : Int) + 1 ≤ most := by
    have hs := h.small
    unfold stopLS
    rw [List.eraseP_eq_eraseIdx]
    rcases fidxS_cases k l with ⟨hi, hfi⟩ | ⟨i, hi, hlt, hfi⟩
    · rw [hfi]; have := hy.2 (by omega); simp; omega
    · rw [hfi]; simp [List.length_eraseIdx_of_lt hlt]; omega
  have d1 : decide (n < 1) = false := by have := hy.1; simp; omega
  have d2 : decide (10000 < n) = false := by have := hy.1; simp; omega
  have c0 : ∀ p : After w, p.w'.cell? ⟨c, 0, none⟩ = some (.int .i64 most) := fun p => p.cell (by have := blk_cell h.blk 0; simpa using this)
  have c2 : ∀ p : After w, p.w'.cell? ⟨c, 2, none⟩ = some sv := fun p => p.cell (by have := blk_cell h.blk 2; simpa using this)
  have hc := lt_of_block h.blk
  have hmx := h.mx
  have Hn := Lib.hid hy.1
  have Hlen := Lib.hid hlen
  clear hlen
  have H := Lib.hid h
  have tail : ∀ w1 : World, Below w.heap.size w w1 → Calls Try.prog 13 #[.pointer (some ⟨c, 0, none⟩), .string k] w1 fun e w' => e = .returned (.bool (decide (0 ≤ fidxS k l))) ∧ ∃ sv', IsClkS w' B c most now sv' (stopLS k l) ∧ Mv w1 sv sv' ∧ Fr (ftp c sv) w1 w' :=
    fun w1 hb => stopS k c most now sv l w1 B (H.out.below hb)
  have Tail := Lib.hid tail
  clear tail
  by_cases h3 : fidxS k l < 0
  · have d3 : decide (fidxS k l < 0) = true := by simpa using h3
    have d4 : decide (most ≤ (l.length : Int)) = false := by have := hy.2 h3; simp; omega
    obtain ⟨a, cap, rfl, _⟩ := own_shape h.own
    clear h hy hyes
    go_enter Try.func11, Try.ntmps11
    go_wp2_with fail
    refine wp_region_after (by kernel_rfl) (by kernel_rfl) ?_
    repeat (go_big_quiet_step ((go_at_call 28; exact Calls.after_of (placeS k c most now _ l _ B (H.out.below (After.h _))))))
    refine wpQuiet_nil ?_
    rintro w1 ⟨⟨_, hb⟩, rfl⟩
    clear c0 c2
    go_wp2_with fail
    refine (Tail.out w1 hb).mono ?_
    rintro e w2 ⟨rfl, sv2, hk2, hm2, hf2⟩
    have b2 : w2.cell? ⟨c, 2, none⟩ = some sv2 := by have := blk_cell hk2.blk 2; simpa using this
    have hs2 := hf2.size
    have hs1 := hb.size
    have hc2 := lt_of_block hk2.blk
    have K2 := Lib.hid hk2
    clear hk2
    go_wp2_with (at_builtin; refine held ?_)
    refine unheld ?_
    refine wpList_app (B := B) (v := sv2) rfl (.tmp 42) (.tmp 46) 56 rfl 61 i0 _ 2 _ Try.underlying56 hi0 hz0 hz1 hz2 rfl (by decide) (by simp; omega) rfl rfl (K2.out.own.fr ((Fr.refl no w2).alloc _) (fun _ _ e => e)) (Rd.new rfl rfl) (by intro u hu; simp at hu; rcases hu with rfl | rfl <;> rfl) (by have := Hlen.out; unfold maxLen; omega) (by have := Hlen.out; omega) ?_
    intro v3 w3 o3 f3 m3 n3 z3
    have f23 : Fr (fun b => sv2.ownBlock = some b) w2 w3 := ((Fr.refl _ w2).alloc _).trans f3
    have b3 := f23.heap K2.out.blk (fun e => K2.out.ne e)
    have k3 : w3.cell? ⟨c, 2, none⟩ = some sv2 := by have := blk_cell b3 2; simpa using this
    have zz3 := blk_free b3 2
    obtain ⟨a3, cap3, rfl, _⟩ := own_shape o3
    have O3 := Lib.hid o3
    have B3 := Lib.hid b3
    clear o3 b3 n3
    go_wp2_with fail
    go_ret
    refine ⟨rfl, .slice a3 _ cap3, ⟨by simpa using heap_setCell_same B3.out (i := 2) (.slice a3 ((stopLS k l).length + 1) cap3), ?_, H.out.ge, ?_, hmx, ?_⟩, ?_, ?_⟩
    · exact (Own.snoc O3.out rfl).fr ((Fr.refl (fun b => b = c) _).setCell (fun _ => rfl) _) (fun g e e' => by subst e'; exact own_ne O3.out B3.out (by decide) e)
    · have := Hlen.out; simp [startLS]; omega
    · intro x hx
      simp [startLS] at hx
      rcases hx with hx | rfl
      · exact K2.out.tk x hx
      · exact Hn.out
    · exact hm2.trans' hb.size (Mv.of' (w := w2) m3 (by simp)) (by omega)
    · exact ((((Fr.of_below hb _).trans' hf2 (fun _ _ e => e) (fun _ _ e => e)).trans' f23 (fun _ _ e => e) (fun i hi e => (hm2 i e).elim .inr (fun h => by omega)))).setCell (fun _ => .inl rfl) _
  · have d3 : decide (fidxS k l < 0) = false := by simpa using h3
    obtain ⟨a, cap, rfl, _⟩ := own_shape h.own
    clear h hy hyes
    go_enter Try.func11, Try.ntmps11
    go_wp2_with fail
    refine wp_region_after (by kernel_rfl) (by kernel_rfl) ?_
    repeat (go_big_quiet_step ((go_at_call 28; exact Calls.after_of (placeS k c most now _ l _ B (H.out.below (After.h _))))))
    refine wpQuiet_nil ?_
    rintro w1 ⟨⟨_, hb⟩, rfl⟩
    clear c0 c2
    go_wp2_with fail
    refine (Tail.out w1 hb).mono ?_
    rintro e w2 ⟨rfl, sv2, hk2, hm2, hf2⟩
    have b2 : w2.cell? ⟨c, 2, none⟩ = some sv2 := by have := blk_cell hk2.blk 2; simpa using this
    have hs2 := hf2.size
    have hs1 := hb.size
    have hc2 := lt_of_block hk2.blk
    have K2 := Lib.hid hk2
    clear hk2
    go_wp2_with (at_builtin; refine held ?_)
    refine unheld ?_
    refine wpList_app (B := B) (v := sv2) rfl (.tmp 42) (.tmp 46) 56 rfl 61 i0 _ 2 _ Try.underlying56 hi0 hz0 hz1 hz2 rfl (by decide) (by simp; omega) rfl rfl (K2.out.own.fr ((Fr.refl no w2).alloc _) (fun _ _ e => e)) (Rd.new rfl rfl) (by intro u hu; simp at hu; rcases hu with rfl | rfl <;> rfl) (by have := Hlen.out; unfold maxLen; omega) (by have := Hlen.out; omega) ?_
    intro v3 w3 o3 f3 m3 n3 z3
    have f23 : Fr (fun b => sv2.ownBlock = some b) w2 w3 := ((Fr.refl _ w2).alloc _).trans f3
    have b3 := f23.heap K2.out.blk (fun e => K2.out.ne e)
    have k3 : w3.cell? ⟨c, 2, none⟩ = some sv2 := by have := blk_cell b3 2; simpa using this
    have zz3 := blk_free b3 2
    obtain ⟨a3, cap3, rfl, _⟩ := own_shape o3
    have O3 := Lib.hid o3
    have B3 := Lib.hid b3
    clear o3 b3 n3
    go_wp2_with fail
    go_ret
    refine ⟨rfl, .slice a3 _ cap3, ⟨by simpa using heap_setCell_same B3.out (i := 2) (.slice a3 ((stopLS k l).length + 1) cap3), ?_, H.out.ge, ?_, hmx, ?_⟩, ?_, ?_⟩
    · exact (Own.snoc O3.out rfl).fr ((Fr.refl (fun b => b = c) _).setCell (fun _ => rfl) _) (fun g e e' => by subst e'; exact own_ne O3.out B3.out (by decide) e)
    · have := Hlen.out; simp [startLS]; omega
    · intro x hx
      simp [startLS] at hx
      rcases hx with hx | rfl
      · exact K2.out.tk x hx
      · exact Hn.out
    · exact hm2.trans' hb.size (Mv.of' (w := w2) m3 (by simp)) (by omega)
    · exact ((((Fr.of_below hb _).trans' hf2 (fun _ _ e => e) (fun _ _ e => e)).trans' f23 (fun _ _ e => e) (fun i hi e => (hm2 i e).elim .inr (fun h => by omega)))).setCell (fun _ => .inl rfl) _

/-- What runs behind a Start. -/
def afterStartS (most : Int) (k : ByteArray) (n : Int) (l : List TmS) : List TmS := if startOkS most k n l = true then startLS k n l else l
theorem startS (k : ByteArray) (n : Int) (c : Nat) (most now : Int) (sv : Value) (l : List TmS) (w : World) (B : Nat) (hB : B ≤ w.heap.size) (h : IsClkS w B c most now sv l) :
    Calls Try.prog 11 #[.pointer (some ⟨c, 0, none⟩), .string k, .int .i64 n] w fun e w' => e = .returned (.bool (startOkS most k n l)) ∧ ∃ sv', IsClkS w' B c most now sv' (afterStartS most k n l) ∧ Mv w sv sv' ∧ Fr (ftp c sv) w w' := by
  unfold afterStartS
  cases hs : startOkS most k n l with
  | false => exact (startNoS k n c most now sv l w B h hs).mono fun e w' ⟨he, hb⟩ => ⟨he, sv, by simpa using h.below hb, Mv.refl _ _, Fr.of_below hb _⟩
  | true => simpa using startYesS k n c most now sv l w B hB h hs

theorem newS (most : Int) (w : World) (hm : most ≤ 100000) :
    Calls Try.prog 10 #[.int .i64 most] w fun e w' => e = .returned (.pointer (some ⟨w.heap.size, 0, none⟩)) ∧ IsClkS w' w.heap.size w.heap.size (max most 0) 0 (.slice none 0 0) [] ∧ Below w.heap.size w w' := by
  have fin : ∀ m : Int, m = max most 0 → IsClkS (w.alloc (.cells #[.int .i64 m, .int .i64 0, .slice none 0 0] 58)) w.heap.size w.heap.size (max most 0) 0 (.slice none 0 0) [] := fun m e => by
    subst e
    exact ⟨heap_alloc_new' w _, Own.nil _ _ _ _ _, Nat.le_refl _, by simp; omega, by omega, by simp⟩
  have Fin := Lib.hid fin
  clear fin
  by_cases h0 : most < 0
  all_goals
    go_enter Try.func10, Try.ntmps10
    go_wp2
    go_ret
    exact ⟨rfl, Fin.out _ (by omega), (Below.refl _ w).alloc (Nat.le_refl _) _⟩

/-- What is left of a key's timer. -/
def leftLS (k : ByteArray) (l : List TmS) : Int := match l.find? (fun x => keqS x.1 k) with | some x => x.2 | none => 0
end Go.Proofs.Ytidcjbfppdhghaa
