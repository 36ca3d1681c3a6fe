/-
  Package grid: blank, shared, pairs.
-/
import Derived.Test.YtnafppdnapdbcaaGrd3
namespace Go.Proofs.Ytnafppdnapdbcaa
open Go.RowKit


def blankT : GT := fun s _ => ([], s, false)
theorem infoRS : (Try.prog.info? 29).map (fun i => (i.zero, i.size, i.bytes)) = some (some (.slice none 0 0), 1, 24) := by kernel_rfl

/-- A row of one state, the first i of which have their next state. -/
def RowC (w : World) (b s i : Nat) : Prop := ∃ cs : Array Value, w.heap[b]? = some (.cells cs 25 (0, 0)) ∧ cs.size = 102 ∧ ∀ e, e < 34 → cs[e * 3]? = some (.slice none 0 0) ∧ cs[e * 3 + 1]? = some (.int .i64 (if e < i then (s : Int) else 0)) ∧ cs[e * 3 + 2]? = some (.bool false)
theorem RowC.at {N : Nat} {w : World} {b s : Nat} (h : RowC w b s 34) {e : Nat} (he : e < 34) : RowAt N w b e (blankT s e) := by
  obtain ⟨cs, hb, hsz, hc⟩ := h
  obtain ⟨h1, h2, h3⟩ := hc e he
  rw [if_pos he] at h2
  exact ⟨_, RdN.nil _ _, ⟨(blk_cell hb _).trans h1, blk_free hb _⟩, ⟨(blk_cell hb _).trans h2, blk_free hb _⟩, ⟨(blk_cell hb _).trans h3, blk_free hb _⟩⟩
theorem RowC.fr {w w' : World} {S : Nat → Prop} {b s i : Nat} (h : RowC w b s i) (hf : Fr S w w') (hn : ¬ S b) : RowC w' b s i := by
  obtain ⟨cs, hb, r⟩ := h
  exact ⟨cs, hf.heap hb hn, r⟩
theorem RowC.lt {w : World} {b s i : Nat} (h : RowC w b s i) : b < w.heap.size := by
  obtain ⟨cs, hb, r⟩ := h
  exact lt_of_block hb
theorem RowC.set {w : World} {b s i : Nat} (h : RowC w b s i) (hi : i < 34) : RowC (w.setCell ⟨b, i * 3 + 1, none⟩ (.int .i64 s)) b s (i + 1) := by
  obtain ⟨cs, hb, hsz, hc⟩ := h
  refine ⟨_, heap_setCell_same hb _, by simpa using hsz, fun e he => ?_⟩
  obtain ⟨h1, h2, h3⟩ := hc e he
  refine ⟨?_, ?_, ?_⟩
  · rw [Array.getElem?_setIfInBounds_ne (by omega)]; exact h1
  · by_cases hh : e = i
    · subst hh
      rw [Array.getElem?_setIfInBounds_self_of_lt (by omega), if_pos (by omega)]
    · rw [Array.getElem?_setIfInBounds_ne (by omega), h2]
      by_cases h4 : e < i
      · rw [if_pos h4, if_pos (by omega)]
      · rw [if_neg h4, if_neg (by omega)]
  · rw [Array.getElem?_setIfInBounds_ne (by omega)]; exact h3

abbrev encS (b : Nat) : List Value := [.slice (some ⟨b, 0, none⟩) 34 34]
theorem encS_len (b : Nat) : (encS b).length = 1 := rfl
/-- The rows that are laid so far. -/
structure Rows_ (B : Nat) (w : World) (v : Value) (rs : List Nat) : Prop where
  own : Own encS 29 1 B w v rs
  row : ∀ j, (h : j < rs.length) → RowC w rs[j] j 34 ∧ B ≤ rs[j]
  inj : ∀ i j, (h : i < rs.length) → (h' : j < rs.length) → rs[i] = rs[j] → i = j
theorem Rows_.tab {B : Nat} {w : World} {v : Value} {rs : List Nat} (h : Rows_ B w v rs) (hl : rs.length = 14) : Tab B w.heap.size w v blankT := by
  rcases own_cases h.own with ⟨_, hn, _⟩ | ⟨g, cap, rfl, hg, hc1, hc2⟩
  · omega
  · have hB : B ≤ w.heap.size := by have := (h.row 0 (by omega)).1.lt; have := (h.row 0 (by omega)).2; omega
    refine ⟨hB, Nat.le_refl _, g, cap, fun s => rs.getD s 0, by rw [hl], by omega, hc2, fun s hs => ?_, fun s s' hs hs' e => ?_, fun s e hs he => ?_⟩
    · have hs' : s < rs.length := by omega
      have e1 : rs.getD s 0 = rs[s] := by simp [List.getD, List.getElem?_eq_getElem hs']
      simp only [e1]
      refine ⟨?_, ?_, (h.row s hs').2, (h.row s hs').1.lt⟩
      · have := h.own.cell encS_len s 0 hs' (by decide)
        simpa using this
      · intro e
        obtain ⟨cs, hb, _⟩ := (h.row s hs').1
        exact own_ne h.own hb (by decide) (by rw [e]; rfl)
    · have h1 : s < rs.length := by omega
      have h2 : s' < rs.length := by omega
      simp [List.getD, List.getElem?_eq_getElem h1, List.getElem?_eq_getElem h2] at e
      exact h.inj s s' h1 h2 e
    · have hs' : s < rs.length := by omega
      have e1 : rs.getD s 0 = rs[s] := by simp [List.getD, List.getElem?_eq_getElem hs']
      simp only [e1]
      exact (h.row s hs').1.at he

theorem zeroRow {e : Nat} (he : e < 34) (j : Nat) (hj : j < 3) (u : Value) (hu : (#[Value.slice none 0 0, .int .i64 0, .bool false] : Array Value)[j]? = some u) :
    (Builtin.zeroCells #[Value.slice none 0 0, .int .i64 0, .bool false] 34)[e * 3 + j]? = some u := by
  unfold Builtin.zeroCells
  rw [Array.getElem?_map]
  have h1 : (Array.range (34 * 3))[e * 3 + j]? = some (e * 3 + j) := by
    rw [Array.getElem?_range]; simp; omega
  have h2 : (#[Value.slice none 0 0, .int .i64 0, .bool false] : Array Value).size = 3 := rfl
  rw [h2, h1]
  simp only [Option.map_some]
  rw [show (e * 3 + j) % 3 = j by omega, getElem!_def, hu]
theorem RowC.start (w : World) (s : Nat) : RowC (w.alloc (.cells (Builtin.zeroCells #[Value.slice none 0 0, .int .i64 0, .bool false] 34) 25)) w.heap.size s 0 := by
  refine ⟨_, heap_alloc_new' w _, by rw [zeroCells_size]; rfl, fun e he => ⟨zeroRow he 0 (by decide) _ rfl, ?_, zeroRow he 2 (by decide) _ rfl⟩⟩
  rw [if_neg (by omega)]
  exact zeroRow he 1 (by decide) _ rfl
theorem RowC.held {w : World} {b s i : Nat} (h : RowC w b s i) {e : Nat} (he : e < 34) : ∃ u, w.cell? ⟨b, e * 3 + 1, none⟩ = some (.int .i64 u) ∧ w.frozen? ⟨b, e * 3 + 1, none⟩ = false := by
  obtain ⟨cs, hb, hsz, hc⟩ := h
  exact ⟨_, (blk_cell hb _).trans (hc e he).2.1, blk_free hb _⟩
theorem Rows_.snoc {B : Nat} {w w' : World} {v v' : Value} {rs : List Nat} (h : Rows_ B w v rs) {b : Nat} (hb : w.heap.size ≤ b) (hB : B ≤ w.heap.size) (hr : RowC w' b rs.length 34) (ho : Own encS 29 1 B w' v' (rs ++ [b])) (hk : ∀ j, (hj : j < rs.length) → RowC w' rs[j] j 34) : Rows_ B w' v' (rs ++ [b]) := by
  have hlt : ∀ j, (hj : j < rs.length) → rs[j] < b := fun j hj => by have := (h.row j hj).1.lt; omega
  refine ⟨ho, fun j hj => ?_, fun i j hi hj e => ?_⟩
  · by_cases hh : j < rs.length
    · rw [List.getElem_append_left hh]
      exact ⟨hk j hh, (h.row j hh).2⟩
    · obtain rfl : j = rs.length := by simp at hj; omega
      simp
      exact ⟨hr, by omega⟩
  · simp at hi hj
    by_cases h1 : i < rs.length
    · by_cases h2 : j < rs.length
      · rw [List.getElem_append_left h1, List.getElem_append_left h2] at e
        exact h.inj i j h1 h2 e
      · obtain rfl : j = rs.length := by omega
        rw [List.getElem_append_left h1] at e
        simp at e
        have := hlt i h1; omega
    · obtain rfl : i = rs.length := by omega
      by_cases h2 : j < rs.length
      · rw [List.getElem_append_left h2] at e
        simp at e
        have := hlt j h2; omega
      · omega

set_option maxHeartbeats 4000000 in
theorem blank (w : World) : Calls Try.prog 18 #[] w fun x w' => ∃ v N, x = .returned v ∧ Tab w.heap.size N w' v blankT ∧ Below w.heap.size w w' := by
  obtain ⟨i1, hi1, hz3, hz4, hz5⟩ := info_parts infoRS
  have hmk : ∀ W : World, (Instr.makeSlice 29 (.int .i64 34) (.int .i64 34)).run Try.prog W = .ok (.slice (some ⟨W.heap.size, 0, none⟩) 34 34) (W.alloc (.cells (Builtin.zeroCells (Value.agg #[.slice none 0 0, .int .i64 0, .bool false]).cells 34) 25)) := fun W => by kernel_rfl
  go_enter Try.func18, Try.ntmps18
  go_wp2_with fail
  go_loopw [1, 5] (fun v1 v5 wr => ∃ s : Nat, s ≤ 14 ∧ v5 = .int .i64 s ∧ Hid (∃ rs, rs.length = s ∧ Rows_ w.heap.size wr v1 rs) ∧ Hid (Below w.heap.size w wr)) (fun _ v _ => 14 - (intOf v).toNat)
  case atStart => exact ⟨0, by omega, rfl, ⟨[], rfl, Own.nil _ _ _ _ _, fun j h => absurd h (by simp), fun i j h => absurd h (by simp)⟩, Below.refl _ _⟩
  case round =>
    obtain ⟨s, hs, rfl, H, Hb⟩ := hrel
    by_cases hlt : s < 14
    · have hd1 : decide ((s : Int) < 14) = true := by simp; omega
      have hsz := Hb.out.size
      go_upto_region 6 with fail
      obtain ⟨b, hb⟩ : ∃ b, b = wr.heap.size := ⟨_, rfl⟩
      obtain ⟨W0, hW0⟩ : ∃ x, x = wr.alloc (.cells (Builtin.zeroCells #[.slice none 0 0, .int .i64 0, .bool false] 34) 25) := ⟨_, rfl⟩
      have R0 : RowC W0 b s 0 := by subst hW0 hb; exact RowC.start wr s
      have B0 : Below wr.heap.size wr W0 := by subst hW0; exact (Below.refl _ _).alloc (Nat.le_refl _) _
      rw [← hW0, ← hb]
      have R1 : Hid (RowC W0 b s 0 ∧ Fr (fun k => k = b) W0 W0) := ⟨R0, Fr.refl _ _⟩
      have HB0 := Lib.hid B0
      have Eb := Lib.hid hb
      clear hW0 hb R0 B0
      go_wp2_with fail
      go_loopw [11] (fun v11 wq => ∃ i : Nat, i ≤ 34 ∧ v11 = .int .i64 i ∧ Hid (RowC wq b s i ∧ Fr (fun k => k = b) W0 wq)) (fun v _ => 34 - (intOf v).toNat)
      case atStart => exact ⟨0, by omega, rfl, R1⟩
      case round =>
        clear R1
        obtain ⟨i, hi, rfl, R⟩ := hrel
        by_cases hlt2 : i < 34
        · obtain ⟨u, z1, z2⟩ := R.out.1.held hlt2
          have fin : Hid (RowC (wr.setCell ⟨b, i * 3 + 1, none⟩ (.int .i64 s)) b s (i + 1) ∧ Fr (fun k => k = b) W0 (wr.setCell ⟨b, i * 3 + 1, none⟩ (.int .i64 s))) := ⟨R.out.1.set hlt2, R.out.2.setCell (fun _ => rfl) _⟩
          go_wp2_with fail
          go_roundw
          case rel => exact ⟨i + 1, by omega, by go_num, fin⟩
          case measure => simp [intOf]; omega
        · obtain rfl : i = 34 := by omega
          obtain ⟨rs, hl, hr⟩ := H.out
          have Hr := Lib.hid hr
          have Hl := Lib.hid hl
          clear hr hl H
          go_wp2_with (at_builtin; refine held ?_)
          refine unheld ?_
          have fq : Hid (Fr (fun k => k = b) W0 (wr.alloc (.cells #[.slice (some ⟨b, 0, none⟩) 34 34] 29))) := R.out.2.alloc _
          have hle : w.heap.size ≤ wr.heap.size := Nat.le_trans (Nat.le_trans hsz HB0.out.size) R.out.2.size
          have hnb : Hid (∀ g, u1.ownBlock = some g → ¬ g = b) := fun g hg e => by have := own_lt Hr.out.own hg; have := Eb.out; omega
          have ho1 : Own encS 29 1 w.heap.size (wr.alloc (.cells #[.slice (some ⟨b, 0, none⟩) 34 34] 29)) u1 rs :=
            (Hr.out.own.fr (Fr.of_below HB0.out no) (fun _ _ e => e)).fr fq.out (fun g hg e => hnb.out g hg e)
          have Ho1 := Lib.hid ho1
          clear ho1
          refine wpList_app (B := w.heap.size) (v := u1) rfl (.tmp 20) (.tmp 22) 40 rfl 29 i1 _ 1 _ Try.underlying40 hi1 hz3 hz4 hz5 rfl (by decide) (by simp; omega) rfl rfl Ho1.out (Rd.new (by simp) rfl) (by intro u hu; simp at hu; subst hu; rfl) (by have := Hl.out; unfold maxLen; omega) (by have := Hl.out; omega) ?_
          intro v5 w5 o5 f5 m5 n5 z5
          have hown : Own encS 29 1 w.heap.size w5 v5 (rs ++ [b]) := Own.snoc o5 rfl
          have ne5 : ∀ k cs, wr.heap[k]? = some (.cells cs 25 (0, 0)) → ¬ u1.ownBlock = some k := fun k cs hk => own_ne Ho1.out ((heap_alloc_lt wr _ (lt_of_block hk)).trans hk) (by decide)
          have hrow : RowC w5 b rs.length 34 := by
            rw [Hl.out]
            obtain ⟨cs, hb, hr⟩ := R.out.1
            exact RowC.fr (RowC.fr ⟨cs, hb, hr⟩ (Fr.alloc (Fr.refl no wr) _) (fun e => e)) f5 (ne5 _ _ hb)
          have hrows : ∀ j, (hj : j < rs.length) → RowC w5 rs[j] j 34 := fun j hj => by
            have h0 := (Hr.out.row j hj).1
            have hlt := h0.lt
            have h1 := h0.fr (Fr.of_below HB0.out no) (fun e => e)
            have h2 := h1.fr R.out.2 (fun e => by have := Eb.out; omega)
            obtain ⟨cs, hb, hr⟩ := h2
            exact RowC.fr (RowC.fr ⟨cs, hb, hr⟩ (Fr.alloc (Fr.refl no wr) _) (fun e => e)) f5 (ne5 _ _ hb)
          have fin1 : Hid (∃ rs, rs.length = s + 1 ∧ Rows_ w.heap.size w5 v5 rs) := ⟨rs ++ [b], by simp; exact Hl.out, Hr.out.snoc (by have := Eb.out; omega) hsz hrow hown hrows⟩
          have fin2 : Hid (Below w.heap.size w w5) := (Hb.out.trans (HB0.out.mono hsz)).trans ((fq.out.below' (B := w.heap.size) (Nat.le_trans hsz HB0.out.size) (fun k e => by have := Eb.out; omega)).trans (f5.below' (by simp; omega) (fun k e => (Ho1.out.lt k e).1)))
          clear hrow hrows hown o5 f5 m5 n5 z5 Ho1 fq hnb ne5
          go_wp2_with fail
          go_roundw
          case rel => exact ⟨s + 1, by omega, by go_num, fin1, fin2⟩
          case measure => simp [intOf]; omega
    · obtain rfl : s = 14 := by omega
      obtain ⟨rs, hl, hr⟩ := H.out
      have F := Lib.hid (hr.tab hl)
      clear H
      have hd1 : decide ((14 : Int) < 14) = false := by decide
      go_wp2_with fail
      go_ret
      exact ⟨_, _, rfl, F.out, Hb.out⟩

set_option maxHeartbeats 1000000 in
theorem pairs (w : World) : Calls Try.prog 22 #[] w fun x w' => x = .returned (.slice (some ⟨w.heap.size, 0, none⟩) 3 3) ∧ w' = w.alloc (.cells #[.int .i64 8, .int .i64 11, .int .i64 23, .int .i64 24, .int .i64 29, .int .i64 9, .int .i64 12, .int .i64 25, .int .i64 26, .int .i64 30, .int .i64 10, .int .i64 13, .int .i64 23, .int .i64 24, .int .i64 29] 45) := by
  go_enter Try.func22, Try.ntmps22
  go_wp2_with fail
  go_ret
  exact ⟨rfl, rfl⟩
end Go.Proofs.Ytnafppdnapdbcaa
