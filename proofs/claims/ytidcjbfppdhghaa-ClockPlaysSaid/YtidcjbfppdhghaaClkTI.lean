/-
  Package clock at one key type: Tick.
-/
import Derived.Test.YtidcjbfppdhghaaClkI
namespace Go.Proofs.Ytidcjbfppdhghaa
open Go.RowKit

def encKI (k : Int) : List Value := [.int .i64 k]
theorem encKI_len (k : Int) : (encKI k).length = 1 := rfl
theorem encKI_one (k : Int) : ∀ u ∈ encKI k, u.oneCell' = true := by intro u hu; simp [encKI] at hu; subst hu; rfl
/-- Whose ticks are over; and the others, a tick on. -/
def overLI (l : List TmI) : List Int := (l.filter (fun x => x.2 == 1)).map (·.1)
def restLI (l : List TmI) : List TmI := (l.filter (fun x => !(x.2 == 1))).map (fun x => (x.1, x.2 - 1))
theorem overLI_snoc (l : List TmI) (x : TmI) : overLI (l ++ [x]) = if (x.2 == 1) = true then overLI l ++ [x.1] else overLI l := by
  unfold overLI
  rw [List.filter_append]
  cases h : (x.2 == 1) <;> simp [h]
theorem restLI_snoc (l : List TmI) (x : TmI) : restLI (l ++ [x]) = if (x.2 == 1) = true then restLI l else restLI l ++ [(x.1, x.2 - 1)] := by
  unfold restLI
  rw [List.filter_append]
  cases h : (x.2 == 1) <;> simp [h]
theorem overLI_le (l : List TmI) : (overLI l).length ≤ l.length := by unfold overLI; rw [List.length_map]; exact List.length_filter_le _ _
theorem restLI_le (l : List TmI) : (restLI l).length ≤ l.length := by unfold restLI; rw [List.length_map]; exact List.length_filter_le _ _

theorem info3 : (Try.prog.info? 3).map (fun i => (i.zero, i.size, i.bytes)) = some (some (.int .i64 0), 1, 8) := by kernel_rfl

/-- What a Tick leaves. -/
def TickedI (B c : Nat) (most now : Int) (l : List TmI) (w : World) (e : Ending) (w' : World) : Prop :=
  ∃ ov sv', e = .returned ov ∧ Own encKI 3 1 w.heap.size w' ov (overLI l) ∧ IsClkI w' B c most (now + 1) sv' (restLI l) ∧ (∀ g, sv'.ownBlock = some g → w.heap.size ≤ g) ∧ Fr (fun b => b = c) w w'

/-- What holds in the midst of it. -/
structure MidI (B c : Nat) (most now : Int) (sv : Value) (l : List TmI) (j : Nat) (w : World) (v3 v4 : Value) (wr : World) : Prop where
  over : Own encKI 3 1 w.heap.size wr v3 (overLI (l.take j))
  rest : Own encI 67 2 w.heap.size wr v4 (restLI (l.take j))
  clk : IsClkI wr B c most (now + 1) sv l
  fr : Fr (fun b => b = c) w wr

set_option maxHeartbeats 2000000 in
theorem tickI (c : Nat) (most now : Int) (sv : Value) (l : List TmI) (w : World) (B : Nat) (hB : B ≤ w.heap.size) (hn : 0 ≤ now ∧ now ≤ 1000000000) (h : IsClkI w B c most now sv l) :
    Calls Try.prog 17 #[.pointer (some ⟨c, 0, none⟩)] w (TickedI B c most now l w) := by
  obtain ⟨i0, hi0, hz0, hz1, hz2⟩ := info_parts info67
  obtain ⟨i1, hi1, hz3, hz4, hz5⟩ := info_parts info3
  obtain ⟨a, cap, rfl, hcap, hmax, ha⟩ := own_shape h.own
  have hlen : (l.length : Int) ≤ 100000 := by have := h.small; have := h.mx; omega
  have hc := lt_of_block h.blk
  have c1 : w.cell? ⟨c, 1, none⟩ = some (.int .i64 now) := by have := blk_cell h.blk 1; simpa using this
  have c2 : w.cell? ⟨c, 2, none⟩ = some (.slice a l.length cap) := by have := blk_cell h.blk 2; simpa using this
  have z1 := blk_free h.blk 1
  have hneq : ∀ g, (Value.slice a l.length cap).ownBlock = some g → ¬ g = c := fun g e e' => h.ne (by rw [e, e'])
  have start : MidI B c most now (.slice a l.length cap) l 0 w (.slice none 0 0) (.slice none 0 0) (w.setCell ⟨c, 1, none⟩ (.int .i64 (now + 1))) := by
    have f0 : Fr (fun b => b = c) w (w.setCell ⟨c, 1, none⟩ (.int .i64 (now + 1))) := (Fr.refl (fun b => b = c) w).setCell (fun _ => rfl) _
    exact ⟨Own.nil _ _ _ _ _, Own.nil _ _ _ _ _, ⟨by simpa using heap_setCell_same h.blk (i := 1) (.int .i64 (now + 1)), h.own.fr f0 hneq, h.ge, h.small, h.mx, h.tk⟩, f0⟩
  have Start := Lib.hid start
  have Ha := Lib.hid ha
  have H := Lib.hid h
  clear h start ha hneq hcap hmax
  go_enter Try.func17, Try.ntmps17
  go_wp2_with fail
  go_loopw [3, 4, 21] (fun v3 v4 v21 wr => ∃ j : Nat, j ≤ l.length ∧ v21 = .int .i64 j ∧ MidI B c most now (.slice a l.length cap) l j w v3 v4 wr) (fun _ _ v _ => l.length - (intOf v).toNat)
  case atStart => exact ⟨0, by omega, rfl, Start.out⟩
  case round =>
    obtain ⟨j, hj, rfl, hm⟩ := hrel
    have hsz := hm.fr.size
    have M := Lib.hid hm
    clear hm
    by_cases hlt : j < l.length
    · obtain ⟨g, rfl, hg⟩ := Ha.out (by omega)
      have ht : l.take (j + 1) = l.take j ++ [l[j]] := List.take_succ_eq_append_getElem hlt
      have hk := H.out.tk l[j] (List.getElem_mem hlt)
      have hx0 : wr.cell? ⟨g, j * 2, none⟩ = some (.int .i64 l[j].1) := M.out.clk.own.cell' encI_len (Below.refl _ _) j 0 hlt (by omega)
      have hx1 : wr.cell? ⟨g, j * 2 + 1, none⟩ = some (.int .i64 l[j].2) := M.out.clk.own.cell' encI_len (Below.refl _ _) j 1 hlt (by omega)
      have hgr : g < wr.heap.size := by omega
      have hol := overLI_le (l.take j)
      have hrl := restLI_le (l.take j)
      have htl : (l.take j).length ≤ l.length := by rw [List.length_take]; omega
      cases hx : (l[j].2 == 1) with
      | true =>
        have Hov : Hid (overLI (l.take (j + 1)) = overLI (l.take j) ++ [l[j].1]) := by rw [ht, overLI_snoc, hx]; rfl
        have Hre : Hid (restLI (l.take (j + 1)) = restLI (l.take j)) := by rw [ht, restLI_snoc, hx]; rfl
        clear ht
        go_wp2_with (at_builtin; refine held ?_)
        refine unheld ?_
        refine wpList_app (B := w.heap.size) (v := u3) rfl (.tmp 28) (.tmp 31) 36 rfl 3 i1 _ 1 _ Try.underlying36 hi1 hz3 hz4 hz5 rfl (by decide) (by simp; omega) rfl rfl (M.out.over.fr (((Fr.refl no wr).alloc _).alloc _) (fun _ _ e => e)) (Rd.new (by simp) rfl) (by intro u hu; simp at hu; subst hu; rfl) (by unfold maxLen; omega) (by omega) ?_
        intro v5 w5 o5 f5 m5 n5 z5
        have f25 : Fr (fun b => u3.ownBlock = some b) wr w5 := (((Fr.refl _ wr).alloc _).alloc _).trans f5
        have fin : MidI B c most now (.slice (some ⟨g, 0, none⟩) l.length cap) l (j + 1) w v5 u4 w5 := by
          refine ⟨?_, ?_, ?_, ?_⟩
          · rw [Hov.out]; exact Own.snoc o5 rfl
          · rw [Hre.out]; exact M.out.rest.fr f25 (fun g' e => own_sep M.out.rest M.out.over (by decide) e)
          · exact M.out.clk.fr f25 (fun e => own_ne M.out.over M.out.clk.blk (by decide) e) (fun g' e => own_sep M.out.clk.own M.out.over (by decide) e)
          · exact M.out.fr.trans' f25 (fun _ _ e => e) (fun i hi e => absurd (M.out.over.lt i e).1 (by omega))
        have Fin := Lib.hid fin
        clear fin n5 m5 o5
        go_wp2_with fail
        go_roundw
        case rel => exact ⟨j + 1, by omega, by go_num, Fin.out⟩
        case measure => simp [intOf]; omega
      | false =>
        have Hov : Hid (overLI (l.take (j + 1)) = overLI (l.take j)) := by rw [ht, overLI_snoc, hx]; rfl
        have Hre : Hid (restLI (l.take (j + 1)) = restLI (l.take j) ++ [(l[j].1, l[j].2 - 1)]) := by rw [ht, restLI_snoc, hx]; rfl
        clear ht
        go_wp2_with (at_builtin; refine held ?_)
        refine unheld ?_
        refine wpList_app (B := w.heap.size) (v := u4) rfl (.tmp 33) (.tmp 40) 63 rfl 67 i0 _ 2 _ Try.underlying63 hi0 hz0 hz1 hz2 rfl (by decide) (by simp; omega) rfl rfl (M.out.rest.fr (((Fr.refl no wr).alloc _).alloc _) (fun _ _ e => e)) (Rd.new (by simp) rfl) (by intro u hu; simp at hu; rcases hu with rfl | rfl <;> rfl) (by unfold maxLen; omega) (by omega) ?_
        intro v5 w5 o5 f5 m5 n5 z5
        have f25 : Fr (fun b => u4.ownBlock = some b) wr w5 := (((Fr.refl _ wr).alloc _).alloc _).trans f5
        have hnc : ∀ g', (Value.slice (some ⟨g, 0, none⟩) l.length cap).ownBlock = some g' → ¬ u4.ownBlock = some g' := fun g' e e' => by
          simp [Value.ownBlock] at e; subst e; have := (M.out.rest.lt _ e').1; omega
        have fin : MidI B c most now (.slice (some ⟨g, 0, none⟩) l.length cap) l (j + 1) w u3 v5 w5 := by
          refine ⟨?_, ?_, ?_, ?_⟩
          · rw [Hov.out]; exact M.out.over.fr f25 (fun g' e => own_sep M.out.over M.out.rest (by decide) e)
          · rw [Hre.out]; exact Own.snoc o5 rfl
          · exact M.out.clk.fr f25 (fun e => own_ne M.out.rest M.out.clk.blk (by decide) e) hnc
          · exact M.out.fr.trans' f25 (fun _ _ e => e) (fun i hi e => absurd (M.out.rest.lt i e).1 (by omega))
        have Fin := Lib.hid fin
        clear fin n5 m5 o5 hnc
        go_wp2_with fail
        go_roundw
        case rel => exact ⟨j + 1, by omega, by go_num, Fin.out⟩
        case measure => simp [intOf]; omega
    · have ht : l.take j = l := List.take_of_length_le (by omega)
      have c2' : wr.cell? ⟨c, 2, none⟩ = some (.slice a l.length cap) := by have := blk_cell M.out.clk.blk 2; simpa using this
      have zz := blk_free M.out.clk.blk 2
      have hcr : c < wr.heap.size := by omega
      obtain ⟨a4, cap4, rfl, _⟩ := own_shape M.out.rest
      have Ht := Lib.hid ht
      clear ht
      go_wp2_with fail
      go_ret
      have M' := M.out
      have f6 : Fr (fun b => b = c) wr (wr.setCell ⟨c, 2, none⟩ (.slice a4 (restLI (l.take j)).length cap4)) := (Fr.refl (fun b => b = c) wr).setCell (fun _ => rfl) _
      have hsm := M'.clk.small
      have hrl := restLI_le l
      refine ⟨u3, .slice a4 (restLI (l.take j)).length cap4, rfl, ?_, ⟨?_, ?_, M'.clk.ge, by omega, M'.clk.mx, ?_⟩, fun g hg => (M'.rest.lt g hg).1, M'.fr.trans f6⟩
      · have := M'.over
        rw [Ht.out] at this
        exact this.fr f6 (fun g e (e' : g = c) => by subst e'; exact own_ne M'.over M'.clk.blk (by decide) e)
      · simpa using heap_setCell_same M'.clk.blk (i := 2) (.slice a4 (restLI (l.take j)).length cap4)
      · have := M'.rest
        rw [Ht.out] at this f6 ⊢
        exact own_base (own_zero (this.fr f6 (fun g e (e' : g = c) => by subst e'; exact own_ne this M'.clk.blk (by decide) e))) (fun g hg => by have := (this.lt g hg).1; omega)
      · intro x hx
        simp only [restLI, List.mem_map, List.mem_filter] at hx
        obtain ⟨y, ⟨hy, hy1⟩, rfl⟩ := hx
        have := M'.clk.tk y hy
        simp at hy1
        simp only []
        omega

/-! ### A clock that the caller made -/
def ClkI (w : World) (B c : Nat) (most now : Int) (l : List TmI) : Prop := B ≤ w.heap.size ∧ ∃ sv, IsClkI w B c most now sv l
theorem IsClkI.ftp_ge {w : World} {B c : Nat} {most now : Int} {sv : Value} {l : List TmI} (h : IsClkI w B c most now sv l) : ∀ k, ftp c sv k → B ≤ k := fun k hk => by
  rcases hk with rfl | hk
  · exact h.ge
  · exact (h.own.lt k hk).1
theorem ClkI.below {w w' : World} {B c : Nat} {most now : Int} {l : List TmI} (h : ClkI w B c most now l) (hf : Below w.heap.size w w') : ClkI w' B c most now l := by
  obtain ⟨hB, sv, h⟩ := h
  exact ⟨by have := hf.size; omega, sv, h.below hf⟩
theorem startI' (k : Int) (n : Int) (c : Nat) (most now : Int) (l : List TmI) (w : World) (B : Nat) (h : ClkI w B c most now l) :
    Calls Try.prog 15 #[.pointer (some ⟨c, 0, none⟩), .int .i64 k, .int .i64 n] w fun e w' => e = .returned (.bool (startOkI most k n l)) ∧ ClkI w' B c most now (afterStartI most k n l) ∧ Below B w w' := by
  obtain ⟨hB, sv, h⟩ := h
  exact (startI k n c most now sv l w B hB h).mono fun e w' ⟨he, sv', hk, hm, hf⟩ => ⟨he, ⟨by have := hf.size; omega, sv', hk⟩, hf.below' hB h.ftp_ge⟩
theorem stopI' (k : Int) (c : Nat) (most now : Int) (l : List TmI) (w : World) (B : Nat) (h : ClkI w B c most now l) :
    Calls Try.prog 16 #[.pointer (some ⟨c, 0, none⟩), .int .i64 k] w fun e w' => e = .returned (.bool (decide (0 ≤ fidxI k l))) ∧ ClkI w' B c most now (stopLI k l) ∧ Below B w w' := by
  obtain ⟨hB, sv, h⟩ := h
  exact (stopI k c most now sv l w B h).mono fun e w' ⟨he, sv', hk, hm, hf⟩ => ⟨he, ⟨by have := hf.size; omega, sv', hk⟩, hf.below' hB h.ftp_ge⟩
theorem tickI' (c : Nat) (most now : Int) (l : List TmI) (w : World) (B : Nat) (hn : 0 ≤ now ∧ now ≤ 1000000000) (h : ClkI w B c most now l) :
    Calls Try.prog 17 #[.pointer (some ⟨c, 0, none⟩)] w fun e w' => ∃ ov, e = .returned ov ∧ Own encKI 3 1 w.heap.size w' ov (overLI l) ∧ ClkI w' B c most (now + 1) (restLI l) ∧ Fr (fun b => b = c) w w' ∧ Below B w w' := by
  obtain ⟨hB, sv, h⟩ := h
  exact (tickI c most now sv l w B hB hn h).mono fun e w' ⟨ov, sv', he, ho, hk, _, hf⟩ => ⟨ov, he, ho, ⟨by have := hf.size; omega, sv', hk⟩, hf, hf.below' hB (fun k e => by rw [e]; exact h.ge)⟩
theorem newI' (most : Int) (w : World) (hm : most ≤ 100000) :
    Calls Try.prog 14 #[.int .i64 most] w fun e w' => e = .returned (.pointer (some ⟨w.heap.size, 0, none⟩)) ∧ ClkI w' w.heap.size w.heap.size (max most 0) 0 [] ∧ Below w.heap.size w w' :=
  (newI most w hm).mono fun _ _ ⟨he, hk, hb⟩ => ⟨he, ⟨hb.size, _, hk⟩, hb⟩
/-- A Tick's list, in a clock's memory that turns. -/
theorem over_frI {w w' : World} {B c C : Nat} {most now : Int} {l : List TmI} {ov : Value} {o : List Int} (ho : Own encKI 3 1 C w ov o) (hk : ClkI w B c most now l) (hf : Fr (fun b => b = c) w w') : Own encKI 3 1 C w' ov o := by
  obtain ⟨_, sv, hk⟩ := hk
  exact ho.fr hf (fun g e (e' : g = c) => by subst e'; exact own_ne ho hk.blk (by decide) e)
end Go.Proofs.Ytidcjbfppdhghaa
