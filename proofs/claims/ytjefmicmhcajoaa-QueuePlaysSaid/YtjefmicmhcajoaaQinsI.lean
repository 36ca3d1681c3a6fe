/-
  Package queue: Insert, wherever.
-/
import Derived.Test.YtjefmicmhcajoaaQueFI
import Derived.Test.YtjefmicmhcajoaaInsMI
namespace Go.Proofs.Ytjefmicmhcajoaa
open Go.RowKit
set_option linter.unusedVariables false

theorem insNoI (c : Nat) (most : Int) (sv : Value) (l : List Value) (i : Int) (x : Value) (w : World) (B : Nat) (h : IsQI w B c most sv l) (hf : most ≤ (l.length : Int) ∨ i < 0 ∨ (l.length : Int) < i) :
    Calls Try.prog 28 #[.pointer (some ⟨c, 0, none⟩), .int .i64 i, x] w fun e w' => e = .returned (.bool false) ∧ Below w.heap.size w w' := by
  by_cases hm : most ≤ (l.length : Int)
  · exact insFullI c most sv l i x w B h hm
  have hf : i < 0 ∨ (l.length : Int) < i := by omega
  obtain ⟨a, cap, rfl, _⟩ := own_shape h.own
  have c0 := h.cell0
  have c1 := h.cell1
  have d1 : decide (most ≤ (l.length : Int)) = false := by simpa using hm
  clear h
  by_cases hi : i < 0
  · have d2 : decide (i < 0) = true := by simpa using hi
    go_enter Try.func28, Try.ntmps28
    go_wp2_with fail
    go_quiet (fail)
    go_wp2_with fail
    go_ret
    exact ⟨rfl, below_drewN (Below.refl _ w) _⟩
  · have d2 : decide (i < 0) = false := by simpa using hi
    have d3 : decide ((l.length : Int) < i) = true := by simp; omega
    go_enter Try.func28, Try.ntmps28
    go_wp2_with fail
    go_quiet (fail)
    go_wp2_with fail
    go_ret
    exact ⟨rfl, below_drewN (Below.refl _ w) _⟩

/-- Insert ahead of an item, where there is room. -/
theorem insAtI (c : Nat) (most : Int) (sv : Value) (l : List Value) (i : Nat) (x : Value) (w : World) (B : Nat) (hB : B ≤ w.heap.size) (h : IsQI w B c most sv l) (hf : (l.length : Int) < most) (hi : i < l.length) (hl : l.length ≤ 100000) (hx : ∃ z, x = .int .i64 z) :
    Calls Try.prog 28 #[.pointer (some ⟨c, 0, none⟩), .int .i64 i, x] w fun e w' => e = .returned (.bool true) ∧ ∃ sv', IsQI w' B c most sv' (l.take i ++ x :: l.drop i) ∧ Mv w sv sv' ∧ Fr (ftp c sv) w w' := by
  obtain ⟨g, cap, rfl, hg⟩ := own_some h.own (by omega)
  have h1 : x.oneCell' = true := by obtain ⟨xz, rfl⟩ := hx; rfl
  have c0 := h.cell0
  have c1 := h.cell1
  have d1 : decide (most ≤ (l.length : Int)) = false := by simp; omega
  have d2 : decide ((l.length : Int) < (i : Int)) = false := by simp; omega
  have H := Lib.hid h
  have Hf := Lib.hid hf
  have Hi := Lib.hid hi
  clear h hf hi
  go_enter Try.func28, Try.ntmps28
  go_upto_region 1 with fail
  go_cut [33] (fun v33 wx => v33 = .bool false ∧ Hid (Below w.heap.size w wx))
  case first =>
    go_quiet (fail)
    go_wp2_with fail
    go_meet
    exact ⟨by have := Hi.out; first | rfl | (simp; omega), below_drewN (Below.refl _ w) _⟩
  case rest =>
    obtain ⟨rfl, Hb⟩ := hcut
    have hw := H.out.below Hb.out
    have hs := Hb.out.size
    have c1' := hw.cell1
    have Hw := Lib.hid hw
    clear c0 c1 hw
    obtain ⟨xz, rfl⟩ := hx
    go_wp2_with fail
    refine (insMidI l (Value.int .i64 xz) g cap wc.heap.size i _ B (by simp; omega) (Hw.out.below ((Below.refl _ wc).alloc (Nat.le_refl _) (.cells #[(Value.int .i64 xz)] 3))).own (heap_alloc_new' wc _) (enQ_ones H.out.one) (by intro u hu; simp [enQ] at hu; subst hu; exact h1) Hi.out hl (by have := own_lt H.out.own (g := g) rfl; omega)).mono ?_
    rintro e w3 ⟨sv', rfl, o3, f3', m3⟩
    have f3 : Fr (fun b => (Value.slice (some ⟨g, 0, none⟩) l.length cap).ownBlock = some b) (wc.alloc (.cells #[(Value.int .i64 xz)] 3)) w3 := f3'.mono (fun b _ e => by rw [e]; rfl)
    have hal := (Below.refl wc.heap.size wc).alloc (Nat.le_refl _) (.cells #[(Value.int .i64 xz)] 3)
    have hnc : ¬ (Value.slice (some ⟨g, 0, none⟩) l.length cap).ownBlock = some c := fun e => own_ne (Hw.out.below hal).own (Hw.out.below hal).blk (by decide) e
    have hblk := f3.heap (Hw.out.below hal).blk hnc
    have hnc' : ¬ sv'.ownBlock = some c := fun e => own_ne o3 hblk (by decide) e
    have q1 : w3.cell? ⟨c, 1, none⟩ = some (.slice (some ⟨g, 0, none⟩) l.length cap) := blk_cell hblk 1
    have q1' : w3.frozen? ⟨c, 1, none⟩ = false := blk_free hblk 1
    obtain ⟨a3, cap3, hv3, _⟩ := own_shape o3
    have fin : Hid (IsQI (w3.setCell ⟨c, 1, none⟩ sv') B c most sv' (l.take i ++ (Value.int .i64 xz) :: l.drop i) ∧ Mv w (.slice (some ⟨g, 0, none⟩) l.length cap) sv' ∧ Fr (ftp c (.slice (some ⟨g, 0, none⟩) l.length cap)) w (w3.setCell ⟨c, 1, none⟩ sv')) := by
      refine ⟨⟨by simpa using heap_setCell_same hblk (i := 1) sv', Hw.out.ge, ?_, Hw.out.m0, Hw.out.m1, ?_, ?_⟩, ?_, ?_⟩
      · exact o3.fr ((Fr.refl (fun b => b = c) _).setCell (fun _ => rfl) _) (fun g hg e => hnc' (by rw [hg, e]))
      · intro u hu
        rcases List.mem_append.1 hu with hu | hu
        · exact Hw.out.one u (List.mem_of_mem_take hu)
        · rcases List.mem_cons.1 hu with hu | hu
          · subst hu; exact h1
          · exact Hw.out.one u (List.mem_of_mem_drop hu)
      · have := Hf.out; have := Hi.out; simp; omega
      · exact fun g hg => (m3 g hg).imp id (fun q => Nat.le_trans (Nat.le_trans hs hal.size) q)
      · exact (((Fr.of_below (Hb.out.trans (hal.mono hs)) _).trans' f3 (fun _ _ e => e) (fun i _ e => .inr e))).setCell (fun _ => .inl rfl) _
    obtain ⟨n3, hn3⟩ : ∃ n, n = (l.take i ++ (Value.int .i64 xz) :: l.drop i).length := ⟨_, rfl⟩
    rw [← hn3] at hv3
    clear hn3
    subst hv3
    clear o3 f3 f3' m3 hal hnc hblk hnc'
    go_wp2_with fail
    go_ret
    exact ⟨rfl, _, fin.out⟩

theorem insYesAtI (c : Nat) (most : Int) (sv : Value) (l : List Value) (i : Nat) (x : Value) (w : World) (B : Nat) (hB : B ≤ w.heap.size) (h : IsQI w B c most sv l) (hf : (l.length : Int) < most) (hi : i ≤ l.length) (hl : l.length ≤ 100000) (hx : ∃ z, x = .int .i64 z) :
    Calls Try.prog 28 #[.pointer (some ⟨c, 0, none⟩), .int .i64 i, x] w fun e w' => e = .returned (.bool true) ∧ ∃ sv', IsQI w' B c most sv' (insL l i x) ∧ Mv w sv sv' ∧ Fr (ftp c sv) w w' := by
  by_cases hlt : i < l.length
  · exact insAtI c most sv l i x w B hB h hf hlt hl hx
  · obtain rfl : i = l.length := by omega
    have := insYesI c most sv l x w B hB h hf hl hx
    unfold insL
    rw [List.take_of_length_le (Nat.le_refl _), List.drop_of_length_le (Nat.le_refl _)]
    exact this
end Go.Proofs.Ytjefmicmhcajoaa
