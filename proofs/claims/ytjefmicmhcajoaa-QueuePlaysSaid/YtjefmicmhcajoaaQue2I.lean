/-
  Package queue: Peek, slices.Clone, Cut, Take, Put.
-/
import Derived.Test.YtjefmicmhcajoaaQueI
import Derived.Deep.DeepCutAuto
import Derived.Deep.CutBlock
namespace Go.Proofs.Ytjefmicmhcajoaa
open Go.RowKit
set_option linter.unusedVariables false

theorem peekQI (i : Nat) (c : Nat) (most : Int) (sv : Value) (l : List Value) (w : World) (B : Nat) (h : IsQI w B c most sv l) (hi : i < l.length) :
    Calls Try.prog 41 #[.pointer (some ⟨c, 0, none⟩), .int .i64 i] w fun e w' => e = .returned (.tuple #[l[i], .bool true]) ∧ w' = w := by
  obtain ⟨g, cap, hv, hg, hc1, hc2⟩ := own_some h.own (by omega)
  have hc3 : cap ≤ 9223372036854775807 := by unfold maxLen at hc2; omega
  have H := Lib.hid h
  have c1 := h.cell1
  rw [hv] at c1
  have yi : w.cell? ⟨g, i, none⟩ = some l[i] := by
    have ho := h.own
    rw [hv] at ho
    have := ho.cell enQ_len i 0 hi (by decide)
    simpa using this
  have d1 : decide ((i : Int) < 0) = false := by simp
  have d2 : decide ((l.length : Int) ≤ (i : Int)) = false := by simp; omega
  clear h hv
  go_enter Try.func41, Try.ntmps41
  go_wp2_with fail
  refine (lenQI c most sv l w B H.out).mono ?_
  rintro e w' ⟨rfl, rfl⟩
  go_wp2_with fail
  go_ret2
  exact ⟨rfl, rfl⟩

theorem peekNoI (i : Int) (c : Nat) (most : Int) (sv : Value) (l : List Value) (w : World) (B : Nat) (h : IsQI w B c most sv l) (hi : (l.length : Int) ≤ i) :
    Calls Try.prog 41 #[.pointer (some ⟨c, 0, none⟩), .int .i64 i] w fun e w' => e = .returned (.tuple #[.int .i64 0, .bool false]) ∧ w' = w := by
  have H := Lib.hid h
  have d1 : decide (i < 0) = false := by simp; omega
  have d2 : decide ((l.length : Int) ≤ i) = true := by simpa using hi
  clear h
  go_enter Try.func41, Try.ntmps41
  go_wp2_with fail
  refine (lenQI c most sv l w B H.out).mono ?_
  rintro e w' ⟨rfl, rfl⟩
  go_wp2_with fail
  go_ret2
  exact ⟨rfl, rfl⟩

/-- Insert behind the last item, where there is room. -/
theorem insYesI (c : Nat) (most : Int) (sv : Value) (l : List Value) (x : Value) (w : World) (B : Nat) (hB : B ≤ w.heap.size) (h : IsQI w B c most sv l) (hf : (l.length : Int) < most) (hl : l.length ≤ 100000) (hx : ∃ z, x = .int .i64 z) :
    Calls Try.prog 28 #[.pointer (some ⟨c, 0, none⟩), .int .i64 l.length, x] w fun e w' => e = .returned (.bool true) ∧ ∃ sv', IsQI w' B c most sv' (l ++ [x]) ∧ Mv w sv sv' ∧ Fr (ftp c sv) w w' := by
  obtain ⟨a, cap, rfl, _⟩ := own_shape h.own
  have h1 : x.oneCell' = true := by obtain ⟨xz, rfl⟩ := hx; rfl
  have c0 := h.cell0
  have c1 := h.cell1
  have d1 : decide (most ≤ (l.length : Int)) = false := by simp; omega
  have H := Lib.hid h
  have Hf := Lib.hid hf
  clear h hf
  go_enter Try.func28, Try.ntmps28
  go_upto_region 1 with fail
  go_cut [33] (fun v33 wx => v33 = .bool false ∧ Hid (Below w.heap.size w wx))
  case first =>
    go_quiet (fail)
    go_wp2_with fail
    go_meet
    exact ⟨rfl, below_drewN (Below.refl _ w) _⟩
  case rest =>
    obtain ⟨rfl, Hb⟩ := hcut
    have hw := H.out.below Hb.out
    have hs := Hb.out.size
    have c1' := hw.cell1
    have Hw := Lib.hid hw
    clear c0 c1 hw
    obtain ⟨xz, rfl⟩ := hx
    go_wp2_with fail
    refine (insEndI (.slice a l.length cap) l wc.heap.size (Value.int .i64 xz) _ B (by simp; omega) (Hw.out.below ((Below.refl _ wc).alloc (Nat.le_refl _) (.cells #[(Value.int .i64 xz)] 3))).own (heap_alloc_new' wc _) h1 hl).mono ?_
    rintro e w3 ⟨sv', rfl, o3, f3, m3⟩
    have hal := (Below.refl wc.heap.size wc).alloc (Nat.le_refl _) (.cells #[(Value.int .i64 xz)] 3)
    have hnc : ¬ (Value.slice a l.length cap).ownBlock = some c := fun e => own_ne (Hw.out.below hal).own (Hw.out.below hal).blk (by decide) e
    have hblk := f3.heap (Hw.out.below hal).blk hnc
    have hcl := lt_of_block Hw.out.blk
    have hnc' : ¬ sv'.ownBlock = some c := fun e => own_ne o3 hblk (by decide) e
    have q1 : w3.cell? ⟨c, 1, none⟩ = some (.slice a l.length cap) := blk_cell hblk 1
    have q1' : w3.frozen? ⟨c, 1, none⟩ = false := blk_free hblk 1
    obtain ⟨a3, cap3, hv3, _⟩ := own_shape o3
    have fin : Hid (IsQI (w3.setCell ⟨c, 1, none⟩ sv') B c most sv' (l ++ [(Value.int .i64 xz)]) ∧ Mv w (.slice a l.length cap) sv' ∧ Fr (ftp c (.slice a l.length cap)) w (w3.setCell ⟨c, 1, none⟩ sv')) := by
      refine ⟨⟨by simpa using heap_setCell_same hblk (i := 1) sv', Hw.out.ge, ?_, Hw.out.m0, Hw.out.m1, ?_, ?_⟩, ?_, ?_⟩
      · exact o3.fr ((Fr.refl (fun b => b = c) _).setCell (fun _ => rfl) _) (fun g hg e => hnc' (by rw [hg, e]))
      · intro u hu
        rcases List.mem_append.1 hu with hu | hu
        · exact Hw.out.one u hu
        · simp at hu; subst hu; exact h1
      · rw [List.length_append]; have := Hf.out; simp; omega
      · exact fun g hg => (m3 g hg).imp id (fun q => Nat.le_trans (Nat.le_trans hs hal.size) q)
      · exact (((Fr.of_below (Hb.out.trans (hal.mono hs)) _).trans' f3 (fun _ _ e => e) (fun i _ e => .inr e))).setCell (fun _ => .inl rfl) _
    obtain ⟨n3, hn3⟩ : ∃ n, n = (l ++ [(Value.int .i64 xz)]).length := ⟨_, rfl⟩
    rw [← hn3] at hv3
    clear hn3
    subst hv3
    clear o3 f3 m3 hal hnc hblk hnc'
    go_wp2_with fail
    go_ret
    exact ⟨rfl, _, fin.out⟩

theorem putQI (c : Nat) (most : Int) (sv : Value) (l : List Value) (x : Value) (w : World) (B : Nat) (hB : B ≤ w.heap.size) (h : IsQI w B c most sv l) (hl : l.length ≤ 100000) (hx : ∃ z, x = .int .i64 z) :
    Calls Try.prog 17 #[.pointer (some ⟨c, 0, none⟩), x] w fun e w' => e = .returned (.bool (decide ((l.length : Int) < most))) ∧ ∃ sv', IsQI w' B c most sv' (putL most l x) ∧ Mv w sv sv' ∧ Fr (ftp c sv) w w' := by
  have H := Lib.hid h
  clear h
  by_cases hf : (l.length : Int) < most
  · have E : Hid (decide ((l.length : Int) < most) = true ∧ putL most l x = l ++ [x]) := ⟨by simpa using hf, if_pos hf⟩
    have Hf := Lib.hid hf
    have Hx := Lib.hid hx
    clear hf hx
    go_enter Try.func17, Try.ntmps17
    go_wp2_with fail
    refine (lenQI c most sv l w B H.out).mono ?_
    rintro e w' ⟨rfl, rfl⟩
    go_wp2_with fail
    refine (insYesI c most sv l x w' B hB H.out Hf.out hl Hx.out).mono ?_
    rintro e w2 ⟨rfl, sv', hq, hm, hfr⟩
    have F : Hid (∃ sv', IsQI w2 B c most sv' (putL most l x) ∧ Mv w' sv sv' ∧ Fr (ftp c sv) w' w2) := by rw [E.out.2]; exact ⟨sv', hq, hm, hfr⟩
    clear hq hm hfr
    go_wp2_with fail
    go_ret
    exact ⟨by rw [E.out.1]; rfl, F.out⟩
  · have E : Hid (decide ((l.length : Int) < most) = false ∧ putL most l x = l) := ⟨by simpa using hf, if_neg hf⟩
    have Hf : Hid (most ≤ (l.length : Int)) := by unfold Hid; omega
    clear hf hx
    go_enter Try.func17, Try.ntmps17
    go_wp2_with fail
    refine (lenQI c most sv l w B H.out).mono ?_
    rintro e w' ⟨rfl, rfl⟩
    go_wp2_with fail
    refine (insFullI c most sv l _ x w' B H.out Hf.out).mono ?_
    rintro e w2 ⟨rfl, hb⟩
    have F : Hid (∃ sv', IsQI w2 B c most sv' (putL most l x) ∧ Mv w' sv sv' ∧ Fr (ftp c sv) w' w2) := by rw [E.out.2]; exact ⟨sv, H.out.below hb, Mv.refl _ _, Fr.of_below hb _⟩
    clear hb
    go_wp2_with fail
    go_ret
    exact ⟨by rw [E.out.1]; rfl, F.out⟩
end Go.Proofs.Ytjefmicmhcajoaa
