/-
  A table by key, in memory: where a key stands (slices.BinarySearchFunc), place, New, Get, Len.
-/
import Derived.Test.YtjjfminpaoooaaaSrt
import Derived.Deep.LoopGhost
import Derived.Deep.DeepCutAuto
import Derived.Deep.CutBlock
namespace Go.Proofs.Ytjjfminpaoooaaa
open Go.RowKit
set_option linter.unusedVariables false

abbrev ItI := Ky × Int
def enTI (e : ItI) : List Value := [.int .u8 e.1.f0, .int .u8 e.1.f1, .int .u8 e.1.f2, .int .u8 e.1.f3, .int .u8 e.1.f4, .int .u8 e.1.f5, .int .i64 e.1.near, .int .i64 e.1.there, Value.int .i64 e.2]
theorem enTI_len (e : ItI) : (enTI e).length = 9 := rfl
theorem enTI_one (e : ItI) : ∀ u ∈ enTI e, u.oneCell' = true := by intro u hu; simp [enTI] at hu; rcases hu with rfl | rfl | rfl | rfl | rfl | rfl | rfl | rfl | rfl <;> rfl

theorem pl1I (e : ItI) (k : Ky) (he : e.1.ok) (hk : k.ok) (w : World) : Calls Try.prog 41 #[.agg #[.int .u8 e.1.f0, .int .u8 e.1.f1, .int .u8 e.1.f2, .int .u8 e.1.f3, .int .u8 e.1.f4, .int .u8 e.1.f5, .int .i64 e.1.near, .int .i64 e.1.there, Value.int .i64 e.2], kyV k] w fun x w' => x = .returned (.int .i64 (ordK e.1 k)) ∧ Below w.heap.size w w' := by
  have HE := Lib.hid he
  have HK := Lib.hid hk
  clear he hk
  go_enter Try.func41, Try.ntmps41
  go_wp2_with fail
  refine (korder e.1 k HE.out HK.out _).mono ?_
  rintro x w1 ⟨rfl, b1⟩
  have B1 : Hid (Below w.heap.size w w1) := (((Below.refl _ w).alloc (Nat.le_refl _) _).alloc (by simp) _).trans (b1.mono (by simp <;> omega))
  clear b1
  go_wp2_with fail
  go_ret
  exact ⟨rfl, B1.out⟩

set_option maxHeartbeats 4000000 in
theorem bsfI (k : Ky) (hk : k.ok) (l : List ItI) (hs : Srt l) (hok : ∀ e ∈ l, e.1.ok) (sv : Value) (B : Nat) (w : World) (hown : Own enTI 70 9 B w sv l) (hl : l.length ≤ 1000000) :
    Calls Try.prog 40 #[sv, kyV k, .func (.func 41) #[] #[]] w fun e w' => e = .returned (.tuple #[.int .i64 (pos l k), .bool (fnd l k)]) ∧ Below w.heap.size w w' := by
  obtain ⟨a, cap, rfl, hcap, hmax, ha⟩ := own_shape hown
  have Ha := Lib.hid ha
  have Ho := Lib.hid hown
  have HK := Lib.hid hk
  have HS := Lib.hid hs
  have HOk := Lib.hid hok
  clear ha hown hk hs hok
  obtain ⟨kb, hkb⟩ : ∃ b, b = w.heap.size := ⟨_, rfl⟩
  obtain ⟨W1, hW1⟩ : ∃ W1, W1 = w.alloc (.cells (kyCs k) 28) := ⟨_, rfl⟩
  have hb1 : Below w.heap.size w W1 := by rw [hW1]; exact (Below.refl _ w).alloc (Nat.le_refl _) _
  have KB : Hid (W1.heap[kb]? = some (.cells (kyCs k) 28 (0, 0))) := by rw [hW1, hkb]; exact heap_alloc_new' w _
  have B1 := Lib.hid hb1
  go_enter Try.func40, Try.ntmps40
  go_wp2_with fail
  rw [← hW1, ← hkb]
  clear hW1 hb1 hkb
  go_loopg [9, 10] l.length (fun g s9 s10 wx => ∃ i j : Nat, s9 = .int .i64 i ∧ s10 = .int .i64 j ∧ i ≤ j ∧ j ≤ l.length ∧ g = j - i ∧ Hid (Below W1.heap.size W1 wx) ∧ Hid (∀ t, (h : t < l.length) → t < i → ordK l[t].1 k < 0) ∧ Hid (∀ t, (h : t < l.length) → j ≤ t → 0 ≤ ordK l[t].1 k))
  case atStart => exact ⟨0, l.length, rfl, rfl, Nat.zero_le _, Nat.le_refl _, by omega, Below.refl _ _, fun t h h' => by omega, fun t h h' => by omega⟩
  case round =>
    obtain ⟨i, j, rfl, rfl, hij, hjl, rfl, Hw, Hlt, Hge⟩ := hrel
    have kbl : kb < W1.heap.size := lt_of_block KB.out
    have hkb := (Hw.out.block kb kbl).trans KB.out
    by_cases hlt : i < j
    · have hd1 : decide ((i : Int) < (j : Int)) = true := by simpa using hlt
      go_upto_region 5 with fail
      obtain ⟨h, hh, hh2⟩ : ∃ h : Nat, ((i : Int) + (j : Int)) / 2 = (h : Int) ∧ h = (i + j) / 2 := ⟨(i + j) / 2, by omega, rfl⟩
      rw [hh]
      have hxl : h < l.length := by omega
      have Hh : Hid (i ≤ h ∧ h < j) := by unfold Hid; omega
      clear hh hh2 hd1
      obtain ⟨g, hg, hgl⟩ := Ha.out (by omega)
      subst hg
      obtain ⟨e, he⟩ : ∃ e, e = l[h]'hxl := ⟨_, rfl⟩
      have HEk : Hid e.1.ok := HOk.out e (by rw [he]; exact List.getElem_mem hxl)
      have HW := Lib.hid (B1.out.trans (Hw.out.mono B1.out.size))
      have e0 : ∀ x : After wr, x.w'.cell? ⟨g, h * 9, none⟩ = some (.int .u8 e.1.f0) := fun x => x.cell (by rw [show h * 9 = h * 9 + 0 from rfl, Ho.out.cell' enTI_len HW.out h 0 hxl (by decide), ← he]; rfl)
      have e1 : ∀ x : After wr, x.w'.cell? ⟨g, h * 9 + 1, none⟩ = some (.int .u8 e.1.f1) := fun x => x.cell (by rw [Ho.out.cell' enTI_len HW.out h 1 hxl (by decide), ← he]; rfl)
      have e2 : ∀ x : After wr, x.w'.cell? ⟨g, h * 9 + 2, none⟩ = some (.int .u8 e.1.f2) := fun x => x.cell (by rw [Ho.out.cell' enTI_len HW.out h 2 hxl (by decide), ← he]; rfl)
      have e3 : ∀ x : After wr, x.w'.cell? ⟨g, h * 9 + 3, none⟩ = some (.int .u8 e.1.f3) := fun x => x.cell (by rw [Ho.out.cell' enTI_len HW.out h 3 hxl (by decide), ← he]; rfl)
      have e4 : ∀ x : After wr, x.w'.cell? ⟨g, h * 9 + 4, none⟩ = some (.int .u8 e.1.f4) := fun x => x.cell (by rw [Ho.out.cell' enTI_len HW.out h 4 hxl (by decide), ← he]; rfl)
      have e5 : ∀ x : After wr, x.w'.cell? ⟨g, h * 9 + 5, none⟩ = some (.int .u8 e.1.f5) := fun x => x.cell (by rw [Ho.out.cell' enTI_len HW.out h 5 hxl (by decide), ← he]; rfl)
      have e6 : ∀ x : After wr, x.w'.cell? ⟨g, h * 9 + 6, none⟩ = some (.int .i64 e.1.near) := fun x => x.cell (by rw [Ho.out.cell' enTI_len HW.out h 6 hxl (by decide), ← he]; rfl)
      have e7 : ∀ x : After wr, x.w'.cell? ⟨g, h * 9 + 7, none⟩ = some (.int .i64 e.1.there) := fun x => x.cell (by rw [Ho.out.cell' enTI_len HW.out h 7 hxl (by decide), ← he]; rfl)
      have e8 : ∀ x : After wr, x.w'.cell? ⟨g, h * 9 + 8, none⟩ = some (Value.int .i64 e.2) := fun x => x.cell (by rw [Ho.out.cell' enTI_len HW.out h 8 hxl (by decide), ← he]; rfl)
      have q0 : ∀ x : After wr, x.w'.cell? ⟨kb, 0, none⟩ = some (.int .u8 k.f0) := fun x => x.cell (blk_cell hkb 0)
      have q1 : ∀ x : After wr, x.w'.cell? ⟨kb, 1, none⟩ = some (.int .u8 k.f1) := fun x => x.cell (blk_cell hkb 1)
      have q2 : ∀ x : After wr, x.w'.cell? ⟨kb, 2, none⟩ = some (.int .u8 k.f2) := fun x => x.cell (blk_cell hkb 2)
      have q3 : ∀ x : After wr, x.w'.cell? ⟨kb, 3, none⟩ = some (.int .u8 k.f3) := fun x => x.cell (blk_cell hkb 3)
      have q4 : ∀ x : After wr, x.w'.cell? ⟨kb, 4, none⟩ = some (.int .u8 k.f4) := fun x => x.cell (blk_cell hkb 4)
      have q5 : ∀ x : After wr, x.w'.cell? ⟨kb, 5, none⟩ = some (.int .u8 k.f5) := fun x => x.cell (blk_cell hkb 5)
      have q6 : ∀ x : After wr, x.w'.cell? ⟨kb, 6, none⟩ = some (.int .i64 k.near) := fun x => x.cell (blk_cell hkb 6)
      have q7 : ∀ x : After wr, x.w'.cell? ⟨kb, 7, none⟩ = some (.int .i64 k.there) := fun x => x.cell (blk_cell hkb 7)
      have gl : g < wr.heap.size := by have := HW.out.size; omega
      have hi1 : (h : Int) < (l.length : Int) := by omega
      have HE := Lib.hid he
      clear he
      by_cases hc : ordK e.1 k < 0
      · have hd2 : decide (ordK e.1 k < 0) = true := by simpa using hc
        have hlow : ∀ t, (ht : t < l.length) → t < h + 1 → ordK l[t].1 k < 0 := fun t ht hth => by
          by_cases et : t = h
          · subst et; rw [← HE.out]; exact hc
          · exact ordK_trans (HS.out t h ht hxl (by omega)) (by rw [← HE.out]; exact hc)
        have HL := Lib.hid hlow
        clear hlow hc
        refine wp_region_after (by kernel_rfl) (by kernel_rfl) ?_
        repeat (go_big_quiet_step ((first | (go_at_call 41; exact Calls.after_of (pl1I e k HEk.out HK.out _)) | fail)))
        refine wpQuiet_nil ?_
        rintro w5 ⟨⟨_, hb⟩, rfl⟩
        have HWb := Lib.hid (Hw.out.trans (hb.mono Hw.out.size))
        clear hb e0 e1 e2 e3 e4 e5 e6 e7 e8 q0 q1 q2 q3 q4 q5 q6 q7
        go_wp2_with fail
        go_roundg (j - (h + 1))
        case measure => have := Hh.out; omega
        case rel => exact ⟨h + 1, j, by go_num, rfl, (by have := Hh.out; omega), hjl, rfl, HWb.out, HL.out, Hge.out⟩
      · have hd2 : decide (ordK e.1 k < 0) = false := by simpa using hc
        have hhigh : ∀ t, (ht : t < l.length) → h ≤ t → 0 ≤ ordK l[t].1 k := fun t ht hth => by
          by_cases et : t = h
          · subst et; rw [← HE.out]; omega
          · by_cases hn : ordK l[t].1 k < 0
            · exact absurd (ordK_trans (HS.out h t hxl ht (by omega)) hn) (by rw [← HE.out]; exact hc)
            · omega
        have HL := Lib.hid hhigh
        clear hhigh hc
        refine wp_region_after (by kernel_rfl) (by kernel_rfl) ?_
        repeat (go_big_quiet_step ((first | (go_at_call 41; exact Calls.after_of (pl1I e k HEk.out HK.out _)) | fail)))
        refine wpQuiet_nil ?_
        rintro w5 ⟨⟨_, hb⟩, rfl⟩
        have HWb := Lib.hid (Hw.out.trans (hb.mono Hw.out.size))
        clear hb e0 e1 e2 e3 e4 e5 e6 e7 e8 q0 q1 q2 q3 q4 q5 q6 q7
        go_wp2_with fail
        go_roundg (h - i)
        case measure => have := Hh.out; omega
        case rel => exact ⟨i, h, rfl, rfl, (by have := Hh.out; omega), (by have := Hh.out; omega), rfl, HWb.out, Hlt.out, HL.out⟩
    · have hd1 : decide ((i : Int) < (j : Int)) = false := by simpa using hlt
      have hij2 : i = j := by omega
      subst hij2
      have hp : pos l k = i := pos_of hjl Hlt.out Hge.out
      have HW := Lib.hid (B1.out.trans (Hw.out.mono B1.out.size))
      by_cases hxl : i < l.length
      · have hd3 : decide ((i : Int) < (l.length : Int)) = true := by simp; omega
        obtain ⟨g, hg, hgl⟩ := Ha.out (by omega)
        subst hg
        obtain ⟨e, he⟩ : ∃ e, e = l[i]'hxl := ⟨_, rfl⟩
        have HEk : Hid e.1.ok := HOk.out e (by rw [he]; exact List.getElem_mem hxl)
        have e0 : ∀ x : After wr, x.w'.cell? ⟨g, i * 9, none⟩ = some (.int .u8 e.1.f0) := fun x => x.cell (by rw [show i * 9 = i * 9 + 0 from rfl, Ho.out.cell' enTI_len HW.out i 0 hxl (by decide), ← he]; rfl)
        have e1 : ∀ x : After wr, x.w'.cell? ⟨g, i * 9 + 1, none⟩ = some (.int .u8 e.1.f1) := fun x => x.cell (by rw [Ho.out.cell' enTI_len HW.out i 1 hxl (by decide), ← he]; rfl)
        have e2 : ∀ x : After wr, x.w'.cell? ⟨g, i * 9 + 2, none⟩ = some (.int .u8 e.1.f2) := fun x => x.cell (by rw [Ho.out.cell' enTI_len HW.out i 2 hxl (by decide), ← he]; rfl)
        have e3 : ∀ x : After wr, x.w'.cell? ⟨g, i * 9 + 3, none⟩ = some (.int .u8 e.1.f3) := fun x => x.cell (by rw [Ho.out.cell' enTI_len HW.out i 3 hxl (by decide), ← he]; rfl)
        have e4 : ∀ x : After wr, x.w'.cell? ⟨g, i * 9 + 4, none⟩ = some (.int .u8 e.1.f4) := fun x => x.cell (by rw [Ho.out.cell' enTI_len HW.out i 4 hxl (by decide), ← he]; rfl)
        have e5 : ∀ x : After wr, x.w'.cell? ⟨g, i * 9 + 5, none⟩ = some (.int .u8 e.1.f5) := fun x => x.cell (by rw [Ho.out.cell' enTI_len HW.out i 5 hxl (by decide), ← he]; rfl)
        have e6 : ∀ x : After wr, x.w'.cell? ⟨g, i * 9 + 6, none⟩ = some (.int .i64 e.1.near) := fun x => x.cell (by rw [Ho.out.cell' enTI_len HW.out i 6 hxl (by decide), ← he]; rfl)
        have e7 : ∀ x : After wr, x.w'.cell? ⟨g, i * 9 + 7, none⟩ = some (.int .i64 e.1.there) := fun x => x.cell (by rw [Ho.out.cell' enTI_len HW.out i 7 hxl (by decide), ← he]; rfl)
        have e8 : ∀ x : After wr, x.w'.cell? ⟨g, i * 9 + 8, none⟩ = some (Value.int .i64 e.2) := fun x => x.cell (by rw [Ho.out.cell' enTI_len HW.out i 8 hxl (by decide), ← he]; rfl)
        have q0 : ∀ x : After wr, x.w'.cell? ⟨kb, 0, none⟩ = some (.int .u8 k.f0) := fun x => x.cell (blk_cell hkb 0)
        have q1 : ∀ x : After wr, x.w'.cell? ⟨kb, 1, none⟩ = some (.int .u8 k.f1) := fun x => x.cell (blk_cell hkb 1)
        have q2 : ∀ x : After wr, x.w'.cell? ⟨kb, 2, none⟩ = some (.int .u8 k.f2) := fun x => x.cell (blk_cell hkb 2)
        have q3 : ∀ x : After wr, x.w'.cell? ⟨kb, 3, none⟩ = some (.int .u8 k.f3) := fun x => x.cell (blk_cell hkb 3)
        have q4 : ∀ x : After wr, x.w'.cell? ⟨kb, 4, none⟩ = some (.int .u8 k.f4) := fun x => x.cell (blk_cell hkb 4)
        have q5 : ∀ x : After wr, x.w'.cell? ⟨kb, 5, none⟩ = some (.int .u8 k.f5) := fun x => x.cell (blk_cell hkb 5)
        have q6 : ∀ x : After wr, x.w'.cell? ⟨kb, 6, none⟩ = some (.int .i64 k.near) := fun x => x.cell (blk_cell hkb 6)
        have q7 : ∀ x : After wr, x.w'.cell? ⟨kb, 7, none⟩ = some (.int .i64 k.there) := fun x => x.cell (blk_cell hkb 7)
        have gl : g < wr.heap.size := by have := HW.out.size; omega
        have hf : fnd l k = decide (ordK e.1 k = 0) := by
          subst hp
          rw [fnd_of hxl, he]
        obtain ⟨z, hz⟩ : ∃ z, (ordK e.1 k == 0) = z := ⟨_, rfl⟩
        have hfz : fnd l k = z := by rw [hf, ← hz]; cases hq : decide (ordK e.1 k = 0) <;> simp at hq ⊢ <;> exact hq
        have HF := Lib.hid (And.intro hp hfz)
        clear hp hf hfz he hlt
        go_upto_region 8 with fail
        clear hd1
        refine wp_region_after (by kernel_rfl) (by kernel_rfl) ?_
        repeat (go_big_quiet_step ((first | (go_at_call 41; exact Calls.after_of (pl1I e k HEk.out HK.out _)) | fail)))
        refine wpQuiet_nil ?_
        rintro w5 ⟨⟨_, hb⟩, rfl⟩
        have HWb := Lib.hid (HW.out.trans (hb.mono HW.out.size))
        clear hb e0 e1 e2 e3 e4 e5 e6 e7 e8 q0 q1 q2 q3 q4 q5 q6 q7
        go_wp2_with fail
        go_ret2
        exact ⟨by rw [HF.out.1, HF.out.2]; rfl, HWb.out⟩
      · have hd3 : decide ((i : Int) < (l.length : Int)) = false := by simp; omega
        have hf : fnd l k = false := fnd_no (by omega)
        have HF := Lib.hid (And.intro hp hf)
        clear hp hf hlt
        go_upto_region 8 with fail
        clear hd1
        refine wp_region_after (by kernel_rfl) (by kernel_rfl) ?_
        repeat (go_big_quiet_step ((fail)))
        refine wpQuiet_nil ?_
        rintro w5 ⟨⟨_, hb⟩, rfl⟩
        have HWb := Lib.hid (HW.out.trans (hb.mono HW.out.size))
        clear hb
        go_wp2_with fail
        go_ret2
        exact ⟨by rw [HF.out.1, HF.out.2]; rfl, HWb.out⟩
end Go.Proofs.Ytjjfminpaoooaaa
