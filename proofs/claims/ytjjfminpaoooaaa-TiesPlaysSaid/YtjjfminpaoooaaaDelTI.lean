/-
  slices.Delete(s, i, i+1) at an owned slice: the i-th element is gone, in place.
-/
import Derived.Test.YtjjfminpaoooaaaLib
import Derived.Test.YtjjfminpaoooaaaRows
namespace Go.Proofs.Ytjjfminpaoooaaa
open Go.RowKit

theorem info70 : (Try.prog.info? 70).map (fun i => (i.zero, i.size, i.bytes)) = some (some (.agg #[.int .u8 0, .int .u8 0, .int .u8 0, .int .u8 0, .int .u8 0, .int .u8 0, .int .i64 0, .int .i64 0, .int .i64 0]), 9, 32) := by kernel_rfl

set_option maxHeartbeats 1000000 in
set_option maxRecDepth 100000 in
theorem del31 {α : Type} (enc : α → List Value) (hk : ∀ x, (enc x).length = 9) (h1 : ∀ x, ∀ u ∈ enc x, u.oneCell' = true) (w : World) (B g cap : Nat) (l : List α) (i : Nat) (hi : i < l.length)
    (hown : Own enc 70 9 B w (.slice (some ⟨g, 0, none⟩) l.length cap) l) (hsz : l.length ≤ 1000000) :
    Calls Try.prog 31 #[.slice (some ⟨g, 0, none⟩) l.length cap, .int .i64 i, .int .i64 (i + 1)] w fun e w' =>
      e = .returned (.slice (some ⟨g, 0, none⟩) (l.length - 1) cap) ∧ Own enc 70 9 B w' (.slice (some ⟨g, 0, none⟩) (l.length - 1) cap) (l.eraseIdx i) ∧ Fr (fun b => b = g) w w' := by
  obtain ⟨i0, hi0, hz0, hz1, hz2⟩ := info_parts info70
  obtain ⟨g', cap', hv, hg, hcap, hmax⟩ := own_some hown (by omega)
  simp at hv
  obtain ⟨rfl, rfl⟩ := hv
  unfold maxLen at hmax
  have hmax : cap ≤ 9223372036854775807 := by omega
  have hown0 : w.ownsRow B 70 9 (.slice (some ⟨g, 0, none⟩) i cap) i ((l.take i).flatMap enc) := by
    rcases hown.2 with ⟨h0, _⟩ | ⟨g', cap', cur, h0, hBg, hb, h2, h3, h4, h5⟩
    · simp at h0
    · simp at h0
      obtain ⟨rfl, rfl⟩ := h0
      refine ⟨by rw [flat_len enc 9 hk]; simp; omega, .inr ⟨g, cap, cur, rfl, hBg, hb, by omega, h3, h4, ?_⟩⟩
      rw [← flat_take enc 9 hk, ← h5, List.take_take, Nat.min_eq_left (Nat.mul_le_mul_right _ (by omega))]
  have hrd : Rd w 9 (.slice (if cap = i + 1 then some ⟨g, 0, none⟩ else some ⟨g, (i + 1) * 9, none⟩) (l.length - (i + 1)) (cap - (i + 1))) (l.length - (i + 1)) ((l.drop (i + 1)).flatMap enc) := by
    refine ⟨by rw [flat_len enc 9 hk]; simp, _, _, rfl, fun e => (by split at e <;> cases e), fun ad e j u hu => ?_⟩
    split at e <;> cases e
    · have : (l.drop (i + 1)) = [] := List.drop_eq_nil_of_le (by omega)
      rw [this] at hu
      simp at hu
    · rw [Addr.add_lit]
      rw [← flat_drop enc 9 hk, List.getElem?_drop] at hu
      have := hown.cells (g := g) rfl _ _ hu
      rwa [Addr.add_lit, Nat.zero_add] at this
  have hic : i ≤ cap := by omega
  have hjc : i + 1 ≤ cap := by omega
  have hI0 : (0 : Int) ≤ (i : Int) + 1 := by omega
  have hI1 : (i : Int) + 1 ≤ (l.length : Int) := by omega
  have H1 := Lib.hid (own_drew hown0)
  have H2 := Lib.hid hrd.drew
  have H3 : Hid (∀ u ∈ (l.drop (i + 1)).flatMap enc, u.oneCell' = true) := fun u hu => by
    obtain ⟨x, _, hx⟩ := List.mem_flatMap.1 hu
    exact h1 x u hx
  clear hown0 hrd
  go_enter Try.func31, Try.ntmps31
  go_wp2_with fail
  go_still_tail 6, (by kernel_rfl)
  change wpList _ _ _ _ _ w.drew
  refine wpList_app_room rfl (.tmp 22) (.tmp 25) 66 rfl 70 i0 _ _ _ Try.underlying66 hi0 hz0 hz1 hz2 rfl (by decide) rfl rfl H1.out H2.out H3.out (by omega) (by omega) ?_
  intro w1 o1 f1 z1
  obtain ⟨ad, had⟩ : ∃ ad, (if cap = i + 1 then some (⟨g, 0, none⟩ : Addr) else some ⟨g, (i + 1) * 9, none⟩) = ad := ⟨_, rfl⟩
  rw [had]
  clear had H2
  obtain ⟨N, hN⟩ : ∃ N, N = i + (l.length - (i + 1)) := ⟨_, rfl⟩
  rw [← hN] at o1 ⊢
  have hN1 : N < cap := by omega
  have hN2 : N < l.length := by omega
  have hN4 : ¬ cap = N := by omega
  obtain ⟨w2, hcl, o2, f2, z2⟩ := run_clear (P := Try.prog) (w := w1) (ty := 0) 66 70 _ 9 Try.underlying66 Try.zeroValue70 rfl (by simp [Value.cells, Value.oneCell']) (m := l.length - N) (c := cap - N) o1 (by omega) (by omega)
  have HN := Lib.hid hN
  clear hN
  go_wp2_with fail
  go_ret
  rw [show l.length - 1 = N by have := HN.out; omega]
  refine ⟨rfl, ?_, (((Fr.refl _ w).drew.trans f1).trans f2)⟩
  unfold Own
  rw [List.length_eraseIdx_of_lt hi, show l.length - 1 = N by have := HN.out; omega, List.eraseIdx_eq_take_drop_succ, List.flatMap_append]
  exact o2
end Go.Proofs.Ytjjfminpaoooaaa
