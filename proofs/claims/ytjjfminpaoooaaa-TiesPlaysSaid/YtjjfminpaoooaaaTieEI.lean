/-
  A table by key: Del.
-/
import Derived.Test.YtjjfminpaoooaaaTieDI
namespace Go.Proofs.Ytjjfminpaoooaaa
open Go.RowKit
set_option linter.unusedVariables false

set_option maxHeartbeats 2000000 in
theorem tdelNoI {w : World} {F : Nat → Prop} {t : Nat} {most : Int} {l : List ItI} (h : TbAI w F t most l) (k : Ky) (hk : k.ok) (hf : fnd l k = false) : Calls Try.prog 20 #[.pointer (some ⟨t, 0, none⟩), kyV k] w fun e w' => e = .returned (.bool false) ∧ Below w.heap.size w w' := by
  obtain ⟨sv, h, _⟩ := h
  have H := Lib.hid h
  have HK := Lib.hid hk
  have HF := Lib.hid hf
  clear h hk hf
  go_enter Try.func20, Try.ntmps20
  go_wp2_with fail
  refine (tplaceI (H.out.below ((Below.refl _ w).alloc (Nat.le_refl _) _)) k HK.out).mono ?_
  rintro e w1 ⟨rfl, b1⟩
  rw [HF.out]
  have B1 : Hid (Below w.heap.size w w1) := ((Below.refl _ w).alloc (Nat.le_refl _) _).trans (b1.mono (by simp))
  clear b1
  go_wp2_with fail
  go_ret
  exact ⟨rfl, B1.out⟩
theorem srt_eraseI {l : List ItI} (hs : Srt l) (p : Nat) : Srt (l.eraseIdx p) := by
  intro i j hi hj hij
  rw [List.getElem_eraseIdx, List.getElem_eraseIdx]
  have hl := List.length_eraseIdx_le l p
  by_cases a : i < p
  · rw [dif_pos a]
    by_cases b : j < p
    · rw [dif_pos b]; exact hs _ _ _ _ hij
    · rw [dif_neg b]; exact hs _ _ _ _ (by omega)
  · rw [dif_neg a, dif_neg (by omega)]
    exact hs _ _ _ _ (by omega)
set_option maxHeartbeats 4000000 in
set_option maxRecDepth 100000 in
theorem tdelYesI {w : World} {F : Nat → Prop} {t : Nat} {most : Int} {l : List ItI} (h : TbAI w F t most l) (k : Ky) (hk : k.ok) (hf : fnd l k = true) : Calls Try.prog 20 #[.pointer (some ⟨t, 0, none⟩), kyV k] w fun e w' => e = .returned (.bool true) ∧ TbAI w' F t most (l.eraseIdx (pos l k)) ∧ Stp F F w w' := by
  obtain ⟨sv, h, hF⟩ := h
  obtain ⟨hp, hpk⟩ := pos_atI hf
  obtain ⟨g, cap, rfl, hgl, _⟩ := own_some h.own (by omega)
  have H := Lib.hid h
  have HK := Lib.hid hk
  have HF := Lib.hid hf
  have HFF := Lib.hid hF
  obtain ⟨p, hpp⟩ : ∃ p, p = pos l k := ⟨_, rfl⟩
  have HP := Lib.hid hpp
  have hpl : p < l.length := by omega
  have Hpl := Lib.hid hpl
  have hp6 : (p : Int) ≤ 100000 := by have := h.len; omega
  clear h hk hf hpk hpp hF hp hpl
  rw [← HP.out]
  go_enter Try.func20, Try.ntmps20
  go_wp2_with fail
  refine (tplaceI (H.out.below ((Below.refl _ w).alloc (Nat.le_refl _) _)) k HK.out).mono ?_
  rintro e w1 ⟨rfl, b1⟩
  rw [HF.out, ← HP.out]
  have hB : Below w.heap.size w w1 := ((Below.refl _ w).alloc (Nat.le_refl _) _).trans (b1.mono (by simp))
  have h1 := H.out.below hB
  have c1 : w1.cell? ⟨t, 1, none⟩ = some (.slice (some ⟨g, 0, none⟩) l.length cap) := blk_cell h1.blk 1
  have H1 := Lib.hid h1
  have B1 := Lib.hid hB
  clear b1 hB h1
  go_wp2_with fail
  refine (del31 enTI enTI_len enTI_one _ 0 g cap l p Hpl.out H1.out.own (by have := H.out.len; omega)).mono ?_
  rintro e w2 ⟨rfl, o2, f2⟩
  have hno : ¬ t = g := fun e => own_ne H1.out.own H1.out.blk (by decide) (by rw [e]; rfl)
  have ht2 := f2.heap H1.out.blk hno
  have c2 : w2.cell? ⟨t, 1, none⟩ = some (.slice (some ⟨g, 0, none⟩) l.length cap) := blk_cell ht2 1
  have z2 : w2.frozen? ⟨t, 1, none⟩ = false := blk_free ht2 1
  obtain ⟨n2, hn2⟩ : ∃ n, n = l.length - 1 := ⟨_, rfl⟩
  rw [← hn2] at o2 ⊢
  have fin : Hid (TbAI (w2.setCell ⟨t, 1, none⟩ (.slice (some ⟨g, 0, none⟩) n2 cap)) F t most (l.eraseIdx p) ∧ Stp F F w (w2.setCell ⟨t, 1, none⟩ (.slice (some ⟨g, 0, none⟩) n2 cap))) := by
    have hs : Fr (fun b => b = t) w2 (w2.setCell ⟨t, 1, none⟩ (.slice (some ⟨g, 0, none⟩) n2 cap)) := (Fr.refl (fun b => b = t) w2).setCell (p := ⟨t, 1, none⟩) (fun _ => rfl) _
    refine ⟨⟨_, ⟨by simpa using heap_setCell_same ht2 (i := 1) _, o2.fr hs (fun q hq (e : q = t) => hno (by simp [Value.ownBlock] at hq; omega)), srt_eraseI H.out.srt p, fun e he => H.out.ok e (List.mem_of_mem_eraseIdx he), ?_, H.out.mx⟩, fun b => HFF.out b⟩, ?_⟩
    · have := List.length_eraseIdx_le l p
      have := H.out.le
      omega
    · exact (Stp.of_below F B1.out).trans ((Stp.trans (b := w2) ⟨f2.mono (fun i _ e => (HFF.out i).2 (.inr (by rw [e]; rfl))), fun b e => .inl e⟩ ⟨hs.mono (fun i _ e => (HFF.out i).2 (.inl e)), fun b e => .inl e⟩))
  clear o2 f2 hn2 ht2
  go_wp2_with fail
  go_ret
  exact ⟨rfl, fin.out⟩
end Go.Proofs.Ytjjfminpaoooaaa
