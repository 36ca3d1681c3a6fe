/-
  Layer 12: changing: the first n of a walk, in which the table is put to or deleted from.
-/
import Derived.Test.YtjjfminpaoooaaaL12J
namespace Go.Proofs.Ytjjfminpaoooaaa
open Go.RowKit
set_option linter.unusedVariables false
attribute [local go_sem] Oper.semAt_some


/-- Put, whatever comes of it. -/
theorem tputX {w : World} {F : Nat → Prop} {t : Nat} {most : Int} {l : List ItI} (h1 : TbAI w F t most l) (k : Ky) (hk : k.ok) (x : Int) :
    Calls Try.prog 18 #[.pointer (some ⟨t, 0, none⟩), kyV k, .int .i64 x] w fun e w' => ∃ E F' l', e = .returned (.int .i64 E) ∧ TbAI w' F' t most l' ∧ Stp F F' w w' := by
  by_cases hf : fnd l k = true
  · refine (tputThereI h1 k hk x hf).mono ?_
    rintro e w' ⟨rfl, g, s⟩
    exact ⟨_, _, _, rfl, g, s⟩
  · have hf' : fnd l k = false := by simpa using hf
    by_cases hm : most ≤ (l.length : Int)
    · refine (tputFullI h1 k hk x hf' hm).mono ?_
      rintro e w' ⟨rfl, b⟩
      exact ⟨_, _, _, rfl, h1.below b, Stp.of_below F b⟩
    · refine (tputNewI h1 k hk x hf' (by omega)).mono ?_
      rintro e w' ⟨rfl, F', g, s⟩
      exact ⟨_, _, _, rfl, g, s⟩
theorem tdelX {w : World} {F : Nat → Prop} {t : Nat} {most : Int} {l : List ItI} (h1 : TbAI w F t most l) (k : Ky) (hk : k.ok) :
    Calls Try.prog 20 #[.pointer (some ⟨t, 0, none⟩), kyV k] w fun e w' => ∃ E F' l', e = .returned (.bool E) ∧ TbAI w' F' t most l' ∧ Stp F F' w w' := by
  by_cases hf : fnd l k = true
  · refine (tdelYesI h1 k hk hf).mono ?_
    rintro e w' ⟨rfl, g, s⟩
    exact ⟨_, _, _, rfl, g, s⟩
  · have hf' : fnd l k = false := by simpa using hf
    refine (tdelNoI h1 k hk hf').mono ?_
    rintro e w' ⟨rfl, b⟩
    exact ⟨_, _, _, rfl, h1.below b, Stp.of_below F b⟩

/-- What the walk has laid when 'pre' has come. -/
structure ChInv (w : World) (F0 : Nat → Prop) (C c : Nat) (most n ch : Int) (pre : List ItI) (W : World) : Prop where
  all : ∃ ov F, ∃ l : List ItI, W.heap[w.heap.size + 3]? = some (.cells #[ov] 44 (0, 0)) ∧ Own enTI 48 9 C W ov pre ∧ TbAI W F c most l ∧ (∀ g, F g → g < w.heap.size ∨ C ≤ g) ∧ (∀ g, F g → F0 g ∨ w.heap.size ≤ g)
  tb : W.heap[w.heap.size]? = some (.cells #[.pointer (some ⟨c, 0, none⟩)] 42 (0, 0))
  num : W.heap[w.heap.size + 1]? = some (.cells #[.int .i64 n] 3 (0, 0))
  chb : W.heap[w.heap.size + 2]? = some (.cells #[.int .i64 ch] 3 (0, 0))
  bel : Fr F0 w W
  lt : (pre.length : Int) ≤ n ∨ pre = []
  ge : C ≤ W.heap.size

theorem TbII.cell1 {w : World} {c : Nat} {most : Int} {sv : Value} {l : List ItI} (h : TbII w c most sv l) : w.cell? ⟨c, 1, none⟩ = some sv := blk_cell h.blk 1
theorem TbAI.nc {C : Nat} {w w' : World} {F : Nat → Prop} {c : Nat} {most : Int} {l : List ItI} (h : TbAI w F c most l) (hf : Fr (NC C w) w w') : TbAI w' F c most l := by
  refine h.keep (fun x hx => ?_)
  obtain ⟨sv, h, hF⟩ := h
  rcases (hF x).1 hx with rfl | e
  · exact (blk_stay h.blk hf).trans h.blk.symm
  · obtain ⟨cur, hc⟩ := own_type h.own e
    exact (blk_stay hc hf).trans hc.symm

theorem ch_fin {w W W7 : World} {F0 : Nat → Prop} {C c : Nat} {most n ch : Int} {pre : List ItI} {x : ItI} {ov v5 : Value} {F F7 : Nat → Prop} {q : Nat} {l l' : List ItI} (hc : c < w.heap.size) (hC : C = w.heap.size + 5)
    (hi : ChInv w F0 C c most n ch pre W) (ho : W.heap[w.heap.size + 3]? = some (.cells #[ov] 44 (0, 0))) (hown : Own enTI 48 9 C W ov pre) (hq : TbAI W F c most l) (hd : (∀ g, F g → g < w.heap.size ∨ C ≤ g) ∧ (∀ g, F g → F0 g ∨ w.heap.size ≤ g)) (hx : (pre.length : Int) < n)
    (hqq : C ≤ q ∧ ∃ cs fr, W.heap[q]? = some (.cells cs 28 fr))
    (h5 : W7.heap[w.heap.size + 3]? = some (.cells #[v5] 44 (0, 0))) (ho5 : Own enTI 48 9 C W7 v5 (pre ++ [x])) (hm5 : ∀ g, v5.ownBlock = some g → ov.ownBlock = some g ∨ W.heap.size ≤ g)
    (h7 : TbAI W7 F7 c most l') (hF7 : ∀ g, F7 g → F g ∨ W.heap.size ≤ g) (hf : Fr (fun b => (ov.ownBlock = some b ∨ b = w.heap.size + 3) ∨ (b = q ∨ F b)) W W7) :
    KeepsFrom C W W7 ∧ KeepT 28 [⟨w.heap.size + 3, 0, none⟩, ⟨c, 1, none⟩] C W W7 ∧ ChInv w F0 C c most n ch (pre ++ [x]) W7 := by
  have hge := hi.ge
  have hs := hf.size
  have hov : ∀ g, ov.ownBlock = some g → C ≤ g ∧ g < W.heap.size := fun g hg => hown.lt g hg
  have k1 : W.cell? ⟨w.heap.size + 3, 0, none⟩ = some ov := blk_cell ho 0
  have hFt : ∀ b cs t fr, W.heap[b]? = some (.cells cs t fr) → t ≠ 68 → t ≠ 70 → ¬ F b := by
    intro b cs t fr hb h1 h2 hFb
    obtain ⟨sv, hT, hFF⟩ := hq
    rcases (hFF b).1 hFb with rfl | e
    · rw [hT.blk] at hb; cases hb; exact h1 rfl
    · exact own_ne hT.own hb h2 e
  have hqne : ∀ b cs t fr, W.heap[b]? = some (.cells cs t fr) → t ≠ 28 → b ≠ q := by
    rintro b cs t fr hb h1 rfl
    obtain ⟨_, cs', fr', h⟩ := hqq
    rw [hb] at h; cases h; exact h1 rfl
  refine ⟨keepsFrom_fr hf (fun k hk => ?_), keepT_fr hf (fun k hk => ?_) (fun a ha cv hcv k hk => ?_), ⟨⟨v5, F7, l', h5, ho5, h7, fun g hg => ?_, fun g hg => ?_⟩, ?_, ?_, ?_, ?_, ?_, ?_⟩⟩
  · rcases hk with (hk | hk) | (hk | hk)
    · obtain ⟨cur, hc⟩ := own_type hown hk
      exact .inr ⟨_, _, _, hc⟩
    · exact .inl (by omega)
    · obtain ⟨_, cs, fr, h⟩ := hqq
      exact .inr ⟨_, _, _, by rw [hk]; exact h⟩
    · obtain ⟨sv, hT, hFF⟩ := hq
      rcases (hFF k).1 hk with rfl | e
      · exact .inl (by omega)
      · obtain ⟨cur, hc⟩ := own_type hT.own e
        exact .inr ⟨_, _, _, hc⟩
  · rcases hk with (hk | hk) | (hk | hk)
    · exact .inr (.inl (fun hn => hn _ (by simp) _ k1 hk))
    · exact .inl (by omega)
    · obtain ⟨_, cs, fr, h⟩ := hqq
      exact .inr (.inr ⟨cs, fr, by rw [hk]; exact h⟩)
    · obtain ⟨sv, hT, hFF⟩ := hq
      rcases (hFF k).1 hk with rfl | e
      · exact .inl (by omega)
      · exact .inr (.inl (fun hn => hn ⟨c, 1, none⟩ (by simp) _ hT.cell1 e))
  · rcases List.mem_cons.1 ha with rfl | ha
    · rw [blk_cell h5 0] at hcv
      simp at hcv
      subst hcv
      rcases hm5 k hk with h | h
      · exact .inl ⟨_, List.mem_cons_self .., _, k1, h⟩
      · exact .inr h
    · obtain ⟨sv7, hT7, hFF7⟩ := h7
      rw [List.mem_singleton.1 ha, hT7.cell1] at hcv
      simp at hcv
      subst hcv
      rcases hF7 k ((hFF7 k).2 (.inr hk)) with h | h
      · obtain ⟨sv, hT, hFF⟩ := hq
        rcases (hFF k).1 h with e | e
        · exfalso
          subst e
          exact own_ne hT7.own hT7.blk (by decide) hk
        · exact .inl ⟨⟨c, 1, none⟩, by simp, _, hT.cell1, e⟩
      · exact .inr h
  · rcases hF7 g hg with h | h
    · exact hd.1 g h
    · exact .inr (by omega)
  · rcases hF7 g hg with h | h
    · exact hd.2 g h
    · exact .inr (Nat.le_trans hi.bel.size h)
  · refine hf.heap hi.tb ?_
    rintro ((e | e) | (e | e))
    · have := (hov _ e).1; omega
    · omega
    · exact hqne _ _ _ _ hi.tb (by decide) e
    · exact hFt _ _ _ _ hi.tb (by decide) (by decide) e
  · refine hf.heap hi.num ?_
    rintro ((e | e) | (e | e))
    · have := (hov _ e).1; omega
    · omega
    · exact hqne _ _ _ _ hi.num (by decide) e
    · exact hFt _ _ _ _ hi.num (by decide) (by decide) e
  · refine hf.heap hi.chb ?_
    rintro ((e | e) | (e | e))
    · have := (hov _ e).1; omega
    · omega
    · exact hqne _ _ _ _ hi.chb (by decide) e
    · exact hFt _ _ _ _ hi.chb (by decide) (by decide) e
  · refine hi.bel.trans' hf (fun _ _ e => e) (fun k hk e => ?_)
    rcases e with (e | e) | (e | e)
    · have := (hov _ e).1; omega
    · omega
    · have := hqq.1; omega
    · exact (hd.2 k e).elim id (fun h => by omega)
  · exact .inl (by rw [List.length_append, List.length_singleton]; omega)
  · exact Nat.le_trans hge hs
end Go.Proofs.Ytjjfminpaoooaaa
