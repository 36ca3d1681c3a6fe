/-
  A table by key: Put, Del.
-/
import Derived.Test.YtjjfminpaoooaaaTieCI
import Derived.Deep.RegionLaw
namespace Go.Proofs.Ytjjfminpaoooaaa
open Go.RowKit
set_option linter.unusedVariables false

theorem pos_atI {l : List ItI} {k : Ky} (h : fnd l k = true) : ∃ hp : pos l k < l.length, (l[pos l k]'hp).1 = k := by
  by_cases hp : pos l k < l.length
  · rw [fnd_of hp] at h
    exact ⟨hp, ordK_eq (by simpa using h)⟩
  · rw [fnd_no hp] at h
    cases h

set_option maxHeartbeats 4000000 in
set_option maxRecDepth 100000 in
theorem tputThereI {w : World} {F : Nat → Prop} {t : Nat} {most : Int} {l : List ItI} (h : TbAI w F t most l) (k : Ky) (hk : k.ok) (x : Int) (hf : fnd l k = true) :
    Calls Try.prog 18 #[.pointer (some ⟨t, 0, none⟩), kyV k, Value.int .i64 x] w fun e w' => e = .returned (.int .i64 0) ∧ TbAI w' F t most (l.set (pos l k) (k, x)) ∧ Stp F F w w' := by
  obtain ⟨sv, h, hF⟩ := h
  obtain ⟨hp, hpk⟩ := pos_atI hf
  obtain ⟨g, cap, rfl, hgl, _⟩ := own_some h.own (by omega)
  have H := Lib.hid h
  have HK := Lib.hid hk
  have HF := Lib.hid hf
  have HFF := Lib.hid hF
  have HPk := Lib.hid hpk
  obtain ⟨p, hpp⟩ : ∃ p, p = pos l k := ⟨_, rfl⟩
  have HP := Lib.hid hpp
  have hpl : p < l.length := by omega
  have hil : (p : Int) < (l.length : Int) := by omega
  have Hce : Hid (∀ W, Below w.heap.size w W → W.cell? ⟨g, p * 9 + 8, none⟩ = some (Value.int .i64 (l[p]'hpl).2)) := fun W hb => by
    rw [h.own.cell' enTI_len hb p 8 hpl (by decide)]
    rfl
  clear h hk hf hpk hpp hF
  rw [← HP.out]
  go_enter Try.func18, Try.ntmps18
  go_wp2_with fail
  refine (tplaceI (H.out.below ((Below.refl _ w).alloc (Nat.le_refl _) _)) k HK.out).mono ?_
  rintro e w1 ⟨rfl, b1⟩
  rw [HF.out, ← HP.out]
  have hB : Below w.heap.size w w1 := ((Below.refl _ w).alloc (Nat.le_refl _) _).trans (b1.mono (by simp))
  have h1 := H.out.below hB
  have c1 : w1.cell? ⟨t, 1, none⟩ = some (.slice (some ⟨g, 0, none⟩) l.length cap) := blk_cell h1.blk 1
  have c2 := Hce.out w1 hB
  have z2 : w1.frozen? ⟨g, p * 9 + 8, none⟩ = false := own_free h1.own _
  have H1 := Lib.hid h1
  have B1 := Lib.hid hB
  clear b1 hB h1
  go_wp2_with fail
  go_ret
  have hno : ¬ g = t := fun e => own_ne H1.out.own H1.out.blk (by decide) (by rw [e]; rfl)
  have hf1 : Fr (fun b => b = g) w1 (w1.setCell ⟨g, p * 9 + 8, none⟩ (Value.int .i64 x)) := (Fr.refl (fun b => b = g) w1).setCell (p := ⟨g, p * 9 + 8, none⟩) (fun _ => rfl) _
  have hset : ((l[p]'hpl).1, x) = (k, x) := by
    have := HPk.out
    have e := HP.out
    subst e
    rw [this]
  refine ⟨rfl, ⟨_, ⟨hf1.heap H1.out.blk (fun e => hno e.symm), by rw [← hset]; exact own_setI H1.out.own p hpl x, ?_, ?_, by rw [List.length_set]; exact H.out.le, H.out.mx⟩, fun b => HFF.out b⟩, ?_⟩
  · intro i j hi hj hij
    have key : ∀ (q : Nat) (hq : q < (l.set p (k, x)).length), ((l.set p (k, x))[q]'hq).1 = (l[q]'(by simpa using hq)).1 := fun q hq => by
      rw [List.getElem_set]
      split
      · rename_i e; subst e; exact (congrArg Prod.fst hset).symm
      · rfl
    rw [key i hi, key j hj]
    exact H.out.srt i j _ _ hij
  · intro e he
    rcases List.mem_or_eq_of_mem_set he with he | rfl
    · exact H.out.ok e he
    · exact HK.out
  · exact (Stp.of_below F B1.out).trans ⟨hf1.mono (fun i _ e => (HFF.out i).2 (.inr (by rw [e]; rfl))), fun b e => .inl e⟩

set_option maxHeartbeats 4000000 in
set_option maxRecDepth 100000 in
theorem tputFullI {w : World} {F : Nat → Prop} {t : Nat} {most : Int} {l : List ItI} (h : TbAI w F t most l) (k : Ky) (hk : k.ok) (x : Int) (hf : fnd l k = false) (hm : most ≤ (l.length : Int)) :
    Calls Try.prog 18 #[.pointer (some ⟨t, 0, none⟩), kyV k, Value.int .i64 x] w fun e w' => e = .returned (.int .i64 6) ∧ Below w.heap.size w w' := by
  obtain ⟨sv, h, hF⟩ := h
  obtain ⟨a, cap, rfl, _⟩ := own_shape h.own
  have H := Lib.hid h
  have HK := Lib.hid hk
  have HF := Lib.hid hf
  have hd : decide (most ≤ (l.length : Int)) = true := by simpa using hm
  clear h hk hf hF hm
  go_enter Try.func18, Try.ntmps18
  go_wp2_with fail
  refine (tplaceI (H.out.below ((Below.refl _ w).alloc (Nat.le_refl _) _)) k HK.out).mono ?_
  rintro e w1 ⟨rfl, b1⟩
  rw [HF.out]
  have hB : Below w.heap.size w w1 := ((Below.refl _ w).alloc (Nat.le_refl _) _).trans (b1.mono (by simp))
  have h1 := H.out.below hB
  have f0 : ∀ x : After w1, x.w'.cell? ⟨t, 0, none⟩ = some (.int .i64 most) := fun x => x.cell (blk_cell h1.blk 0)
  have f1 : ∀ x : After w1, x.w'.cell? ⟨t, 1, none⟩ = some (.slice a l.length cap) := fun x => x.cell (blk_cell h1.blk 1)
  have B1 := Lib.hid hB
  clear b1 hB h1
  go_upto_region 7 with fail
  refine wp_region_after (by kernel_rfl) (by kernel_rfl) ?_
  repeat (go_big_quiet_step ((fail)))
  refine wpQuiet_nil ?_
  rintro w5 ⟨⟨_, hb⟩, rfl⟩
  have HB := Lib.hid (B1.out.trans (hb.mono B1.out.size))
  clear hb f0 f1
  go_wp2_with fail
  go_ret
  exact ⟨rfl, HB.out⟩
theorem srt_insI {l : List ItI} {k : Ky} {x : Int} (hs : Srt l) (hf : fnd l k = false) : Srt (l.take (pos l k) ++ (k, x) :: l.drop (pos l k)) := by
  obtain ⟨h1, h2⟩ := pos_lt (k := k) hs
  have hp := pos_le l k
  have h3 : ∀ t, (h : t < l.length) → pos l k ≤ t → 0 < ordK l[t].1 k := fun t h ht => by
    have h0 := h2 t h ht
    by_cases e : ordK l[t].1 k = 0
    · exfalso
      by_cases e2 : pos l k = t
      · subst e2
        rw [fnd_of h] at hf
        simp [e] at hf
      · have h4 := h2 (pos l k) (by omega) (Nat.le_refl _)
        have h5 := hs (pos l k) t (by omega) h (by omega)
        rw [ordK_eq e] at h5
        omega
    · omega
  have hlen : (l.take (pos l k) ++ (k, x) :: l.drop (pos l k)).length = l.length + 1 := by rw [List.length_append, List.length_cons, List.length_take, List.length_drop]; omega
  have kA : ∀ (q : Nat) (hq : q < (l.take (pos l k) ++ (k, x) :: l.drop (pos l k)).length) (h : q < pos l k), ((l.take (pos l k) ++ (k, x) :: l.drop (pos l k))[q]'hq).1 = (l[q]'(by omega)).1 := fun q hq h => by
    rw [List.getElem_append_left (by rw [List.length_take]; omega), List.getElem_take]
  have kB : ∀ (hq : pos l k < (l.take (pos l k) ++ (k, x) :: l.drop (pos l k)).length), ((l.take (pos l k) ++ (k, x) :: l.drop (pos l k))[pos l k]'hq).1 = k := fun hq => by
    rw [List.getElem_append_right (by rw [List.length_take]; omega)]
    simp only [List.length_take, Nat.min_eq_left hp, Nat.sub_self, List.getElem_cons_zero]
  have kC : ∀ (q : Nat) (hq : q < (l.take (pos l k) ++ (k, x) :: l.drop (pos l k)).length) (h : pos l k < q), ((l.take (pos l k) ++ (k, x) :: l.drop (pos l k))[q]'hq).1 = (l[q - 1]'(by omega)).1 := fun q hq h => by
    rw [List.getElem_append_right (by rw [List.length_take]; omega)]
    obtain ⟨r, hr⟩ : ∃ r, q - pos l k = r + 1 := ⟨q - pos l k - 1, by omega⟩
    simp only [List.length_take, Nat.min_eq_left hp, hr, List.getElem_cons_succ, List.getElem_drop]
    have : pos l k + r = q - 1 := by omega
    simp only [this]
  intro i j hi hj hij
  by_cases a1 : i < pos l k
  · rw [kA i hi a1]
    by_cases b1 : j < pos l k
    · rw [kA j hj b1]; exact hs i j _ _ hij
    · by_cases b2 : j = pos l k
      · subst b2; rw [kB hj]; exact h1 i (by omega) a1
      · rw [kC j hj (by omega)]; exact hs i (j - 1) _ _ (by omega)
  · rw [kC j hj (by omega)]
    by_cases a2 : i = pos l k
    · subst a2
      rw [kB hi]
      have := h3 (j - 1) (by omega) (by omega)
      rw [ordK_flip]
      omega
    · rw [kC i hi (by omega)]
      exact hs (i - 1) (j - 1) _ _ (by omega)

theorem tput_finI {w w5 w6 W : World} {F : Nat → Prop} {t : Nat} {most : Int} {sv sv' : Value} {l : List ItI} {k : Ky} {x : Int} {p : Nat} (h : TbII w t most sv l) (hF : ∀ b, F b ↔ (b = t ∨ sv.ownBlock = some b)) (hb : Below w.heap.size w w5) (hp : p = pos l k) (hk : k.ok) (hf : fnd l k = false) (hm : (l.length : Int) < most)
    (ht6 : w6.heap[t]? = some (.cells #[.int .i64 most, sv] 68 (0, 0))) (o6 : Own enTI 70 9 0 w6 sv' (l.take p ++ (k, x) :: l.drop p)) (f6 : Fr (fun g => sv.ownBlock = some g) W w6) (m6 : Mv W sv sv') (hW : W = w5.alloc (.cells (enTI (k, x)).toArray 70) ∨ W = (w5.alloc (.cells (enTI (k, x)).toArray 70)).drew) :
    ∃ F', TbAI (w6.setCell ⟨t, 1, none⟩ sv') F' t most (l.take p ++ (k, x) :: l.drop p) ∧ Stp F F' w (w6.setCell ⟨t, 1, none⟩ sv') := by
  have hbW : Below w.heap.size w W := by
    rcases hW with rfl | rfl
    · exact hb.alloc hb.size _
    · exact (hb.alloc hb.size _).drew
  have hnt : ¬ sv'.ownBlock = some t := fun e => own_ne o6 ht6 (by decide) e
  have hs : Fr (fun b => b = t) w6 (w6.setCell ⟨t, 1, none⟩ sv') := (Fr.refl (fun b => b = t) w6).setCell (p := ⟨t, 1, none⟩) (fun _ => rfl) _
  subst hp
  refine ⟨_, ⟨sv', ⟨by simpa using heap_setCell_same ht6 (i := 1) sv', o6.fr hs (fun g hg (e : g = t) => hnt (by rw [← e]; exact hg)), srt_insI h.srt hf, fun e he => ?_, ?_, h.mx⟩, fun b => Iff.rfl⟩, ?_, ?_⟩
  · rcases List.mem_append.1 he with he | he
    · exact h.ok e (List.mem_of_mem_take he)
    · rcases List.mem_cons.1 he with rfl | he
      · exact hk
      · exact h.ok e (List.mem_of_mem_drop he)
  · have := pos_le l k
    rw [List.length_append, List.length_cons, List.length_take, List.length_drop]
    omega
  · exact (((Fr.of_below hbW F).trans' f6 (fun _ _ e => e) (fun i _ e => (hF i).2 (.inr e)))).trans' hs (fun _ _ e => e) (fun i _ e => (hF i).2 (.inl e))
  · intro b hbb
    rcases hbb with e | e
    · exact .inl ((hF b).2 (.inl e))
    · exact (m6 b e).imp (fun e => (hF b).2 (.inr e)) (fun e => Nat.le_trans hbW.size e)

set_option maxHeartbeats 4000000 in
set_option maxRecDepth 100000 in
theorem tputNewI {w : World} {F : Nat → Prop} {t : Nat} {most : Int} {l : List ItI} (h : TbAI w F t most l) (k : Ky) (hk : k.ok) (x : Int) (hf : fnd l k = false) (hm : (l.length : Int) < most) :
    Calls Try.prog 18 #[.pointer (some ⟨t, 0, none⟩), kyV k, Value.int .i64 x] w fun e w' => e = .returned (.int .i64 0) ∧ ∃ F', TbAI w' F' t most (l.take (pos l k) ++ (k, x) :: l.drop (pos l k)) ∧ Stp F F' w w' := by
  obtain ⟨sv, h, hF⟩ := h
  obtain ⟨a, cap, hsv, _⟩ := own_shape h.own
  have H := Lib.hid h
  have HK := Lib.hid hk
  have HF := Lib.hid hf
  have HFF := Lib.hid hF
  have HM := Lib.hid hm
  have hd : decide (most ≤ (l.length : Int)) = false := by simp; omega
  obtain ⟨kb, hkb⟩ : ∃ b, b = w.heap.size := ⟨_, rfl⟩
  obtain ⟨W1, hW1⟩ : ∃ W1, W1 = w.alloc (.cells (kyCs k) 28) := ⟨_, rfl⟩
  have hb1 : Below w.heap.size w W1 := by rw [hW1]; exact (Below.refl _ w).alloc (Nat.le_refl _) _
  have KB : Hid (W1.heap[kb]? = some (.cells (kyCs k) 28 (0, 0))) := by rw [hW1, hkb]; exact heap_alloc_new' w _
  have B0 := Lib.hid hb1
  clear h hk hf hF hm
  subst hsv
  go_enter Try.func18, Try.ntmps18
  go_wp2_with fail
  rw [← hW1, ← hkb]
  clear hW1 hb1 hkb
  refine (tplaceI (H.out.below B0.out) k HK.out).mono ?_
  rintro e w1 ⟨rfl, b1⟩
  rw [HF.out]
  have hB : Below w.heap.size w w1 := B0.out.trans (b1.mono B0.out.size)
  have h1 := H.out.below hB
  have f0 : ∀ x : After w1, x.w'.cell? ⟨t, 0, none⟩ = some (.int .i64 most) := fun x => x.cell (blk_cell h1.blk 0)
  have f1 : ∀ x : After w1, x.w'.cell? ⟨t, 1, none⟩ = some (.slice a l.length cap) := fun x => x.cell (blk_cell h1.blk 1)
  have B1 := Lib.hid hB
  have KB1 := Lib.hid ((b1.block kb (lt_of_block KB.out)).trans KB.out)
  clear b1 hB h1
  go_upto_region 7 with fail
  refine wp_region_after (by kernel_rfl) (by kernel_rfl) ?_
  repeat (go_big_quiet_step ((fail)))
  refine wpQuiet_nil ?_
  rintro w5 ⟨⟨_, hb⟩, rfl⟩
  have HB := Lib.hid (B1.out.trans (hb.mono B1.out.size))
  have KB5 := Lib.hid ((hb.block kb (lt_of_block KB1.out)).trans KB1.out)
  clear hb f0 f1
  have h5 := H.out.below HB.out
  have k1 : w5.cell? ⟨t, 1, none⟩ = some (.slice a l.length cap) := blk_cell h5.blk 1
  have q0 : w5.cell? ⟨kb, 0, none⟩ = some (.int .u8 k.f0) := blk_cell KB5.out 0
  have q1 : w5.cell? ⟨kb, 1, none⟩ = some (.int .u8 k.f1) := blk_cell KB5.out 1
  have q2 : w5.cell? ⟨kb, 2, none⟩ = some (.int .u8 k.f2) := blk_cell KB5.out 2
  have q3 : w5.cell? ⟨kb, 3, none⟩ = some (.int .u8 k.f3) := blk_cell KB5.out 3
  have q4 : w5.cell? ⟨kb, 4, none⟩ = some (.int .u8 k.f4) := blk_cell KB5.out 4
  have q5 : w5.cell? ⟨kb, 5, none⟩ = some (.int .u8 k.f5) := blk_cell KB5.out 5
  have q6 : w5.cell? ⟨kb, 6, none⟩ = some (.int .i64 k.near) := blk_cell KB5.out 6
  have q7 : w5.cell? ⟨kb, 7, none⟩ = some (.int .i64 k.there) := blk_cell KB5.out 7
  have kbl : kb < w5.heap.size := lt_of_block KB5.out
  have htl : t < w5.heap.size := lt_of_block h5.blk
  have HN : Hid (∀ W, Below w5.heap.size w5 W → TbII W t most (.slice a l.length cap) l) := fun W hW => h5.below hW
  have hbg : ∀ g, (Value.slice a l.length cap).ownBlock = some g → w5.heap.size ≠ g := fun g hg => by have := own_lt h5.own hg; omega
  have HBg := Lib.hid hbg
  have HNt : Hid (¬ (Value.slice a l.length cap).ownBlock = some t) := fun e => own_ne h5.own h5.blk (by decide) e
  have hll := h5.len
  have Hll := Lib.hid hll
  have hpp := pos_le l k
  have Hpp := Lib.hid hpp
  obtain ⟨p, hp⟩ : ∃ p, p = pos l k := ⟨_, rfl⟩
  have HP := Lib.hid hp
  rw [← hp] at Hpp ⊢
  clear h5 hbg hll hpp hp
  go_upto_region 4 with fail
  go_region_law (first
    | (go_simp; go_at_call 30; refine (tinsI (.slice a l.length cap) l w5.heap.size (k, x) p _ (HN.out _ (by first | exact ((Below.refl _ w5).alloc (Nat.le_refl _) _).drew | exact (Below.refl _ w5).alloc (Nat.le_refl _) _ | exact ((Below.refl _ w5).drew.alloc (Nat.le_refl _) _))).own (by first | exact heap_alloc_new' w5 _) Hpp.out Hll.out HBg.out).mono ?_; rintro e w6 ⟨sv', rfl, o6, f6, m6⟩; have ht6 := f6.heap (HN.out _ (by first | exact ((Below.refl _ w5).alloc (Nat.le_refl _) _).drew | exact (Below.refl _ w5).alloc (Nat.le_refl _) _ | exact ((Below.refl _ w5).drew.alloc (Nat.le_refl _) _))).blk HNt.out; have kc6 : w6.cell? ⟨t, 1, none⟩ = some (.slice a l.length cap) := blk_cell ht6 1; have kz6 : w6.frozen? ⟨t, 1, none⟩ = false := blk_free ht6 1; have fin : Hid (∃ F', TbAI (w6.setCell ⟨t, 1, none⟩ sv') F' t most (l.take p ++ (k, x) :: l.drop p) ∧ Stp F F' w (w6.setCell ⟨t, 1, none⟩ sv')) := tput_finI H.out HFF.out HB.out HP.out HK.out HF.out HM.out ht6 o6 f6 m6 (.inr rfl); obtain ⟨a6, c6, hv6, _⟩ := own_shape o6; obtain ⟨n6, hn6⟩ : ∃ n, n = (l.take p ++ (k, x) :: l.drop p).length := ⟨_, rfl⟩; rw [← hn6] at hv6; subst hv6; clear o6 f6 m6 ht6 hn6)
    | fail)
  all_goals
    clear k1 kc6 kz6 q0 q1 q2 q3 q4 q5 q6 q7
    go_wp2_with fail
    go_ret
    exact ⟨rfl, by rw [← HP.out]; exact fin.out⟩
end Go.Proofs.Ytjjfminpaoooaaa
