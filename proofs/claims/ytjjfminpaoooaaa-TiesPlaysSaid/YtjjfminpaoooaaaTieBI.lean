/-
  A table by key: New, place, Get, Len; slices.Insert behind the last one.
-/
import Derived.Test.YtjjfminpaoooaaaTieAI
namespace Go.Proofs.Ytjjfminpaoooaaa
open Go.RowKit
set_option linter.unusedVariables false

theorem infoTI : (Try.prog.info? 70).map (fun i => (i.zero, i.size, i.bytes)) = some (some (.agg #[.int .u8 0, .int .u8 0, .int .u8 0, .int .u8 0, .int .u8 0, .int .u8 0, .int .i64 0, .int .i64 0, .int .i64 0]), 9, 32) := by kernel_rfl

structure TbII (w : World) (t : Nat) (most : Int) (sv : Value) (l : List ItI) : Prop where
  blk : w.heap[t]? = some (.cells #[.int .i64 most, sv] 68 (0, 0))
  own : Own enTI 70 9 0 w sv l
  srt : Srt l
  ok : ∀ e ∈ l, e.1.ok
  le : (l.length : Int) ≤ most
  mx : 0 ≤ most ∧ most ≤ 100000
/-- A table at t; F are the blocks that it holds. -/
def TbAI (w : World) (F : Nat → Prop) (t : Nat) (most : Int) (l : List ItI) : Prop := ∃ sv, TbII w t most sv l ∧ ∀ x, F x ↔ (x = t ∨ sv.ownBlock = some x)
section
variable {w w' : World} {F : Nat → Prop} {t : Nat} {most : Int} {sv : Value} {l : List ItI}
theorem TbII.keep (h : TbII w t most sv l) (h1 : w'.heap[t]? = w.heap[t]?) (h2 : ∀ g, sv.ownBlock = some g → w'.heap[g]? = w.heap[g]?) : TbII w' t most sv l := ⟨h1.trans h.blk, h.own.keep h2, h.srt, h.ok, h.le, h.mx⟩
theorem TbII.below (h : TbII w t most sv l) (hb : Below w.heap.size w w') : TbII w' t most sv l := h.keep (hb.block t (lt_of_block h.blk)) (fun g hg => hb.block g (own_lt h.own hg))
theorem TbAI.keep (h : TbAI w F t most l) (hk : ∀ x, F x → w'.heap[x]? = w.heap[x]?) : TbAI w' F t most l := by
  obtain ⟨sv, h, hF⟩ := h
  exact ⟨sv, h.keep (hk t ((hF t).2 (.inl rfl))) (fun g hg => hk g ((hF g).2 (.inr hg))), hF⟩
theorem TbAI.below (h : TbAI w F t most l) (hb : Below w.heap.size w w') : TbAI w' F t most l := by
  obtain ⟨sv, h, hF⟩ := h
  exact ⟨sv, h.below hb, hF⟩
theorem TbAI.lt (h : TbAI w F t most l) : ∀ x, F x → x < w.heap.size := by
  obtain ⟨sv, h, hF⟩ := h
  intro x hx
  rcases (hF x).1 hx with rfl | e
  · exact lt_of_block h.blk
  · exact own_lt h.own e
theorem TbAI.mem (h : TbAI w F t most l) : F t := by obtain ⟨sv, _, hF⟩ := h; exact (hF t).2 (.inl rfl)
theorem TbII.len (h : TbII w t most sv l) : l.length ≤ 100000 := by have := h.le; have := h.mx; omega
end

theorem tnewI (most m : Int) (hm : max most 0 = m) (hx : m ≤ 100000) (w : World) : Calls Try.prog 17 #[.int .i64 most] w fun e w' => ∃ t, e = .returned (.pointer (some ⟨t, 0, none⟩)) ∧ TbAI w' (fun x => x = t) t m [] ∧ w.heap.size ≤ t ∧ Below w.heap.size w w' := by
  have Hm := Lib.hid (And.intro (show 0 ≤ m by omega) hx)
  clear hx
  go_enter Try.func17, Try.ntmps17
  have Hmm := Lib.hid hm
  clear hm
  go_wp2_with fail
  all_goals
    go_ret
    refine ⟨_, rfl, ⟨.slice none 0 0, ⟨?_, Own.nil _ _ _ _ _, fun i j hi => by simp at hi, fun e he => by simp at he, by simp; exact Hm.out.1, Hm.out⟩, fun x => by simp [Value.ownBlock]⟩, Nat.le_refl _, (Below.refl _ w).alloc (Nat.le_refl _) _⟩
    first
    | (have e : m = 0 := by (have := Hmm.out; omega)
       rw [e]
       exact heap_alloc_new' w _)
    | (have e : m = most := by (have := Hmm.out; omega)
       rw [e]
       exact heap_alloc_new' w _)

set_option maxHeartbeats 2000000 in
theorem tplaceI {w : World} {t : Nat} {most : Int} {sv : Value} {l : List ItI} (h : TbII w t most sv l) (k : Ky) (hk : k.ok) : Calls Try.prog 29 #[.pointer (some ⟨t, 0, none⟩), kyV k] w fun e w' => e = .returned (.tuple #[.int .i64 (pos l k), .bool (fnd l k)]) ∧ Below w.heap.size w w' := by
  obtain ⟨W1, hW1⟩ : ∃ W1, W1 = w.alloc (.cells (kyCs k) 28) := ⟨_, rfl⟩
  obtain ⟨kb, hkb⟩ : ∃ b, b = w.heap.size := ⟨_, rfl⟩
  have hb1 : Below w.heap.size w W1 := by rw [hW1]; exact (Below.refl _ w).alloc (Nat.le_refl _) _
  have kbk : W1.heap[kb]? = some (.cells (kyCs k) 28 (0, 0)) := by rw [hW1, hkb]; exact heap_alloc_new' w _
  have h1 := h.below hb1
  have H1 := Lib.hid h1
  have HK := Lib.hid hk
  have B1 := Lib.hid hb1
  obtain ⟨a, cap, hsv, _⟩ := own_shape h1.own
  have f1 : ∀ x : After W1, x.w'.cell? ⟨t, 1, none⟩ = some sv := fun x => x.cell (blk_cell h1.blk 1)
  have q0 : ∀ x : After W1, x.w'.cell? ⟨kb, 0, none⟩ = some (.int .u8 k.f0) := fun x => x.cell (blk_cell kbk 0)
  have q1 : ∀ x : After W1, x.w'.cell? ⟨kb, 1, none⟩ = some (.int .u8 k.f1) := fun x => x.cell (blk_cell kbk 1)
  have q2 : ∀ x : After W1, x.w'.cell? ⟨kb, 2, none⟩ = some (.int .u8 k.f2) := fun x => x.cell (blk_cell kbk 2)
  have q3 : ∀ x : After W1, x.w'.cell? ⟨kb, 3, none⟩ = some (.int .u8 k.f3) := fun x => x.cell (blk_cell kbk 3)
  have q4 : ∀ x : After W1, x.w'.cell? ⟨kb, 4, none⟩ = some (.int .u8 k.f4) := fun x => x.cell (blk_cell kbk 4)
  have q5 : ∀ x : After W1, x.w'.cell? ⟨kb, 5, none⟩ = some (.int .u8 k.f5) := fun x => x.cell (blk_cell kbk 5)
  have q6 : ∀ x : After W1, x.w'.cell? ⟨kb, 6, none⟩ = some (.int .i64 k.near) := fun x => x.cell (blk_cell kbk 6)
  have q7 : ∀ x : After W1, x.w'.cell? ⟨kb, 7, none⟩ = some (.int .i64 k.there) := fun x => x.cell (blk_cell kbk 7)
  obtain ⟨z, hz⟩ : ∃ z, z = fnd l k := ⟨_, rfl⟩
  obtain ⟨p, hp⟩ : ∃ p, p = pos l k := ⟨_, rfl⟩
  have HZ := Lib.hid (And.intro hz hp)
  rw [← hz, ← hp]
  subst hsv
  clear h1 hk hb1 kbk h hz hp
  go_enter Try.func29, Try.ntmps29
  go_upto_region 3 with fail
  rw [← hW1, ← hkb]
  clear hW1 hkb
  refine wp_region_after (by kernel_rfl) (by kernel_rfl) ?_
  repeat (go_big_quiet_step ((first | (go_at_call 40; exact Calls.after_of ((bsfI k HK.out l H1.out.srt H1.out.ok _ 0 _ (H1.out.below (After.h _)).own (by have := H1.out.len; omega)).mono fun _ _ ⟨he, hb⟩ => ⟨by rw [he, ← HZ.out.1, ← HZ.out.2], hb⟩)) | fail)))
  refine wpQuiet_nil ?_
  rintro w5 ⟨⟨_, hb⟩, rfl⟩
  have HB := Lib.hid (B1.out.trans (hb.mono B1.out.size))
  clear hb f1 q0 q1 q2 q3 q4 q5 q6 q7
  go_wp2_with fail
  go_ret2
  exact ⟨rfl, HB.out⟩

theorem tlenI {w : World} {F : Nat → Prop} {t : Nat} {most : Int} {l : List ItI} (h : TbAI w F t most l) : Calls Try.prog 21 #[.pointer (some ⟨t, 0, none⟩)] w fun e w' => e = .returned (.int .i64 l.length) ∧ w' = w := by
  obtain ⟨sv, h, _⟩ := h
  obtain ⟨a, cap, rfl, _⟩ := own_shape h.own
  have c1 : w.cell? ⟨t, 1, none⟩ = some (.slice a l.length cap) := blk_cell h.blk 1
  clear h
  go_enter Try.func21, Try.ntmps21
  go_wp2_with fail
  go_ret
  exact ⟨rfl, rfl⟩

set_option maxHeartbeats 2000000 in
theorem tgetNoI {w : World} {F : Nat → Prop} {t : Nat} {most : Int} {l : List ItI} (h : TbAI w F t most l) (k : Ky) (hk : k.ok) (hf : fnd l k = false) : Calls Try.prog 19 #[.pointer (some ⟨t, 0, none⟩), kyV k] w fun e w' => e = .returned (.tuple #[.int .i64 0, .bool false]) ∧ Below w.heap.size w w' := by
  obtain ⟨sv, h, _⟩ := h
  have H := Lib.hid h
  have HK := Lib.hid hk
  have HF := Lib.hid hf
  clear h hk hf
  go_enter Try.func19, Try.ntmps19
  go_wp2_with fail
  refine (tplaceI (H.out.below ((Below.refl _ w).alloc (Nat.le_refl _) _)) k HK.out).mono ?_
  rintro e w1 ⟨rfl, b1⟩
  rw [HF.out]
  have B1 : Hid (Below w.heap.size w w1) := ((Below.refl _ w).alloc (Nat.le_refl _) _).trans (b1.mono (by simp))
  clear b1
  go_wp2_with fail
  go_ret2
  exact ⟨rfl, B1.out⟩
set_option maxHeartbeats 2000000 in
theorem tgetYesI {w : World} {F : Nat → Prop} {t : Nat} {most : Int} {l : List ItI} (h : TbAI w F t most l) (k : Ky) (hk : k.ok) (hf : fnd l k = true) (e : ItI) (he : l[pos l k]? = some e) : Calls Try.prog 19 #[.pointer (some ⟨t, 0, none⟩), kyV k] w fun x w' => x = .returned (.tuple #[Value.int .i64 e.2, .bool true]) ∧ Below w.heap.size w w' := by
  obtain ⟨sv, h, _⟩ := h
  obtain ⟨hp, he⟩ := List.getElem?_eq_some_iff.1 he
  obtain ⟨g, cap, rfl, hgl, _⟩ := own_some h.own (by omega)
  have H := Lib.hid h
  have HK := Lib.hid hk
  have HF := Lib.hid hf
  have HE := Lib.hid he
  obtain ⟨p, hpp⟩ : ∃ p, p = pos l k := ⟨_, rfl⟩
  have HP := Lib.hid hpp
  have hpl : p < l.length := by omega
  have hil : (p : Int) < (l.length : Int) := by omega
  have Hce : Hid (∀ W, Below w.heap.size w W → W.cell? ⟨g, p * 9 + 8, none⟩ = some (Value.int .i64 e.2)) := fun W hb => by
    rw [h.own.cell' enTI_len hb p 8 hpl (by decide)]
    subst hpp
    rw [he]
    rfl
  clear h hk hf he hpp
  go_enter Try.func19, Try.ntmps19
  go_wp2_with fail
  refine (tplaceI (H.out.below ((Below.refl _ w).alloc (Nat.le_refl _) _)) k HK.out).mono ?_
  rintro x w1 ⟨rfl, b1⟩
  rw [HF.out, ← HP.out]
  have hB : Below w.heap.size w w1 := ((Below.refl _ w).alloc (Nat.le_refl _) _).trans (b1.mono (by simp))
  have c1 : w1.cell? ⟨t, 1, none⟩ = some (.slice (some ⟨g, 0, none⟩) l.length cap) := blk_cell (H.out.below hB).blk 1
  have c2 := Hce.out w1 hB
  have B1 := Lib.hid hB
  clear b1 hB
  go_wp2_with fail
  go_ret2
  exact ⟨rfl, B1.out⟩
end Go.Proofs.Ytjjfminpaoooaaa
