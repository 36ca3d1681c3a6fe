/-
  Package back: Next, Acked, Again, Clear.
-/
import Derived.Test.YtlpkjnafmknddaaBak
namespace Go.Proofs.Ytlpkjnafmknddaa
open Go.RowKit
set_option linter.unusedVariables false


theorem items_get {w : World} {l : List Value} {bs : List (List Int)} (h : ItemsB w l bs) {i : Nat} (hi : i < bs.length) : ∃ hi' : i < l.length, OwnB 0 w l[i] bs[i] := by
  have hi' : i < l.length := by rw [h.1]; exact hi
  exact ⟨hi', h.2 i _ _ (List.getElem?_eq_getElem hi') (List.getElem?_eq_getElem hi)⟩

theorem bNextYes {w : World} {F : Nat → Prop} {b : Nat} {most : Int} {out : Nat} {bs : List (List Int)} (h : BkA w F b most out bs) (hlt : out < bs.length) (hl : bs.length ≤ 100000) (hx : bs[out].length ≤ 1000000) :
    Calls Try.prog 11 #[.pointer (some ⟨b, 0, none⟩)] w fun e w' => ∃ v, e = .returned (.tuple #[v, .bool true]) ∧ OwnB w.heap.size w' v bs[out] ∧ BkA w' F b most (out + 1) bs ∧ Stp F F w w' := by
  obtain ⟨c, sv, l, h1, h2⟩ := h
  obtain ⟨hi', ho⟩ := items_get h1.it hlt
  obtain ⟨xa, xk, hxv, _⟩ := own_shape ho
  have hout : (out : Int) ≤ 100000 := by omega
  have H := Lib.hid h1
  have HO := Lib.hid ho
  have c1 := h1.c1
  have z1 : w.frozen? ⟨b, 1, none⟩ = false := blk_free h1.blk 1
  have fin0 := h1.setOut (out + 1) (by omega)
  rw [show ((out + 1 : Nat) : Int) = (out : Int) + 1 by simp] at fin0
  have it0 : OwnB 0 (w.setCell ⟨b, 1, none⟩ (.int .i64 ((out : Int) + 1))) l[out] bs[out] := (items_get fin0.it hlt).2
  have Fin0 := Lib.hid fin0
  have It0 := Lib.hid it0
  have HF : Hid (Fr F w (w.setCell ⟨b, 1, none⟩ (.int .i64 ((out : Int) + 1)))) := (Fr.refl F w).setCell (p := ⟨b, 1, none⟩) (fun _ => (h2 b).2 (.inl rfl)) _
  have Hlt := Lib.hid hlt
  have Hx := Lib.hid hx
  have Hxv := Lib.hid hxv
  clear h1 ho fin0 it0 hxv
  go_enter Try.func11, Try.ntmps11
  go_wp2_with fail
  refine (bRow b c w H.out.c0).mono ?_
  rintro e w1 ⟨rfl, rfl⟩
  go_wp2_with fail
  refine (bOut b out w1 c1).mono ?_
  rintro e w1 ⟨rfl, rfl⟩
  go_wp2_with fail
  refine (peekQB out c most sv l w1 0 H.out.q hi').mono ?_
  rintro e w2 ⟨rfl, rfl⟩
  rw [Hxv.out] at It0 ⊢
  go_wp2_with fail
  refine (cloneB _ bs[out] _ (Own.rd It0.out) Hx.out).mono ?_
  rintro e w3 ⟨v', rfl, o3, b3⟩
  have o4 : OwnB w2.heap.size w3 v' bs[out] := own_base (own_zero o3) (fun g hg => Nat.le_trans HF.out.size (o3.lt g hg).1)
  have fin : Hid (OwnB w2.heap.size w3 v' bs[out] ∧ BkA w3 F b most (out + 1) bs ∧ Stp F F w2 w3) :=
    ⟨o4, ⟨c, sv, l, Fin0.out.below b3, h2⟩, HF.out.trans' (Fr.of_below b3 F) (fun _ _ e => e) (fun _ _ e => e), fun _ e => .inl e⟩
  obtain ⟨va, vk, rfl, _⟩ := own_shape o3
  clear o3 o4 b3
  go_wp2_with fail
  go_ret2
  exact ⟨_, rfl, fin.out⟩

theorem bNextNo {w : World} {F : Nat → Prop} {b : Nat} {most : Int} {out : Nat} {bs : List (List Int)} (h : BkA w F b most out bs) (hlt : bs.length ≤ out) (hl : bs.length ≤ 100000) :
    Calls Try.prog 11 #[.pointer (some ⟨b, 0, none⟩)] w fun e w' => ∃ v, e = .returned (.tuple #[v, .bool false]) ∧ OwnB w.heap.size w' v [] ∧ Below w.heap.size w w' := by
  obtain ⟨c, sv, l, h1, h2⟩ := h
  have hll : (l.length : Int) ≤ (out : Int) := by have := h1.it.1; omega
  have H := Lib.hid h1
  have c1 := h1.c1
  have Hll := Lib.hid hll
  clear h1 hll
  go_enter Try.func11, Try.ntmps11
  go_wp2_with fail
  refine (bRow b c w H.out.c0).mono ?_
  rintro e w1 ⟨rfl, rfl⟩
  go_wp2_with fail
  refine (bOut b out w1 c1).mono ?_
  rintro e w1 ⟨rfl, rfl⟩
  go_wp2_with fail
  refine (peekNoB out c most sv l w1 0 H.out.q Hll.out).mono ?_
  rintro e w2 ⟨rfl, rfl⟩
  go_wp2_with fail
  refine (cloneB _ [] w2 ⟨rfl, none, 0, rfl, fun _ => ⟨rfl, rfl⟩, fun _ e => by cases e⟩ (by simp)).mono ?_
  rintro e w3 ⟨v', rfl, o3, b3⟩
  have fin := Lib.hid (And.intro o3 b3)
  obtain ⟨va, vk, rfl, _⟩ := own_shape o3
  clear o3 b3
  go_wp2_with fail
  go_ret2
  exact ⟨_, rfl, fin.out⟩

/-- How many Acked takes away. -/
def ackN (n : Int) (out : Nat) : Nat := (min n out).toNat
theorem ackN_le (n : Int) (out : Nat) : ackN n out ≤ out := by unfold ackN; omega

theorem bCut {w : World} {F : Nat → Prop} {b c : Nat} {sv : Value} {l : List Value} {most : Int} {out : Nat} {bs : List (List Int)} (h : IsBk w b c sv l most out bs) (h2 : ∀ x, F x ↔ ftBk b c sv l x) (n : Int) (m : Nat) (hm : min (max n 0) (bs.length : Int) = m) (hl : bs.length ≤ 100000) :
    Calls Try.prog 30 #[.pointer (some ⟨c, 0, none⟩), .int .i64 n] w fun e w' => e = .returned (.int .i64 m) ∧ w'.heap[b]? = w.heap[b]? ∧ ∃ sv' F', IsQB w' 0 c most sv' (l.drop m) ∧ ItemsB w' (l.drop m) (bs.drop m) ∧ (∀ x, F' x ↔ ftBk b c sv' (l.drop m) x) ∧ Stp F F' w w' := by
  have hlen := h.it.1
  by_cases h0 : m = 0
  · subst h0
    refine (cutNoB n c most sv l w 0 h.q (by rw [hlen]; exact hm)).mono fun e w' ⟨he, hw⟩ => ?_
    subst hw
    exact ⟨he, rfl, sv, F, by simpa using h.q, by simpa using h.it, by simpa using h2, Stp.refl _ _⟩
  · refine (cutYesB n m c most sv l w 0 (Nat.zero_le _) h.q (by rw [hlen]; exact hm) (by omega) (by omega)).mono fun e w' ⟨he, sv', q, m', f⟩ => ?_
    have it := h.items (f.mono (fun _ _ e => .inr (.inl e)))
    refine ⟨he, f.blk b (lt_of_block h.blk) (fun e => h.ne (.inl e)), sv', _, q, ⟨by rw [List.length_drop, List.length_drop, hlen], fun j v x hv hx => it.2 (m + j) v x (by rw [List.getElem?_drop] at hv; exact hv) (by rw [List.getElem?_drop] at hx; exact hx)⟩, fun _ => Iff.rfl, f.mono (fun i _ e => (h2 i).2 (.inr (.inl (.inl e)))), fun y e => ?_⟩
    rcases e with rfl | (rfl | e) | ⟨v, hv, e⟩
    · exact .inl ((h2 _).2 (.inl rfl))
    · exact .inl ((h2 _).2 (.inr (.inl (.inl rfl))))
    · exact (m' y e).imp (fun q => (h2 _).2 (.inr (.inl (.inr q)))) id
    · exact .inl ((h2 _).2 (.inr (.inr ⟨v, List.mem_of_mem_drop hv, e⟩)))

theorem bAcked {w : World} {F : Nat → Prop} {b : Nat} {most : Int} {out : Nat} {bs : List (List Int)} (h : BkA w F b most out bs) (n : Int) (hl : bs.length ≤ 100000) :
    Calls Try.prog 12 #[.pointer (some ⟨b, 0, none⟩), .int .i64 n] w fun e w' => e = .returned (.int .i64 (ackN n out)) ∧ ∃ F', BkA w' F' b most (out - ackN n out) (bs.drop (ackN n out)) ∧ Stp F F' w w' := by
  obtain ⟨c, sv, l, h1, h2⟩ := h
  have hle := h1.le
  have c1 := h1.c1
  have hout : (out : Int) ≤ 100000 := by omega
  have hk := ackN_le n out
  have hm : min (max (min n (out : Int)) 0) (bs.length : Int) = (ackN n out : Int) := by unfold ackN; omega
  obtain ⟨k, hkk⟩ : ∃ k, k = ackN n out := ⟨_, rfl⟩
  rw [← hkk] at hk hm ⊢
  have H := Lib.hid h1
  have Hm := Lib.hid hm
  have Hk := Lib.hid hk
  clear h1 hm hkk hk
  have tail : ∀ w2 sv' (F' : Nat → Prop), w2.heap[b]? = w.heap[b]? → IsQB w2 0 c most sv' (l.drop k) → ItemsB w2 (l.drop k) (bs.drop k) → (∀ x, F' x ↔ ftBk b c sv' (l.drop k) x) → Stp F F' w w2 →
      w2.cell? ⟨b, 1, none⟩ = some (.int .i64 out) ∧ w2.frozen? ⟨b, 1, none⟩ = false ∧ Hid (∃ F', BkA (w2.setCell ⟨b, 1, none⟩ (.int .i64 ((out : Int) - k))) F' b most (out - k) (bs.drop k) ∧ Stp F F' w (w2.setCell ⟨b, 1, none⟩ (.int .i64 ((out : Int) - k)))) := fun w2 sv' F' hb q it hF s => by
    have hblk := hb.trans H.out.blk
    have hk := Hk.out
    have f : Fr (fun x => x = b) w2 (w2.setCell ⟨b, 1, none⟩ (.int .i64 ((out : Int) - k))) := (Fr.refl (fun x => x = b) _).setCell (p := ⟨b, 1, none⟩) (fun _ => rfl) _
    have hne : ¬ ftp c sv' b := fun e => by
      rcases e with rfl | e
      · rw [q.blk] at hblk; cases hblk
      · exact own_ne q.own hblk (by decide) e
    refine ⟨blk_cell hblk 1, blk_free hblk 1, F', ⟨c, sv', l.drop k, ⟨?_, q.fr f (fun e => hne (.inl e.symm)) (fun g hg e => hne (.inr (by rw [hg, e]))), it.keep (fun v hv g hg => f.blk g (it.lt hv hg) (fun e => ?_)), by rw [List.length_drop]; omega⟩, hF⟩, s.trans ⟨f.mono (fun x _ e => (hF x).2 (.inl e)), fun _ e => .inl e⟩⟩
    · have := heap_setCell_same hblk (i := 1) (.int .i64 ((out : Int) - k))
      rw [this, show ((out - k : Nat) : Int) = (out : Int) - k by omega]
      rfl
    · subst e
      obtain ⟨x, ox⟩ := it.type hv hg
      exact own_ne ox hblk (by decide) hg
  have Tail := Lib.hid tail
  clear tail
  have hk1 : (k : Int) ≤ out := by have := Hk.out; omega
  by_cases hn : n ≤ (out : Int)
  all_goals
    go_enter Try.func12, Try.ntmps12
    go_wp2_with fail
    refine (bRow b c w H.out.c0).mono ?_
    rintro e w1 ⟨rfl, rfl⟩
    go_wp2_with fail
    refine (bOut b out w1 c1).mono ?_
    rintro e w1 ⟨rfl, rfl⟩
    go_wp2_with fail
  · refine (bCut H.out h2 n k (by have := Hm.out; omega) hl).mono ?_
    rintro e w2 ⟨rfl, hb, sv', F', q, it, hF, s⟩
    obtain ⟨d1, z1, fin⟩ := Tail.out w2 sv' F' hb q it hF s
    clear hb q it hF s
    go_wp2_with fail
    go_ret
    exact ⟨rfl, fin.out⟩
  · refine (bCut H.out h2 out k (by have := Hm.out; omega) hl).mono ?_
    rintro e w2 ⟨rfl, hb, sv', F', q, it, hF, s⟩
    obtain ⟨d1, z1, fin⟩ := Tail.out w2 sv' F' hb q it hF s
    clear hb q it hF s
    go_wp2_with fail
    go_ret
    exact ⟨rfl, fin.out⟩

theorem bAgain {w : World} {F : Nat → Prop} {b : Nat} {most : Int} {out : Nat} {bs : List (List Int)} (h : BkA w F b most out bs) :
    Calls Try.prog 15 #[.pointer (some ⟨b, 0, none⟩)] w fun e w' => e = .returned (.int .i64 out) ∧ BkA w' F b most 0 bs ∧ Stp F F w w' := by
  obtain ⟨c, sv, l, h1, h2⟩ := h
  have c1 := h1.c1
  have z1 : w.frozen? ⟨b, 1, none⟩ = false := blk_free h1.blk 1
  have fin : Hid (BkA (w.setCell ⟨b, 1, none⟩ (.int .i64 0)) F b most 0 bs ∧ Stp F F w (w.setCell ⟨b, 1, none⟩ (.int .i64 0))) :=
    ⟨⟨c, sv, l, h1.setOut 0 (Nat.zero_le _), h2⟩, (Fr.refl F w).setCell (p := ⟨b, 1, none⟩) (fun _ => (h2 b).2 (.inl rfl)) _, fun _ e => .inl e⟩
  clear h1 h2
  go_enter Try.func15, Try.ntmps15
  go_wp2_with fail
  refine (bOut b out w c1).mono ?_
  rintro e w1 ⟨rfl, rfl⟩
  go_wp2_with fail
  go_ret
  exact ⟨rfl, fin.out⟩

theorem bClear {w : World} {F : Nat → Prop} {b : Nat} {most : Int} {out : Nat} {bs : List (List Int)} (h : BkA w F b most out bs) (hl : bs.length ≤ 100000) :
    Calls Try.prog 23 #[.pointer (some ⟨b, 0, none⟩)] w fun e w' => e = .returned (.int .i64 bs.length) ∧ ∃ F', BkA w' F' b most 0 [] ∧ Stp F F' w w' := by
  have H := Lib.hid h
  clear h
  go_enter Try.func23, Try.ntmps23
  go_wp2_with fail
  refine (bAgain H.out).mono ?_
  rintro e w1 ⟨rfl, h3, s3⟩
  have H3 := Lib.hid h3
  have S3 := Lib.hid s3
  clear h3 s3
  obtain ⟨c, sv, l, h1, h2⟩ := H3.out
  have H1 := Lib.hid h1
  clear h1
  go_wp2_with fail
  refine (bRow b c w1 H1.out.c0).mono ?_
  rintro e w2 ⟨rfl, rfl⟩
  go_wp2_with fail
  refine (bLen' H1.out).mono ?_
  rintro e w2 ⟨rfl, rfl⟩
  go_wp2_with fail
  refine (bCut H1.out h2 bs.length bs.length (by omega) hl).mono ?_
  rintro e w3 ⟨rfl, hb, sv', F', q, it, hF, s⟩
  have fin : Hid (∃ F', BkA w3 F' b most 0 [] ∧ Stp F F' w w3) := by
    rw [List.drop_length] at it
    exact ⟨F', ⟨c, sv', _, ⟨hb.trans H1.out.blk, q, it, Nat.le_refl _⟩, hF⟩, S3.out.trans s⟩
  clear hb q it hF s
  go_wp2_with fail
  go_ret
  exact ⟨rfl, fin.out⟩
end Go.Proofs.Ytlpkjnafmknddaa
