/-
  Package back: New, row, Len, Out, Waits, Put.
-/
import Derived.Test.YtlpkjnafmknddaaQue3B
import Derived.Test.YtlpkjnafmknddaaItb
namespace Go.Proofs.Ytlpkjnafmknddaa
open Go.RowKit
set_option linter.unusedVariables false


/-- What a back holds of the heap. -/
def ftBk (b c : Nat) (sv : Value) (l : List Value) : Nat → Prop := fun x => x = b ∨ ftp c sv x ∨ ∃ v ∈ l, v.ownBlock = some x
/-- The same, with all that it is made of. -/
structure IsBk (w : World) (b c : Nat) (sv : Value) (l : List Value) (most : Int) (out : Nat) (bs : List (List Int)) : Prop where
  blk : w.heap[b]? = some (.cells #[.pointer (some ⟨c, 0, none⟩), .int .i64 out] 47 (0, 0))
  q : IsQB w 0 c most sv l
  it : ItemsB w l bs
  le : out ≤ bs.length
/-- The back at b: its rows of bytes, the first 'out' of which are out. -/
def BkA (w : World) (F : Nat → Prop) (b : Nat) (most : Int) (out : Nat) (bs : List (List Int)) : Prop :=
  ∃ c sv l, IsBk w b c sv l most out bs ∧ ∀ x, F x ↔ ftBk b c sv l x

theorem IsBk.lt {w : World} {b c : Nat} {sv : Value} {l : List Value} {most : Int} {out : Nat} {bs : List (List Int)} (h : IsBk w b c sv l most out bs) {x : Nat} (e : ftBk b c sv l x) : x < w.heap.size := by
  rcases e with rfl | (rfl | e) | ⟨v, hv, e⟩
  · exact lt_of_block h.blk
  · exact lt_of_block h.q.blk
  · exact own_lt h.q.own e
  · exact h.it.lt hv e
theorem IsBk.keep {w w' : World} {b c : Nat} {sv : Value} {l : List Value} {most : Int} {out : Nat} {bs : List (List Int)} (h : IsBk w b c sv l most out bs) (hk : ∀ x, ftBk b c sv l x → w'.heap[x]? = w.heap[x]?) : IsBk w' b c sv l most out bs :=
  ⟨(hk b (.inl rfl)).trans h.blk, ⟨(hk c (.inr (.inl (.inl rfl)))).trans h.q.blk, h.q.ge, Own.keep h.q.own (fun g hg => hk g (.inr (.inl (.inr hg)))), h.q.m0, h.q.m1, h.q.one, h.q.le⟩, h.it.keep (fun v hv g hg => hk g (.inr (.inr ⟨v, hv, hg⟩))), h.le⟩
theorem IsBk.below {w w' : World} {b c : Nat} {sv : Value} {l : List Value} {most : Int} {out : Nat} {bs : List (List Int)} (h : IsBk w b c sv l most out bs) (hb : Below w.heap.size w w') : IsBk w' b c sv l most out bs :=
  h.keep (fun x e => hb.block x (h.lt e))
theorem IsBk.c0 {w : World} {b c : Nat} {sv : Value} {l : List Value} {most : Int} {out : Nat} {bs : List (List Int)} (h : IsBk w b c sv l most out bs) : w.cell? ⟨b, 0, none⟩ = some (.pointer (some ⟨c, 0, none⟩)) := blk_cell h.blk 0
theorem IsBk.c1 {w : World} {b c : Nat} {sv : Value} {l : List Value} {most : Int} {out : Nat} {bs : List (List Int)} (h : IsBk w b c sv l most out bs) : w.cell? ⟨b, 1, none⟩ = some (.int .i64 out) := blk_cell h.blk 1
theorem IsBk.ne {w : World} {b c : Nat} {sv : Value} {l : List Value} {most : Int} {out : Nat} {bs : List (List Int)} (h : IsBk w b c sv l most out bs) : ¬ ftp c sv b := fun e => by
  rcases e with rfl | e
  · have h1 := h.blk; rw [h.q.blk] at h1; cases h1
  · exact own_ne h.q.own h.blk (by decide) e
/-- The items are apart from the row and the struct. -/
theorem IsBk.apart {w : World} {b c : Nat} {sv : Value} {l : List Value} {most : Int} {out : Nat} {bs : List (List Int)} (h : IsBk w b c sv l most out bs) {v : Value} (hv : v ∈ l) {g : Nat} (hg : v.ownBlock = some g) : ¬ (g = b ∨ ftp c sv g) := fun e => by
  obtain ⟨x, ox⟩ := h.it.type hv hg
  rcases e with rfl | rfl | e
  · exact own_ne ox h.blk (by decide) hg
  · exact own_ne ox h.q.blk (by decide) hg
  · exact own_sep ox h.q.own (by decide) hg e
/-- What turns the row alone. -/
theorem IsBk.turn {w w' : World} {b c : Nat} {sv sv' : Value} {l l' : List Value} {most : Int} {out : Nat} {bs bs' : List (List Int)} (h : IsBk w b c sv l most out bs) (f : Fr (ftp c sv) w w') (q' : IsQB w' 0 c most sv' l') (it' : ItemsB w' l' bs') (hle : out ≤ bs'.length) : IsBk w' b c sv' l' most out bs' :=
  ⟨f.heap h.blk h.ne, q', it', hle⟩
theorem IsBk.items {w w' : World} {b c : Nat} {sv : Value} {l : List Value} {most : Int} {out : Nat} {bs : List (List Int)} (h : IsBk w b c sv l most out bs) (f : Fr (fun x => x = b ∨ ftp c sv x) w w') : ItemsB w' l bs :=
  h.it.keep (fun v hv g hg => f.blk g (h.it.lt hv hg) (h.apart hv hg))
theorem IsBk.setOut {w : World} {b c : Nat} {sv : Value} {l : List Value} {most : Int} {out : Nat} {bs : List (List Int)} (h : IsBk w b c sv l most out bs) (o : Nat) (ho : o ≤ bs.length) : IsBk (w.setCell ⟨b, 1, none⟩ (.int .i64 o)) b c sv l most o bs := by
  have f : Fr (fun x => x = b) w (w.setCell ⟨b, 1, none⟩ (.int .i64 o)) := (Fr.refl (fun x => x = b) _).setCell (p := ⟨b, 1, none⟩) (fun _ => rfl) _
  exact ⟨by simpa using heap_setCell_same h.blk (i := 1) (.int .i64 o), h.q.fr f (fun e => h.ne (.inl e.symm)) (fun g hg e => h.ne (.inr (by rw [hg, e]))), h.items (f.mono (fun _ _ e => .inl e)), ho⟩

theorem BkA.lt {w : World} {F : Nat → Prop} {b : Nat} {most : Int} {out : Nat} {bs : List (List Int)} (h : BkA w F b most out bs) : ∀ x, F x → x < w.heap.size := fun x e => by
  obtain ⟨c, sv, l, h1, h2⟩ := h
  exact h1.lt ((h2 x).1 e)
theorem BkA.keep {w w' : World} {F : Nat → Prop} {b : Nat} {most : Int} {out : Nat} {bs : List (List Int)} (h : BkA w F b most out bs) (hk : ∀ x, F x → w'.heap[x]? = w.heap[x]?) : BkA w' F b most out bs := by
  obtain ⟨c, sv, l, h1, h2⟩ := h
  exact ⟨c, sv, l, h1.keep (fun x e => hk x ((h2 x).2 e)), h2⟩
theorem BkA.below {w w' : World} {F : Nat → Prop} {b : Nat} {most : Int} {out : Nat} {bs : List (List Int)} (h : BkA w F b most out bs) (hb : Below w.heap.size w w') : BkA w' F b most out bs := h.keep (below_keep hb h.lt)
theorem BkA.le {w : World} {F : Nat → Prop} {b : Nat} {most : Int} {out : Nat} {bs : List (List Int)} (h : BkA w F b most out bs) : out ≤ bs.length ∧ (bs.length : Int) ≤ most := by
  obtain ⟨c, sv, l, h1, h2⟩ := h
  exact ⟨h1.le, by rw [← h1.it.1]; exact h1.q.le⟩

theorem bNew (most : Int) (hm : most ≤ 9223372036854775807) (w : World) : Calls Try.prog 9 #[.int .i64 most] w fun e w' => ∃ b F, e = .returned (.pointer (some ⟨b, 0, none⟩)) ∧ BkA w' F b (max most 0) 0 [] ∧ Below w.heap.size w w' ∧ ∀ x, F x → w.heap.size ≤ x := by
  go_enter Try.func9, Try.ntmps9
  go_wp2_with fail
  refine (newQB most hm w).mono ?_
  rintro e w1 ⟨rfl, hq, hb⟩
  have fin : Hid (IsBk (w1.alloc (.cells #[.pointer (some ⟨w.heap.size, 0, none⟩), .int .i64 0] 47)) w1.heap.size w.heap.size (.slice none 0 0) [] (max most 0) 0 [] ∧ Below w.heap.size w (w1.alloc (.cells #[.pointer (some ⟨w.heap.size, 0, none⟩), .int .i64 0] 47)) ∧ w.heap.size ≤ w1.heap.size) :=
    ⟨⟨heap_alloc_new' w1 _, ⟨(hq.below ((Below.refl _ w1).alloc (Nat.le_refl _) _)).blk, Nat.zero_le _, Own.nil _ _ _ _ _, hq.m0, hq.m1, hq.one, hq.le⟩, ItemsB.nil _, Nat.le_refl _⟩, hb.alloc hb.size _, hb.size⟩
  clear hq hb
  go_wp2_with fail
  go_ret
  refine ⟨_, _, rfl, ⟨_, _, _, fin.out.1, fun _ => Iff.rfl⟩, fin.out.2.1, fun x e => ?_⟩
  rcases e with rfl | (rfl | e) | ⟨v, hv, _⟩
  · exact fin.out.2.2
  · exact Nat.le_refl _
  · simp [Value.ownBlock] at e
  · simp at hv

theorem bRow (b c : Nat) (w : World) (h : w.cell? ⟨b, 0, none⟩ = some (.pointer (some ⟨c, 0, none⟩))) : Calls Try.prog 26 #[.pointer (some ⟨b, 0, none⟩)] w fun e w' => e = .returned (.pointer (some ⟨c, 0, none⟩)) ∧ w' = w := by
  go_enter Try.func26, Try.ntmps26
  go_wp2_with fail
  go_ret
  exact ⟨rfl, rfl⟩
theorem bOut (b : Nat) (out : Nat) (w : World) (h : w.cell? ⟨b, 1, none⟩ = some (.int .i64 out)) : Calls Try.prog 13 #[.pointer (some ⟨b, 0, none⟩)] w fun e w' => e = .returned (.int .i64 out) ∧ w' = w := by
  go_enter Try.func13, Try.ntmps13
  go_wp2_with fail
  go_ret
  exact ⟨rfl, rfl⟩
theorem bLen' {w : World} {b c : Nat} {sv : Value} {l : List Value} {most : Int} {out : Nat} {bs : List (List Int)} (h : IsBk w b c sv l most out bs) : Calls Try.prog 16 #[.pointer (some ⟨b, 0, none⟩)] w fun e w' => e = .returned (.int .i64 bs.length) ∧ w' = w := by
  rw [← h.it.1]
  have H := Lib.hid h
  clear h
  go_enter Try.func16, Try.ntmps16
  go_wp2_with fail
  refine (bRow b c w H.out.c0).mono ?_
  rintro e w' ⟨rfl, rfl⟩
  go_wp2_with fail
  refine (lenQB c most sv l _ 0 H.out.q).mono ?_
  rintro e w' ⟨rfl, rfl⟩
  go_wp2_with fail
  go_ret
  exact ⟨rfl, rfl⟩
theorem bLen {w : World} {F : Nat → Prop} {b : Nat} {most : Int} {out : Nat} {bs : List (List Int)} (h : BkA w F b most out bs) : Calls Try.prog 16 #[.pointer (some ⟨b, 0, none⟩)] w fun e w' => e = .returned (.int .i64 bs.length) ∧ w' = w := by
  obtain ⟨c, sv, l, h1, h2⟩ := h
  exact bLen' h1
theorem bOutA {w : World} {F : Nat → Prop} {b : Nat} {most : Int} {out : Nat} {bs : List (List Int)} (h : BkA w F b most out bs) : Calls Try.prog 13 #[.pointer (some ⟨b, 0, none⟩)] w fun e w' => e = .returned (.int .i64 out) ∧ w' = w := by
  obtain ⟨c, sv, l, h1, h2⟩ := h
  exact bOut b out w h1.c1
theorem bWaits {w : World} {F : Nat → Prop} {b : Nat} {most : Int} {out : Nat} {bs : List (List Int)} (h : BkA w F b most out bs) (hl : bs.length ≤ 100000) : Calls Try.prog 14 #[.pointer (some ⟨b, 0, none⟩)] w fun e w' => e = .returned (.int .i64 ((bs.length : Int) - out)) ∧ w' = w := by
  have hle := h.le.1
  have hl1 : (bs.length : Int) ≤ 100000 := by omega
  have hl2 : (out : Int) ≤ bs.length := by omega
  have H := Lib.hid h
  clear h
  go_enter Try.func14, Try.ntmps14
  go_wp2_with fail
  refine (bLen H.out).mono ?_
  rintro e w' ⟨rfl, rfl⟩
  go_wp2_with fail
  refine (bOutA H.out).mono ?_
  rintro e w' ⟨rfl, rfl⟩
  go_wp2_with fail
  go_ret
  exact ⟨rfl, rfl⟩

/-- What there is behind Put. -/
def putB (most : Int) (bs : List (List Int)) (x : List Int) : List (List Int) := if (bs.length : Int) < most then bs ++ [x] else bs
theorem bPut {w : World} {F : Nat → Prop} {b : Nat} {most : Int} {out : Nat} {bs : List (List Int)} (h : BkA w F b most out bs) {bv : Value} {x : List Int} (hx : RdB w bv x) (hxl : x.length ≤ 1000000) (hl : bs.length ≤ 100000) :
    Calls Try.prog 10 #[.pointer (some ⟨b, 0, none⟩), bv] w fun e w' => e = .returned (.bool (decide ((bs.length : Int) < most))) ∧ ∃ F', BkA w' F' b most out (putB most bs x) ∧ Stp F F' w w' := by
  obtain ⟨c, sv, l, h1, h2⟩ := h
  rw [← h1.it.1] at hl ⊢
  have H := Lib.hid h1
  have HX := Lib.hid hx
  clear h1 hx
  go_enter Try.func10, Try.ntmps10
  go_wp2_with fail
  refine (bRow b c w H.out.c0).mono ?_
  rintro e w1 ⟨rfl, rfl⟩
  go_wp2_with fail
  refine (cloneB bv x w1 HX.out hxl).mono ?_
  rintro e w2 ⟨v', rfl, o2, b2⟩
  obtain ⟨va, vk, hv, _⟩ := own_shape o2
  have O2 := Lib.hid o2
  have B2 := Lib.hid b2
  have H3 := Lib.hid (H.out.below b2)
  have Hv := Lib.hid hv
  clear o2 b2 hv
  go_wp2_with fail
  refine (putQB c most sv l v' w2 0 (Nat.zero_le _) H3.out.q hl ⟨_, _, _, Hv.out⟩).mono ?_
  rintro e w3 ⟨rfl, sv', q3, m3, f3⟩
  have hlen := H3.out.it.1
  have f4 : Fr (fun x => x = b ∨ ftp c sv x) w2 w3 := f3.mono (fun _ _ e => .inr e)
  have it3 := H3.out.items f4
  have o3 : OwnB w1.heap.size w3 v' x := O2.out.fr f3 (fun g hg e => by
    have hg1 := (O2.out.lt _ hg).1
    rcases e with rfl | e
    · have := lt_of_block H.out.q.blk; omega
    · have := own_lt H.out.q.own e; omega)
  have fin : Hid (∃ F', BkA w3 F' b most out (putB most bs x) ∧ Stp F F' w1 w3) := by
    have fw : Fr F w1 w3 := (Fr.of_below B2.out F).trans' f3 (fun _ _ e => e) (fun i _ e => (h2 i).2 (.inr (.inl e)))
    by_cases hlt : (l.length : Int) < most
    · have e1 : putL most l v' = l ++ [v'] := if_pos hlt
      have e2 : putB most bs x = bs ++ [x] := if_pos (by rw [← hlen]; exact hlt)
      rw [e1] at q3
      rw [e2]
      refine ⟨_, ⟨c, sv', l ++ [v'], H3.out.turn f3 q3 (it3.snoc (own_zero o3)) (by have := H3.out.le; simp; omega), fun _ => Iff.rfl⟩, fw, fun y e => ?_⟩
      rcases e with rfl | (rfl | e) | ⟨v, hv, e⟩
      · exact .inl ((h2 _).2 (.inl rfl))
      · exact .inl ((h2 _).2 (.inr (.inl (.inl rfl))))
      · exact (m3 y e).imp (fun q => (h2 _).2 (.inr (.inl (.inr q)))) (fun q => Nat.le_trans B2.out.size q)
      · rcases List.mem_append.1 hv with hv | hv
        · exact .inl ((h2 _).2 (.inr (.inr ⟨v, hv, e⟩)))
        · rw [List.mem_singleton.1 hv] at e
          exact .inr (o3.lt y e).1
    · have e1 : putL most l v' = l := if_neg hlt
      have e2 : putB most bs x = bs := if_neg (by rw [← hlen]; exact hlt)
      rw [e1] at q3
      rw [e2]
      refine ⟨_, ⟨c, sv', l, H3.out.turn f3 q3 it3 H3.out.le, fun _ => Iff.rfl⟩, fw, fun y e => ?_⟩
      rcases e with rfl | (rfl | e) | ⟨v, hv, e⟩
      · exact .inl ((h2 _).2 (.inl rfl))
      · exact .inl ((h2 _).2 (.inr (.inl (.inl rfl))))
      · exact (m3 y e).imp (fun q => (h2 _).2 (.inr (.inl (.inr q)))) (fun q => Nat.le_trans B2.out.size q)
      · exact .inl ((h2 _).2 (.inr (.inr ⟨v, hv, e⟩)))
  clear q3 m3 f3 f4 it3 o3 hlen
  cases hd : decide ((l.length : Int) < most)
  all_goals
    have Hd := Lib.hid hd
    clear hd
    go_wp2_with fail
    go_ret
    exact ⟨by rw [Hd.out]; rfl, fin.out⟩
end Go.Proofs.Ytlpkjnafmknddaa
