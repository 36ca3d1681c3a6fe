/-
  Package lan: the line's row with its frames' bytes: Send, Pass, Twice, Lost.
-/
import Derived.Test.YteihpaikdpdglaaLanB
namespace Go.Proofs.Yteihpaikdpdglaa
open Go.RowKit
set_option linter.unusedVariables false


/-- A frame's slice holds these bytes, it is so old. -/
def FlB (w : World) (f : Fl) (p : List Int × Int) : Prop := OwnB 0 w f.v p.1 ∧ f.age = p.2
abbrev lnS (t c : Nat) (sv : Value) : Nat → Prop := fun b => b = t ∨ b = c ∨ sv.ownBlock = some b
/-- Two rows, one by one. -/
def All2 (R : Fl → (List Int × Int) → Prop) : List Fl → List (List Int × Int) → Prop
  | [], [] => True
  | f :: fl, p :: l => R f p ∧ All2 R fl l
  | _, _ => False
/-- No two of them share a block. -/
def Dj (vs : List Value) : Prop := List.Pairwise (fun a b => ∀ g, a.ownBlock = some g → b.ownBlock ≠ some g) vs
theorem Dj.perm {vs vs' : List Value} (h : Dj vs) (p : vs.Perm vs') : Dj vs' := (List.Perm.pairwise_iff (fun {x y} h g hg e => h g e hg) p).1 h
theorem Dj.add {vs : List Value} {v : Value} (h : Dj vs) (hv : ∀ u ∈ vs, ∀ g, u.ownBlock = some g → v.ownBlock ≠ some g) : Dj (v :: vs) := List.pairwise_cons.2 ⟨fun u hu g hg e => hv u hu g e hg, h⟩
/-- A line whose row from 0 to 1 holds l; rows of bytes that are kept besides. -/
structure LnX (w0 w : World) (t st : Nat) (life lost : Int) (c : Nat) (most : Int) (l : List (List Int × Int)) (kr : List (Value × List Int)) : Prop where
  ex : ∃ rv ps sv fl, LnI w t st life lost rv ps c most sv fl ∧ (∀ b, lnS t c sv b → w0.heap.size ≤ b) ∧ All2 (FlB w) fl l ∧ Dj (fl.map Fl.v ++ kr.map Prod.fst) ∧ (∀ u ∈ fl.map Fl.v, ∀ g, u.ownBlock = some g → w0.heap.size ≤ g)
  bel : Below w0.heap.size w0 w
  kept : ∀ r ∈ kr, OwnB 0 w r.1 r.2
section
variable {w0 w w' : World} {t st : Nat} {life lost : Int} {rv : Value} {ps : List Nat} {c : Nat} {most : Int} {sv : Value} {fl : List Fl} {l : List (List Int × Int)} {kr : List (Value × List Int)}
theorem lnS_ne (h : LnI w t st life lost rv ps c most sv fl) {b : Nat} {cs : Array Value} {ty : TypeId} {fr : Nat × Nat} (hb : w.heap[b]? = some (.cells cs ty fr)) (h1 : ty ≠ 69) (h2 : ty ≠ 88) (h3 : ty ≠ 39) : ¬ lnS t c sv b := by
  rintro (rfl | rfl | e)
  · rw [h.blk] at hb; cases hb; exact h1 rfl
  · rw [h.q.blk] at hb; cases hb; exact h2 rfl
  · exact own_ne h.q.own hb h3 e
theorem ownB_fr {v : Value} {b : List Int} (h : LnI w t st life lost rv ps c most sv fl) (o : OwnB 0 w v b) (f : Fr (lnS t c sv) w w') : OwnB 0 w' v b := o.fr f (fun g hg e => by
  obtain ⟨cur, hc⟩ := own_type o hg
  exact lnS_ne h hc (by decide) (by decide) (by decide) e)
theorem ownB_below {v : Value} {b : List Int} (o : OwnB 0 w v b) (hb : Below w.heap.size w w') : OwnB 0 w' v b := o.keep (fun g hg => hb.block g (own_lt o hg))
theorem forall_imp {R R' : Fl → (List Int × Int) → Prop} : ∀ {fl : List Fl} {l : List (List Int × Int)}, All2 R fl l → (∀ f p, R f p → R' f p) → All2 R' fl l
  | [], [], _, _ => trivial
  | _ :: _, _ :: _, h, hi => ⟨hi _ _ h.1, forall_imp h.2 hi⟩
  | [], _ :: _, h, _ => h.elim
  | _ :: _, [], h, _ => h.elim
theorem forall_len {R : Fl → (List Int × Int) → Prop} : ∀ {fl : List Fl} {l : List (List Int × Int)}, All2 R fl l → fl.length = l.length
  | [], [], _ => rfl
  | _ :: _, _ :: _, h => by rw [List.length_cons, List.length_cons, forall_len h.2]
  | [], _ :: _, h => h.elim
  | _ :: _, [], h => h.elim
theorem forall_app {R : Fl → (List Int × Int) → Prop} : ∀ {fl fl' : List Fl} {l l' : List (List Int × Int)}, All2 R fl l → All2 R fl' l' → All2 R (fl ++ fl') (l ++ l')
  | [], _, [], _, _, h' => h'
  | _ :: _, _, _ :: _, _, h, h' => ⟨h.1, forall_app h.2 h'⟩
  | [], _, _ :: _, _, h, _ => h.elim
  | _ :: _, _, [], _, h, _ => h.elim
theorem LnX.below (h : LnX w0 w t st life lost c most l kr) (hb : Below w.heap.size w w') : LnX w0 w' t st life lost c most l kr := by
  obtain ⟨rv, ps, sv, fl, h1, h2, h3, h4⟩ := h.ex
  exact ⟨⟨rv, ps, sv, fl, h1.below hb, h2, forall_imp h3 (fun f p e => ⟨ownB_below e.1 hb, e.2⟩), h4⟩, h.bel.trans (hb.mono h.bel.size), fun r hr => ownB_below (h.kept r hr) hb⟩
theorem LnX.le (h : LnX w0 w t st life lost c most l kr) : (l.length : Int) ≤ most ∧ most ≤ 10000 := by
  obtain ⟨rv, ps, sv, fl, h1, h2, h3, h4⟩ := h.ex
  rw [← forall_len h3]
  exact ⟨h1.q.le, h1.q.m0.2⟩
/-- Each of the rows lies in memory that there is. -/
theorem own_all {fl : List Fl} {l : List (List Int × Int)} {kr : List (Value × List Int)} (h : All2 (FlB w) fl l) (hk : ∀ r ∈ kr, OwnB 0 w r.1 r.2) : ∀ u ∈ fl.map Fl.v ++ kr.map Prod.fst, ∀ g, u.ownBlock = some g → g < w.heap.size := by
  intro u hu g hg
  rcases List.mem_append.1 hu with hu | hu
  · obtain ⟨f, hf, rfl⟩ := List.mem_map.1 hu
    have : ∀ (fl : List Fl) (l : List (List Int × Int)), All2 (FlB w) fl l → ∀ f ∈ fl, ∃ p, FlB w f p := by
      intro fl
      induction fl with
      | nil => intro l h f hf; cases hf
      | cons x fl ih =>
        intro l h f hf
        cases l with
        | nil => exact h.elim
        | cons p l =>
          rcases List.mem_cons.1 hf with rfl | hf
          · exact ⟨p, h.1⟩
          · exact ih l h.2 f hf
    obtain ⟨p, hp⟩ := this fl l h f hf
    exact own_lt hp.1 hg
  · obtain ⟨r, hr, rfl⟩ := List.mem_map.1 hu
    exact own_lt (hk r hr) hg
theorem dj_new {fl : List Fl} {kv : List Value} {x : Fl} {B : Nat} (h : Dj (fl.map Fl.v ++ kv)) (ha : ∀ u ∈ fl.map Fl.v ++ kv, ∀ g, u.ownBlock = some g → g < B) (hx : ∀ g, x.v.ownBlock = some g → B ≤ g) : Dj ((fl ++ [x]).map Fl.v ++ kv) := by
  have h1 : Dj (x.v :: (fl.map Fl.v ++ kv)) := h.add (fun u hu g hg e => by have := ha u hu g hg; have := hx g e; omega)
  refine h1.perm ?_
  rw [List.map_append, List.append_assoc]
  exact (List.perm_middle (l₁ := fl.map Fl.v) (l₂ := kv) (a := x.v)).symm
/-- The row's queue turns. -/
theorem LnI.turn {sv' : Value} {fl' : List Fl} (h : LnI w t st life lost rv ps c most sv fl) (q : IsF w' c most sv' fl') (f : Fr (lnS t c sv) w w') {lost' : Int} (hb : w'.heap[t]? = some (.cells #[.int .i64 st, .int .i64 life, .int .i64 lost', rv] 69 (0, 0))) : LnI w' t st life lost' rv ps c most sv' fl' :=
  ⟨hb, h.rows.fr f (fun g hg e => by
    obtain ⟨cur, hc⟩ := own_type h.rows hg
    exact lnS_ne h hc (by decide) (by decide) (by decide) e), h.sts, h.len, h.at', q, by
    obtain ⟨c2, h1, h2, h3⟩ := h.oth
    refine ⟨c2, h1, h2, f.heap h3 ?_⟩
    rintro (e | e | e)
    · subst e; have h4 := h.blk; rw [h3] at h4; cases h4
    · exact h2 e
    · exact own_ne h.q.own h3 (by decide) e⟩
end

set_option maxHeartbeats 2000000 in
theorem xsendYes {w0 w : World} {t st : Nat} {life lost : Int} {c : Nat} {most : Int} {l : List (List Int × Int)} {kr : List (Value × List Int)} (h : LnX w0 w t st life lost c most l kr) (v : Value) (b : List Int) (hv : RdB w v b) (hb : b.length ≤ 1000000) (hf : (l.length : Int) < most) :
    Calls Try.prog 13 #[.pointer (some ⟨t, 0, none⟩), .int .i64 0, .int .i64 1, v] w fun e w' => e = .returned (.bool true) ∧ LnX w0 w' t st life lost c most (l ++ [(b, 0)]) kr := by
  obtain ⟨rv, ps, sv, fl, h1, h2, h3, h4⟩ := h.ex
  obtain ⟨va, vc, rfl⟩ := hv.len
  have H4 := Lib.hid h4
  have H := Lib.hid h
  have H1 := Lib.hid h1
  have H2 := Lib.hid h2
  have H3 := Lib.hid h3
  have HV := Lib.hid hv
  have HF : Hid ((fl.length : Int) < most) := by unfold Hid; rw [forall_len h3]; exact hf
  clear h h1 h2 h3 h4 hv hf
  go_enter Try.func13, Try.ntmps13
  go_wp2_with fail
  refine (rowL H1.out).mono ?_
  rintro e w1 ⟨rfl, b1⟩
  have B1 := Lib.hid b1
  clear b1
  go_wp2_with fail
  refine (cloneB _ b w1 (HV.out.fr B1.out) hb).mono ?_
  rintro e w2 ⟨v', rfl, o2, b2⟩
  obtain ⟨a2, c2, hv2, _⟩ := own_shape o2
  subst hv2
  have O2 := Lib.hid (show OwnB 0 w2 (.slice a2 b.length c2) b from own_zero o2)
  have HG2 : Hid (∀ g, (Value.slice a2 b.length c2).ownBlock = some g → w.heap.size ≤ g) := fun g hg => Nat.le_trans B1.out.size (o2.lt g hg).1
  have B2 := Lib.hid (B1.out.trans (b2.mono B1.out.size))
  have H12 := Lib.hid (H1.out.below B2.out)
  clear b2 o2
  go_wp2_with fail
  refine (putYesF ⟨a2, b.length, c2, 0⟩ w2 H12.out.q HF.out).mono ?_
  rintro e w3 ⟨rfl, sv', q3, m3, f3⟩
  have F3 := Lib.hid (f3.mono (T := lnS t c sv) (fun _ _ e => .inr e))
  have fin : Hid (LnX w0 w3 t st life lost c most (l ++ [(b, 0)]) kr) := by
    have hX := H.out.below B2.out
    have hbt : w3.heap[t]? = some (.cells #[.int .i64 st, .int .i64 life, .int .i64 lost, rv] 69 (0, 0)) := f3.heap H12.out.blk (by
      rintro (e | e)
      · subst e; have h1 := H12.out.blk; rw [H12.out.q.blk] at h1; cases h1
      · exact own_ne H12.out.q.own H12.out.blk (by decide) e)
    refine ⟨⟨rv, ps, sv', fl ++ [⟨a2, b.length, c2, 0⟩], H12.out.turn q3 F3.out hbt, fun x hx => ?_, forall_app (forall_imp H3.out (fun f p e => ⟨ownB_fr H12.out (ownB_below e.1 B2.out) F3.out, e.2⟩)) ⟨⟨ownB_fr H12.out O2.out F3.out, rfl⟩, trivial⟩, ⟨dj_new H4.out.1 (fun u hu => own_all H3.out H.out.kept u hu) HG2.out, fun u hu g hg => by
      rw [List.map_append] at hu
      rcases List.mem_append.1 hu with hu | hu
      · exact H4.out.2 u hu g hg
      · rw [List.map_cons, List.map_nil] at hu
        rw [List.mem_singleton.1 hu] at hg
        exact Nat.le_trans H.out.bel.size (HG2.out g hg)⟩⟩, hX.bel.trans (F3.out.below' hX.bel.size H2.out), fun r hr => ownB_fr H12.out (hX.kept r hr) F3.out⟩
    rcases hx with e | e | e
    · exact H2.out x (.inl e)
    · exact H2.out x (.inr (.inl e))
    · rcases m3 x e with e | e
      · exact H2.out x (.inr (.inr e))
      · exact Nat.le_trans hX.bel.size e
  clear q3 m3 f3
  go_wp2_with fail
  go_ret
  exact ⟨rfl, fin.out⟩

set_option maxHeartbeats 2000000 in
theorem xsendNo {w0 w : World} {t st : Nat} {life lost : Int} {c : Nat} {most : Int} {l : List (List Int × Int)} {kr : List (Value × List Int)} (h : LnX w0 w t st life lost c most l kr) (v : Value) (b : List Int) (hv : RdB w v b) (hb : b.length ≤ 1000000) (hf : most ≤ (l.length : Int)) (hlo : 0 ≤ lost ∧ lost ≤ 1000000000) :
    Calls Try.prog 13 #[.pointer (some ⟨t, 0, none⟩), .int .i64 0, .int .i64 1, v] w fun e w' => e = .returned (.bool false) ∧ LnX w0 w' t st life (lost + 1) c most l kr := by
  obtain ⟨rv, ps, sv, fl, h1, h2, h3, h4⟩ := h.ex
  obtain ⟨va, vc, rfl⟩ := hv.len
  have H4 := Lib.hid h4
  have H := Lib.hid h
  have H1 := Lib.hid h1
  have H2 := Lib.hid h2
  have H3 := Lib.hid h3
  have HV := Lib.hid hv
  have HF : Hid (most ≤ (fl.length : Int)) := by unfold Hid; rw [forall_len h3]; exact hf
  clear h h1 h2 h3 h4 hv hf
  obtain ⟨hl0, hl1⟩ := hlo
  go_enter Try.func13, Try.ntmps13
  go_wp2_with fail
  refine (rowL H1.out).mono ?_
  rintro e w1 ⟨rfl, b1⟩
  have B1 := Lib.hid b1
  clear b1
  go_wp2_with fail
  refine (cloneB _ b w1 (HV.out.fr B1.out) hb).mono ?_
  rintro e w2 ⟨v', rfl, o2, b2⟩
  obtain ⟨a2, c2, hv2, _⟩ := own_shape o2
  subst hv2
  have B2 := Lib.hid (B1.out.trans (b2.mono B1.out.size))
  have H12 := Lib.hid (H1.out.below B2.out)
  clear b2 o2
  go_wp2_with fail
  refine (putNoF ⟨a2, b.length, c2, 0⟩ w2 H12.out.q HF.out).mono ?_
  rintro e w3 ⟨rfl, b3⟩
  have B3 := Lib.hid (B2.out.trans (b3.mono B2.out.size))
  have H13 := Lib.hid (H1.out.below B3.out)
  clear b3
  have k2 : w3.cell? ⟨t, 2, none⟩ = some (.int .i64 lost) := blk_cell H13.out.blk 2
  have z2 : w3.frozen? ⟨t, 2, none⟩ = false := blk_free H13.out.blk 2
  have fs : Fr (lnS t c sv) w3 (w3.setCell ⟨t, 2, none⟩ (.int .i64 (lost + 1))) := (Fr.refl (lnS t c sv) w3).setCell (p := ⟨t, 2, none⟩) (fun _ => .inl rfl) _
  have hbt : (w3.setCell ⟨t, 2, none⟩ (.int .i64 (lost + 1))).heap[t]? = some (.cells #[.int .i64 st, .int .i64 life, .int .i64 (lost + 1), rv] 69 (0, 0)) := by have := set_heap_same H13.out.blk (i := 2) (.int .i64 (lost + 1)); simpa using this
  have fin : Hid (LnX w0 (w3.setCell ⟨t, 2, none⟩ (.int .i64 (lost + 1))) t st life (lost + 1) c most l kr) := by
    have hX := H.out.below B3.out
    have fb : Fr (fun b => b = t) w3 (w3.setCell ⟨t, 2, none⟩ (.int .i64 (lost + 1))) := (Fr.refl (fun b => b = t) w3).setCell (p := ⟨t, 2, none⟩) (fun _ => rfl) _
    have hq : IsF (w3.setCell ⟨t, 2, none⟩ (.int .i64 (lost + 1))) c most sv fl := H13.out.q.keep (fb.blk c (lt_of_block H13.out.q.blk) (fun e => by
      have e : c = t := e
      subst e; have h1 := H13.out.blk; rw [H13.out.q.blk] at h1; cases h1)) (fun g hg => fb.blk g (own_lt H13.out.q.own hg) (fun e => by
      have e : g = t := e
      subst e; exact own_ne H13.out.q.own H13.out.blk (by decide) hg))
    exact ⟨⟨rv, ps, sv, fl, H13.out.turn hq fs hbt, H2.out, forall_imp H3.out (fun f p e => ⟨ownB_fr H13.out (ownB_below e.1 B3.out) fs, e.2⟩), H4.out⟩, hX.bel.trans (fs.below' hX.bel.size H2.out), fun r hr => ownB_fr H13.out (hX.kept r hr) fs⟩
  clear fs hbt
  go_wp2_with fail
  go_ret
  exact ⟨rfl, fin.out⟩
theorem xlost {w0 w : World} {t st : Nat} {life lost : Int} {c : Nat} {most : Int} {l : List (List Int × Int)} {kr : List (Value × List Int)} (h : LnX w0 w t st life lost c most l kr) :
    Calls Try.prog 17 #[.pointer (some ⟨t, 0, none⟩)] w fun e w' => e = .returned (.int .i64 lost) ∧ w' = w := by
  obtain ⟨rv, ps, sv, fl, h1, h2, h3, h4⟩ := h.ex
  exact lostL h1
theorem xsendSame {w0 w : World} {t st : Nat} {life lost : Int} {c : Nat} {most : Int} {l : List (List Int × Int)} {kr : List (Value × List Int)} (h : LnX w0 w t st life lost c most l kr) (v : Value) (hv : ∃ a n k, v = .slice a n k) :
    Calls Try.prog 13 #[.pointer (some ⟨t, 0, none⟩), .int .i64 1, .int .i64 1, v] w fun e w' => e = .returned (.bool false) ∧ w' = w := by
  obtain ⟨rv, ps, sv, fl, h1, h2, h3, h4⟩ := h.ex
  exact sendNoL h1 v hv
end Go.Proofs.Yteihpaikdpdglaa
