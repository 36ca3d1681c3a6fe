/-
  Package lan: Send, Pass, Drop, at any row.
-/
import Derived.Test.YteihpaikdpdglaaGlP
namespace Go.Proofs.Yteihpaikdpdglaa
open Go.RowKit
set_option linter.unusedVariables false


abbrev qS (c : Nat) (sv : Value) : Nat → Prop := fun b => b = c ∨ sv.ownBlock = some b
theorem ownB_q {w w' : World} {c : Nat} {most : Int} {sv v : Value} {fl : List Fl} {b : List Int} (h : IsF w c most sv fl) (o : OwnB 0 w v b) (f : Fr (qS c sv) w w') : OwnB 0 w' v b := o.fr f (fun g hg e => by
  obtain ⟨cur, hc⟩ := own_type o hg
  rcases e with e | e
  · subst e; rw [h.blk] at hc; cases hc
  · exact own_ne h.own hc (by decide) e)
/-- Its queue has turned. -/
theorem QX.of_q {w w2 w' : World} {F : Nat → Prop} {c : Nat} {most : Int} {sv sv' : Value} {fl fl' : List Fl} {l' : FlA} (h : IsF w c most sv fl) (hc : F c) (hsv : ∀ g, sv.ownBlock = some g → F g) (hlt : ∀ b, F b → b < w.heap.size)
    (hb : Below w.heap.size w w2) (q : IsF w' c most sv' fl') (m : ∀ g, sv'.ownBlock = some g → sv.ownBlock = some g ∨ w.heap.size ≤ g) (f : Fr (qS c sv) w2 w') (ha : All2 (FlB w') fl' l') (hd : Dj (fl'.map Fl.v))
    (hf : ∀ u ∈ fl'.map Fl.v, ∀ g, u.ownBlock = some g → F g ∨ w.heap.size ≤ g) : ∃ F', QX w' F' c most l' ∧ Stp F F' w w' ∧ (∀ b, F b → F' b) := by
  have hsz : w.heap.size ≤ w'.heap.size := Nat.le_trans hb.size f.size
  have fw : Fr F w w' := (Fr.of_below hb _).trans' (f.mono (fun b _ e => by
    rcases e with e | e
    · rw [e]; exact hc
    · exact hsv b e)) (fun _ _ e => e) (fun _ _ e => e)
  have hq := lt_of_block q.blk
  refine ⟨fun b => F b ∨ (w.heap.size ≤ b ∧ b < w'.heap.size), ⟨⟨sv', fl', q, ha, hd, fun g hg => ?_, fun u hu g hg => ?_⟩, .inl hc, fun b hb => ?_⟩, ⟨fw, fun b hb => hb.imp id (fun e => e.1)⟩, fun b hb => .inl hb⟩
  · rcases m g hg with e | e
    · exact .inl (hsv g e)
    · exact .inr ⟨e, own_lt q.own hg⟩
  · rcases hf u hu g hg with e | e
    · exact .inl e
    · refine .inr ⟨e, ?_⟩
      exact own_all ha (kr := []) (fun r hr => (by cases hr)) u (by simpa using hu) g hg
  · rcases hb with hb | hb
    · exact Nat.lt_of_lt_of_le (hlt b hb) hsz
    · exact hb.2
theorem all2_map {w w' : World} {fl : List Fl} {l : FlA} (h : All2 (FlB w) fl l) (hi : ∀ v b, OwnB 0 w v b → OwnB 0 w' v b) : All2 (FlB w') fl l := forall_imp h (fun f p e => ⟨hi _ _ e.1, e.2⟩)
section
variable {w : World} {F : Nat → Prop} {t st : Nat} {life lost most : Int} {qs : List FlA}
theorem getD_get {k : Nat} (h : k < qs.length) : qs.getD k [] = qs[k] := by rw [List.getD_eq_getElem?_getD, List.getElem?_eq_getElem h]; rfl
/-- A row of the line, and what becomes of the line, where that row turns. -/
theorem LGi.row {rv : Value} {ps : List Nat} {Fs : Nat → Nat → Prop} (h : LGi w F t st life lost most qs rv ps Fs) {k : Nat} (hi : k < ps.length) : QX w (Fs k) ps[k] most (qs.getD k []) := by
  have hq : k < qs.length := by rw [h.qlen, ← h.len]; exact hi
  rw [getD_get hq]
  exact h.q k hi hq
theorem LG.okAt (h : LG w F t st life lost most qs) {k : Nat} (hk : k < st * st) : ∀ p ∈ qs.getD k [], OkFr life p := by
  have hq : k < qs.length := by rw [h.qlen]; exact hk
  rw [getD_get hq]
  exact h.ok.1 _ (List.getElem_mem hq)
theorem LGi.set_same {rv : Value} {ps : List Nat} {Fs : Nat → Nat → Prop} {qs' : List FlA} (h : LGi w F t st life lost most qs rv ps Fs) (e : qs' = qs) : LGi w F t st life lost most qs' rv ps Fs := by rw [e]; exact h

set_option maxHeartbeats 2000000 in
theorem sendG (h : LG w F t st life lost most qs) (v : Value) (b : List Int) (hv : RdB w v b) (hb : b.length ≤ 1000) (hby : ∀ x ∈ b, 0 ≤ x ∧ x ≤ 255) (hlo : 0 ≤ lost ∧ lost ≤ 1000000000) (a c : Int) :
    Calls Try.prog 13 #[.pointer (some ⟨t, 0, none⟩), .int .i64 a, .int .i64 c, v] w fun e w' => e = .returned (.bool (sendP st most a c b (qs, lost)).1) ∧ ∃ F', LG w' F' t st life (sendP st most a c b (qs, lost)).2.2 most (sendP st most a c b (qs, lost)).2.1 ∧ Stp F F' w w' := by
  obtain ⟨va, vc, rfl⟩ := hv.len
  obtain ⟨rv, ps, Fs, h⟩ := h
  have H := Lib.hid h
  have HV := Lib.hid hv
  have HBY := Lib.hid hby
  have hwl : wrap64 (lost + 1) = lost + 1 := IntWalk.wrap64_in _ (by omega)
  obtain ⟨hl0, hl1⟩ := hlo
  clear h hv hby
  unfold sendP
  cases hk : rix st a c with
  | none =>
    dsimp only
    have HK := Lib.hid hk
    clear hk
    go_enter Try.func13, Try.ntmps13
    go_wp2_with fail
    refine (rowNone H.out HK.out).mono ?_
    rintro e w1 ⟨rfl, rfl⟩
    go_wp2_with fail
    go_ret
    exact ⟨rfl, F, ⟨rv, ps, Fs, H.out⟩, Stp.refl _ _⟩
  | some k =>
    dsimp only [rowAt]
    have HK := Lib.hid hk
    clear hk
    by_cases hf : ((qs.getD k []).length : Int) < most
    · rw [if_pos hf]
      dsimp only
      have HF := Lib.hid hf
      clear hf
      go_enter Try.func13, Try.ntmps13
      go_wp2_with fail
      refine (rowSome H.out HK.out).mono ?_
      rintro e w1 ⟨hi, rfl, b1⟩
      have B1 := Lib.hid b1
      clear b1
      obtain ⟨sv, fl, h1, h2, h3, h4, h5⟩ := (H.out.row hi).ex
      have hc := (H.out.row hi).c
      have hlt := (H.out.row hi).lt
      have HQ := Lib.hid (And.intro h1 (And.intro h2 (And.intro h3 (And.intro h4 (And.intro h5 (And.intro hc hlt))))))
      clear h1 h2 h3 h4 h5 hc hlt
      have HFL : Hid ((fl.length : Int) < most) := by unfold Hid; rw [forall_len HQ.out.2.1]; exact HF.out
      obtain ⟨cq, hcq⟩ : ∃ cq, cq = ps[k] := ⟨_, rfl⟩
      have HCQ := Lib.hid hcq
      rw [← hcq] at HQ ⊢
      clear hcq
      go_wp2_with fail
      refine (cloneB _ b w1 (HV.out.fr B1.out) (by omega)).mono ?_
      rintro e w2 ⟨v', rfl, o2, b2⟩
      obtain ⟨a2, c2, hv2, _⟩ := own_shape o2
      subst hv2
      have O2 := Lib.hid (show OwnB 0 w2 (.slice a2 b.length c2) b from own_zero o2)
      have HG2 : Hid (∀ g, (Value.slice a2 b.length c2).ownBlock = some g → w.heap.size ≤ g) := fun g hg => Nat.le_trans B1.out.size (o2.lt g hg).1
      have B2 := Lib.hid (B1.out.trans (b2.mono B1.out.size))
      have H12 := Lib.hid (HQ.out.1.below B2.out)
      clear b2 o2
      go_wp2_with fail
      refine (putYesF ⟨a2, b.length, c2, 0⟩ w2 H12.out HFL.out).mono ?_
      rintro e w3 ⟨rfl, sv', q3, m3, f3⟩
      have fin : Hid (∃ F', LG w3 F' t st life lost most (qs.set k (qs.getD k [] ++ [(b, 0)])) ∧ Stp F F' w w3) := by
        obtain ⟨g1, g2, g3, g4, g5, g6, g7⟩ := HQ.out
        obtain ⟨F', qx, s, _⟩ := QX.of_q (l' := qs.getD k [] ++ [(b, 0)]) g1 g6 g4 g7 B2.out q3 (fun g hg => (m3 g hg).imp id (fun e => Nat.le_trans B2.out.size e)) f3
          (forall_app (all2_map g2 (fun v bs o => ownB_q H12.out (ownB_below o B2.out) f3)) ⟨⟨ownB_q H12.out O2.out f3, rfl⟩, trivial⟩)
          (by
            have := dj_new (fl := fl) (kv := []) (x := ⟨a2, b.length, c2, 0⟩) (B := w.heap.size) (by simpa using g3) (fun u hu g hg => g7 g (g5 u (by simpa using hu) g hg)) HG2.out
            simpa using this)
          (fun u hu g hg => by
            rw [List.map_append] at hu
            rcases List.mem_append.1 hu with hu | hu
            · exact .inl (g5 u hu g hg)
            · rw [List.map_cons, List.map_nil] at hu
              rw [List.mem_singleton.1 hu] at hg
              exact .inr (HG2.out g hg))
        rw [HCQ.out] at qx
        obtain ⟨F2, Fs2, hL, hS, _⟩ := H.out.turn hi s qx (fun p hp => by
          rcases List.mem_append.1 hp with hp | hp
          · have hq : k < qs.length := by rw [H.out.qlen, ← H.out.len]; exact hi
            rw [getD_get hq] at hp
            exact H.out.ok _ (List.getElem_mem hq) p hp
          · rw [List.mem_singleton.1 hp]
            exact ⟨hb, HBY.out, ⟨Int.le_refl _, by have := H.out.lf; show (0 : Int) ≤ life; omega⟩⟩)
        exact ⟨F2, ⟨rv, ps, Fs2, hL⟩, hS⟩
      clear q3 m3 f3
      go_wp2_with fail
      go_ret
      exact ⟨rfl, fin.out⟩
    · rw [if_neg hf]
      dsimp only
      have HF : Hid (most ≤ ((qs.getD k []).length : Int)) := Int.not_lt.1 hf
      clear hf
      go_enter Try.func13, Try.ntmps13
      go_wp2_with fail
      refine (rowSome H.out HK.out).mono ?_
      rintro e w1 ⟨hi, rfl, b1⟩
      have B1 := Lib.hid b1
      clear b1
      obtain ⟨sv, fl, h1, h2, h3, h4, h5⟩ := (H.out.row hi).ex
      have HQ := Lib.hid h1
      have HFL : Hid (most ≤ (fl.length : Int)) := by unfold Hid; rw [forall_len h2]; exact HF.out
      clear h1 h2 h3 h4 h5
      go_wp2_with fail
      refine (cloneB _ b w1 (HV.out.fr B1.out) (by omega)).mono ?_
      rintro e w2 ⟨v', rfl, o2, b2⟩
      obtain ⟨a2, c2, hv2, _⟩ := own_shape o2
      subst hv2
      have B2 := Lib.hid (B1.out.trans (b2.mono B1.out.size))
      have H12 := Lib.hid (HQ.out.below B2.out)
      clear b2 o2
      go_wp2_with fail
      refine (putNoF ⟨a2, b.length, c2, 0⟩ w2 H12.out HFL.out).mono ?_
      rintro e w3 ⟨rfl, b3⟩
      have B3 := Lib.hid (B2.out.trans (b3.mono B2.out.size))
      have H13 := Lib.hid (H.out.below B3.out)
      clear b3
      have k2 : w3.cell? ⟨t, 2, none⟩ = some (.int .i64 lost) := blk_cell H13.out.blk 2
      have z2 : w3.frozen? ⟨t, 2, none⟩ = false := blk_free H13.out.blk 2
      go_wp2_with fail
      go_ret
      exact ⟨rfl, F, ⟨rv, ps, Fs, (H13.out.lose (lost + 1)).1⟩, Stp.afterBelow B3.out (H13.out.lose (lost + 1)).2⟩

set_option maxHeartbeats 2000000 in
theorem passG (h : LG w F t st life lost most qs) (a c : Int) :
    Calls Try.prog 15 #[.pointer (some ⟨t, 0, none⟩), .int .i64 a, .int .i64 c] w fun e w' => ∃ va vn vk, e = .returned (.tuple #[.slice va vn vk, .bool (passP st a c (qs, lost)).1.isSome]) ∧ RdB w' (.slice va vn vk) ((passP st a c (qs, lost)).1.getD []) ∧ (∀ g, (Value.slice va vn vk).ownBlock = some g → F g) ∧ ∃ F', LG w' F' t st life lost most (passP st a c (qs, lost)).2.1 ∧ Stp F F' w w' := by
  obtain ⟨rv, ps, Fs, h⟩ := h
  have H := Lib.hid h
  clear h
  unfold passP
  cases hk : rix st a c with
  | none =>
    dsimp only
    have HK := Lib.hid hk
    clear hk
    go_enter Try.func15, Try.ntmps15
    go_wp2_with fail
    refine (rowNone H.out HK.out).mono ?_
    rintro e w1 ⟨rfl, rfl⟩
    go_wp2_with fail
    refine (takeNil w1).mono ?_
    rintro e w2 ⟨rfl, b2⟩
    have B2 := Lib.hid b2
    clear b2
    go_wp2_with fail
    go_ret2
    have B3 := B2.out.alloc B2.out.size (.cells #[.slice none 0 0, .int .i64 0] 39)
    exact ⟨_, _, _, rfl, (Own.nil (α := Int) encB 0 1 0 _).rd, fun g hg => by simp [Value.ownBlock] at hg, F, ⟨rv, ps, Fs, H.out.below B3⟩, Stp.of_below _ B3⟩
  | some k =>
    dsimp only [rowAt]
    have HK := Lib.hid hk
    clear hk
    obtain ⟨l, hl⟩ : ∃ l, l = qs.getD k [] := ⟨_, rfl⟩
    rw [← hl]
    have HL := Lib.hid hl
    clear hl
    cases l with
    | nil =>
      dsimp only
      go_enter Try.func15, Try.ntmps15
      go_wp2_with fail
      refine (rowSome H.out HK.out).mono ?_
      rintro e w1 ⟨hi, rfl, b1⟩
      obtain ⟨sv, fl, h1, h2, h3, h4, h5⟩ := (H.out.row hi).ex
      rw [← HL.out] at h2
      obtain rfl : fl = [] := List.eq_nil_of_length_eq_zero (by rw [forall_len h2]; rfl)
      have HQ := Lib.hid (h1.below b1)
      have B1 := Lib.hid b1
      clear b1 h1 h2 h3 h4 h5
      go_wp2_with fail
      refine (takeNoF w1 HQ.out).mono ?_
      rintro e w2 ⟨rfl, b2⟩
      have B2 := Lib.hid (B1.out.trans (b2.mono B1.out.size))
      clear b2
      go_wp2_with fail
      go_ret2
      have B3 := B2.out.alloc B2.out.size (.cells #[.slice none 0 0, .int .i64 0] 39)
      exact ⟨_, _, _, rfl, (Own.nil (α := Int) encB 0 1 0 _).rd, fun g hg => by simp [Value.ownBlock] at hg, F, ⟨rv, ps, Fs, H.out.below B3⟩, Stp.of_below _ B3⟩
    | cons p l =>
      dsimp only
      go_enter Try.func15, Try.ntmps15
      go_wp2_with fail
      refine (rowSome H.out HK.out).mono ?_
      rintro e w1 ⟨hi, rfl, b1⟩
      obtain ⟨sv, fl, h1, h2, h3, h4, h5⟩ := (H.out.row hi).ex
      rw [← HL.out] at h2
      have hc := (H.out.row hi).c
      have hlt := (H.out.row hi).lt
      match fl, h1, h2, h3, h5 with
      | [], _, h2, _, _ => exact h2.elim
      | f :: fl, h1, h2, h3, h5 =>
        have HQ := Lib.hid (And.intro h1 (And.intro h2 (And.intro h3 (And.intro h4 (And.intro h5 (And.intro hc hlt))))))
        have B1 := Lib.hid b1
        have H11 := Lib.hid (h1.below b1)
        clear h1 h2 h3 h4 h5 hc hlt b1
        obtain ⟨cq, hcq⟩ : ∃ cq, cq = ps[k] := ⟨_, rfl⟩
        have HCQ := Lib.hid hcq
        rw [← hcq] at HQ H11 ⊢
        clear hcq
        go_wp2_with fail
        refine (takeF w1 H11.out).mono ?_
        rintro e w2 ⟨rfl, sv', q2, m2, f2⟩
        have fq : Fr (qS cq sv) w1 w2 := f2.mono (fun _ _ e => .inl e)
        have fin : Hid ((∃ F', LG w2 F' t st life lost most (qs.set k l) ∧ Stp F F' w w2) ∧ RdB w2 f.v p.1 ∧ (∀ g, f.v.ownBlock = some g → F g)) := by
          obtain ⟨g1, g2, g3, g4, g5, g6, g7⟩ := HQ.out
          obtain ⟨F', qx, s, _⟩ := QX.of_q (l' := l) g1 g6 g4 g7 B1.out q2 (fun g hg => (m2 g hg).imp id (fun e => Nat.le_trans B1.out.size e)) fq
            (all2_map g2.2 (fun v bs o => ownB_q H11.out (ownB_below o B1.out) fq))
            (List.pairwise_cons.1 (show Dj (f.v :: fl.map Fl.v) from g3)).2
            (fun u hu g hg => .inl (g5 u (by rw [List.map_cons]; exact List.mem_cons_of_mem _ hu) g hg))
          rw [HCQ.out] at qx
          obtain ⟨F2, Fs2, hL, hS, _⟩ := H.out.turn hi s qx (fun q hq => by
            have hk : k < qs.length := by rw [H.out.qlen, ← H.out.len]; exact hi
            have h6 := HL.out
            rw [getD_get hk] at h6
            exact H.out.ok _ (List.getElem_mem hk) q (by rw [← h6]; exact List.mem_cons_of_mem _ hq))
          exact ⟨⟨F2, ⟨rv, ps, Fs2, hL⟩, hS⟩, (ownB_q H11.out (ownB_below g2.1.1 B1.out) fq).rd, fun g hg => H.out.sub k g (g5 _ (by rw [List.map_cons]; exact List.mem_cons_self ..) g hg)⟩
        clear q2 m2 f2 fq
        go_wp2_with fail
        go_ret2
        obtain ⟨⟨F2, hL, hS⟩, hR, hF⟩ := fin.out
        have b3 : Below w2.heap.size w2 (w2.alloc (.cells #[.slice f.a f.n f.c, .int .i64 f.age] 39)) := (Below.refl _ w2).alloc (Nat.le_refl _) _
        exact ⟨_, _, _, rfl, RdB.fr hR b3, hF, F2, hL.below b3, hS.thenBelow b3⟩

set_option maxHeartbeats 2000000 in
theorem dropG (h : LG w F t st life lost most qs) (hlo : 0 ≤ lost ∧ lost ≤ 1000000000) (a c : Int) :
    Calls Try.prog 24 #[.pointer (some ⟨t, 0, none⟩), .int .i64 a, .int .i64 c] w fun e w' => e = .returned (.bool (dropP st a c (qs, lost)).1) ∧ ∃ F', LG w' F' t st life (dropP st a c (qs, lost)).2.2 most (dropP st a c (qs, lost)).2.1 ∧ Stp F F' w w' := by
  obtain ⟨hl0, hl1⟩ := hlo
  have hwl : wrap64 (lost + 1) = lost + 1 := IntWalk.wrap64_in _ (by omega)
  have H := Lib.hid h
  clear h
  have H1 := Lib.hid (fun w' (hw : w' = w) => passG (H.out.below (w' := w') (by rw [hw]; exact Below.refl _ _)) a c)
  have h2 : (passP st a c (qs, lost)).1 = none → (passP st a c (qs, lost)).2 = (qs, lost) := by
    unfold passP
    cases rix st a c with
    | none => intro _; rfl
    | some k =>
      dsimp only
      cases rowAt (qs, lost) k with
      | nil => intro _; rfl
      | cons p l => intro e; cases e
  have h3 : (passP st a c (qs, lost)).2.2 = lost := by
    unfold passP
    cases rix st a c with
    | none => rfl
    | some k =>
      dsimp only
      cases rowAt (qs, lost) k with
      | nil => rfl
      | cons p l => rfl
  unfold dropP
  obtain ⟨r, hr⟩ : ∃ r, r = passP st a c (qs, lost) := ⟨_, rfl⟩
  rw [← hr] at h2 h3 H1 ⊢
  clear hr
  obtain ⟨r1, r2⟩ := r
  cases r1 with
  | none =>
    dsimp only at h2 h3 H1 ⊢
    obtain rfl := h2 rfl
    have H1' := Lib.hid H1.out
    clear H1 h2 h3
    go_enter Try.func24, Try.ntmps24
    go_wp2_with fail
    refine (H1'.out w rfl).mono ?_
    rintro e w1 ⟨va, vn, vk, rfl, _, _, F', h1, s1⟩
    have HH := Lib.hid (And.intro h1 s1)
    clear h1 s1
    dsimp only [Option.isSome]
    go_wp2_with fail
    go_ret
    exact ⟨rfl, F', HH.out.1, HH.out.2⟩
  | some x =>
    dsimp only at h2 h3 H1 ⊢
    clear h2
    go_enter Try.func24, Try.ntmps24
    go_wp2_with fail
    refine (H1.out w rfl).mono ?_
    rintro e w1 ⟨va, vn, vk, rfl, _, _, F', ⟨rv, ps, Fs, h1⟩, s1⟩
    have k2 : w1.cell? ⟨t, 2, none⟩ = some (.int .i64 lost) := blk_cell h1.blk 2
    have z2 : w1.frozen? ⟨t, 2, none⟩ = false := blk_free h1.blk 2
    have HH := Lib.hid (And.intro h1 s1)
    clear h1 s1
    dsimp only [Option.isSome]
    have h3' := Lib.hid h3
    clear h3
    go_wp2_with fail
    go_ret
    rw [h3'.out]
    exact ⟨rfl, F', ⟨rv, ps, Fs, (HH.out.1.lose (lost + 1)).1⟩, HH.out.2.trans (HH.out.1.lose (lost + 1)).2⟩
end
end Go.Proofs.Yteihpaikdpdglaa
