/-
  Package lan: Age, at any line. (Its walk is printed by gI.py.)
-/
import Derived.Test.YteihpaikdpdglaaGlH
import Derived.Test.YteihpaikdpdglaaGlE
import Derived.Sort.CutIn
namespace Go.Proofs.Yteihpaikdpdglaa
open Go.RowKit
set_option linter.unusedVariables false
attribute [local go_sem] Oper.semAt_some


/-- Marks of loops that are over: blocks from B on. -/
def MarksOk (B : Nat) (ds : List Deferred) (w : World) : Prop := ∃ Ds : List Nat, ds = Ds.map (fun D => ({ target := .collected D, args := #[] } : Deferred)) ∧ Ds.Nodup ∧ ∀ D ∈ Ds, B ≤ D ∧ w.heap[D]? = some (Obj.deferred (some []))
theorem MarksOk.nil (B : Nat) (w : World) : MarksOk B [] w := ⟨[], rfl, List.nodup_nil, fun D h => by cases h⟩
theorem MarksOk.keep {B : Nat} {ds : List Deferred} {w w' : World} (h : MarksOk B ds w) (hk : ∀ D : Nat, w.heap[D]? = some (Obj.deferred (some [])) → w'.heap[D]? = some (Obj.deferred (some []))) : MarksOk B ds w' := by
  obtain ⟨Ds, h1, h2, h3⟩ := h
  exact ⟨Ds, h1, h2, fun D hD => ⟨(h3 D hD).1, hk D (h3 D hD).2⟩⟩
theorem MarksOk.cons {B D : Nat} {ds : List Deferred} {w w0 : World} (h : MarksOk B ds w0) (hw : MarksOk B ds w) (hD : w0.heap.size ≤ D) (hB : B ≤ D) (hd : w.heap[D]? = some (Obj.deferred (some []))) : MarksOk B ({ target := .collected D, args := #[] } :: ds) w := by
  obtain ⟨Ds, h1, h2, h3⟩ := h
  obtain ⟨Es, g1, g2, g3⟩ := hw
  have he : Es = Ds := by
    have : Es.map (fun D => ({ target := .collected D, args := #[] } : Deferred)) = Ds.map (fun D => ({ target := .collected D, args := #[] } : Deferred)) := by rw [← g1, ← h1]
    refine (List.map_inj_right ?_).1 this
    intro x y e
    injection e with e _
    injection e
  subst he
  refine ⟨D :: Es, by rw [List.map_cons, g1], List.nodup_cons.2 ⟨fun hm => ?_, h2⟩, fun E hE => ?_⟩
  · have := lt_of_block (h3 D hm).2; omega
  · rcases List.mem_cons.1 hE with rfl | hE
    · exact ⟨hB, hd⟩
    · exact g3 E hE
theorem nc_trans {B : Nat} {w w1 w2 : World} (h : Fr (NC B w) w w1) (k : Fr (NC B w1) w1 w2) : Fr (NC B w) w w2 := h.trans' k (fun _ _ e => e) (fun i hi e => by
  by_cases hn : NC B w i
  · exact hn
  · exfalso
    obtain ⟨h1, o, h2, h3⟩ := e
    exact hn ⟨h1, o, by rw [← h.blk i hi hn]; exact h2, h3⟩)
/-- A frame with such marks leaves. -/
theorem leaves_marks {F : Fence} {n : Nat} {P : Program} {fn : Func} {tmps : Array Value} {R : Ending → World → Prop} {B : Nat} : ∀ (Ds : List Nat) (w : World), Ds.Nodup → (∀ D ∈ Ds, B ≤ D ∧ w.heap[D]? = some (Obj.deferred (some []))) →
    (∀ w', Fr (NC B w) w w' → LeavesIn F n P fn tmps R [] .returning w') → LeavesInM F n P fn tmps R (Ds.map (fun D => ({ target := .collected D, args := #[] } : Deferred))) .returning w
  | [], w, _, _, h => h w (Fr.refl _ _)
  | D :: Ds, w, hnd, hm, h => by
    rw [List.map_cons]
    obtain ⟨hD, hd⟩ := hm D (List.mem_cons_self ..)
    have hf := fr_putObj w D B (.deferred none) _ hD hd rfl
    refine ⟨by simp, .inl ⟨_, _, rfl, run_takeDeferred hd, ?_⟩⟩
    refine leaves_marks Ds _ (List.nodup_cons.1 hnd).2 (fun E hE => ⟨(hm E (List.mem_cons_of_mem _ hE)).1, ?_⟩) (fun w' hf' => h w' (nc_trans hf hf'))
    rw [World.putObj_heap_other (fun e => (List.nodup_cons.1 hnd).1 (by rw [← e]; exact hE))]
    exact (hm E (List.mem_cons_of_mem _ hE)).2
theorem LeavesInM.marks {F : Fence} {n : Nat} {P : Program} {fn : Func} {tmps : Array Value} {R : Ending → World → Prop} {B : Nat} {ds : List Deferred} {w : World} (h : MarksOk B ds w) (hl : ∀ w', Fr (NC B w) w w' → LeavesIn F n P fn tmps R [] .returning w') : LeavesInM F n P fn tmps R ds .returning w := by
  obtain ⟨Ds, rfl, h2, h3⟩ := h
  exact leaves_marks Ds w h2 h3 hl
section
variable {w w' : World} {F : Nat → Prop} {t st : Nat} {life lost most : Int} {qs : List FlA} {rv : Value} {ps : List Nat} {Fs : Nat → Nat → Prop}
theorem QX.stay {c : Nat} {l : FlA} {C : Nat} (h : QX w F c most l) (hf : Fr (NC C w) w w') : QX w' F c most l := by
  obtain ⟨sv, fl, h1, h2, h3, h4, h5⟩ := h.ex
  exact ⟨⟨sv, fl, ⟨blk_stay h1.blk hf, h1.own.stay hf, h1.m0, h1.le⟩, forall_imp h2 (fun f p e => ⟨Own.stay e.1 hf, e.2⟩), h3, h4, h5⟩, h.c, fun b hb => Nat.lt_of_lt_of_le (h.lt b hb) hf.size⟩
theorem LGi.stay {C : Nat} (h : LGi w F t st life lost most qs rv ps Fs) (hf : Fr (NC C w) w w') : LGi w' F t st life lost most qs rv ps Fs :=
  ⟨blk_stay h.blk hf, h.rows.stay hf, h.sts, h.len, h.qlen, h.m, h.lf, h.ok, fun i h1 h2 => (h.q i h1 h2).stay hf, h.dj, h.sub, h.ft, h.frv, h.nt, h.nrv, fun b hb => Nat.lt_of_lt_of_le (h.lt b hb) hf.size⟩
end
theorem Stp.stayF {w w' w2 : World} {F F' : Nat → Prop} {B : Nat} (h : Stp F F' w w') (hB : w.heap.size ≤ B) (hf : Fr (NC B w') w' w2) : Stp F F' w w2 := ⟨fr_stay h.fr hf hB, h.new⟩
/-- A frame a tick older. -/
abbrev Fl.older (f : Fl) : Fl := ⟨f.a, f.n, f.c, wrap64 (f.age + 1)⟩
theorem keep_aged {w : World} {life : Int} (hl : life ≤ 10000) : ∀ {fl : List Fl} {l : FlA}, All2 (FlB w) fl l → (∀ p ∈ l, OkFr life p) → All2 (FlB w) (keepF life (fl.map Fl.older)) (agedP life l)
  | [], [], _, _ => trivial
  | f :: fl, p :: l, h, ho => by
    have ih := keep_aged hl h.2 (fun q hq => ho q (List.mem_cons_of_mem _ hq))
    have he : wrap64 (f.age + 1) = p.2 + 1 := by
      have h1 : f.age = p.2 := h.1.2
      have h2 := (ho p (List.mem_cons_self ..)).age
      rw [h1]
      exact IntWalk.wrap64_in _ (by omega)
    unfold keepF agedP at ih ⊢
    simp only [List.map_cons, List.filter_cons, he]
    by_cases hd : decide (p.2 + 1 ≤ life) = true
    · rw [if_pos hd, if_pos hd]
      exact ⟨⟨h.1.1, he⟩, ih⟩
    · rw [if_neg hd, if_neg hd]
      exact ih
  | [], _ :: _, h, _ => h.elim
  | _ :: _, [], h, _ => h.elim
theorem keep_v (life : Int) (fl : List Fl) : ((keepF life (fl.map Fl.older)).map Fl.v).Sublist (fl.map Fl.v) := by
  have h := (List.filter_sublist (l := fl.map Fl.older) (p := fun f => decide (f.age ≤ life))).map Fl.v
  have e : (fl.map Fl.older).map Fl.v = fl.map Fl.v := by rw [List.map_map]; rfl
  rw [e] at h
  exact h
theorem zip_older (fl : List Fl) : fl.zipIdx.map (fun p => p.1.older) = fl.map Fl.older := by
  have h := congrArg (List.map Fl.older) (List.zipIdx_map_fst (l := fl) (i := 0))
  rw [List.map_map] at h
  exact h
/-- What the walk has laid when 'pre' has come. -/
structure AgeI (w0 : World) (c nx : Nat) (most : Int) (C : Nat) (pre : List (Fl × Nat)) (W : World) : Prop where
  q : ∃ sv, IsF W c most sv (pre.map (fun p => p.1.older)) ∧ (∀ g, sv.ownBlock = some g → C ≤ g)
  box : W.heap[nx]? = some (.cells #[.pointer (some ⟨c, 0, none⟩)] 70 (0, 0))
  bel : Below w0.heap.size w0 W
  ge : C ≤ W.heap.size
theorem AgeI.below {w0 W W' : World} {c nx C : Nat} {most : Int} {pre : List (Fl × Nat)} (h : AgeI w0 c nx most C pre W) (hb : Below W.heap.size W W') : AgeI w0 c nx most C pre W' :=
  ⟨by obtain ⟨sv, h1, h2⟩ := h.q; exact ⟨sv, h1.below hb, h2⟩, (hb.block _ (lt_of_block h.box)).trans h.box, h.bel.trans (hb.mono h.bel.size), Nat.le_trans h.ge hb.size⟩
theorem AgeI.stay {w0 W W' : World} {c nx C : Nat} {most : Int} {pre : List (Fl × Nat)} (h : AgeI w0 c nx most C pre W) (hf : Fr (NC C W) W W') (hC : w0.heap.size ≤ C) : AgeI w0 c nx most C pre W' :=
  ⟨by obtain ⟨sv, h1, h2⟩ := h.q; exact ⟨sv, ⟨blk_stay h1.blk hf, h1.own.stay hf, h1.m0, h1.le⟩, h2⟩, blk_stay h.box hf, below_stay h.bel hf hC (Nat.le_refl _), Nat.le_trans h.ge hf.size⟩
/-- One frame more. -/
theorem age_fin {w0 W W' : World} {c nx C : Nat} {most : Int} {pre : List (Fl × Nat)} {x : Fl × Nat} {sv sv' : Value} (hc0 : w0.heap.size ≤ c) (hcC : c < C) (h : AgeI w0 c nx most C pre W) (hq : IsF W c most sv (pre.map (fun p => p.1.older))) (hsv : ∀ g, sv.ownBlock = some g → C ≤ g)
    (q : IsF W' c most sv' (pre.map (fun p => p.1.older) ++ [x.1.older])) (m : Mv W sv sv') (f : Fr (fun b => b = c ∨ sv.ownBlock = some b) W W') :
    KeepsFrom C W W' ∧ Keep [⟨c, 1, none⟩] C W W' ∧ AgeI w0 c nx most C (pre ++ [x]) W' := by
  refine ⟨keepsFrom_fr f (fun k hk => ?_), keep_fr f (fun k hk => ?_) (fun a ha cv hcv k hk => ?_), ⟨⟨sv', by rw [List.map_append]; exact q, fun g hg => ?_⟩, f.heap h.box (fun e => ?_), h.bel.trans (f.below' h.bel.size (fun k hk => ?_)), Nat.le_trans h.ge f.size⟩⟩
  · rcases hk with hk | hk
    · exact .inl (by omega)
    · obtain ⟨cur, hc⟩ := own_type hq.own hk
      exact .inr ⟨_, _, _, hc⟩
  · rcases hk with hk | hk
    · exact .inl (by omega)
    · exact .inr (fun hn => hn _ (List.mem_singleton.2 rfl) _ hq.cell1 hk)
  · rw [List.mem_singleton.1 ha, q.cell1] at hcv
    simp at hcv
    subst hcv
    rcases m k hk with e | e
    · exact .inl ⟨_, List.mem_singleton.2 rfl, _, hq.cell1, e⟩
    · exact .inr e
  · rcases m g hg with e | e
    · exact hsv g e
    · exact Nat.le_trans h.ge e
  · rcases e with e | e
    · have h4 := h.box
      rw [e, hq.blk] at h4
      cases h4
    · exact own_ne hq.own h.box (by decide) e
  · rcases hk with hk | hk
    · omega
    · have := hsv k hk
      have h1 := h.bel.size
      omega
/-- What a loop over the rows holds. -/
structure AgL (w : World) (F : Nat → Prop) (t st : Nat) (life lost most : Int) (qs : List FlA) (rv : Value) (i : Nat) (ds : List Deferred) (W : World) : Prop where
  lg : ∃ F' ps Fs, LGi W F' t st life lost most ((qs.take i).map (agedP life) ++ qs.drop i) rv ps Fs ∧ Stp F F' w W
  marks : MarksOk w.heap.size ds W
  box : W.heap[w.heap.size]? = some (.cells #[.pointer (some ⟨t, 0, none⟩)] 23 (0, 0))
/-- A row is done. -/
theorem ag_fin {w wr W4 W5 : World} {F : Nat → Prop} {t st : Nat} {life lost most : Int} {qs : List FlA} {g cap n i c' C D : Nat} {ds : List Deferred} {F' : Nat → Prop} {ps : List Nat} {Fs : Nat → Nat → Prop} {fl : List Fl} {sv4 sv5 : Value} {sv : Value} {cq : Nat}
    (h : LGi wr F' t st life lost most ((qs.take i).map (agedP life) ++ qs.drop i) (.slice (some ⟨g, 0, none⟩) n cap) ps Fs) (s : Stp F F' w wr) (hm : MarksOk w.heap.size ds wr) (hbx : wr.heap[w.heap.size]? = some (.cells #[.pointer (some ⟨t, 0, none⟩)] 23 (0, 0)))
    (hi : i < ps.length) (hiq : i < qs.length) (hq : IsF wr cq most sv fl) (ha : All2 (FlB wr) fl qs[i]) (hdj : Dj (fl.map Fl.v)) (hfs : ∀ u ∈ fl.map Fl.v, ∀ g, u.ownBlock = some g → Fs i g)
    (hc' : wr.heap.size ≤ c') (hC : wr.heap.size ≤ C) (b4 : Below wr.heap.size wr W4) (hsv4 : ∀ g, sv4.ownBlock = some g → C ≤ g) (q5 : IsF W5 c' most sv5 (keepF life (fl.map Fl.older))) (m5 : Mv W4 sv4 sv5) (f5 : Fr (fun b => b = c') W4 W5)
    (h4c : ∃ cs, W4.heap[c']? = some (.cells cs 88 (0, 0)))
    (hD : C ≤ D) (hd : W4.heap[D]? = some (Obj.deferred (some []))) :
    AgL w F t st life lost most qs (.slice (some ⟨g, 0, none⟩) n cap) (i + 1) ({ target := .collected D, args := #[] } :: ds) (W5.drew.setCell ⟨g, i, none⟩ (.pointer (some ⟨c', 0, none⟩))) := by
  have hw : w.heap.size ≤ wr.heap.size := s.fr.size
  have b5 : Below wr.heap.size wr W5 := b4.trans (f5.below' b4.size (fun k hk => by rw [hk]; exact hc'))
  have b5d : Below wr.heap.size wr W5.drew := b5.trans ((Below.refl _ W5).drew.mono b5.size)
  have hsz : wr.heap.size ≤ W5.heap.size := b5.size
  have hwr : ∀ v b, OwnB 0 wr v b → OwnB 0 W5 v b := fun v b o => ownB_below o b5
  have hsvn : ∀ g', sv5.ownBlock = some g' → wr.heap.size ≤ g' := fun g' hg => by
    rcases m5 g' hg with e | e
    · have := hsv4 g' e; omega
    · have := b4.size; omega
  have hok : ∀ p ∈ qs[i], OkFr life p := fun p hp => h.ok qs[i] (List.mem_append.2 (.inr (by rw [List.drop_eq_getElem_cons hiq]; exact List.mem_cons_self ..))) p hp
  have hlt : ∀ b, (Fs i b ∨ (wr.heap.size ≤ b ∧ b < W5.heap.size)) → b < W5.drew.heap.size := fun b hb => by
    rcases hb with hb | hb
    · exact Nat.lt_of_lt_of_le (h.lt b (h.sub i b hb)) hsz
    · exact hb.2
  have qx : QX W5.drew (fun b => Fs i b ∨ (wr.heap.size ≤ b ∧ b < W5.heap.size)) c' most (agedP life qs[i]) :=
    ⟨⟨sv5, keepF life (fl.map Fl.older), q5.below (Below.refl _ W5).drew, keep_aged (show life ≤ 10000 from h.lf.2) (all2_map ha hwr) hok, List.Pairwise.sublist (keep_v life fl) hdj, fun g' hg => .inr ⟨hsvn g' hg, own_lt q5.own hg⟩, fun u hu g' hg => .inl (hfs u ((keep_v life fl).subset hu) g' hg)⟩, .inr ⟨hc', lt_of_block q5.blk⟩, hlt⟩
  obtain ⟨F2, Fs2, hL, hS, _⟩ := h.swap (i := i) (c' := c') (l' := agedP life qs[i]) hi rfl b5d qx
    (fun b hb => hb.imp id (fun e => e.1)) (agedP_ok hok)
  have fg : Fr (fun b => b = g) wr (W5.drew.setCell ⟨g, i, none⟩ (.pointer (some ⟨c', 0, none⟩))) := (Fr.of_below b5d (fun b => b = g)).setCell (p := ⟨g, i, none⟩) (fun _ => rfl) _
  obtain ⟨curg, hcg⟩ := own_type h.rows (g := g) rfl
  have hgn : ∀ E : Nat, wr.heap[E]? = some (Obj.deferred (some [])) → ¬ E = g := fun E hE e => by rw [e, hcg] at hE; cases hE
  have hmk : MarksOk w.heap.size ds (W5.drew.setCell ⟨g, i, none⟩ (.pointer (some ⟨c', 0, none⟩))) := hm.keep (fun E hE => fg.heap hE (hgn E hE))
  have hDc : ¬ D = c' := fun e => by obtain ⟨cs, h4⟩ := h4c; rw [e, h4] at hd; cases hd
  have hDg : ¬ D = g := fun e => by have := lt_of_block hcg; omega
  have fgs : Fr (fun b => b = g) W5.drew (W5.drew.setCell ⟨g, i, none⟩ (.pointer (some ⟨c', 0, none⟩))) := (Fr.refl (fun b => b = g) W5.drew).setCell (p := ⟨g, i, none⟩) (fun _ => rfl) _
  exact ⟨⟨F2, ps.set i c', Fs2, by rw [map_set_step (agedP life) qs i hiq] at hL; exact hL, s.trans hS⟩, MarksOk.cons hm hmk (by omega) (by omega) (fgs.heap (show W5.drew.heap[D]? = _ from f5.heap hd hDc) hDg), fg.heap hbx (fun e => own_ne h.rows hbx (by decide) (by rw [e]; rfl))⟩

set_option maxRecDepth 100000 in
set_option maxHeartbeats 8000000 in
theorem ageG {w : World} {F : Nat → Prop} {t st : Nat} {life lost most : Int} {qs : List FlA} (h : LG w F t st life lost most qs) (hlo : 0 ≤ lost ∧ lost ≤ 1000000000) :
    Calls Try.prog 22 #[.pointer (some ⟨t, 0, none⟩)] w fun e w' => e = .returned (.int .i64 (oldP life (qs, lost)).1) ∧ ∃ F', LG w' F' t st life (oldP life (qs, lost)).2.2 most (oldP life (qs, lost)).2.1 ∧ Stp F F' w w' := by
  obtain ⟨rv, ps, Fs, h⟩ := h
  have hst := h.sts
  have hN1 : 1 ≤ st * st := Nat.mul_le_mul hst.1 hst.1
  have hN2 : st * st ≤ 256 := Nat.mul_le_mul hst.2 hst.2
  obtain ⟨N, hN⟩ : ∃ N, N = st * st := ⟨_, rfl⟩
  rw [← hN] at hN1 hN2
  have hqN : qs.length = N := by rw [h.qlen, hN]
  have hpN : ps.length = N := by rw [h.len, hN]
  obtain ⟨g, cap, hrv, hgl, hc1, hc2⟩ := own_some h.rows (by omega)
  rw [hpN] at hrv hc1
  subst hrv
  have hqm : ∀ l ∈ qs, (l.length : Int) ≤ most := fun l hl => by
    obtain ⟨i, hi, rfl⟩ := List.mem_iff_getElem.1 hl
    exact (h.q i (by omega) hi).len.1
  have hgr := fun i : Nat => gonesP_range life most (qs.take i) (fun l hl => hqm l (List.mem_of_mem_take hl))
  have hmost := h.m
  have hb0 : Below w.heap.size w (w.alloc (.cells #[.pointer (some ⟨t, 0, none⟩)] 23)) := (Below.refl _ w).alloc (Nat.le_refl _) _
  have k3 : (w.alloc (.cells #[.pointer (some ⟨t, 0, none⟩)] 23)).cell? ⟨t, 3, none⟩ = some (.slice (some ⟨g, 0, none⟩) N cap) := blk_cell (h.below hb0).blk 3
  have htl := lt_of_block h.blk
  have ini : Hid (AgL w F t st life lost most qs (.slice (some ⟨g, 0, none⟩) N cap) 0 [] (w.alloc (.cells #[.pointer (some ⟨t, 0, none⟩)] 23))) := ⟨⟨F, ps, Fs, by simpa using h.below hb0, Stp.of_below _ hb0⟩, MarksOk.nil _ _, heap_alloc_new' w _⟩
  have HQN := Lib.hid hqN
  have HGR := Lib.hid hgr
  have HN := Lib.hid hN
  clear h hpN hqN hgr hN hqm hb0
  refine (callsIn_wide (n := 2)).1 ?_
  refine callsIn_of_wp_marks Try.func22 rfl trivial ?_ rfl
  simp only [Try.ntmps22, List.size_toArray, List.length_cons, List.length_nil, Nat.reduceAdd, Nat.reduceSub, Array.replicate_succ, Array.replicate_zero, List.push_toArray, List.append_toArray, List.nil_append, List.cons_append]
  refine wpIn_wide.2 ?_
  go_wp2_with fail
  refine wp_loop_ghost_k (fun k a W => ∃ (i : Nat) (n : Int) (ds : List Deferred) (u4 u5 u6 u17 u18 u19 u20 u21 u22 u23 u24 u25 u36 u37 u38 u39 u40 u41 u42 u43 u44 u45 u46 u47 u48 : Value), a = { tmps := #[.pointer (some ⟨t, 0, none⟩), .pointer (some ⟨w.heap.size, 0, none⟩), .int .i64 0, .int .i64 n, u4, u5, u6, undef, undef, .pointer (some ⟨t, 0, none⟩), .bool false, .pointer (some ⟨t, 0, none⟩), .pointer (some ⟨t, 0, none⟩), .pointer (some ⟨t, 3, none⟩), .slice (some ⟨g, 0, none⟩) N cap, .int .i64 N, .int .i64 i, u17, u18, u19, u20, u21, u22, u23, u24, u25, undef, undef, undef, undef, undef, undef, undef, undef, undef, undef, u36, u37, u38, u39, u40, u41, u42, u43, u44, u45, u46, u47, u48, undef, undef, undef, undef, undef, undef, undef, undef, undef], defers := ds } ∧ i ≤ N ∧ k = N - i ∧ n = gonesP life (qs.take i) ∧ Hid (AgL w F t st life lost most qs (.slice (some ⟨g, 0, none⟩) N cap) i ds W)) N ?_ ?_
  · refine ⟨0, 0, [], undef, undef, undef, undef, undef, undef, undef, undef, undef, undef, undef, undef, undef, undef, undef, undef, undef, undef, undef, undef, undef, undef, undef, undef, undef, ?_, Nat.zero_le _, rfl, by simp [gonesP], ini⟩
    rfl
  rintro k a wr ⟨i, n, ds, u4, u5, u6, u17, u18, u19, u20, u21, u22, u23, u24, u25, u36, u37, u38, u39, u40, u41, u42, u43, u44, u45, u46, u47, u48, rfl, hi, rfl, hn, HX⟩ J K hJ hK
  obtain ⟨⟨F', ps', Fs', hL, hS⟩, hM, hB⟩ := HX.out
  have hbx : wr.cell? ⟨w.heap.size, 0, none⟩ = some (.pointer (some ⟨t, 0, none⟩)) := cell_of_one hB
  have HHn := Lib.hid hn
  clear HX hn
  by_cases hlt : i < N
  · have hip : i < ps'.length := by rw [hL.len, ← HN.out]; exact hlt
    have hiq : i < qs.length := by rw [HQN.out]; exact hlt
    have y1 : wr.cell? ⟨g, i, none⟩ = some (.pointer (some ⟨ps'[i], 0, none⟩)) := by
      have := hL.rows.cell enP_len i 0 hip (by decide)
      simpa [enP] using this
    have qx := hL.row hip
    rw [map_at_step (agedP life) qs i hiq []] at qx
    obtain ⟨sv, fl, h1, h2, h3, h4, h5⟩ := qx.ex
    obtain ⟨cq, hcq⟩ : ∃ cq, cq = ps'[i] := ⟨_, rfl⟩
    rw [← hcq] at y1 h1
    have HL := Lib.hid hL
    have HS := Lib.hid hS
    have HM := Lib.hid hM
    have HB := Lib.hid hB
    have H1 := Lib.hid h1
    have HR := Lib.hid (And.intro h2 (And.intro h3 h5))
    have hdl : decide ((i : Int) < (N : Int)) = true := by simpa using hlt
    have hdl2 : decide (i < N) = true := by simpa using hlt
    clear hL hS hM hB h1 h2 h3 h4 h5 qx hcq
    go_wp2_with fail
    refine (mostF wr H1.out).mono ?_
    rintro e w' ⟨rfl, hw'⟩
    obtain rfl := hw'.symm
    clear hw'
    go_wp2_with fail
    refine (newF most hmost _).mono ?_
    rintro e w' ⟨rfl, rfl⟩
    go_wp2_with fail
    obtain ⟨W1, hW1⟩ : ∃ W1, W1 = (wr.alloc (.cells #[.int .i64 most, .slice none 0 0] 88)).alloc (.cells #[.pointer (some ⟨wr.heap.size, 0, none⟩)] 70) := ⟨_, rfl⟩
    rw [← hW1]
    have hb1 : Below wr.heap.size wr W1 := by rw [hW1]; exact ((Below.refl _ wr).alloc (Nat.le_refl _) _).alloc (by simp) _
    have hc1' : W1.heap[wr.heap.size]? = some (.cells #[.int .i64 most, .slice none 0 0] 88 (0, 0)) := by rw [hW1]; exact (heap_alloc_lt _ _ (by simp)).trans (heap_alloc_new' _ _)
    have hn1 : W1.heap[wr.heap.size + 1]? = some (.cells #[.pointer (some ⟨wr.heap.size, 0, none⟩)] 70 (0, 0)) := by
      rw [hW1]
      have := heap_alloc_new' (wr.alloc (.cells #[.int .i64 most, .slice none 0 0] 88)) (.cells #[.pointer (some ⟨wr.heap.size, 0, none⟩)] 70)
      simpa using this
    have hsz1 : W1.heap.size = wr.heap.size + 1 + 1 := by rw [hW1]; simp
    obtain ⟨c', hc'⟩ : ∃ c', c' = wr.heap.size := ⟨_, rfl⟩
    rw [← hc'] at hc1' hn1 hsz1 ⊢
    have HW1 := Lib.hid hW1
    clear hW1
    refine (eachP (.pointer (some ⟨cq, 0, none⟩)) W1 ⟨_, rfl⟩).mono ?_
    rintro e w2 ⟨rfl, hbx2, hbel, hsz⟩
    rw [hsz1] at hbx2 hsz ⊢
    have b2 : Below wr.heap.size wr w2 := hb1.trans (hbel.mono hb1.size)
    have hc2' := (hbel.block _ (lt_of_block hc1')).trans hc1'
    have hn2 := (hbel.block _ (lt_of_block hn1)).trans hn1
    have hq2 : IsF w2 cq most sv fl := H1.out.below b2
    have inv0 : AgeI wr c' (c' + 1) most w2.heap.size [] w2 := ⟨⟨_, ⟨hc2', Own.nil _ _ _ _ _, hmost, by simp; omega⟩, fun g hg => by simp [Value.ownBlock] at hg⟩, hn2, b2, Nat.le_refl _⟩
    have Inv0 := Lib.hid inv0
    have Hseq := Lib.hid (each1P (fun p : Fl × Nat => p) (c' + 1 + 1) (.pointer (some ⟨cq, 0, none⟩)) sv fl.zipIdx fl (by simp) w2 [⟨c', 1, none⟩] (fun a ha => by rw [List.mem_singleton.1 ha]; show c' < _; omega) (fun a ha cv hcv k hk => by
      rw [List.mem_singleton.1 ha, blk_cell hc2' 1] at hcv
      simp at hcv
      subst hcv
      simp [Value.ownBlock] at hk) hbx2 (EaF.of hq2))
    have HC' := Lib.hid hc'
    have hs2 : w2.heap.size = c' + 1 + 1 + 1 := hsz
    clear inv0 hc2' hn2 hbx2 hsz hq2 hbel hc1' hn1 hsz1 b2 hb1 hc'
    go_wp2_with fail
    refine (wpIn_wide (n := 2)).1 ?_
    refine wp_rangeK (gf := 56) (lb := #[.pointer (some ⟨c' + 1 + 1, 0, none⟩)]) rfl (enters_of Try.func56 (by kernel_rfl) rfl) (Kp := Keep [⟨c', 1, none⟩] w2.heap.size) keep_t (keep_b (fun a ha => by rw [List.mem_singleton.1 ha]; show c' < _; omega)) Hseq.out (fun _ => rfl)
      (fun pre W => AgeI wr c' (c' + 1) most w2.heap.size pre W) (fun _ _ _ => False) ?hI ?hIx Inv0.out
      (fun x a' W => ∃ q, w2.heap.size ≤ q ∧ W.heap[q]? = some (.cells #[.slice x.1.a x.1.n x.1.c, .int .i64 x.1.age] 39 (0, 0)) ∧ a' = { tmps := #[.pointer (some ⟨t, 0, none⟩), .pointer (some ⟨w.heap.size, 0, none⟩), .int .i64 0, .int .i64 n, .int .i64 i, .pointer (some ⟨cq, 0, none⟩), .pointer (some ⟨c' + 1, 0, none⟩), undef, .pointer (some ⟨q, 0, none⟩), .pointer (some ⟨t, 0, none⟩), .bool false, .pointer (some ⟨t, 0, none⟩), .pointer (some ⟨t, 0, none⟩), .pointer (some ⟨t, 3, none⟩), .slice (some ⟨g, 0, none⟩) N cap, .int .i64 N, .int .i64 i, .bool true, .int .i64 i, .pointer (some ⟨g, i, none⟩), .pointer (some ⟨cq, 0, none⟩), .pointer (some ⟨cq, 0, none⟩), .int .i64 most, .pointer (some ⟨c', 0, none⟩), .pointer (some ⟨cq, 0, none⟩), .func (.func 56) #[] #[.pointer (some ⟨c' + 1 + 1, 0, none⟩)], .int .i64 x.2, fV x.1, undef, undef, undef, undef, undef, undef, undef, undef, u36, u37, u38, u39, u40, u41, u42, u43, u44, u45, u46, u47, u48, undef, undef, undef, undef, undef, undef, undef, undef, undef], defers := [] })
      (fun x a' W W' ⟨q, h1, h2, h3⟩ hf => ⟨q, h1, blk_stay h2 hf, h3⟩) ?assign ?body ?done ?stop
    case hI => exact fun s W W' h hf => h.stay hf (by have := HC'.out; omega)
    case hIx => exact fun cd s W W' h hf => h
    case stop =>
      rintro D cd pre W hD _ h hK
      exact h.elim
    case assign =>
      intro lp pre x W K hi hK
      dsimp only [encsF]
      gi_wp2
      have hb : Below W.heap.size W (W.alloc (.cells #[.slice x.1.a x.1.n x.1.c, .int .i64 x.1.age] 39)) := (Below.refl _ W).alloc (Nat.le_refl _) _
      refine hK _ _ (KeepsFrom.of_fr_no hb) (keep_fr (T := no) (Fr.of_below hb no) (fun _ e => e.elim) (fun a ha cv hcv k hk => .inl ⟨a, ha, cv, ?_, hk⟩)) (hi.below hb) ⟨W.heap.size, hi.ge, heap_alloc_new' W _, rfl⟩
      rw [← hcv]
      exact (hb.cell (by rw [List.mem_singleton.1 ha]; have := hi.ge; show c' < _; omega)).symm
    case body =>
      rintro lp pre ⟨⟨fa, fn, fc, fg⟩, j⟩ a' W hlp ⟨r, hr⟩ hi ⟨q, hqg, hq, rfl⟩ hlt
      dsimp only at hq ⊢
      obtain ⟨svx, hix, hsx⟩ := hi.q
      have k6 : W.cell? ⟨c' + 1, 0, none⟩ = some (.pointer (some ⟨c', 0, none⟩)) := cell_of_one hi.box
      have y0 : W.cell? ⟨q, 0, none⟩ = some (.slice fa fn fc) := blk_cell hq 0
      have y1 : W.cell? ⟨q, 1, none⟩ = some (.int .i64 fg) := blk_cell hq 1
      have HI := Lib.hid hi
      have HIX := Lib.hid hix
      have HSX := Lib.hid hsx
      have HPL : Hid (((pre.map (fun p => p.1.older)).length : Int) < most) := by
        unfold Hid
        rw [List.length_map]
        rw [List.length_zipIdx] at hlt
        have := H1.out.le
        omega
      clear hi hq hr hix hsx hlt
      gi_wp2
      refine ⟨trivial, rfl, CallsIn.inRound lp ((callsIn_wide (n := 0)).2 ?_)⟩
      refine (putYesF ⟨fa, fn, fc, wrap64 (fg + 1)⟩ W HIX.out HPL.out).mono ?_
      rintro e W7 ⟨rfl, sv', q7, m7, f7⟩
      have F7 := Lib.hid (age_fin (x := (⟨fa, fn, fc, fg⟩, j)) (by have := HC'.out; omega) (by omega) HI.out HIX.out HSX.out q7 m7 f7)
      clear q7 m7 f7
      gi_wp2
      exact F7.out
    case done =>
      rintro D ys W hD rfl hi hK
      obtain ⟨sv4, h4, hs4⟩ := hi.q
      rw [zip_older] at h4
      have bW := hi.bel
      have kb : W.cell? ⟨w.heap.size, 0, none⟩ = some (.pointer (some ⟨t, 0, none⟩)) := cellOn' hbx bW
      have kt : W.cell? ⟨t, 1, none⟩ = some (.int .i64 life) := blk_cell (HL.out.below bW).blk 1
      have k6 : W.cell? ⟨c' + 1, 0, none⟩ = some (.pointer (some ⟨c', 0, none⟩)) := cell_of_one hi.box
      have H4 := Lib.hid h4
      have HS4 := Lib.hid hs4
      have BW := Lib.hid bW
      have HK' := Lib.hid hK
      have HIB := Lib.hid hi.box
      clear hi hK h4 hs4 bW
      go_wp2_with fail
      refine (filterF life w.heap.size t c' most sv4 (fl.map Fl.older) W H4.out kb kt).mono ?_
      rintro e W5 ⟨rfl, sv5, q5, m5, f5⟩
      have hlen : ((fl.map Fl.older).length : Int) - ((keepF life (fl.map Fl.older)).length : Int) = ((qs[i].length : Int) - ((agedP life qs[i]).length : Int)) := by
        have e1 := forall_len HR.out.1
        have ok : ∀ p ∈ qs[i], OkFr life p := fun p hp => HL.out.ok qs[i] (List.mem_append.2 (.inr (by rw [List.drop_eq_getElem_cons hiq]; exact List.mem_cons_self ..))) p hp
        have e2 := forall_len (keep_aged (show life ≤ 10000 from HL.out.lf.2) HR.out.1 ok)
        rw [List.length_map, e1, e2]
      have hnext := gonesP_snoc life (qs.take i) qs[i]
      rw [← List.take_succ_eq_append_getElem hiq, ← hlen, ← HHn.out] at hnext
      have hgr := HGR.out (i + 1)
      have hgr0 := HGR.out i
      rw [← HHn.out] at hgr0
      have hm1 : most * ((qs.take (i + 1)).length : Int) ≤ 10000 * 256 := Int.mul_le_mul hmost.2 (by rw [List.length_take]; omega) (by omega) (by omega)
      have hm0 : most * ((qs.take i).length : Int) ≤ 10000 * 256 := Int.mul_le_mul hmost.2 (by rw [List.length_take]; omega) (by omega) (by omega)
      rw [hnext] at hgr
      obtain ⟨d, hd⟩ : ∃ d : Int, d = ((fl.map Fl.older).length : Int) - ((keepF life (fl.map Fl.older)).length : Int) := ⟨_, rfl⟩
      rw [← hd] at hnext hgr ⊢
      have hwn : wrap64 (n + d) = n + d := IntWalk.wrap64_in _ (by omega)
      have b5 : Below wr.heap.size wr W5 := BW.out.trans (f5.below' BW.out.size (fun k hk => by rw [show k = c' from hk, HC'.out]; exact Nat.le_refl _))
      have nb : W5.cell? ⟨w.heap.size, 0, none⟩ = some (.pointer (some ⟨t, 0, none⟩)) := cellOn' hbx b5
      have nt : W5.cell? ⟨t, 3, none⟩ = some (.slice (some ⟨g, 0, none⟩) N cap) := blk_cell (HL.out.below b5).blk 3
      have n6 : W5.cell? ⟨c' + 1, 0, none⟩ = some (.pointer (some ⟨c', 0, none⟩)) := cell_of_one (f5.heap HIB.out (fun (e : c' + 1 = c') => by omega))
      have ng : W5.cell? ⟨g, i, none⟩ = some (.pointer (some ⟨cq, 0, none⟩)) := cellOn' y1 b5
      have zg : W5.frozen? ⟨g, i, none⟩ = false := by
        have h9 := (HL.out.below b5).rows
        unfold Own at h9
        rw [show ps'.length = N by rw [HL.out.len, ← HN.out]] at h9
        exact own_free h9 i
      have hiN : (i : Int) < (N : Int) := by omega
      have Fin := Lib.hid (ag_fin HL.out HS.out HM.out HB.out hip hiq H1.out HR.out.1 HR.out.2.1 HR.out.2.2 (by rw [HC'.out]; exact Nat.le_refl _) (by rw [hs2]; have := HC'.out; omega) BW.out HS4.out q5 m5 f5 ⟨_, H4.out.blk⟩ hD HK'.out)
      have HNX := Lib.hid hnext
      clear hlen hnext hgr hgr0 hm1 hm0 hd q5 m5 f5 b5 kb kt k6 hbx y1
      go_upto_region 12 with fail
      go_region
      go_wp2_with fail
      rw [hwn, show (i : Int) + 1 = ((i + 1 : Nat) : Int) by omega]
      exact Handed.intro (N - (i + 1)) (by omega) (hJ _ _ _ ⟨i + 1, n + d, _, _, _, _, _, _, _, _, _, _, _, _, _, _, _, _, _, _, _, _, _, _, _, _, _, _, rfl, by omega, rfl, HNX.out.symm, Fin.out⟩)
  · obtain rfl : i = N := by omega
    have hall := HGR.out i
    have hti : qs.take i = qs := List.take_of_length_le (by rw [HQN.out]; exact Nat.le_refl _)
    have htd : qs.drop i = [] := List.drop_of_length_le (by rw [HQN.out]; exact Nat.le_refl _)
    rw [hti, htd, List.append_nil] at hL
    rw [hti] at HHn
    rw [hti] at hall
    have hm1 : most * (qs.length : Int) ≤ 10000 * 256 := Int.mul_le_mul hmost.2 (by rw [HQN.out]; omega) (by omega) (by omega)
    rw [← HHn.out] at hall
    obtain ⟨hl0, hl1⟩ := hlo
    have hwl : wrap64 (lost + n) = lost + n := IntWalk.wrap64_in _ (by omega)
    have kt2 : wr.cell? ⟨t, 2, none⟩ = some (.int .i64 lost) := blk_cell hL.blk 2
    have zt2 : wr.frozen? ⟨t, 2, none⟩ = false := blk_free hL.blk 2
    have HL := Lib.hid hL
    have HS := Lib.hid hS
    have HM := Lib.hid hM
    have HHD : Hid (oldP life (qs, lost) = (n, (qs.map (agedP life), lost + n))) := by unfold Hid oldP; dsimp only; rw [← HHn.out]
    have hdl : decide ((i : Int) < (i : Int)) = false := by simp
    clear hL hS hM hB hall hm1
    go_wp2_with fail
    have fl3 : Fr (fun b => b = t) wr (wr.setCell ⟨t, 2, none⟩ (.int .i64 (lost + n))) := (Fr.refl (fun b => b = t) wr).setCell (p := ⟨t, 2, none⟩) (fun _ => rfl) _
    refine LeavesInM.marks (HM.out.keep (fun D hD => fl3.heap hD (fun e => by rw [e, HL.out.blk] at hD; cases hD))) (fun w' hf => ?_)
    refine ⟨_, results_tmp rfl _ _ _, ?_, ?_⟩
    · rw [HHD.out]
      rfl
    · rw [HHD.out]
      exact ⟨F', ⟨_, ps', Fs', (HL.out.lose (lost + n)).1.stay hf⟩, (HS.out.trans (HL.out.lose (lost + n)).2).stayF (Nat.le_refl _) hf⟩
end Go.Proofs.Yteihpaikdpdglaa
