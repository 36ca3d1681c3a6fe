/-
  Package queue at lan.Flying (two cells an item): New, items, Len, Peek, Insert, Put, Cut, Take.
-/
import Derived.Test.YteihpaikdpdglaaFlyA
import Derived.Test.YteihpaikdpdglaaInsMF
import Derived.Test.YteihpaikdpdglaaByt
import Derived.Test.YteihpaikdpdglaaFoot
import Derived.Test.YteihpaikdpdglaaKep
import Derived.Test.YteihpaikdpdglaaRows
import Derived.Laws.Rows
import Derived.Laws.ResultCell
import Derived.Deep.DeepCutAuto
import Derived.Deep.CutBlock
namespace Go.Proofs.Yteihpaikdpdglaa
open Go.RowKit
set_option linter.unusedVariables false


/-- A row of frames, and how many it may hold. -/
structure IsF (w : World) (c : Nat) (most : Int) (sv : Value) (l : List Fl) : Prop where
  blk : w.heap[c]? = some (.cells #[.int .i64 most, sv] 88 (0, 0))
  own : Own enF 39 2 0 w sv l
  m0 : 0 ≤ most ∧ most ≤ 10000
  le : (l.length : Int) ≤ most
section
variable {w w' : World} {c : Nat} {most : Int} {sv : Value} {l : List Fl}
theorem IsF.keep (h : IsF w c most sv l) (h1 : w'.heap[c]? = w.heap[c]?) (h2 : ∀ g, sv.ownBlock = some g → w'.heap[g]? = w.heap[g]?) : IsF w' c most sv l := ⟨h1.trans h.blk, h.own.keep h2, h.m0, h.le⟩
theorem IsF.below (h : IsF w c most sv l) (hb : Below w.heap.size w w') : IsF w' c most sv l := h.keep (hb.block c (lt_of_block h.blk)) (fun g hg => hb.block g (own_lt h.own hg))
theorem IsF.cell0 (h : IsF w c most sv l) : w.cell? ⟨c, 0, none⟩ = some (.int .i64 most) := blk_cell h.blk 0
theorem IsF.cell1 (h : IsF w c most sv l) : w.cell? ⟨c, 1, none⟩ = some sv := blk_cell h.blk 1
theorem IsF.len (h : IsF w c most sv l) : l.length ≤ 10000 := by have := h.le; have := h.m0; omega
end

theorem newF (most : Int) (hm : 0 ≤ most ∧ most ≤ 10000) (w : World) :
    Calls Try.prog 30 #[.int .i64 most] w fun e w' => e = .returned (.pointer (some ⟨w.heap.size, 0, none⟩)) ∧ w' = w.alloc (.cells #[.int .i64 most, .slice none 0 0] 88) := by
  obtain ⟨h0, h1⟩ := hm
  go_enter Try.func30, Try.ntmps30
  go_wp2_with fail
  go_ret
  exact ⟨rfl, by first | rfl | (rw [show max most 0 = most by omega])⟩

theorem itemsF {c : Nat} {most : Int} {sv : Value} {l : List Fl} (w : World) (h : IsF w c most sv l) :
    Calls Try.prog 58 #[.pointer (some ⟨c, 0, none⟩)] w fun e w' => e = .returned sv ∧ w' = w := by
  obtain ⟨a, cap, rfl, _⟩ := own_shape h.own
  have c1 := h.cell1
  clear h
  go_enter Try.func58, Try.ntmps58
  go_wp2_with fail
  go_ret
  exact ⟨rfl, rfl⟩
theorem lenF {c : Nat} {most : Int} {sv : Value} {l : List Fl} (w : World) (h : IsF w c most sv l) :
    Calls Try.prog 45 #[.pointer (some ⟨c, 0, none⟩)] w fun e w' => e = .returned (.int .i64 l.length) ∧ w' = w := by
  obtain ⟨a, cap, hv, _⟩ := own_shape h.own
  have H := Lib.hid h
  have Hv := Lib.hid hv
  clear h hv
  go_enter Try.func45, Try.ntmps45
  go_wp2_with fail
  refine (itemsF w H.out).mono ?_
  rintro e w' ⟨rfl, rfl⟩
  rw [Hv.out]
  go_wp2_with fail
  go_ret
  exact ⟨rfl, rfl⟩
/-- Two results, of which the first lies in a variable of its own. -/
theorem results_row_tmp {P : Program} {fn : Func} {p u : Tmp} {ty : TypeId} (h : fn.results = #[.cell p ty, .tmp u]) (tmps : Array Value) (w : World) (g : Nat) (t : TypeId) (cs : Array Value) (fr : Nat × Nat) (d : TypeDesc)
    (hp : tmps.getD p undef = .pointer (some ⟨g, 0, none⟩)) (hg : w.heap[g]? = some (.cells cs t fr))
    (hu : P.underlying ty = some d) (hd : (match d with | .struct _ | .array _ _ => true | _ => false) = true) (hi : (P.info? ty).map (·.size) = some cs.size) :
    (results fn tmps).run P w = .ok (.tuple #[.agg cs, tmps.getD u undef]) w := by
  have hp' : tmps[p]?.getD undef = .pointer (some ⟨g, 0, none⟩) := by simpa using hp
  simp [results, h, hp', asAddr, run_loadVar_row w g t ty cs fr d hg hu hd hi]

theorem peekF {c : Nat} {most : Int} {sv : Value} {f : Fl} {l : List Fl} (w : World) (h : IsF w c most sv (f :: l)) :
    Calls Try.prog 34 #[.pointer (some ⟨c, 0, none⟩), .int .i64 0] w fun e w' => e = .returned (.tuple #[fV f, .bool true]) ∧ Below w.heap.size w w' := by
  obtain ⟨W, hW⟩ : ∃ W, W = w.alloc (.cells #[.slice none 0 0, .int .i64 0] 39) := ⟨_, rfl⟩
  have hb : Below w.heap.size w W := by rw [hW]; exact (Below.refl _ w).alloc (Nat.le_refl _) _
  obtain ⟨b, hbb⟩ : ∃ b, b = w.heap.size := ⟨_, rfl⟩
  have hn : W.heap[b]? = some (.cells #[.slice none 0 0, .int .i64 0] 39 (0, 0)) := by rw [hW, hbb]; exact heap_alloc_new' w _
  have h := h.below hb
  have hl := h.len
  obtain ⟨g, cap, hv, hg, hc1, hc2⟩ := own_some h.own (by simp)
  have hc3 : cap ≤ 9223372036854775807 := by unfold maxLen at hc2; omega
  have c1 := h.cell1
  rw [hv] at c1
  have y0 : W.cell? ⟨g, 0, none⟩ = some (.slice f.a f.n f.c) := by
    have ho := h.own
    rw [hv] at ho
    have := ho.cell enF_len 0 0 (by simp) (by decide)
    simpa [enF] using this
  have y1 : W.cell? ⟨g, 1, none⟩ = some (.int .i64 f.age) := by
    have ho := h.own
    rw [hv] at ho
    have := ho.cell enF_len 0 1 (by simp) (by decide)
    simpa [enF] using this
  obtain ⟨m, hm⟩ : ∃ m, m = (f :: l).length := ⟨_, rfl⟩
  have hm0 : 0 < m := by rw [hm]; simp
  have H := Lib.hid h
  have Hm := Lib.hid hm
  rw [← hm] at c1 hl hc1
  have d2 : decide ((m : Int) ≤ 0) = false := decide_eq_false (by omega)
  have d3 : decide (m = 0) = false := decide_eq_false (by omega)
  have kb0 : W.cell? ⟨b, 0, none⟩ = some (.slice none 0 0) := blk_cell hn 0
  have kb1 : W.cell? ⟨b, 1, none⟩ = some (.int .i64 0) := blk_cell hn 1
  have kz0 : W.frozen? ⟨b, 0, none⟩ = false := blk_free hn 0
  have kz1 : W.frozen? ⟨b, 1, none⟩ = false := blk_free hn 1
  have Hn := Lib.hid hn
  have HB := Lib.hid hb
  clear h hv hm hn hb
  go_enter Try.func34, Try.ntmps34
  go_wp2_with fail
  rw [← hW, ← hbb]
  have HBB := Lib.hid hbb
  clear hW hbb
  refine (lenF W H.out).mono ?_
  rintro e w' ⟨rfl, rfl⟩
  rw [← Hm.out]
  go_wp2_with fail
  refine bodyPost_ret (results_row_tmp rfl _ _ b 39 #[.slice f.a f.n f.c, .int .i64 f.age] (0, 0) _ rfl (by have := set_heap_same (set_heap_same Hn.out (i := 0) (.slice f.a f.n f.c)) (i := 1) (.int .i64 f.age); simpa using this) Try.underlying39 rfl (by kernel_rfl)) rfl ?_
  refine ⟨rfl, HB.out.trans (Fr.below' (S := fun x => x = b) (((Fr.refl (fun x => x = b) w').setCell (p := ⟨b, 0, none⟩) (fun _ => rfl) _).setCell (p := ⟨b, 1, none⟩) (fun _ => rfl) _) HB.out.size (fun x e => ?_))⟩
  rw [e, HBB.out]
  exact Nat.le_refl _
theorem peekNoF {c : Nat} {most : Int} {sv : Value} (w : World) (h : IsF w c most sv []) :
    Calls Try.prog 34 #[.pointer (some ⟨c, 0, none⟩), .int .i64 0] w fun e w' => e = .returned (.tuple #[.agg #[.slice none 0 0, .int .i64 0], .bool false]) ∧ Below w.heap.size w w' := by
  obtain ⟨W, hW⟩ : ∃ W, W = w.alloc (.cells #[.slice none 0 0, .int .i64 0] 39) := ⟨_, rfl⟩
  have hb : Below w.heap.size w W := by rw [hW]; exact (Below.refl _ w).alloc (Nat.le_refl _) _
  obtain ⟨b, hbb⟩ : ∃ b, b = w.heap.size := ⟨_, rfl⟩
  have hn : W.heap[b]? = some (.cells #[.slice none 0 0, .int .i64 0] 39 (0, 0)) := by rw [hW, hbb]; exact heap_alloc_new' w _
  have H := Lib.hid (h.below hb)
  have kb0 : W.cell? ⟨b, 0, none⟩ = some (.slice none 0 0) := blk_cell hn 0
  have kb1 : W.cell? ⟨b, 1, none⟩ = some (.int .i64 0) := blk_cell hn 1
  have kz0 : W.frozen? ⟨b, 0, none⟩ = false := blk_free hn 0
  have kz1 : W.frozen? ⟨b, 1, none⟩ = false := blk_free hn 1
  have hbl : b < W.heap.size := lt_of_block hn
  have Hn := Lib.hid hn
  have HB := Lib.hid hb
  clear h hn hb
  go_enter Try.func34, Try.ntmps34
  go_wp2_with fail
  rw [← hW, ← hbb]
  have HBB := Lib.hid hbb
  clear hW hbb
  refine (lenF W H.out).mono ?_
  rintro e w' ⟨rfl, rfl⟩
  go_wp2_with fail
  have hna := set_heap_same (set_heap_same Hn.out (i := 0) (.slice none 0 0)) (i := 1) (.int .i64 0)
  refine bodyPost_ret (results_row_tmp rfl _ _ b 39 #[.slice none 0 0, .int .i64 0] (0, 0) _ rfl ((heap_alloc_lt _ _ (by simpa using hbl)).trans (by simpa using hna)) Try.underlying39 rfl (by kernel_rfl)) rfl ?_
  refine ⟨rfl, HB.out.trans (Fr.below' (S := fun x => x = b) ((((Fr.refl (fun x => x = b) w').setCell (p := ⟨b, 0, none⟩) (fun _ => rfl) _).setCell (p := ⟨b, 1, none⟩) (fun _ => rfl) _).alloc _) HB.out.size (fun x e => ?_))⟩
  rw [e, HBB.out]
  exact Nat.le_refl _

/-- Insert where there is no room. -/
theorem insFullF {c : Nat} {most : Int} {sv : Value} {l : List Fl} (i : Int) (x : Fl) (w : World) (h : IsF w c most sv l) (hf : most ≤ (l.length : Int)) :
    Calls Try.prog 35 #[.pointer (some ⟨c, 0, none⟩), .int .i64 i, fV x] w fun e w' => e = .returned (.bool false) ∧ Below w.heap.size w w' := by
  obtain ⟨W, hW⟩ : ∃ W, W = w.alloc (.cells #[.slice x.a x.n x.c, .int .i64 x.age] 39) := ⟨_, rfl⟩
  have hb : Below w.heap.size w W := by rw [hW]; exact (Below.refl _ w).alloc (Nat.le_refl _) _
  have h := h.below hb
  obtain ⟨a, cap, rfl, _⟩ := own_shape h.own
  have c0 := h.cell0
  have c1 := h.cell1
  have d1 : decide (most ≤ (l.length : Int)) = true := by simpa using hf
  have HB := Lib.hid hb
  clear h hb
  go_enter Try.func35, Try.ntmps35
  go_upto_region 1 with fail
  rw [← hW]
  clear hW
  go_quiet (fail)
  go_wp2_with fail
  go_ret
  exact ⟨rfl, below_drewN HB.out _⟩
theorem tinsF (sv : Value) (l : List Fl) (b : Nat) (x : Fl) (i : Nat) (w : World) (hown : Own enF 39 2 0 w sv l) (hx : w.heap[b]? = some (.cells (enF x).toArray 39 (0, 0))) (hi : i ≤ l.length) (hl : l.length ≤ 100000) (hbg : ∀ g, sv.ownBlock = some g → b ≠ g) :
    Calls Try.prog 55 #[sv, .int .i64 i, .slice (some ⟨b, 0, none⟩) 1 1] w fun e w' => ∃ sv', e = .returned sv' ∧ Own enF 39 2 0 w' sv' (l.take i ++ x :: l.drop i) ∧ Fr (fun g => sv.ownBlock = some g) w w' ∧ Mv w sv sv' := by
  by_cases hlt : i < l.length
  · obtain ⟨g, cap, rfl, hg⟩ := own_some hown (by omega)
    refine (insMidF l x g cap b i w 0 (Nat.zero_le _) hown hx (enF_ones l) (enF_one x) hlt hl (hbg g rfl)).mono ?_
    rintro e w' ⟨sv', rfl, h1, h2, h3⟩
    exact ⟨sv', rfl, h1, h2.mono (fun i _ e => by rw [e]; rfl), h3⟩
  · obtain rfl : i = l.length := by omega
    rw [List.take_of_length_le (Nat.le_refl _), List.drop_of_length_le (Nat.le_refl _)]
    exact insEndF sv l b x w 0 (Nat.zero_le _) hown hx hl
theorem insF_fin {w w5 w6 W : World} {c : Nat} {most : Int} {sv sv' : Value} {l : List Fl} {x : Fl} {i : Nat} (h : IsF w5 c most sv l) (hb : Below w.heap.size w w5) (hi : i ≤ l.length) (hm : (l.length : Int) < most)
    (ht6 : w6.heap[c]? = some (.cells #[.int .i64 most, sv] 88 (0, 0))) (o6 : Own enF 39 2 0 w6 sv' (l.take i ++ x :: l.drop i)) (f6 : Fr (fun g => sv.ownBlock = some g) W w6) (m6 : Mv W sv sv') (hW : W = w5.alloc (.cells (enF x).toArray 39) ∨ W = (w5.alloc (.cells (enF x).toArray 39)).drew) :
    ∃ sv'', sv'' = sv' ∧ IsF (w6.setCell ⟨c, 1, none⟩ sv') c most sv' (l.take i ++ x :: l.drop i) ∧ Mv w sv sv' ∧ Fr (fun b => b = c ∨ sv.ownBlock = some b) w (w6.setCell ⟨c, 1, none⟩ sv') := by
  have hbW : Below w.heap.size w W := by
    rcases hW with rfl | rfl
    · exact hb.alloc hb.size _
    · exact (hb.alloc hb.size _).drew
  have hnt : ¬ sv'.ownBlock = some c := fun e => own_ne o6 ht6 (by decide) e
  have hs : Fr (fun b => b = c) w6 (w6.setCell ⟨c, 1, none⟩ sv') := (Fr.refl (fun b => b = c) w6).setCell (p := ⟨c, 1, none⟩) (fun _ => rfl) _
  refine ⟨sv', rfl, ⟨by simpa using heap_setCell_same ht6 (i := 1) sv', o6.fr hs (fun g hg (e : g = c) => hnt (by rw [← e]; exact hg)), h.m0, ?_⟩, fun g hg => (m6 g hg).imp id (fun e => Nat.le_trans hbW.size e), ?_⟩
  · rw [List.length_append, List.length_cons, List.length_take, List.length_drop]
    omega
  · exact (((Fr.of_below hbW (fun b => b = c ∨ sv.ownBlock = some b)).trans' f6 (fun _ _ e => e) (fun i _ e => .inr e))).trans' hs (fun _ _ e => e) (fun i _ e => .inl e)
set_option maxHeartbeats 4000000 in
set_option maxRecDepth 100000 in
/-- Insert, where there is room. -/
theorem insF {c : Nat} {most : Int} {sv : Value} {l : List Fl} (i : Nat) (x : Fl) (w : World) (h : IsF w c most sv l) (hf : (l.length : Int) < most) (hi : i ≤ l.length) :
    Calls Try.prog 35 #[.pointer (some ⟨c, 0, none⟩), .int .i64 i, fV x] w fun e w' => e = .returned (.bool true) ∧ ∃ sv', IsF w' c most sv' (l.take i ++ x :: l.drop i) ∧ Mv w sv sv' ∧ Fr (fun b => b = c ∨ sv.ownBlock = some b) w w' := by
  obtain ⟨W, hW⟩ : ∃ W, W = w.alloc (.cells #[.slice x.a x.n x.c, .int .i64 x.age] 39) := ⟨_, rfl⟩
  have hb : Below w.heap.size w W := by rw [hW]; exact (Below.refl _ w).alloc (Nat.le_refl _) _
  obtain ⟨q, hqq⟩ : ∃ q, q = w.heap.size := ⟨_, rfl⟩
  have hq : W.heap[q]? = some (.cells #[.slice x.a x.n x.c, .int .i64 x.age] 39 (0, 0)) := by rw [hW, hqq]; exact heap_alloc_new' w _
  have h := h.below hb
  have hln := h.len
  obtain ⟨a, cap, rfl, _⟩ := own_shape h.own
  have c0 := h.cell0
  have c1 := h.cell1
  have d1 : decide (most ≤ (l.length : Int)) = false := by simp; omega
  have d2 : decide ((i : Int) < 0) = false := by simp
  have d3 : decide ((l.length : Int) < (i : Int)) = false := by simp; omega
  have d3n : decide (l.length < i) = false := by simp; omega
  have H := Lib.hid h
  have HB := Lib.hid hb
  have HQ := Lib.hid hq
  have HF := Lib.hid hf
  clear h hb hq hf
  go_enter Try.func35, Try.ntmps35
  go_upto_region 1 with fail
  rw [← hW, ← hqq]
  have HQQ := Lib.hid hqq
  clear hW hqq
  go_cut [33] (fun v33 wx => v33 = .bool false ∧ Hid (Below W.heap.size W wx))
  case first =>
    go_quiet (fail)
    go_wp2_with fail
    go_meet
    exact ⟨rfl, below_drewN (Below.refl _ W) _⟩
  case rest =>
    obtain ⟨rfl, Hb⟩ := hcut
    rename World => wE
    have hw := H.out.below Hb.out
    have hs := Hb.out.size
    have c1' := hw.cell1
    have c1z : wE.frozen? ⟨c, 1, none⟩ = false := blk_free hw.blk 1
    have hq2 := (Hb.out.block q (lt_of_block HQ.out)).trans HQ.out
    have y0 : wE.cell? ⟨q, 0, none⟩ = some (.slice x.a x.n x.c) := blk_cell hq2 0
    have y1 : wE.cell? ⟨q, 1, none⟩ = some (.int .i64 x.age) := blk_cell hq2 1
    have Hw := Lib.hid hw
    clear c0 c1 hw hq2
    have hql : q < wE.heap.size := lt_of_block ((Hb.out.block q (lt_of_block HQ.out)).trans HQ.out)
    have hcl : c < wE.heap.size := lt_of_block Hw.out.blk
    have HN : Hid (∀ W', Below wE.heap.size wE W' → IsF W' c most (.slice a l.length cap) l) := fun W' hW' => Hw.out.below hW'
    have HBg : Hid (∀ g, (Value.slice a l.length cap).ownBlock = some g → wE.heap.size ≠ g) := fun g hg => by have := own_lt Hw.out.own hg; omega
    have HNt : Hid (¬ (Value.slice a l.length cap).ownBlock = some c) := fun e => own_ne Hw.out.own Hw.out.blk (by decide) e
    have HI := Lib.hid hi
    have HLN : Hid (l.length ≤ 100000) := by unfold Hid; omega
    have HBE := Lib.hid (HB.out.trans (Hb.out.mono HB.out.size))
    go_upto_region 3 with fail
    go_region_law (first
      | (go_simp; go_at_call 55; refine (tinsF (.slice a l.length cap) l wE.heap.size x i _ (HN.out _ (by first | exact ((Below.refl _ wE).alloc (Nat.le_refl _) _).drew | exact (Below.refl _ wE).alloc (Nat.le_refl _) _ | exact ((Below.refl _ wE).drew.alloc (Nat.le_refl _) _))).own (by first | exact heap_alloc_new' wE _) HI.out HLN.out HBg.out).mono ?_; rintro e w6 ⟨sv', rfl, o6, f6, m6⟩; have ht6 := f6.heap (HN.out _ (by first | exact ((Below.refl _ wE).alloc (Nat.le_refl _) _).drew | exact (Below.refl _ wE).alloc (Nat.le_refl _) _ | exact ((Below.refl _ wE).drew.alloc (Nat.le_refl _) _))).blk HNt.out; have kc6 : w6.cell? ⟨c, 1, none⟩ = some (.slice a l.length cap) := blk_cell ht6 1; have kz6 : w6.frozen? ⟨c, 1, none⟩ = false := blk_free ht6 1; have fin : Hid (∃ sv'', sv'' = sv' ∧ IsF (w6.setCell ⟨c, 1, none⟩ sv') c most sv' (l.take i ++ x :: l.drop i) ∧ Mv w (.slice a l.length cap) sv' ∧ Fr (fun b => b = c ∨ (Value.slice a l.length cap).ownBlock = some b) w (w6.setCell ⟨c, 1, none⟩ sv')) := insF_fin Hw.out HBE.out HI.out HF.out ht6 o6 f6 m6 (.inr rfl); obtain ⟨a6, c6, hv6, _⟩ := own_shape o6; obtain ⟨n6, hn6⟩ : ∃ n, n = (l.take i ++ x :: l.drop i).length := ⟨_, rfl⟩; rw [← hn6] at hv6; subst hv6; clear o6 f6 m6 ht6 hn6)
      | fail)
    all_goals
      clear c1' c1z kc6 kz6 y0 y1
      go_wp2_with fail
      go_ret
      obtain ⟨_, _, f1, f2, f3⟩ := fin.out
      exact ⟨rfl, _, f1, f2, f3⟩
end Go.Proofs.Yteihpaikdpdglaa
