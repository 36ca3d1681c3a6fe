/-
  Layer 4: walk: what a walk tells, in which the row is put to or taken from.
-/
import Derived.Test.YtjefmicmhcajoaaL4C
namespace Go.Proofs.Ytjefmicmhcajoaa
open Go.RowKit
set_option linter.unusedVariables false
attribute [local go_sem] Oper.semAt_some


theorem IsQI.stay {C : Nat} {w w' : World} {B c : Nat} {most : Int} {sv : Value} {l : List Value} (h : IsQI w B c most sv l) (hf : Fr (NC C w) w w') : IsQI w' B c most sv l :=
  ⟨blk_stay h.blk hf, h.ge, h.own.stay hf, h.m0, h.m1, h.one, h.le⟩

/-- What the walk has laid when 'pre' has come. -/
structure WalkInv (w : World) (B C c : Nat) (most n ch : Int) (len : Nat) (pre : List (Int × Nat)) (W : World) : Prop where
  all : ∃ ov sv, ∃ l : List Int, W.heap[w.heap.size + 3]? = some (.cells #[ov] 42 (0, 0)) ∧ Own enQ 3 1 C W ov (ivsI (pre.map Prod.fst)) ∧ IsQI W B c most sv (ivsI l) ∧ l.length ≤ len + pre.length ∧ (∀ g, ov.ownBlock = some g → ¬ sv.ownBlock = some g) ∧ (∀ g, sv.ownBlock = some g → g < w.heap.size ∨ C ≤ g)
  qb : W.heap[w.heap.size]? = some (.cells #[.pointer (some ⟨c, 0, none⟩)] 30 (0, 0))
  num : W.heap[w.heap.size + 1]? = some (.cells #[.int .i64 n] 3 (0, 0))
  chb : W.heap[w.heap.size + 2]? = some (.cells #[.int .i64 ch] 3 (0, 0))
  bel : Below B w W
  lt : ∀ x ∈ pre, (x.2 : Int) < n
  ge : C ≤ W.heap.size

/-- Behind the append and its store. -/
structure WalkMid (w W : World) (B C c : Nat) (most : Int) (ov sq : Value) (lq : List Int) (pre : List (Int × Nat)) (W6 : World) : Prop where
  out : ∃ v5, W6.heap[w.heap.size + 3]? = some (.cells #[v5] 42 (0, 0)) ∧ Own enQ 3 1 C W6 v5 (ivsI (pre.map Prod.fst)) ∧ (∀ g, v5.ownBlock = some g → ov.ownBlock = some g ∨ W.heap.size ≤ g)
  q : IsQI W6 B c most sq (ivsI lq)
  fr : Fr (fun b => ov.ownBlock = some b ∨ b = w.heap.size + 3) W W6

theorem walk_fin {w W W6 W7 : World} {B C c : Nat} {most n ch : Int} {len : Nat} {pre : List (Int × Nat)} {x : Int × Nat} {ov sq sv' : Value} {lq l' : List Int} (hB : B ≤ w.heap.size) (hc : c < w.heap.size) (hC : C = w.heap.size + 5)
    (hi : WalkInv w B C c most n ch len pre W) (ho : W.heap[w.heap.size + 3]? = some (.cells #[ov] 42 (0, 0))) (hown : Own enQ 3 1 C W ov (ivsI (pre.map Prod.fst))) (hq : IsQI W B c most sq (ivsI lq)) (hll : lq.length ≤ len + pre.length)
    (hd : (∀ g, ov.ownBlock = some g → ¬ sq.ownBlock = some g) ∧ (∀ g, sq.ownBlock = some g → g < w.heap.size ∨ C ≤ g)) (hx : (x.2 : Int) < n) (m : WalkMid w W B C c most ov sq lq (pre ++ [x]) W6)
    (h7 : IsQI W7 B c most sv' (ivsI l')) (hm : Mv W6 sq sv') (hf : Fr (ftp c sq) W6 W7) (hl' : l'.length ≤ lq.length + 1) :
    KeepsFrom C W W7 ∧ Keep [⟨w.heap.size + 3, 0, none⟩, ⟨c, 1, none⟩] C W W7 ∧ WalkInv w B C c most n ch len (pre ++ [x]) W7 := by
  obtain ⟨v5, hv5, ho5, hm5⟩ := m.out
  have hs6 := m.fr.size
  have hge := hi.ge
  have fall : Fr (fun b => (ov.ownBlock = some b ∨ b = w.heap.size + 3) ∨ (b = c ∨ sq.ownBlock = some b)) W W7 := m.fr.trans' hf (fun _ _ e => .inl e) (fun _ _ e => .inr e)
  have hov : ∀ g, ov.ownBlock = some g → C ≤ g ∧ g < W.heap.size := fun g hg => hown.lt g hg
  have hsq : ∀ g, sq.ownBlock = some g → B ≤ g ∧ g < W.heap.size := fun g hg => hq.own.lt g hg
  have hnsq : ¬ sq.ownBlock = some (w.heap.size + 3) := fun e => own_ne hq.own ho (by decide) e
  have hv5lt : ∀ g, v5.ownBlock = some g → g < W6.heap.size := fun g hg => own_lt ho5 hg
  have hv5c : ¬ v5.ownBlock = some c := fun e => own_ne ho5 m.q.blk (by decide) e
  have hv5s : ∀ g, v5.ownBlock = some g → ¬ sq.ownBlock = some g := fun g hg e => by
    rcases hm5 g hg with h | h
    · exact hd.1 g h e
    · have := (hsq g e).2; omega
  have hb7 : W7.heap[w.heap.size + 3]? = some (.cells #[v5] 42 (0, 0)) := hf.heap hv5 (fun e => by
    rcases e with e | e
    · omega
    · exact hnsq e)
  have k1 : W.cell? ⟨w.heap.size + 3, 0, none⟩ = some ov := cell_of_one ho
  refine ⟨keepsFrom_fr fall (fun k hk => ?_), keep_fr fall (fun k hk => ?_) (fun a ha cv hcv k hk => ?_), ⟨⟨v5, sv', l', hb7, ho5.fr hf (fun g hg e => ?_), h7, by simp; omega, fun g hg e => ?_, fun g hg => ?_⟩, ?_, ?_, ?_, ?_, ?_, ?_⟩⟩
  · rcases hk with (hk | hk) | (hk | hk)
    · obtain ⟨cur, hc⟩ := own_type hown hk
      exact .inr ⟨_, _, _, hc⟩
    · exact .inl (by omega)
    · exact .inl (by omega)
    · obtain ⟨cur, hc⟩ := own_type hq.own hk
      exact .inr ⟨_, _, _, hc⟩
  · rcases hk with (hk | hk) | (hk | hk)
    · exact .inr (fun hn => hn _ (by simp) _ k1 hk)
    · exact .inl (by omega)
    · exact .inl (by omega)
    · exact .inr (fun hn => hn ⟨c, 1, none⟩ (by simp) _ hq.cell1 hk)
  · rcases List.mem_cons.1 ha with rfl | ha
    · rw [blk_cell hb7 0] at hcv
      simp at hcv
      subst hcv
      rcases hm5 k hk with h | h
      · exact .inl ⟨_, List.mem_cons_self .., _, k1, h⟩
      · exact .inr h
    · rw [List.mem_singleton.1 ha, h7.cell1] at hcv
      simp at hcv
      subst hcv
      rcases hm k hk with h | h
      · exact .inl ⟨⟨c, 1, none⟩, by simp, _, hq.cell1, h⟩
      · exact .inr (by omega)
  · rcases e with e | e
    · subst e; exact hv5c hg
    · exact hv5s g hg e
  · rcases hm g e with h | h
    · exact hv5s g hg h
    · have := hv5lt g hg; omega
  · rcases hm g hg with h | h
    · exact hd.2 g h
    · exact .inr (by omega)
  · refine fall.heap hi.qb ?_
    rintro ((e | e) | (e | e))
    · have := (hov _ e).1; omega
    · omega
    · omega
    · exact own_ne hq.own hi.qb (by decide) e
  · refine fall.heap hi.num ?_
    rintro ((e | e) | (e | e))
    · have := (hov _ e).1; omega
    · omega
    · omega
    · have := hd.2 _ e; omega
  · refine fall.heap hi.chb ?_
    rintro ((e | e) | (e | e))
    · have := (hov _ e).1; omega
    · omega
    · omega
    · have := hd.2 _ e; omega
  · refine hi.bel.trans (fall.below' (Nat.le_trans hB hi.bel.size) (fun k hk => ?_))
    rcases hk with (hk | hk) | (hk | hk)
    · have := (hov _ hk).1; omega
    · omega
    · rw [hk]; exact hq.ge
    · exact (hsq _ hk).1
  · intro y hy
    rcases List.mem_append.1 hy with hy | hy
    · exact hi.lt y hy
    · rw [List.mem_singleton.1 hy]; exact hx
  · exact Nat.le_trans hge fall.size

set_option maxRecDepth 100000 in
set_option maxHeartbeats 4000000 in
theorem walk (n ch : Int) (hch : 0 ≤ ch ∧ ch ≤ 2) (c : Nat) (most : Int) (sv : Value) (zs : List Int) (w : World) (B : Nat) (hB : B ≤ w.heap.size) (h : IsQI w B c most sv (ivsI zs)) (hl : zs.length ≤ 40000) (hn : 0 ≤ n) :
    Calls Try.prog 23 #[.pointer (some ⟨c, 0, none⟩), .int .i64 n, .int .i64 ch] w fun e w' => ∃ ov, e = .returned ov ∧ Own enQ 3 1 w.heap.size w' ov (ivsI (zs.take n.toNat)) ∧ Below B w w' := by
  obtain ⟨i0, hi0, hz0, hz1, hz2⟩ := info_parts infoQI
  have hc := lt_of_block h.blk
  have H := Lib.hid h
  clear h
  refine (callsIn_wide (n := 2)).1 ?_
  refine callsIn_of_wp_marks Try.func23 rfl trivial ?_ rfl
  simp only [Try.ntmps23, List.size_toArray, List.length_cons, List.length_nil, Nat.reduceAdd, Nat.reduceSub, Array.replicate_succ, Array.replicate_zero, List.push_toArray, List.append_toArray, List.nil_append, List.cons_append]
  refine wpIn_wide.2 ?_
  go_wp2_with fail
  refine (eachQI c _).mono ?_
  rintro e w1 ⟨rfl, hbx, hbel, hsz⟩
  have hs1 : w1.heap.size = w.heap.size + 5 := by rw [hsz]; simp
  have al : Below w.heap.size w ((((w.alloc (.cells #[.pointer (some ⟨c, 0, none⟩)] 30)).alloc (.cells #[.int .i64 n] 3)).alloc (.cells #[.int .i64 ch] 3)).alloc (.cells #[.slice none 0 0] 42)) := ((((Below.refl _ w).alloc (Nat.le_refl _) _).alloc (by simp) _).alloc (by simp <;> omega) _).alloc (by simp <;> omega) _
  have hB1 : Below w.heap.size w w1 := al.trans (hbel.mono (by simp <;> omega))
  have hp0 : w1.heap[w.heap.size]? = some (.cells #[.pointer (some ⟨c, 0, none⟩)] 30 (0, 0)) := (hbel.block _ (by simp <;> omega)).trans ((heap_alloc_lt _ _ (by simp <;> omega)).trans ((heap_alloc_lt _ _ (by simp <;> omega)).trans ((heap_alloc_lt _ _ (by simp)).trans (heap_alloc_new' w _))))
  have hp1 : w1.heap[w.heap.size + 1]? = some (.cells #[.int .i64 n] 3 (0, 0)) := (hbel.block _ (by simp <;> omega)).trans ((heap_alloc_lt _ _ (by simp <;> omega)).trans ((heap_alloc_lt _ _ (by simp)).trans (by have := heap_alloc_new' (w.alloc (.cells #[.pointer (some ⟨c, 0, none⟩)] 30)) (.cells #[.int .i64 n] 3); simpa using this)))
  have hp2 : w1.heap[w.heap.size + 2]? = some (.cells #[.int .i64 ch] 3 (0, 0)) := (hbel.block _ (by simp <;> omega)).trans ((heap_alloc_lt _ _ (by simp)).trans (by have := heap_alloc_new' ((w.alloc (.cells #[.pointer (some ⟨c, 0, none⟩)] 30)).alloc (.cells #[.int .i64 n] 3)) (.cells #[.int .i64 ch] 3); simpa using this))
  have hp3 : w1.heap[w.heap.size + 3]? = some (.cells #[.slice none 0 0] 42 (0, 0)) := (hbel.block _ (by simp)).trans (by have := heap_alloc_new' (((w.alloc (.cells #[.pointer (some ⟨c, 0, none⟩)] 30)).alloc (.cells #[.int .i64 n] 3)).alloc (.cells #[.int .i64 ch] 3)) (.cells #[.slice none 0 0] 42); simpa using this)
  have hp4 : w1.heap[w.heap.size + 1 + 1 + 1 + 1]? = some (.cells #[.pointer (some ⟨c, 0, none⟩)] 30 (0, 0)) := by simpa using hbx
  clear hbx hbel hsz al
  go_wp2_with fail
  have hq1 := H.out.below hB1
  have inv0 : WalkInv w B w1.heap.size c most n ch zs.length [] w1 := ⟨⟨_, sv, zs, hp3, Own.nil _ _ _ _ _, hq1, by simp, fun g hg => by simp [Value.ownBlock] at hg, fun g hg => .inl (own_lt H.out.own hg)⟩, hp0, hp1, hp2, hB1.mono hB, fun x hx => by simp at hx, Nat.le_refl _⟩
  have Inv0 := Lib.hid inv0
  have Hseq := Lib.hid (each1QI (w.heap.size + 1 + 1 + 1 + 1) c most sv zs w1 B [⟨w.heap.size + 3, 0, none⟩, ⟨c, 1, none⟩] (fun a ha => by
      rcases List.mem_cons.1 ha with rfl | ha
      · show w.heap.size + 3 < _; omega
      · rw [List.mem_singleton.1 ha]; show c < _; omega) (fun a ha cv hcv k hk => by
      rcases List.mem_cons.1 ha with rfl | ha
      · rw [blk_cell hp3 0] at hcv
        simp at hcv
        subst hcv
        simp [Value.ownBlock] at hk
      · rw [List.mem_singleton.1 ha, hq1.cell1] at hcv
        simp at hcv
        subst hcv
        exact own_lt hq1.own hk) hp4 hq1 (by omega))
  clear inv0 hp0 hp1 hp2 hp3 hp4 hB1 hq1
  refine (wpIn_wide (n := 2)).1 ?_
  refine wp_rangeK (gf := 51) (lb := #[.pointer (some ⟨w.heap.size + 1 + 1 + 1 + 1, 0, none⟩)]) rfl (enters_of Try.func51 (by kernel_rfl) rfl) (Kp := Keep [⟨w.heap.size + 3, 0, none⟩, ⟨c, 1, none⟩] w1.heap.size) keep_t (keep_b (fun a ha => by
      rcases List.mem_cons.1 ha with rfl | ha
      · show w.heap.size + 3 < _; omega
      · rw [List.mem_singleton.1 ha]; show c < _; omega)) Hseq.out (fun _ => rfl)
    (fun pre W => WalkInv w B w1.heap.size c most n ch zs.length pre W) (fun cd pre W => cd = .exit 0 ∧ ∃ p0 x, pre = p0 ++ [x] ∧ n ≤ (x.2 : Int) ∧ WalkInv w B w1.heap.size c most n ch zs.length p0 W) ?hI ?hIx Inv0.out
    (fun x a' W => a' = { tmps := #[.pointer (some ⟨c, 0, none⟩), .int .i64 n, .int .i64 ch, .pointer (some ⟨w.heap.size, 0, none⟩), .pointer (some ⟨w.heap.size + 1, 0, none⟩), .pointer (some ⟨w.heap.size + 1 + 1, 0, none⟩), .slice none 0 0, .pointer (some ⟨w.heap.size + 1 + 1 + 1, 0, none⟩), .int .i64 x.2, .int .i64 x.1, .pointer (some ⟨c, 0, none⟩), .func (.func 51) #[] #[.pointer (some ⟨w.heap.size + 1 + 1 + 1 + 1, 0, none⟩)], .int .i64 x.2, .int .i64 x.1, undef, undef, undef, undef, undef, undef, undef, undef, undef, undef, undef, undef, undef, undef, undef, undef], defers := [] })
    (fun _ _ _ _ h _ => h) ?assign ?body ?done ?stop
  case hI =>
    exact fun s W W' h hf => ⟨by obtain ⟨ov, sv, l, h1, h2, h3, h4, h5⟩ := h.all; exact ⟨ov, sv, l, blk_stay h1 hf, h2.stay hf, h3.stay hf, h4, h5⟩, blk_stay h.qb hf, blk_stay h.num hf, blk_stay h.chb hf, below_stay h.bel hf (by omega) hB, h.lt, Nat.le_trans h.ge hf.size⟩
  case hIx =>
    exact fun cd s W W' ⟨e, p0, x, h1, h2, h⟩ hf => ⟨e, p0, x, h1, h2, by obtain ⟨ov, sv, l, h1, h2, h3, h4, h5⟩ := h.all; exact ⟨ov, sv, l, blk_stay h1 hf, h2.stay hf, h3.stay hf, h4, h5⟩, blk_stay h.qb hf, blk_stay h.num hf, blk_stay h.chb hf, below_stay h.bel hf (by omega) hB, h.lt, Nat.le_trans h.ge hf.size⟩
  case assign =>
    intro lp pre x W K hi hK
    dsimp only [encsQI]
    gi_wp2
    exact hK _ _ (KeepsFrom.refl _ _) (keep_refl _ _ _) hi rfl
  case body =>
    rintro lp pre x a' W hlp ⟨r, hr⟩ hi rfl hlt
    obtain ⟨ov, sq, lq, ho, hown, hq, hll, hd⟩ := hi.all
    obtain ⟨oa, oc, hov, _⟩ := own_shape hown
    rw [ivsI_len, List.length_map] at hov
    subst hov
    have k0 := cell_of_one hi.qb
    have k1 : W.cell? ⟨w.heap.size + 1, 0, none⟩ = some (.int .i64 n) := cell_of_one hi.num
    have k2 : W.cell? ⟨w.heap.size + 1 + 1, 0, none⟩ = some (.int .i64 ch) := cell_of_one hi.chb
    have k3 : W.cell? ⟨w.heap.size + 1 + 1 + 1, 0, none⟩ = some (.slice oa pre.length oc) := cell_of_one ho
    have z3 : W.frozen? ⟨w.heap.size + 1 + 1 + 1, 0, none⟩ = false := free_of_one ho
    have hlen : pre.length ≤ 40000 := by omega
    have hWs := lt_of_block ho
    have HI := Lib.hid hi
    have Ho := Lib.hid ho
    have Hown := Lib.hid hown
    have HQ := Lib.hid hq
    have HD := Lib.hid hd
    have HL := Lib.hid hll
    clear hi ho hown hr hq hd hll
    by_cases hge : n ≤ (x.2 : Int)
    · have hdg : decide (n ≤ (x.2 : Int)) = true := by simpa using hge
      have Hge := Lib.hid hge
      clear hge
      gi_wp2
      exact ⟨KeepsFrom.refl _ _, rfl, pre, x, rfl, Hge.out, HI.out⟩
    · have hdg : decide (n ≤ (x.2 : Int)) = false := by simpa using hge
      have Hge := Lib.hid hge
      clear hge
      have hown1 : Own enQ 3 1 w1.heap.size (W.alloc (.cells #[.int .i64 x.1] 3)) (.slice oa pre.length oc) (ivsI (pre.map Prod.fst)) := Own.fr Hown.out ((Fr.refl no W).alloc _) (fun _ _ e => e)
      gi_wp2_with (gi_at_builtin; refine held ?_)
      refine unheld ?_
      refine wpListIn_app (B := w1.heap.size) (v := .slice oa pre.length oc) (n := pre.length) rfl (.tmp 17) (.tmp 19) 42 rfl 3 i0 _ 1 _ Try.underlying42 hi0 hz0 hz1 hz2 rfl (by decide) (by have := HI.out.ge; simp; omega) rfl rfl (by have := hown1; unfold Own at this; rw [ivsI_len, List.length_map] at this; exact this) (Rd.new rfl rfl) (by intro u hu; simp at hu; subst hu; rfl) (by unfold maxLen; omega) (by omega) ?_
      intro v5 w5 o5 f5 m5 n5 z5
      have f25 : Fr (fun b => (Value.slice oa pre.length oc).ownBlock = some b) W w5 := ((Fr.refl _ W).alloc _).trans f5
      have b5 := f25.heap Ho.out (fun e => own_ne Hown.out Ho.out (by decide) e)
      have k5 : w5.cell? ⟨w.heap.size + 1 + 1 + 1, 0, none⟩ = some (.slice oa pre.length oc) := cell_of_one b5
      have zz5 : w5.frozen? ⟨w.heap.size + 1 + 1 + 1, 0, none⟩ = false := free_of_one b5
      have hge5 : ∀ k, k < w.heap.size + 5 → ¬ (Value.slice oa pre.length oc).ownBlock = some k := fun k hk e => by have := (Hown.out.lt k e).1; omega
      have q5 : w5.cell? ⟨w.heap.size + 1 + 1, 0, none⟩ = some (.int .i64 ch) := cell_of_one (f25.heap HI.out.chb (hge5 _ (by omega)))
      have p5 : w5.cell? ⟨w.heap.size, 0, none⟩ = some (.pointer (some ⟨c, 0, none⟩)) := cell_of_one (f25.heap HI.out.qb (hge5 _ (by omega)))
      have hs5 := f25.size
      have o6 : Own enQ 3 1 w1.heap.size w5 v5 (ivsI ((pre ++ [x]).map Prod.fst)) := by
        have : w5.ownsRow w1.heap.size 3 1 v5 ((ivsI (pre.map Prod.fst)).length + 1) ((ivsI (pre.map Prod.fst)).flatMap enQ ++ [.int .i64 x.1]) := by rw [ivsI_len, List.length_map]; exact o5
        have := Own.snoc (x := Value.int .i64 x.1) this rfl
        simpa using this
      obtain ⟨a5, c5, rfl, _⟩ := own_shape o5
      have O6 := Lib.hid o6
      have B5 := Lib.hid b5
      have mid : WalkMid w W B w1.heap.size c most (.slice oa pre.length oc) sq lq (pre ++ [x]) (w5.setCell ⟨w.heap.size + 1 + 1 + 1, 0, none⟩ (.slice a5 (pre.length + 1) c5)) := by
        have f6 : Fr (fun b => b = w.heap.size + 3) w5 (w5.setCell ⟨w.heap.size + 1 + 1 + 1, 0, none⟩ (.slice a5 (pre.length + 1) c5)) := (Fr.refl (fun b => b = w.heap.size + 3) w5).setCell (fun _ => rfl) _
        have fall := f25.trans' f6 (T := fun b => (Value.slice oa pre.length oc).ownBlock = some b ∨ b = w.heap.size + 3) (fun _ _ e => .inl e) (fun _ _ e => .inr e)
        refine ⟨⟨_, one_setCell B5.out, O6.out.fr f6 (fun g hg (e : g = w.heap.size + 3) => by subst e; exact own_ne O6.out B5.out (by decide) hg), fun g hg => ?_⟩, HQ.out.fr fall (fun e => ?_) (fun g hg e => ?_), fall⟩
        · rcases m5 with m5 | m5
          · exact .inl (by rw [← m5]; exact hg)
          · have := hg.symm.trans m5
            injection this with this
            exact .inr (by rw [this]; simp)
        · rcases e with e | e
          · exact hge5 _ (by omega) e
          · omega
        · rcases e with e | e
          · exact HD.out.1 g e hg
          · subst e; exact own_ne HQ.out.own Ho.out (by decide) hg
      have fin : ∀ (W7 : World) (sv' : Value) (l' : List Int), IsQI W7 B c most sv' (ivsI l') → Mv (w5.setCell ⟨w.heap.size + 1 + 1 + 1, 0, none⟩ (.slice a5 (pre.length + 1) c5)) sq sv' → Fr (ftp c sq) (w5.setCell ⟨w.heap.size + 1 + 1 + 1, 0, none⟩ (.slice a5 (pre.length + 1) c5)) W7 → l'.length ≤ lq.length + 1 →
          KeepsFrom w1.heap.size W W7 ∧ Keep [⟨w.heap.size + 3, 0, none⟩, ⟨c, 1, none⟩] w1.heap.size W W7 ∧ WalkInv w B w1.heap.size c most n ch zs.length (pre ++ [x]) W7 := fun W7 sv' l' h7 hm hf hl' =>
        walk_fin hB hc hs1 HI.out Ho.out Hown.out HQ.out HL.out HD.out (by have := Hge.out; omega) mid h7 hm hf hl'
      have Fin := Lib.hid fin
      have Mid := Lib.hid mid.q
      have Hll : Hid (lq.length ≤ 90000) := by unfold Hid; have := HL.out; omega
      have hBs : Hid (B ≤ (w5.setCell ⟨w.heap.size + 1 + 1 + 1, 0, none⟩ (.slice a5 (pre.length + 1) c5)).heap.size) := by unfold Hid; simp; omega
      clear fin mid o5 o6 b5 n5 m5 f5 f25 hge5
      obtain rfl | rfl | rfl : ch = 0 ∨ ch = 1 ∨ ch = 2 := by omega
      · gi_wp2
        exact Fin.out _ sq lq Mid.out (Mv.refl _ _) (Fr.refl _ _) (by omega)
      · gi_wp2
        refine ⟨trivial, rfl, CallsIn.inRound lp ((callsIn_wide (n := 0)).2 ?_)⟩
        refine (putQI c most sq (ivsI lq) (.int .i64 (-1)) _ B hBs.out Mid.out (by have := Hll.out; rw [ivsI_len]; omega) ⟨-1, rfl⟩).mono ?_
        rintro e W7 ⟨rfl, sv', h7, m7, f7⟩
        have hput : ∃ l', putL most (ivsI lq) (.int .i64 (-1)) = ivsI l' ∧ l'.length ≤ lq.length + 1 := by
          unfold putL
          split
          · exact ⟨lq ++ [-1], by simp, by simp⟩
          · exact ⟨lq, rfl, by omega⟩
        obtain ⟨l', hl', hl2⟩ := hput
        rw [hl'] at h7
        have F7 := Lib.hid (Fin.out W7 sv' l' h7 m7 f7 hl2)
        have k7 : W7.cell? ⟨w.heap.size + 1 + 1, 0, none⟩ = some (.int .i64 1) := cell_of_one F7.out.2.2.chb
        clear h7 m7 f7 hl' hl2
        gi_wp2
        exact F7.out
      · gi_wp2
        refine ⟨trivial, rfl, CallsIn.inRound lp ((callsIn_wide (n := 0)).2 ?_)⟩
        cases lq with
        | nil =>
          refine (takeNoI c most sq _ B Mid.out).mono ?_
          rintro e W7 ⟨rfl, rfl⟩
          gi_wp2
          exact Fin.out _ sq [] Mid.out (Mv.refl _ _) (Fr.refl _ _) (by simp)
        | cons z lq =>
          refine (takeYesI c most sq (.int .i64 z) (ivsI lq) _ B hBs.out Mid.out (by have := Hll.out; rw [List.length_cons, ivsI_len]; rw [List.length_cons] at this; omega) ⟨z, rfl⟩).mono ?_
          rintro e W7 ⟨rfl, sv', h7, m7, f7⟩
          have F7 := Lib.hid (Fin.out W7 sv' lq h7 m7 (f7.mono (fun _ _ e => .inl e)) (by simp; omega))
          clear h7 m7 f7
          gi_wp2
          exact F7.out
  case done =>
    rintro D ys W hD rfl hi hK
    obtain ⟨ov, sv', l', ho, hown, _⟩ := hi.all
    have k1 := cell_of_one ho
    have HI := Lib.hid hi
    have Hown := Lib.hid hown
    have HK := Lib.hid hK
    clear hi ho hown hK
    go_wp2_with fail
    refine ⟨by simp, .inl ⟨_, _, rfl, run_takeDeferred HK.out, ?_⟩⟩
    refine ⟨_, results_tmp rfl _ _ _, ov, rfl, ?_, ?_⟩
    · have hf := fr_putObj W D w1.heap.size (.deferred none) _ hD HK.out rfl
      have h1 := Hown.out.stay hf
      have h2 : zs.take n.toNat = zs.zipIdx.map Prod.fst := by
        rw [List.zipIdx_map_fst]
        refine List.take_of_length_le ?_
        by_cases hx : n.toNat < zs.length
        · have := HI.out.lt (zs[n.toNat], n.toNat) (by
            rw [List.mem_iff_getElem]
            exact ⟨n.toNat, by simpa using hx, by simp⟩)
          dsimp only at this
          omega
        · omega
      rw [h2]
      exact own_base (own_zero h1) (fun g hg => by have := (h1.lt g hg).1; omega)
    · exact below_stay HI.out.bel (fr_putObj W D w1.heap.size (.deferred none) _ hD HK.out rfl) (by omega) hB
  case stop =>
    rintro D cd pre W hD ⟨j, hj0, hj, rfl⟩ ⟨rfl, p0, x, hp, hxn, hi⟩ hK
    obtain ⟨ov, sv', l', ho, hown, _⟩ := hi.all
    have k1 := cell_of_one ho
    have HI := Lib.hid hi
    have Hown := Lib.hid hown
    have HK := Lib.hid hK
    have Hp := Lib.hid hp
    have Hx := Lib.hid hxn
    clear hi ho hown hK hp hxn
    refine wpIn_wide.2 ?_
    go_wp2_with fail
    refine ⟨by simp, .inl ⟨_, _, rfl, run_takeDeferred HK.out, ?_⟩⟩
    refine ⟨_, results_tmp rfl _ _ _, ov, rfl, ?_, ?_⟩
    · have hf := fr_putObj W D w1.heap.size (.deferred none) _ hD HK.out rfl
      have h1 := Hown.out.stay hf
      have h2 : zs.take n.toNat = p0.map Prod.fst := by
        obtain ⟨j, rfl⟩ : ∃ q, j = q + 1 := ⟨j - 1, by omega⟩
        have hp := Hp.out
        rw [idx_snocI zs (by omega)] at hp
        obtain ⟨e1, e2⟩ := List.append_inj_right' hp rfl |> fun e => And.intro (List.append_inj_left' hp rfl) e
        simp at e2
        subst e2
        have hxn := Hx.out
        dsimp only at hxn
        have hjn : (j : Int) ≤ n := by
          by_cases hj0 : j = 0
          · omega
          · have hq := HI.out.lt (zs[j - 1], j - 1) (by
              rw [← e1, List.mem_take_iff_getElem]
              exact ⟨j - 1, by simp; omega, by simp⟩)
            dsimp only at hq
            omega
        have hnj : n.toNat = j := by omega
        rw [← e1, hnj, ← List.map_take.symm, List.zipIdx_map_fst]
      rw [h2]
      exact own_base (own_zero h1) (fun g hg => by have := (h1.lt g hg).1; omega)
    · exact below_stay HI.out.bel (fr_putObj W D w1.heap.size (.deferred none) _ hD HK.out rfl) (by omega) hB
end Go.Proofs.Ytjefmicmhcajoaa
