/-
  Layer 12: changing: the walk.
-/
import Derived.Test.YtjjfminpaoooaaaL12K
import Derived.Test.YtjjfminpaoooaaaL12N
namespace Go.Proofs.Ytjjfminpaoooaaa
open Go.RowKit
set_option linter.unusedVariables false
attribute [local go_sem] Oper.semAt_some


/-- Behind the append and its store. -/
structure ChMid (w W : World) (C c q : Nat) (most : Int) (ov : Value) (F : Nat → Prop) (lq : List ItI) (px : List ItI) (W6 : World) : Prop where
  out : ∃ v5, W6.heap[w.heap.size + 3]? = some (.cells #[v5] 44 (0, 0)) ∧ Own enTI 48 9 C W6 v5 px ∧ (∀ g, v5.ownBlock = some g → ov.ownBlock = some g ∨ W.heap.size ≤ g)
  tb : TbAI W6 F c most lq
  kb : ∃ cs fr, W6.heap[q]? = some (.cells cs 28 fr)
  fr : Fr (fun b => (ov.ownBlock = some b ∨ b = w.heap.size + 3) ∨ (b = q ∨ F b)) W W6
theorem TbAI.nt {w : World} {F : Nat → Prop} {c : Nat} {most : Int} {l : List ItI} (h : TbAI w F c most l) : ∀ b cs t fr, w.heap[b]? = some (.cells cs t fr) → t ≠ 68 → t ≠ 70 → ¬ F b := by
  intro b cs t fr hb h1 h2 hFb
  obtain ⟨sv, hT, hFF⟩ := h
  rcases (hFF b).1 hFb with rfl | e
  · rw [hT.blk] at hb; cases hb; exact h1 rfl
  · exact own_ne hT.own hb h2 e
theorem ChMid.set {w W W6 : World} {C c q : Nat} {most : Int} {ov : Value} {F : Nat → Prop} {lq px : List ItI} (m : ChMid w W C c q most ov F lq px W6) (u : Value) : ChMid w W C c q most ov F lq px (W6.setCell ⟨q, 6, none⟩ u) := by
  obtain ⟨v5, h1, h2, h3⟩ := m.out
  obtain ⟨cs, fr, hk⟩ := m.kb
  have hf : Fr (fun b => b = q) W6 (W6.setCell ⟨q, 6, none⟩ u) := (Fr.refl (fun b => b = q) W6).setCell (fun _ => rfl) _
  have hne : ∀ b cs' t fr', W6.heap[b]? = some (.cells cs' t fr') → t ≠ 28 → b ≠ q := by
    rintro b cs' t fr' hb h1 rfl
    rw [hb] at hk; cases hk; exact h1 rfl
  refine ⟨⟨v5, hf.heap h1 (fun e => hne _ _ _ _ h1 (by decide) e), h2.fr hf (fun g hg e => ?_), h3⟩, m.tb.keep (fun x hx => ?_), ⟨_, _, set_heap_same hk u⟩, m.fr.trans' hf (fun _ _ e => e) (fun _ _ e => .inr (.inl e))⟩
  · obtain ⟨cur, hc⟩ := own_type h2 hg
    exact hne _ _ _ _ hc (by decide) e
  · refine hf.blk x (m.tb.lt x hx) (fun e => ?_)
    have e : x = q := e
    subst e
    exact m.tb.nt _ _ _ _ hk (by decide) (by decide) hx

theorem ch_stp {w W Wx W7 : World} {F0 : Nat → Prop} {C c : Nat} {most n ch : Int} {pre : List ItI} {x : ItI} {ov : Value} {F F7 : Nat → Prop} {q : Nat} {l lq l' : List ItI} (hc : c < w.heap.size) (hC : C = w.heap.size + 5)
    (hi : ChInv w F0 C c most n ch pre W) (ho : W.heap[w.heap.size + 3]? = some (.cells #[ov] 44 (0, 0))) (hown : Own enTI 48 9 C W ov pre) (hq : TbAI W F c most l) (hd : (∀ g, F g → g < w.heap.size ∨ C ≤ g) ∧ (∀ g, F g → F0 g ∨ w.heap.size ≤ g)) (hx : (pre.length : Int) < n)
    (hqq : C ≤ q ∧ ∃ cs fr, W.heap[q]? = some (.cells cs 28 fr)) (m : ChMid w W C c q most ov F lq (pre ++ [x]) Wx) (h7 : TbAI W7 F7 c most l') (s : Stp F F7 Wx W7) :
    KeepsFrom C W W7 ∧ KeepT 28 [⟨w.heap.size + 3, 0, none⟩, ⟨c, 1, none⟩] C W W7 ∧ ChInv w F0 C c most n ch (pre ++ [x]) W7 := by
  obtain ⟨v5, h1, h2, h3⟩ := m.out
  refine ch_fin hc hC hi ho hown hq hd hx hqq (v5 := v5) (s.fr.heap h1 (m.tb.nt _ _ _ _ h1 (by decide) (by decide))) (h2.fr s.fr (fun g hg e => ?_)) h3 h7 (fun g hg => ?_) (m.fr.trans' s.fr (fun _ _ e => e) (fun _ _ e => .inr (.inr e)))
  · obtain ⟨cur, hc⟩ := own_type h2 hg
    exact m.tb.nt _ _ _ _ hc (by decide) (by decide) e
  · rcases s.new g hg with h | h
    · exact .inl h
    · exact .inr (Nat.le_trans m.fr.size h)

set_option maxRecDepth 100000 in
set_option maxHeartbeats 4000000 in
theorem changing (n ch : Int) (hch : 0 ≤ ch ∧ ch ≤ 2) (hn0 : 0 ≤ n) (c : Nat) (most : Int) (zs : List ItI) (F : Nat → Prop) (w : World) (h : TbAI w F c most zs) :
    Calls Try.prog 24 #[.pointer (some ⟨c, 0, none⟩), .int .i64 n, .int .i64 ch] w fun e w' => ∃ ov, e = .returned ov ∧ Own enTI 48 9 w.heap.size w' ov (zs.take n.toNat) ∧ Fr F w w' := by
  obtain ⟨i0, hi0, hz0, hz1, hz2⟩ := info_parts infoRow
  obtain ⟨sv, hT, hFF⟩ := h
  have hc := lt_of_block hT.blk
  have hl := hT.len
  obtain ⟨zk, hzk⟩ : ∃ zk : List OkI, zs = zk.map (fun e => e.1) := ⟨zs.attach.map (fun e => ⟨e.1, hT.ok e.1 e.2⟩), by rw [List.map_map]; exact (List.attach_map_subtype_val zs).symm⟩
  have HZK := Lib.hid hzk
  have HZL := Lib.hid (show zk.length = zs.length by rw [hzk, List.length_map])
  clear hzk
  have H := Lib.hid (show TbAI w F c most zs from ⟨sv, hT, hFF⟩)
  have HT := Lib.hid hT
  have HFl := Lib.hid (H.out.lt)
  clear hT hFF
  refine (callsIn_wide (n := 2)).1 ?_
  refine callsIn_of_wp_marks Try.func24 rfl trivial ?_ rfl
  simp only [Try.ntmps24, List.size_toArray, List.length_cons, List.length_nil, Nat.reduceAdd, Nat.reduceSub, Array.replicate_succ, Array.replicate_zero, List.push_toArray, List.append_toArray, List.nil_append, List.cons_append]
  refine wpIn_wide.2 ?_
  go_wp2_with fail
  refine (eachT c _).mono ?_
  rintro e w1 ⟨rfl, hbx, hbel, hsz⟩
  have hs1 : w1.heap.size = w.heap.size + 5 := by rw [hsz]; simp
  have al : Below w.heap.size w ((((w.alloc (.cells #[.pointer (some ⟨c, 0, none⟩)] 42)).alloc (.cells #[.int .i64 n] 3)).alloc (.cells #[.int .i64 ch] 3)).alloc (.cells #[.slice none 0 0] 44)) := ((((Below.refl _ w).alloc (Nat.le_refl _) _).alloc (by simp) _).alloc (by simp <;> omega) _).alloc (by simp <;> omega) _
  have hB1 : Below w.heap.size w w1 := al.trans (hbel.mono (by simp <;> omega))
  have hp0 : w1.heap[w.heap.size]? = some (.cells #[.pointer (some ⟨c, 0, none⟩)] 42 (0, 0)) := (hbel.block _ (by simp <;> omega)).trans ((heap_alloc_lt _ _ (by simp <;> omega)).trans ((heap_alloc_lt _ _ (by simp <;> omega)).trans ((heap_alloc_lt _ _ (by simp)).trans (heap_alloc_new' w _))))
  have hp1 : w1.heap[w.heap.size + 1]? = some (.cells #[.int .i64 n] 3 (0, 0)) := (hbel.block _ (by simp <;> omega)).trans ((heap_alloc_lt _ _ (by simp <;> omega)).trans ((heap_alloc_lt _ _ (by simp)).trans (by have := heap_alloc_new' (w.alloc (.cells #[.pointer (some ⟨c, 0, none⟩)] 42)) (.cells #[.int .i64 n] 3); simpa using this)))
  have hp2 : w1.heap[w.heap.size + 2]? = some (.cells #[.int .i64 ch] 3 (0, 0)) := (hbel.block _ (by simp <;> omega)).trans ((heap_alloc_lt _ _ (by simp)).trans (by have := heap_alloc_new' ((w.alloc (.cells #[.pointer (some ⟨c, 0, none⟩)] 42)).alloc (.cells #[.int .i64 n] 3)) (.cells #[.int .i64 ch] 3); simpa using this))
  have hp3 : w1.heap[w.heap.size + 3]? = some (.cells #[.slice none 0 0] 44 (0, 0)) := (hbel.block _ (by simp)).trans (by have := heap_alloc_new' (((w.alloc (.cells #[.pointer (some ⟨c, 0, none⟩)] 42)).alloc (.cells #[.int .i64 n] 3)).alloc (.cells #[.int .i64 ch] 3)) (.cells #[.slice none 0 0] 44); simpa using this)
  have hp4 : w1.heap[w.heap.size + 1 + 1 + 1 + 1]? = some (.cells #[.pointer (some ⟨c, 0, none⟩)] 42 (0, 0)) := by simpa using hbx
  clear hbx hbel hsz al
  go_wp2_with fail
  have hq1 : TbII w1 c most sv zs := HT.out.below hB1
  have inv0 : ChInv w F w1.heap.size c most n ch [] w1 := ⟨⟨_, F, zs, hp3, Own.nil _ _ _ _ _, H.out.below hB1, fun g hg => .inl (HFl.out g hg), fun g hg => .inl hg⟩, hp0, hp1, hp2, Fr.of_below hB1 F, .inr rfl, Nat.le_refl _⟩
  have Inv0 := Lib.hid inv0
  have Hseq := Lib.hid (each1K (w.heap.size + 1 + 1 + 1 + 1) c most sv zk zs HZK.out w1 [⟨w.heap.size + 3, 0, none⟩, ⟨c, 1, none⟩] (fun a ha => by
      rcases List.mem_cons.1 ha with rfl | ha
      · show w.heap.size + 3 < _; omega
      · rw [List.mem_singleton.1 ha]; show c < _; omega) (fun a ha cv hcv k hk => by
      rcases List.mem_cons.1 ha with rfl | ha
      · rw [blk_cell hp3 0] at hcv
        simp at hcv
        subst hcv
        simp [Value.ownBlock] at hk
      · rw [List.mem_singleton.1 ha, hq1.cell1] at hcv
        simp at hcv
        subst hcv
        exact own_lt hq1.own hk) hp4 hq1)
  clear inv0 hp0 hp1 hp2 hp3 hp4 hB1 hq1
  refine (wpIn_wide (n := 2)).1 ?_
  refine wp_rangeK (gf := 44) (lb := #[.pointer (some ⟨w.heap.size + 1 + 1 + 1 + 1, 0, none⟩)]) rfl (enters_of Try.func44 (by kernel_rfl) rfl) (Kp := KeepT 28 [⟨w.heap.size + 3, 0, none⟩, ⟨c, 1, none⟩] w1.heap.size) keepT_t (keepT_b (fun a ha => by
      rcases List.mem_cons.1 ha with rfl | ha
      · show w.heap.size + 3 < _; omega
      · rw [List.mem_singleton.1 ha]; show c < _; omega)) Hseq.out (fun _ => rfl)
    (fun pre W => ChInv w F w1.heap.size c most n ch (pre.map (fun e => e.1)) W) (fun cd pre W => cd = .exit 0 ∧ ∃ p0 x, pre = p0 ++ [x] ∧ n ≤ (p0.length : Int) ∧ ChInv w F w1.heap.size c most n ch (p0.map (fun e => e.1)) W) ?hI ?hIx Inv0.out
    (fun x a' W => ∃ q, w1.heap.size ≤ q ∧ W.heap[q]? = some (.cells (kyCs x.1.1) 28 (0, 0)) ∧ a' = { tmps := #[.pointer (some ⟨c, 0, none⟩), .int .i64 n, .int .i64 ch, .pointer (some ⟨w.heap.size, 0, none⟩), .pointer (some ⟨w.heap.size + 1, 0, none⟩), .pointer (some ⟨w.heap.size + 1 + 1, 0, none⟩), .slice none 0 0, .pointer (some ⟨w.heap.size + 1 + 1 + 1, 0, none⟩), .pointer (some ⟨q, 0, none⟩), .int .i64 x.1.2, .pointer (some ⟨c, 0, none⟩), .func (.func 44) #[] #[.pointer (some ⟨w.heap.size + 1 + 1 + 1 + 1, 0, none⟩)], kyV x.1.1, .int .i64 x.1.2, undef, undef, undef, undef, undef, undef, undef, undef, undef, undef, undef, undef, undef, undef, undef, undef, undef, undef, undef, undef, undef, undef, undef, undef, undef, undef, undef, undef, undef, undef, undef], defers := [] })
    (fun x a' W W' ⟨q, h1, h2, h3⟩ hf => ⟨q, h1, blk_stay h2 hf, h3⟩) ?assign ?body ?done ?stop
  case hI =>
    exact fun s W W' h hf => ⟨by obtain ⟨ov, F', l, h1, h2, h3, h4⟩ := h.all; exact ⟨ov, F', l, blk_stay h1 hf, h2.stay hf, h3.nc hf, h4⟩, blk_stay h.tb hf, blk_stay h.num hf, blk_stay h.chb hf, fr_stay h.bel hf (by omega), h.lt, Nat.le_trans h.ge hf.size⟩
  case hIx =>
    exact fun cd s W W' ⟨e, p0, x, h1, h2, h⟩ hf => ⟨e, p0, x, h1, h2, by obtain ⟨ov, F', l, h1, h2, h3, h4⟩ := h.all; exact ⟨ov, F', l, blk_stay h1 hf, h2.stay hf, h3.nc hf, h4⟩, blk_stay h.tb hf, blk_stay h.num hf, blk_stay h.chb hf, fr_stay h.bel hf (by omega), h.lt, Nat.le_trans h.ge hf.size⟩
  case assign =>
    intro lp pre x W K hi hK
    dsimp only [encsK]
    gi_wp2
    have hb : Below W.heap.size W (W.alloc (.cells (kyCs x.1.1) 28)) := (Below.refl _ W).alloc (Nat.le_refl _) _
    have hi' : ChInv w F w1.heap.size c most n ch (pre.map (fun e => e.1)) (W.alloc (.cells (kyCs x.1.1) 28)) :=
      ⟨by obtain ⟨ov, F', l, h1, h2, h3, h4⟩ := hi.all; exact ⟨ov, F', l, (hb.block _ (lt_of_block h1)).trans h1, h2.keep (fun g hg => hb.block g (own_lt h2 hg)), h3.below hb, h4⟩, (hb.block _ (lt_of_block hi.tb)).trans hi.tb, (hb.block _ (lt_of_block hi.num)).trans hi.num, (hb.block _ (lt_of_block hi.chb)).trans hi.chb, hi.bel.trans' (Fr.of_below hb no) (fun _ _ e => e) (fun _ _ e => e.elim), hi.lt, Nat.le_trans hi.ge hb.size⟩
    have hws : w.heap.size ≤ W.heap.size := hi.bel.size
    refine hK _ _ (KeepsFrom.of_fr_no hb) (keepT_fr (S := no) (Fr.of_below hb no) (fun _ e => e.elim) (fun a ha cv hcv k hk => .inl ⟨a, ha, cv, ?_, hk⟩)) hi' ⟨W.heap.size, hi.ge, heap_alloc_new' W _, rfl⟩
    rw [← hcv]
    refine (hb.cell ?_).symm
    have := hi.ge
    rcases List.mem_cons.1 ha with rfl | ha
    · show w.heap.size + 3 < _; omega
    · rw [List.mem_singleton.1 ha]; show c < _; omega
  case body =>
    rintro lp pre0 ⟨x, hxk⟩ a' W hlp ⟨r, hr⟩ hi ⟨q, hqg, hq, rfl⟩ hlt
    dsimp only at hq hi ⊢
    obtain ⟨pre, hpre⟩ : ∃ pre, pre = pre0.map (fun e : OkI => e.1) := ⟨_, rfl⟩
    rw [← hpre] at hi
    have HPR := Lib.hid (show (pre0 ++ [(⟨x, hxk⟩ : OkI)]).map (fun e => e.1) = pre ++ [x] by rw [hpre, List.map_append]; rfl)
    have HPL := Lib.hid (show pre0.length = pre.length by rw [hpre, List.length_map])
    have HPE := Lib.hid hpre
    have Hok := Lib.hid hxk
    have hlt2 : pre.length < zs.length := by have := HPL.out; have := HZL.out; omega
    clear hpre
    obtain ⟨ov, Fq, lq, ho, hown, hT, hd⟩ := hi.all
    obtain ⟨oa, oc, hov, _⟩ := own_shape hown
    subst hov
    have k0 := cell_of_one hi.tb
    have k1 : W.cell? ⟨w.heap.size + 1, 0, none⟩ = some (.int .i64 n) := cell_of_one hi.num
    have k2 : W.cell? ⟨w.heap.size + 1 + 1, 0, none⟩ = some (.int .i64 ch) := cell_of_one hi.chb
    have k3 : W.cell? ⟨w.heap.size + 1 + 1 + 1, 0, none⟩ = some (.slice oa pre.length oc) := cell_of_one ho
    have z3 : W.frozen? ⟨w.heap.size + 1 + 1 + 1, 0, none⟩ = false := free_of_one ho
    have y0 : W.cell? ⟨q, 0, none⟩ = some (.int .u8 x.1.f0) := blk_cell hq 0
    have y1 : W.cell? ⟨q, 1, none⟩ = some (.int .u8 x.1.f1) := blk_cell hq 1
    have y2 : W.cell? ⟨q, 2, none⟩ = some (.int .u8 x.1.f2) := blk_cell hq 2
    have y3 : W.cell? ⟨q, 3, none⟩ = some (.int .u8 x.1.f3) := blk_cell hq 3
    have y4 : W.cell? ⟨q, 4, none⟩ = some (.int .u8 x.1.f4) := blk_cell hq 4
    have y5 : W.cell? ⟨q, 5, none⟩ = some (.int .u8 x.1.f5) := blk_cell hq 5
    have y6 : W.cell? ⟨q, 6, none⟩ = some (.int .i64 x.1.near) := blk_cell hq 6
    have y7 : W.cell? ⟨q, 7, none⟩ = some (.int .i64 x.1.there) := blk_cell hq 7
    have hlen : pre.length ≤ 100000 := by omega
    have hWs := lt_of_block ho
    have HI := Lib.hid hi
    have Ho := Lib.hid ho
    have Hown := Lib.hid hown
    have HTq := Lib.hid hT
    have HD := Lib.hid hd
    have HQ := Lib.hid hq
    clear hi ho hown hr hq hT hd
    by_cases hge : n ≤ (pre.length : Int)
    · have hdg : decide (n ≤ (pre.length : Int)) = true := by simpa using hge
      have Hge := Lib.hid hge
      clear hge
      gi_wp2
      exact ⟨KeepsFrom.refl _ _, rfl, pre0, ⟨x, hxk⟩, rfl, by rw [HPL.out]; exact Hge.out, by rw [← HPE.out]; exact HI.out⟩
    · have hdg : decide (n ≤ (pre.length : Int)) = false := by simpa using hge
      have Hge := Lib.hid hge
      clear hge
      gi_wp2_with (gi_at_builtin; refine held ?_)
      refine unheld ?_
      refine wpListIn_app (B := w1.heap.size) (v := .slice oa pre.length oc) (n := pre.length) rfl (.tmp 18) (.tmp 28) 44 rfl 48 i0 _ 9 _ Try.underlying44 hi0 hz0 hz1 hz2 rfl (by decide) (by have := HI.out.ge; simp; omega) rfl rfl (by have := Own.fr Hown.out ((Fr.refl no W).alloc (.cells (enTI x).toArray 48)) (fun _ _ e => e); exact this) (Rd.new rfl rfl) (by exact enTI_one x) (by unfold maxLen; omega) (by omega) ?_
      intro v5 w5 o5 f5 m5 n5 z5
      have f25 : Fr (fun b => (Value.slice oa pre.length oc).ownBlock = some b) W w5 := ((Fr.refl _ W).alloc _).trans f5
      have b5 := f25.heap Ho.out (fun e => own_ne Hown.out Ho.out (by decide) e)
      have k5 : w5.cell? ⟨w.heap.size + 1 + 1 + 1, 0, none⟩ = some (.slice oa pre.length oc) := cell_of_one b5
      have zz5 : w5.frozen? ⟨w.heap.size + 1 + 1 + 1, 0, none⟩ = false := free_of_one b5
      have hge5 : ∀ k, k < w.heap.size + 5 → ¬ (Value.slice oa pre.length oc).ownBlock = some k := fun k hk e => by have := (Hown.out.lt k e).1; omega
      have q5 : w5.cell? ⟨w.heap.size + 1 + 1, 0, none⟩ = some (.int .i64 ch) := cell_of_one (f25.heap HI.out.chb (hge5 _ (by omega)))
      have p5 : w5.cell? ⟨w.heap.size, 0, none⟩ = some (.pointer (some ⟨c, 0, none⟩)) := cell_of_one (f25.heap HI.out.tb (hge5 _ (by omega)))
      have hq5 : w5.heap[q]? = some (.cells (kyCs x.1) 28 (0, 0)) := f25.heap HQ.out (fun e => own_ne Hown.out HQ.out (by decide) e)
      have u0 : w5.cell? ⟨q, 0, none⟩ = some (.int .u8 x.1.f0) := blk_cell hq5 0
      have u1 : w5.cell? ⟨q, 1, none⟩ = some (.int .u8 x.1.f1) := blk_cell hq5 1
      have u2 : w5.cell? ⟨q, 2, none⟩ = some (.int .u8 x.1.f2) := blk_cell hq5 2
      have u3 : w5.cell? ⟨q, 3, none⟩ = some (.int .u8 x.1.f3) := blk_cell hq5 3
      have u4 : w5.cell? ⟨q, 4, none⟩ = some (.int .u8 x.1.f4) := blk_cell hq5 4
      have u5 : w5.cell? ⟨q, 5, none⟩ = some (.int .u8 x.1.f5) := blk_cell hq5 5
      have u6 : w5.cell? ⟨q, 6, none⟩ = some (.int .i64 x.1.near) := blk_cell hq5 6
      have u7 : w5.cell? ⟨q, 7, none⟩ = some (.int .i64 x.1.there) := blk_cell hq5 7
      have hs5 := f25.size
      have o6 : Own enTI 48 9 w1.heap.size w5 v5 (pre ++ [x]) := Own.snoc (x := x) o5 rfl
      obtain ⟨a5, c5, rfl, _⟩ := own_shape o5
      have O6 := Lib.hid o6
      have B5 := Lib.hid b5
      have mid : ChMid w W w1.heap.size c q most (.slice oa pre.length oc) Fq lq (pre ++ [x]) (w5.setCell ⟨w.heap.size + 1 + 1 + 1, 0, none⟩ (.slice a5 (pre.length + 1) c5)) := by
        have f6 : Fr (fun b => b = w.heap.size + 3) w5 (w5.setCell ⟨w.heap.size + 1 + 1 + 1, 0, none⟩ (.slice a5 (pre.length + 1) c5)) := (Fr.refl (fun b => b = w.heap.size + 3) w5).setCell (fun _ => rfl) _
        have fall := f25.trans' f6 (T := fun b => (Value.slice oa pre.length oc).ownBlock = some b ∨ b = w.heap.size + 3) (fun _ _ e => .inl e) (fun _ _ e => .inr e)
        refine ⟨⟨_, one_setCell B5.out, O6.out.fr f6 (fun g hg (e : g = w.heap.size + 3) => by subst e; exact own_ne O6.out B5.out (by decide) hg), fun g hg => ?_⟩, HTq.out.keep (fun b hb => fall.blk b (HTq.out.lt b hb) (fun e => ?_)), ⟨_, _, fall.heap HQ.out (fun e => ?_)⟩, fall.mono (fun _ _ e => .inl e)⟩
        · rcases m5 with m5 | m5
          · exact .inl (by rw [← m5]; exact hg)
          · have := hg.symm.trans m5
            injection this with this
            exact .inr (by rw [this]; simp)
        · rcases e with e | e
          · obtain ⟨cur, hc⟩ := own_type Hown.out e
            exact HTq.out.nt _ _ _ _ hc (by decide) (by decide) hb
          · have e : b = w.heap.size + 3 := e
            subst e
            exact HTq.out.nt _ _ _ _ Ho.out (by decide) (by decide) hb
        · rcases e with e | e
          · exact own_ne Hown.out HQ.out (by decide) e
          · have e : q = w.heap.size + 3 := e
            omega
      have fin : ∀ (Wx W7 : World) (F7 : Nat → Prop) (l' : List ItI), ChMid w W w1.heap.size c q most (.slice oa pre.length oc) Fq lq (pre ++ [x]) Wx → TbAI W7 F7 c most l' → Stp Fq F7 Wx W7 →
          KeepsFrom w1.heap.size W W7 ∧ KeepT 28 [⟨w.heap.size + 3, 0, none⟩, ⟨c, 1, none⟩] w1.heap.size W W7 ∧ ChInv w F w1.heap.size c most n ch ((pre0 ++ [(⟨x, hxk⟩ : OkI)]).map (fun e => e.1)) W7 := fun Wx W7 F7 l' m h7 s =>
        by rw [HPR.out]; exact ch_stp hc hs1 HI.out Ho.out Hown.out HTq.out HD.out (by have := Hge.out; omega) ⟨hqg, _, _, HQ.out⟩ m h7 s
      have Fin := Lib.hid fin
      have Mid := Lib.hid mid
      have HQ5 := Lib.hid hq5
      have hzq : w5.frozen? ⟨q, 6, none⟩ = false := blk_free hq5 6
      have hqo : ¬ w.heap.size + 1 + 1 + 1 = q := by omega
      have hqo2 : ¬ q = w.heap.size + 1 + 1 + 1 := by omega
      clear fin mid o5 o6 b5 n5 m5 f5 f25 hge5 hq5
      obtain rfl | rfl | rfl : ch = 0 ∨ ch = 1 ∨ ch = 2 := by omega
      · gi_wp2
        exact Fin.out _ _ Fq lq Mid.out Mid.out.tb (Stp.refl _ _)
      · gi_wp2
        refine ⟨trivial, rfl, CallsIn.inRound lp ((callsIn_wide (n := 0)).2 ?_)⟩
        have ms := Mid.out.set (.int .i64 (wrap64 (x.1.near + 1000)))
        refine (tputX ms.tb ⟨x.1.f0, x.1.f1, x.1.f2, x.1.f3, x.1.f4, x.1.f5, wrap64 (x.1.near + 1000), x.1.there⟩ Hok.out (-1)).mono ?_
        rintro e W7 ⟨E, F7, l', rfl, h7, s7⟩
        have F7 := Lib.hid (Fin.out _ W7 F7 l' ms h7 s7)
        have k7 : W7.cell? ⟨w.heap.size + 1 + 1, 0, none⟩ = some (.int .i64 1) := cell_of_one F7.out.2.2.chb
        clear ms h7 s7
        gi_wp2
        exact F7.out
      · gi_wp2
        refine ⟨trivial, rfl, CallsIn.inRound lp ((callsIn_wide (n := 0)).2 ?_)⟩
        refine (tdelX Mid.out.tb x.1 Hok.out).mono ?_
        rintro e W7 ⟨E, F7, l', rfl, h7, s7⟩
        have F7 := Lib.hid (Fin.out _ W7 F7 l' Mid.out h7 s7)
        clear h7 s7
        gi_wp2
        exact F7.out
  case done =>
    rintro D ys W hD rfl hi hK
    obtain ⟨ov, F', l', ho, hown, _⟩ := hi.all
    have k1 := cell_of_one ho
    have HI := Lib.hid hi
    have Hown := Lib.hid hown
    have HK := Lib.hid hK
    clear hi ho hown hK
    go_wp2_with fail
    refine ⟨by simp, .inl ⟨_, _, rfl, run_takeDeferred HK.out, ?_⟩⟩
    refine ⟨_, results_tmp rfl _ _ _, ov, rfl, ?_, ?_⟩
    · have hf := fr_putObj W D w1.heap.size (.deferred none) _ hD HK.out rfl
      have h1 := Hown.out.stay hf
      have h2 : zs.take n.toNat = ys.map (fun e => e.1) := by
        rw [← HZK.out]
        refine List.take_of_length_le ?_
        have := HI.out.lt
        rw [← HZK.out] at this
        rcases this with h | h
        · omega
        · rw [h]; exact Nat.zero_le _
      rw [h2]
      exact own_base (own_zero h1) (fun g hg => by have := (h1.lt g hg).1; omega)
    · exact fr_stay HI.out.bel (fr_putObj W D w1.heap.size (.deferred none) _ hD HK.out rfl) (by omega)
  case stop =>
    rintro D cd pre W hD ⟨j, hj0, hj, rfl⟩ ⟨rfl, p0, x, hp, hxn, hi⟩ hK
    obtain ⟨ov, F', l', ho, hown, _⟩ := hi.all
    have k1 := cell_of_one ho
    have HI := Lib.hid hi
    have Hown := Lib.hid hown
    have HK := Lib.hid hK
    have Hp := Lib.hid hp
    have Hx := Lib.hid hxn
    clear hi ho hown hK hp hxn
    refine wpIn_wide.2 ?_
    go_wp2_with fail
    refine ⟨by simp, .inl ⟨_, _, rfl, run_takeDeferred HK.out, ?_⟩⟩
    refine ⟨_, results_tmp rfl _ _ _, ov, rfl, ?_, ?_⟩
    · have hf := fr_putObj W D w1.heap.size (.deferred none) _ hD HK.out rfl
      have h1 := Hown.out.stay hf
      have h2 : zs.take n.toNat = p0.map (fun e => e.1) := by
        have hxn := Hx.out
        have e1 : (zk.take j).take p0.length = p0 := by rw [Hp.out, List.take_left']; rfl
        have e2 : p0.length + 1 ≤ j := by
          have := congrArg List.length Hp.out
          rw [List.length_take, List.length_append, List.length_singleton] at this
          omega
        rw [List.take_take, show min p0.length j = p0.length by omega] at e1
        have e3 : n.toNat = p0.length := by
          rcases HI.out.lt with h | h
          · rw [List.length_map] at h; omega
          · have := congrArg List.length h
            rw [List.length_map, List.length_nil] at this
            omega
        rw [HZK.out, ← List.map_take, e3, e1]
      rw [h2]
      exact own_base (own_zero h1) (fun g hg => by have := (h1.lt g hg).1; omega)
    · exact fr_stay HI.out.bel (fr_putObj W D w1.heap.size (.deferred none) _ hD HK.out rfl) (by omega)
end Go.Proofs.Ytjjfminpaoooaaa
