/-
  Layer 12: walk: what a walk tells, the first n of it.
-/
import Derived.Test.YtjjfminpaoooaaaL12H
import Derived.Test.YtjjfminpaoooaaaL12G
namespace Go.Proofs.Ytjjfminpaoooaaa
open Go.RowKit
set_option linter.unusedVariables false
attribute [local go_sem] Oper.semAt_some


theorem infoRow : (Try.prog.info? 48).map (fun i => (i.zero, i.size, i.bytes)) = some (some (.agg #[.int .u8 0, .int .u8 0, .int .u8 0, .int .u8 0, .int .u8 0, .int .u8 0, .int .i64 0, .int .i64 0, .int .i64 0]), 9, 32) := by kernel_rfl

/-- The first n; all, if n is below 0. -/
def firstN (n : Int) (zs : List ItI) : List ItI := if n < 0 then zs else zs.take n.toNat

/-- What the walk has laid when 'pre' has come. -/
structure AllInv (w : World) (C : Nat) (n : Int) (pre : List ItI) (W : World) : Prop where
  out : ∃ ov, W.heap[w.heap.size + 1]? = some (.cells #[ov] 44 (0, 0)) ∧ Own enTI 48 9 C W ov pre
  num : W.heap[w.heap.size]? = some (.cells #[.int .i64 n] 3 (0, 0))
  bel : Below w.heap.size w W
  ne : ∀ i : Nat, i < pre.length → (i : Int) ≠ n
  ge : C ≤ W.heap.size

theorem AllInv.below {w W W' : World} {C : Nat} {n : Int} {pre : List ItI} (h : AllInv w C n pre W) (hb : Below W.heap.size W W') : AllInv w C n pre W' :=
  ⟨by obtain ⟨ov, h1, h2⟩ := h.out; exact ⟨ov, (hb.block _ (lt_of_block h1)).trans h1, h2.keep (fun g hg => hb.block g (own_lt h2 hg))⟩, (hb.block _ (lt_of_block h.num)).trans h.num, h.bel.trans (hb.mono h.bel.size), h.ne, Nat.le_trans h.ge hb.size⟩

set_option maxRecDepth 100000 in
set_option maxHeartbeats 4000000 in
theorem walkT (n : Int) (c : Nat) (most : Int) (sv : Value) (zs : List ItI) (w : World) (h : TbII w c most sv zs) :
    Calls Try.prog 23 #[.pointer (some ⟨c, 0, none⟩), .int .i64 n] w fun e w' => ∃ ov, e = .returned ov ∧ Own enTI 48 9 w.heap.size w' ov (firstN n zs) ∧ Below w.heap.size w w' := by
  obtain ⟨i0, hi0, hz0, hz1, hz2⟩ := info_parts infoRow
  have hc := lt_of_block h.blk
  have hl := h.len
  have H := Lib.hid h
  clear h
  refine (callsIn_wide (n := 2)).1 ?_
  refine callsIn_of_wp_marks Try.func23 rfl trivial ?_ rfl
  simp only [Try.ntmps23, List.size_toArray, List.length_cons, List.length_nil, Nat.reduceAdd, Nat.reduceSub, Array.replicate_succ, Array.replicate_zero, List.push_toArray, List.append_toArray, List.nil_append, List.cons_append]
  refine wpIn_wide.2 ?_
  go_wp2_with fail
  refine (eachT c _).mono ?_
  rintro e w1 ⟨rfl, hbx, hbel, hsz⟩
  have hs1 : w1.heap.size = w.heap.size + 3 := by rw [hsz]; simp
  have hB1 : Below w.heap.size w w1 := (((Below.refl _ w).alloc (Nat.le_refl _) _).alloc (by simp) _).trans (hbel.mono (by simp; omega))
  have hn1 : w1.heap[w.heap.size]? = some (.cells #[.int .i64 n] 3 (0, 0)) := (hbel.block _ (by simp; omega)).trans ((heap_alloc_lt _ _ (by simp)).trans (heap_alloc_new' w _))
  have ho1 : w1.heap[w.heap.size + 1]? = some (.cells #[.slice none 0 0] 44 (0, 0)) := (hbel.block _ (by simp)).trans (by have := heap_alloc_new' (w.alloc (.cells #[.int .i64 n] 3)) (.cells #[.slice none 0 0] 44); simpa using this)
  have hb1 : w1.heap[w.heap.size + 1 + 1]? = some (.cells #[.pointer (some ⟨c, 0, none⟩)] 42 (0, 0)) := by simpa using hbx
  clear hbx hbel hsz
  go_wp2_with fail
  have hq1 : TbII w1 c most sv zs := H.out.below hB1
  have inv0 : AllInv w w1.heap.size n [] w1 := ⟨⟨_, ho1, Own.nil _ _ _ _ _⟩, hn1, hB1, fun x hx => by simp at hx, Nat.le_refl _⟩
  have Inv0 := Lib.hid inv0
  have Hseq := Lib.hid (each1T (w.heap.size + 1 + 1) c most sv zs w1 [⟨w.heap.size + 1, 0, none⟩] (fun a ha => by rw [List.mem_singleton.1 ha]; show w.heap.size + 1 < _; omega) (fun a ha cv hcv k hk => by
    rw [List.mem_singleton.1 ha, blk_cell ho1 0] at hcv
    simp at hcv
    subst hcv
    simp [Value.ownBlock] at hk) hb1 hq1)
  clear inv0 hb1 ho1 hn1 hB1 hq1
  refine (wpIn_wide (n := 2)).1 ?_
  refine wp_rangeK (gf := 44) (lb := #[.pointer (some ⟨w.heap.size + 1 + 1, 0, none⟩)]) rfl (enters_of Try.func44 (by kernel_rfl) rfl) (Kp := KeepT 28 [⟨w.heap.size + 1, 0, none⟩] w1.heap.size) keepT_t (keepT_b (fun a ha => by rw [List.mem_singleton.1 ha]; show w.heap.size + 1 < _; omega)) Hseq.out (fun _ => rfl)
    (fun pre W => AllInv w w1.heap.size n pre W) (fun cd pre W => cd = .exit 0 ∧ ∃ p0 x, pre = p0 ++ [x] ∧ (p0.length : Int) = n ∧ AllInv w w1.heap.size n p0 W) ?hI ?hIx Inv0.out
    (fun x a' W => ∃ q, w1.heap.size ≤ q ∧ W.heap[q]? = some (.cells (kyCs x.1) 28 (0, 0)) ∧ a' = { tmps := #[.pointer (some ⟨c, 0, none⟩), .int .i64 n, undef, .pointer (some ⟨w.heap.size, 0, none⟩), .slice none 0 0, .pointer (some ⟨w.heap.size + 1, 0, none⟩), .pointer (some ⟨q, 0, none⟩), .int .i64 x.2, .pointer (some ⟨c, 0, none⟩), .func (.func 44) #[] #[.pointer (some ⟨w.heap.size + 1 + 1, 0, none⟩)], kyV x.1, .int .i64 x.2, undef, undef, undef, undef, undef, undef, undef, undef, undef, undef, undef, undef, undef, undef, undef, undef, undef], defers := [] })
    (fun x a' W W' ⟨q, h1, h2, h3⟩ hf => ⟨q, h1, blk_stay h2 hf, h3⟩) ?assign ?body ?done ?stop
  case hI => exact fun s W W' h hf => ⟨by obtain ⟨ov, h1, h2⟩ := h.out; exact ⟨ov, blk_stay h1 hf, h2.stay hf⟩, blk_stay h.num hf, below_stay h.bel hf (by omega) (Nat.le_refl _), h.ne, Nat.le_trans h.ge hf.size⟩
  case hIx => exact fun cd s W W' ⟨e, p0, x, h1, h2, h⟩ hf => ⟨e, p0, x, h1, h2, by obtain ⟨ov, h1, h2⟩ := h.out; exact ⟨ov, blk_stay h1 hf, h2.stay hf⟩, blk_stay h.num hf, below_stay h.bel hf (by omega) (Nat.le_refl _), h.ne, Nat.le_trans h.ge hf.size⟩
  case assign =>
    intro lp pre x W K hi hK
    dsimp only [encsT]
    gi_wp2
    have hb : Below W.heap.size W (W.alloc (.cells (kyCs x.1) 28)) := (Below.refl _ W).alloc (Nat.le_refl _) _
    refine hK _ _ (KeepsFrom.of_fr_no hb) (keepT_fr (S := no) (Fr.of_below hb no) (fun _ e => e.elim) (fun a ha cv hcv k hk => .inl ⟨a, ha, cv, ?_, hk⟩)) (hi.below hb) ⟨W.heap.size, hi.ge, heap_alloc_new' W _, rfl⟩
    rw [← hcv]
    exact (hb.cell (by rw [List.mem_singleton.1 ha]; have := hi.ge; show w.heap.size + 1 < _; omega)).symm
  case body =>
    rintro lp pre x a' W hlp ⟨r, hr⟩ hi ⟨q, hqg, hq, rfl⟩ hlt
    obtain ⟨ov, ho, hown⟩ := hi.out
    obtain ⟨oa, oc, hov, _⟩ := own_shape hown
    subst hov
    have k0 := cell_of_one hi.num
    have k1 := cell_of_one ho
    have z1 := free_of_one ho
    have y0 : W.cell? ⟨q, 0, none⟩ = some (.int .u8 x.1.f0) := blk_cell hq 0
    have y1 : W.cell? ⟨q, 1, none⟩ = some (.int .u8 x.1.f1) := blk_cell hq 1
    have y2 : W.cell? ⟨q, 2, none⟩ = some (.int .u8 x.1.f2) := blk_cell hq 2
    have y3 : W.cell? ⟨q, 3, none⟩ = some (.int .u8 x.1.f3) := blk_cell hq 3
    have y4 : W.cell? ⟨q, 4, none⟩ = some (.int .u8 x.1.f4) := blk_cell hq 4
    have y5 : W.cell? ⟨q, 5, none⟩ = some (.int .u8 x.1.f5) := blk_cell hq 5
    have y6 : W.cell? ⟨q, 6, none⟩ = some (.int .i64 x.1.near) := blk_cell hq 6
    have y7 : W.cell? ⟨q, 7, none⟩ = some (.int .i64 x.1.there) := blk_cell hq 7
    have hlen : pre.length ≤ 100000 := by omega
    have hWs := lt_of_block ho
    have HI := Lib.hid hi
    have Ho := Lib.hid ho
    have Hown := Lib.hid hown
    clear hi ho hown hr hq
    cases hn : ((pre.length : Int) == n) with
    | true =>
      gi_wp2
      have he : (pre.length : Int) = n := by simpa using hn
      exact ⟨KeepsFrom.refl _ _, rfl, pre, x, rfl, he, HI.out⟩
    | false =>
      have hne : (pre.length : Int) ≠ n := by simpa using hn
      gi_wp2_with (gi_at_builtin; refine held ?_)
      refine unheld ?_
      refine wpListIn_app (B := w1.heap.size) (v := .slice oa pre.length oc) (n := pre.length) rfl (.tmp 16) (.tmp 26) 44 rfl 48 i0 _ 9 _ Try.underlying44 hi0 hz0 hz1 hz2 rfl (by decide) (by have := HI.out.ge; simp; omega) rfl rfl (by have := Own.fr Hown.out ((Fr.refl no W).alloc (.cells (enTI x).toArray 48)) (fun _ _ e => e); exact this) (Rd.new rfl rfl) (by exact enTI_one x) (by unfold maxLen; omega) (by omega) ?_
      intro v5 w5 o5 f5 m5 n5 z5
      have f25 : Fr (fun b => (Value.slice oa pre.length oc).ownBlock = some b) W w5 := ((Fr.refl _ W).alloc _).trans f5
      have b5 := f25.heap Ho.out (fun e => own_ne Hown.out Ho.out (by decide) e)
      have k5 := cell_of_one b5
      have zz5 := free_of_one b5
      have hs5 := f25.size
      have o6 : Own enTI 48 9 w1.heap.size w5 v5 (pre ++ [x]) := Own.snoc (x := x) o5 rfl
      obtain ⟨a5, c5, rfl, _⟩ := own_shape o5
      have O6 := Lib.hid o6
      have B5 := Lib.hid b5
      clear o5 o6 b5 n5
      gi_wp2
      have f6 : Fr (fun b => b = w.heap.size + 1) w5 (w5.setCell ⟨w.heap.size + 1, 0, none⟩ (.slice a5 (pre.length + 1) c5)) := (Fr.refl (fun b => b = w.heap.size + 1) w5).setCell (fun _ => rfl) _
      have fall := f25.trans' f6 (T := fun b => (Value.slice oa pre.length oc).ownBlock = some b ∨ b = w.heap.size + 1) (fun _ _ e => .inl e) (fun _ _ e => .inr e)
      have hb6 : (w5.setCell ⟨w.heap.size + 1, 0, none⟩ (.slice a5 (pre.length + 1) c5)).heap[w.heap.size + 1]? = some (.cells #[.slice a5 (pre.length + 1) c5] 44 (0, 0)) := one_setCell B5.out
      refine ⟨keepsFrom_fr fall (fun k hk => ?_), keepT_fr fall (fun k hk => ?_) (fun a ha cv hcv k hk => ?_), ⟨⟨_, hb6, ?_⟩, fall.heap HI.out.num ?_, HI.out.bel.trans (fall.below' HI.out.bel.size (fun k hk => ?_)), ?_, ?_⟩⟩
      · rcases hk with hk | hk
        · obtain ⟨cur, hc⟩ := own_type Hown.out hk
          exact .inr ⟨_, _, _, hc⟩
        · exact .inl (by omega)
      · rcases hk with hk | hk
        · exact .inr (.inl (fun hn => hn _ (List.mem_singleton.2 rfl) _ k1 hk))
        · exact .inl (by omega)
      · rw [List.mem_singleton.1 ha, blk_cell hb6 0] at hcv
        simp at hcv
        subst hcv
        rcases m5 with m5 | m5
        · exact .inl ⟨_, List.mem_singleton.2 rfl, _, k1, by rw [← m5]; exact hk⟩
        · have : some k = some _ := hk.symm.trans m5
          injection this with this
          exact .inr (by rw [this]; simp)
      · exact O6.out.fr f6 (fun g hg (e : g = w.heap.size + 1) => by subst e; exact own_ne O6.out B5.out (by decide) hg)
      · rintro (e | e)
        · have := (Hown.out.lt _ e).1; omega
        · omega
      · rcases hk with hk | hk
        · have := (Hown.out.lt k hk).1; omega
        · omega
      · intro y hy
        rw [List.length_append, List.length_singleton] at hy
        by_cases e : y = pre.length
        · rw [e]; exact hne
        · exact HI.out.ne y (by omega)
      · have := HI.out.ge; have := fall.size; omega
  case done =>
    rintro D ys W hD rfl hi hK
    obtain ⟨ov, ho, hown⟩ := hi.out
    have k1 := cell_of_one ho
    have HI := Lib.hid hi
    have Hown := Lib.hid hown
    have HK := Lib.hid hK
    clear hi ho hown hK
    go_wp2_with fail
    refine ⟨by simp, .inl ⟨_, _, rfl, run_takeDeferred HK.out, ?_⟩⟩
    refine ⟨_, results_tmp rfl _ _ _, ov, rfl, ?_, ?_⟩
    · have hf := fr_putObj W D w1.heap.size (.deferred none) _ hD HK.out rfl
      have h1 := Hown.out.stay hf
      have h2 : firstN n ys = ys := by
        unfold firstN
        split
        · rfl
        · refine List.take_of_length_le ?_
          by_cases hx : n.toNat < ys.length
          · have := HI.out.ne n.toNat hx
            omega
          · omega
      rw [h2]
      exact own_base (own_zero h1) (fun g hg => by have := (h1.lt g hg).1; omega)
    · exact below_stay HI.out.bel (fr_putObj W D w1.heap.size (.deferred none) _ hD HK.out rfl) (by omega) (Nat.le_refl _)
  case stop =>
    rintro D cd pre W hD ⟨j, hj0, hj, rfl⟩ ⟨rfl, p0, x, hp, hxn, hi⟩ hK
    obtain ⟨ov, ho, hown⟩ := hi.out
    have k1 := cell_of_one ho
    have HI := Lib.hid hi
    have Hown := Lib.hid hown
    have HK := Lib.hid hK
    have Hp := Lib.hid hp
    have Hx := Lib.hid hxn
    clear hi ho hown hK hp hxn
    refine wpIn_wide.2 ?_
    go_wp2_with fail
    refine ⟨by simp, .inl ⟨_, _, rfl, run_takeDeferred HK.out, ?_⟩⟩
    refine ⟨_, results_tmp rfl _ _ _, ov, rfl, ?_, ?_⟩
    · have hf := fr_putObj W D w1.heap.size (.deferred none) _ hD HK.out rfl
      have h1 := Hown.out.stay hf
      have h2 : firstN n zs = p0 := by
        have hxn := Hx.out
        have e1 : (zs.take j).take p0.length = p0 := by rw [Hp.out, List.take_left']; rfl
        have e2 : p0.length + 1 ≤ j := by
          have := congrArg List.length Hp.out
          rw [List.length_take, List.length_append, List.length_singleton] at this
          omega
        rw [List.take_take] at e1
        unfold firstN
        rw [if_neg (by omega), ← hxn, Int.toNat_natCast]
        rw [show min p0.length j = p0.length by omega] at e1
        exact e1
      rw [h2]
      exact own_base (own_zero h1) (fun g hg => by have := (h1.lt g hg).1; omega)
    · exact below_stay HI.out.bel (fr_putObj W D w1.heap.size (.deferred none) _ hD HK.out rfl) (by omega) (Nat.le_refl _)
end Go.Proofs.Ytjjfminpaoooaaa
