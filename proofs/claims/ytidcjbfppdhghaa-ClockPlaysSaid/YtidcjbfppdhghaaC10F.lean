/-
  Layer 10: runs: what a walk over a clock tells, the first n of it.
-/
import Derived.Test.YtidcjbfppdhghaaClkEI
import Derived.Test.YtidcjbfppdhghaaC10A
namespace Go.Proofs.Ytidcjbfppdhghaa
open Go.RowKit
attribute [local go_sem] Oper.semAt_some


theorem info54 : (Try.prog.info? 54).map (fun i => (i.zero, i.size, i.bytes)) = some (some (.agg #[.int .i64 0, .int .i64 0]), 2, 16) := by kernel_rfl

/-- The first n; all, if n is below 0. -/
def firstN (n : Int) (l : List TmI) : List TmI := if n < 0 then l else l.take n.toNat

/-- What the walk has laid when 'pre' has come. -/
structure RunsInv (w : World) (C : Nat) (n : Int) (pre : List TmI) (W : World) : Prop where
  out : ∃ ov, W.heap[w.heap.size + 1]? = some (.cells #[ov] 46 (0, 0)) ∧ Own encI 54 2 C W ov pre
  num : W.heap[w.heap.size]? = some (.cells #[.int .i64 n] 3 (0, 0))
  bel : Below w.heap.size w W
  few : n < 0 ∨ (pre.length : Int) ≤ n
  ge : C ≤ W.heap.size

set_option maxRecDepth 100000 in
set_option maxHeartbeats 4000000 in
theorem runs (n : Int) (c : Nat) (most now : Int) (sv : Value) (l : List TmI) (w : World) (B : Nat) (h : IsClkI w B c most now sv l) :
    Calls Try.prog 27 #[.pointer (some ⟨c, 0, none⟩), .int .i64 n] w fun e w' => ∃ ov, e = .returned ov ∧ Own encI 54 2 w.heap.size w' ov (firstN n l) ∧ Below w.heap.size w w' := by
  obtain ⟨i0, hi0, hz0, hz1, hz2⟩ := info_parts info54
  have hsm : l.length ≤ 1000000 := by have := h.small; have := h.mx; omega
  have hc := lt_of_block h.blk
  have H := Lib.hid h
  clear h
  refine (callsIn_wide (n := 2)).1 ?_
  refine callsIn_of_wp_marks Try.func27 rfl trivial ?_ rfl
  simp only [Try.ntmps27, List.size_toArray, List.length_cons, List.length_nil, Nat.reduceAdd, Nat.reduceSub, Array.replicate_succ, Array.replicate_zero, List.push_toArray, List.append_toArray, List.nil_append, List.cons_append]
  refine wpIn_wide.2 ?_
  go_wp2_with fail
  refine (eachI c most now sv l _ B (H.out.below (((Below.refl _ w).alloc (Nat.le_refl _) _).alloc (by simp) _))).mono ?_
  rintro e w1 ⟨rfl, cv, hb1, ho1, hbel⟩
  go_wp2_with fail
  have hB1 : Below w.heap.size w w1 := (((Below.refl _ w).alloc (Nat.le_refl _) _).alloc (by simp) _).trans (hbel.mono (by simp; omega))
  have hn1 : w1.heap[w.heap.size]? = some (.cells #[.int .i64 n] 3 (0, 0)) := (hbel.block _ (by simp; omega)).trans ((heap_alloc_lt _ _ (by simp)).trans (heap_alloc_new' w _))
  have ho1' : w1.heap[w.heap.size + 1]? = some (.cells #[.slice none 0 0] 46 (0, 0)) := (hbel.block _ (by simp)).trans (by have := heap_alloc_new' (w.alloc (.cells #[.int .i64 n] 3)) (.cells #[.slice none 0 0] 46); simpa using this)
  have hb1' : w1.heap[w.heap.size + 1 + 1]? = some (.cells #[cv] 63 (0, 0)) := by simpa using hb1
  have hcv : ∀ k, cv.ownBlock = some k → w.heap.size + 2 ≤ k ∧ k < w1.heap.size := fun k hk => by have := ho1.lt k hk; simp at this; omega
  have hs1 : w.heap.size + 2 < w1.heap.size := lt_of_block hb1'
  have inv0 : RunsInv w w1.heap.size n [] w1 := ⟨⟨_, ho1', Own.nil _ _ _ _ _⟩, hn1, hB1, by simp; omega, Nat.le_refl _⟩
  have Inv0 := Lib.hid inv0
  have Hseq := Lib.hid (each1I (w.heap.size + 1 + 1) cv l w1 _ hb1' ho1)
  have Hcv := Lib.hid hcv
  clear inv0 hb1 hb1' ho1 ho1' hn1 hB1 hbel hcv
  refine (wpIn_wide (n := 2)).1 ?_
  refine wp_range (gf := 39) (lb := #[.pointer (some ⟨w.heap.size + 1 + 1, 0, none⟩)]) rfl (enters_of Try.func39 (by kernel_rfl) rfl) (S := fun k => k = w.heap.size + 1 + 1 ∨ cv.ownBlock = some k) (fun k hk => by rcases hk with rfl | hk; omega; exact (Hcv.out k hk).2) Hseq.out (fun _ => rfl)
    (fun pre W => RunsInv w w1.heap.size n pre W) (fun cd pre W => cd = .exit 0 ∧ 0 ≤ n ∧ (pre.length : Int) = n + 1 ∧ RunsInv w w1.heap.size n pre.dropLast W) ?hI ?hIx Inv0.out
    (fun x a' W => a' = { tmps := #[.pointer (some ⟨c, 0, none⟩), .int .i64 n, undef, .pointer (some ⟨w.heap.size, 0, none⟩), .slice none 0 0, .pointer (some ⟨w.heap.size + 1, 0, none⟩), .int .i64 x.1, .int .i64 x.2, .pointer (some ⟨c, 0, none⟩), .func (.func 39) #[] #[.pointer (some ⟨w.heap.size + 1 + 1, 0, none⟩)], .int .i64 x.1, .int .i64 x.2, undef, undef, undef, undef, undef, undef, undef, undef, undef, undef, undef], defers := [] })
    (fun _ _ _ _ h _ => h) ?assign ?body ?done ?stop
  case hI => exact fun s W W' h hf => ⟨by obtain ⟨ov, h1, h2⟩ := h.out; exact ⟨ov, blk_stay h1 hf, h2.stay hf⟩, blk_stay h.num hf, below_stay h.bel hf (by omega) (Nat.le_refl _), h.few, Nat.le_trans h.ge hf.size⟩
  case hIx => exact fun cd s W W' ⟨e, h1, h2, h⟩ hf => ⟨e, h1, h2, by obtain ⟨ov, h1, h2⟩ := h.out; exact ⟨ov, blk_stay h1 hf, h2.stay hf⟩, blk_stay h.num hf, below_stay h.bel hf (by omega) (Nat.le_refl _), h.few, Nat.le_trans h.ge hf.size⟩
  case assign =>
    intro lp pre x W K hi hK
    dsimp only [encsTI]
    gi_wp2
    exact hK _ _ (KeepsFrom.refl _ _) (fun _ _ => rfl) hi rfl
  case body =>
    rintro lp pre x a' W hl ⟨r, hr⟩ hi rfl hlt
    obtain ⟨ov, ho, hown⟩ := hi.out
    obtain ⟨oa, oc, rfl, _⟩ := own_shape hown
    have k0 := cell_of_one hi.num
    have k1 := cell_of_one ho
    have z1 := free_of_one ho
    have hlen : pre.length ≤ 1000000 := by omega
    have hWs := lt_of_block ho
    have HI := Lib.hid hi
    have Ho := Lib.hid ho
    have Hown := Lib.hid hown
    clear hi ho hown hr
    cases hq : ((pre.length : Int) == n) with
    | true =>
      gi_wp2
      have he : (pre.length : Int) = n := by simpa using hq
      exact ⟨KeepsFrom.refl _ _, rfl, by omega, by simp; omega, by simpa using HI.out⟩
    | false =>
      have hne : (pre.length : Int) ≠ n := by simpa using hq
      gi_wp2_with (gi_at_builtin; refine held ?_)
      refine unheld ?_
      refine wpListIn_app (B := w1.heap.size) (v := .slice oa pre.length oc) rfl (.tmp 16) (.tmp 20) 46 rfl 54 i0 _ 2 _ Try.underlying46 hi0 hz0 hz1 hz2 rfl (by decide) (by have := HI.out.ge; simp; omega) rfl rfl (Hown.out.fr ((Fr.refl no W).alloc _) (fun _ _ e => e)) (Rd.new rfl rfl) (by intro u hu; simp at hu; rcases hu with rfl | rfl <;> rfl) (by unfold maxLen; omega) (by omega) ?_
      intro v5 w5 o5 f5 m5 n5 z5
      have f25 : Fr (fun b => (Value.slice oa pre.length oc).ownBlock = some b) W w5 := ((Fr.refl _ W).alloc _).trans f5
      have b5 := f25.heap Ho.out (fun e => own_ne Hown.out Ho.out (by decide) e)
      have k5 := cell_of_one b5
      have zz5 := free_of_one b5
      have hs5 := f25.size
      obtain ⟨a5, c5, rfl, _⟩ := own_shape o5
      have O5 := Lib.hid o5
      have B5 := Lib.hid b5
      clear o5 b5 n5
      gi_wp2
      have f6 : Fr (fun b => b = w.heap.size + 1) w5 (w5.setCell ⟨w.heap.size + 1, 0, none⟩ (.slice a5 (pre.length + 1) c5)) := (Fr.refl (fun b => b = w.heap.size + 1) w5).setCell (fun _ => rfl) _
      have fall := f25.trans' f6 (T := fun b => (Value.slice oa pre.length oc).ownBlock = some b ∨ b = w.heap.size + 1) (fun _ _ e => .inl e) (fun _ _ e => .inr e)
      refine ⟨keepsFrom_fr fall (fun k hk => ?_), same_fr fall (fun k hk => ?_), ⟨⟨_, one_setCell B5.out, ?_⟩, fall.heap HI.out.num ?_, HI.out.bel.trans (fall.below' HI.out.bel.size (fun k hk => ?_)), ?_, ?_⟩⟩
      · rcases hk with hk | hk
        · obtain ⟨cur, hc⟩ := own_type Hown.out hk
          exact .inr ⟨_, _, _, hc⟩
        · exact .inl (by omega)
      · have hkw : k < w1.heap.size := by
          rcases hk with hk | hk
          · omega
          · exact (Hcv.out k hk).2
        refine ⟨by have := HI.out.ge; omega, fun e => ?_⟩
        rcases e with e | e
        · have := (Hown.out.lt k e).1; omega
        · rcases hk with hk | hk
          · omega
          · have := (Hcv.out k hk).1; omega
      · exact (Own.snoc O5.out rfl).fr f6 (fun g hg (e : g = w.heap.size + 1) => by subst e; exact own_ne O5.out B5.out (by decide) hg)
      · rintro (e | e)
        · exact own_ne Hown.out HI.out.num (by decide) e
        · omega
      · rcases hk with hk | hk
        · have := (Hown.out.lt k hk).1; omega
        · omega
      · have := HI.out.few; simp; omega
      · have := HI.out.ge; have := fall.size; omega
  case done =>
    rintro D ys W hD rfl hi hK
    obtain ⟨ov, ho, hown⟩ := hi.out
    have k1 := cell_of_one ho
    have HI := Lib.hid hi
    have Hown := Lib.hid hown
    have HK := Lib.hid hK
    clear hi ho hown hK
    go_wp2_with fail
    refine ⟨by simp, .inl ⟨_, _, rfl, run_takeDeferred HK.out, ?_⟩⟩
    refine ⟨_, results_tmp rfl _ _ _, ov, rfl, ?_, ?_⟩
    · have hf := fr_putObj W D w1.heap.size (.deferred none) _ hD HK.out rfl
      have h1 := Hown.out.stay hf
      have h2 : firstN n ys = ys := by
        unfold firstN
        split
        · rfl
        · have := HI.out.few; exact List.take_of_length_le (by omega)
      rw [h2]
      exact own_base (own_zero h1) (fun g hg => by have := (h1.lt g hg).1; omega)
    · exact below_stay HI.out.bel (fr_putObj W D w1.heap.size (.deferred none) _ hD HK.out rfl) (by omega) (Nat.le_refl _)
  case stop =>
    rintro D cd pre W hD ⟨j, hj0, hj, rfl⟩ ⟨rfl, hn0, hp, hi⟩ hK
    obtain ⟨ov, ho, hown⟩ := hi.out
    have k1 := cell_of_one ho
    have HI := Lib.hid hi
    have Hown := Lib.hid hown
    have HK := Lib.hid hK
    have Hp := Lib.hid hp
    clear hi ho hown hK hp
    refine wpIn_wide.2 ?_
    go_wp2_with fail
    refine ⟨by simp, .inl ⟨_, _, rfl, run_takeDeferred HK.out, ?_⟩⟩
    refine ⟨_, results_tmp rfl _ _ _, ov, rfl, ?_, ?_⟩
    · have hf := fr_putObj W D w1.heap.size (.deferred none) _ hD HK.out rfl
      have h1 := Hown.out.stay hf
      have h2 : firstN n l = (l.take j).dropLast := by
        have hp := Hp.out
        rw [List.length_take] at hp
        unfold firstN
        rw [if_neg (by omega), List.dropLast_eq_take, List.take_take, List.length_take]
        congr 1
        omega
      rw [h2]
      exact own_base (own_zero h1) (fun g hg => by have := (h1.lt g hg).1; omega)
    · exact below_stay HI.out.bel (fr_putObj W D w1.heap.size (.deferred none) _ hD HK.out rfl) (by omega) (Nat.le_refl _)
end Go.Proofs.Ytidcjbfppdhghaa
