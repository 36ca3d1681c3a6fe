/-
  Package lan: Row from 0 to 1: all of a row, each frame's bytes in memory of their own.
-/
import Derived.Test.YteihpaikdpdglaaLanF
import Derived.Test.YteihpaikdpdglaaRndReg
import Derived.Sort.CutIn
namespace Go.Proofs.Yteihpaikdpdglaa
open Go.RowKit
set_option linter.unusedVariables false
attribute [local go_sem] Oper.semAt_some


/-- What comes, and the bytes that its slice holds at the start. -/
abbrev Cm (w : World) := {p : (Fl × Nat) × List Int // OwnB 0 w p.1.1.v p.2 ∧ p.2.length ≤ 1000000}
def cmO {w : World} (p : Cm w) : List Int × Int := (p.1.2, p.1.1.1.age)

theorem cm_of {w : World} : ∀ (fl : List Fl) (l : List (List Int × Int)) (k : Nat), All2 (FlB w) fl l → (∀ p ∈ l, p.1.length ≤ 1000000) → ∃ zk : List (Cm w), zk.map (fun p => p.1.1) = fl.zipIdx k ∧ zk.map cmO = l
  | [], [], _, _, _ => ⟨[], rfl, rfl⟩
  | f :: fl, p :: l, k, h, hl => by
    obtain ⟨zk, h1, h2⟩ := cm_of fl l (k + 1) h.2 (fun q hq => hl q (List.mem_cons_of_mem _ hq))
    refine ⟨⟨((f, k), p.1), h.1.1, hl p (List.mem_cons_self ..)⟩ :: zk, ?_, ?_⟩
    · rw [List.map_cons, h1, List.zipIdx_cons]
    · rw [List.map_cons, h2]
      have : cmO (⟨((f, k), p.1), h.1.1, hl p (List.mem_cons_self ..)⟩ : Cm w) = p := by show (p.1, f.age) = p; rw [h.1.2]
      rw [this]
  | [], _ :: _, _, h, _ => h.elim
  | _ :: _, [], _, h, _ => h.elim
/-- What the walk has laid when 'pre' has come. -/
structure RowI (w : World) (C : Nat) (pre : List (Cm w)) (W : World) : Prop where
  out : ∃ ov fo, W.heap[w.heap.size]? = some (.cells #[ov] 36 (0, 0)) ∧ Own enF 39 2 C W ov fo ∧ All2 (FlB W) fo (pre.map cmO)
  bel : Below w.heap.size w W
  ge : C ≤ W.heap.size

theorem RowI.below {w W W' : World} {C : Nat} {pre : List (Cm w)} (h : RowI w C pre W) (hb : Below W.heap.size W W') : RowI w C pre W' :=
  ⟨by obtain ⟨ov, fo, h1, h2, h3⟩ := h.out; exact ⟨ov, fo, (hb.block _ (lt_of_block h1)).trans h1, h2.keep (fun g hg => hb.block g (own_lt h2 hg)), forall_imp h3 (fun f p e => ⟨ownB_below e.1 hb, e.2⟩)⟩, h.bel.trans (hb.mono h.bel.size), Nat.le_trans h.ge hb.size⟩
theorem RowI.stay {w W W' : World} {C : Nat} {pre : List (Cm w)} (h : RowI w C pre W) (hf : Fr (NC C W) W W') (hC : w.heap.size ≤ C) : RowI w C pre W' :=
  ⟨by obtain ⟨ov, fo, h1, h2, h3⟩ := h.out; exact ⟨ov, fo, blk_stay h1 hf, h2.stay hf, forall_imp h3 (fun f p e => ⟨Own.stay e.1 hf, e.2⟩)⟩, below_stay h.bel hf hC (Nat.le_refl _), Nat.le_trans h.ge hf.size⟩

/-- One frame more. -/
theorem row_fin {w W w3 w5 : World} {C : Nat} {pre : List (Cm w)} {X : Cm w} {oa a3 : Option Addr} {m oc c3 : Nat} {fg : Int} {b : List Int} {v5 : Value} {fo : List Fl} (hC : w.heap.size < C) (hi : RowI w C pre W) (ho : W.heap[w.heap.size]? = some (.cells #[.slice oa m oc] 36 (0, 0)))
    (hown : Own enF 39 2 C W (.slice oa m oc) fo) (hall : All2 (FlB W) fo (pre.map cmO)) (hm : m = fo.length) (hcm : cmO X = (b, fg)) (b3 : Below W.heap.size W w3) (o3 : OwnB 0 w3 (.slice a3 b.length c3) b)
    (o5 : w5.ownsRow C 39 2 v5 (m + 1) (fo.flatMap enF ++ enF ⟨a3, b.length, c3, fg⟩)) (f5 : Fr (fun k => (Value.slice oa m oc).ownBlock = some k) (w3.alloc (.cells #[.slice a3 b.length c3, .int .i64 fg] 39)) w5)
    (m5 : v5.ownBlock = (Value.slice oa m oc).ownBlock ∨ v5.ownBlock = some (w3.alloc (.cells #[.slice a3 b.length c3, .int .i64 fg] 39)).heap.size) :
    w5.heap[w.heap.size]? = some (.cells #[.slice oa m oc] 36 (0, 0)) ∧ KeepsFrom C W (w5.setCell ⟨w.heap.size, 0, none⟩ v5) ∧ Keep [⟨w.heap.size, 0, none⟩] C W (w5.setCell ⟨w.heap.size, 0, none⟩ v5) ∧ RowI w C (pre ++ [X]) (w5.setCell ⟨w.heap.size, 0, none⟩ v5) := by
  have bA : Below W.heap.size W (w3.alloc (.cells #[.slice a3 b.length c3, .int .i64 fg] 39)) := b3.alloc b3.size _
  have fA : Fr (fun k => (Value.slice oa m oc).ownBlock = some k) W w5 := (Fr.of_below bA _).trans' f5 (fun _ _ e => e) (fun _ _ e => e)
  have h5 := fA.heap ho (fun e => own_ne hown ho (by decide) e)
  have f6 : Fr (fun k => k = w.heap.size) w5 (w5.setCell ⟨w.heap.size, 0, none⟩ v5) := (Fr.refl (fun k => k = w.heap.size) w5).setCell (p := ⟨w.heap.size, 0, none⟩) (fun _ => rfl) _
  have fall := fA.trans' f6 (T := fun k => (Value.slice oa m oc).ownBlock = some k ∨ k = w.heap.size) (fun _ _ e => .inl e) (fun _ _ e => .inr e)
  have hb6 : (w5.setCell ⟨w.heap.size, 0, none⟩ v5).heap[w.heap.size]? = some (.cells #[v5] 36 (0, 0)) := one_setCell h5
  have k1 := cell_of_one ho
  have o6 : Own enF 39 2 C w5 v5 (fo ++ [⟨a3, b.length, c3, fg⟩]) := Own.snoc (x := (⟨a3, b.length, c3, fg⟩ : Fl)) (by rw [← hm]; exact o5) rfl
  have bS : ∀ (v : Value) (bs : List Int), OwnB 0 W v bs → OwnB 0 (w5.setCell ⟨w.heap.size, 0, none⟩ v5) v bs := fun v bs o => o.fr fall (fun g hg e => by
    obtain ⟨cur, hc⟩ := own_type o hg
    rcases e with e | e
    · exact own_ne hown hc (by decide) e
    · subst e; rw [ho] at hc; cases hc)
  refine ⟨h5, keepsFrom_fr fall (fun k hk => ?_), keep_fr fall (fun k hk => ?_) (fun a ha cv hcv k hk => ?_), ⟨⟨v5, fo ++ [⟨a3, b.length, c3, fg⟩], hb6, ?_, ?_⟩, hi.bel.trans (fall.below' hi.bel.size (fun k hk => ?_)), Nat.le_trans hi.ge fall.size⟩⟩
  · rcases hk with hk | hk
    · obtain ⟨cur, hc⟩ := own_type hown hk
      exact .inr ⟨_, _, _, hc⟩
    · exact .inl (by omega)
  · rcases hk with hk | hk
    · exact .inr (fun hn => hn _ (List.mem_singleton.2 rfl) _ k1 hk)
    · exact .inl (by omega)
  · rw [List.mem_singleton.1 ha, blk_cell hb6 0] at hcv
    simp at hcv
    subst hcv
    rcases m5 with m5 | m5
    · exact .inl ⟨_, List.mem_singleton.2 rfl, _, k1, by rw [← m5]; exact hk⟩
    · have : some k = some _ := hk.symm.trans m5
      injection this with this
      exact .inr (by rw [this]; exact bA.size)
  · exact o6.fr f6 (fun g hg (e : g = w.heap.size) => by subst e; exact own_ne o6 h5 (by decide) hg)
  · rw [List.map_append]
    refine forall_app (forall_imp hall (fun f p e => ⟨bS _ _ e.1, e.2⟩)) ⟨⟨?_, ?_⟩, trivial⟩
    · rw [hcm]
      have o4 : OwnB 0 (w3.alloc (.cells #[.slice a3 b.length c3, .int .i64 fg] 39)) (.slice a3 b.length c3) b := ownB_below o3 ((Below.refl _ w3).alloc (Nat.le_refl _) _)
      have hA : Own enF 39 2 C (w3.alloc (.cells #[.slice a3 b.length c3, .int .i64 fg] 39)) (.slice oa m oc) fo := hown.keep (fun g hg => bA.block g (own_lt hown hg))
      have hoA := (bA.block _ (lt_of_block ho)).trans ho
      refine (o4.fr f5 (fun g hg e => ?_)).fr f6 (fun g hg e => ?_)
      · obtain ⟨cur, hc⟩ := own_type o4 hg
        exact own_ne hA hc (by decide) e
      · obtain ⟨cur, hc⟩ := own_type o4 hg
        have e : g = w.heap.size := e
        subst e; rw [hoA] at hc; cases hc
    · rw [hcm]
  · rcases hk with hk | hk
    · have := (hown.lt k hk).1; omega
    · omega

set_option maxRecDepth 100000 in
set_option maxHeartbeats 4000000 in
theorem rowW {w : World} {t st : Nat} {life lost : Int} {rv : Value} {ps : List Nat} {c : Nat} {most : Int} {sv : Value} {fl : List Fl} {l : List (List Int × Int)} (h : LnI w t st life lost rv ps c most sv fl) (h3 : All2 (FlB w) fl l) (hlen : ∀ p ∈ l, p.1.length ≤ 1000000) :
    Calls Try.prog 19 #[.pointer (some ⟨t, 0, none⟩), .int .i64 0, .int .i64 1] w fun e w' => ∃ ov fo, e = .returned ov ∧ Own enF 39 2 w.heap.size w' ov fo ∧ All2 (FlB w') fo l ∧ Below w.heap.size w w' := by
  obtain ⟨i0, hi0, hz0, hz1, hz2⟩ := info_parts infoF
  have hl := h.q.len
  have hc := lt_of_block h.q.blk
  obtain ⟨zk, hzk, hzl⟩ : ∃ zk : List (Cm w), zk.map (fun p => p.1.1) = fl.zipIdx ∧ zk.map cmO = l := by
    exact cm_of fl l 0 h3 hlen
  have HZL := Lib.hid hzl
  have HZK := Lib.hid hzk
  have H := Lib.hid h
  clear h h3 hlen hzk hzl
  refine (callsIn_wide (n := 2)).1 ?_
  refine callsIn_of_wp_marks Try.func19 rfl trivial ?_ rfl
  simp only [Try.ntmps19, List.size_toArray, List.length_cons, List.length_nil, Nat.reduceAdd, Nat.reduceSub, Array.replicate_succ, Array.replicate_zero, List.push_toArray, List.append_toArray, List.nil_append, List.cons_append]
  refine wpIn_wide.2 ?_
  go_wp2_with fail
  have hb0 : Below w.heap.size w (w.alloc (.cells #[.slice none 0 0] 36)) := (Below.refl _ w).alloc (Nat.le_refl _) _
  refine (rowL (H.out.below hb0)).mono ?_
  rintro e w1 ⟨rfl, b1⟩
  have B1 := Lib.hid (hb0.trans (b1.mono hb0.size))
  have ho1 := Lib.hid ((b1.block w.heap.size (by simp)).trans (heap_alloc_new' w (.cells #[.slice none 0 0] 36)))
  have hs1 : w.heap.size < w1.heap.size := by have := b1.size; simp at this; omega
  clear b1 hb0
  go_wp2_with fail
  refine (eachF c _).mono ?_
  rintro e w2 ⟨rfl, hbx, hbel, hsz⟩
  have B2 := Lib.hid (B1.out.trans (hbel.mono B1.out.size))
  have ho2 := (hbel.block _ hs1).trans ho1.out
  obtain ⟨E, hE⟩ : ∃ E, E = w1.heap.size := ⟨_, rfl⟩
  rw [← hE] at hbx hsz ⊢
  have hEs : w.heap.size < E := by omega
  clear hE hbel
  go_wp2_with fail
  have hq1 : IsF w2 c most sv fl := H.out.q.below B2.out
  have inv0 : RowI w w2.heap.size [] w2 := ⟨⟨_, [], ho2, Own.nil _ _ _ _ _, trivial⟩, B2.out, Nat.le_refl _⟩
  have Inv0 := Lib.hid inv0
  have Hseq := Lib.hid (each1F (fun p : Cm w => p.1.1) E c most sv zk fl HZK.out w2 [⟨w.heap.size, 0, none⟩] (fun a ha => by rw [List.mem_singleton.1 ha]; show w.heap.size < _; omega) (fun a ha cv hcv k hk => by
    rw [List.mem_singleton.1 ha, blk_cell ho2 0] at hcv
    simp at hcv
    subst hcv
    simp [Value.ownBlock] at hk) hbx hq1)
  have hs2 : w2.heap.size = E + 1 := hsz
  clear inv0 ho2 hbx hq1 hsz
  refine (wpIn_wide (n := 2)).1 ?_
  refine wp_rangeK (gf := 56) (lb := #[.pointer (some ⟨E, 0, none⟩)]) rfl (enters_of Try.func56 (by kernel_rfl) rfl) (Kp := Keep [⟨w.heap.size, 0, none⟩] w2.heap.size) keep_t (keep_b (fun a ha => by rw [List.mem_singleton.1 ha]; show w.heap.size < _; omega)) Hseq.out (fun _ => rfl)
    (fun pre W => RowI w w2.heap.size pre W) (fun _ _ _ => False) ?hI ?hIx Inv0.out
    (fun x a' W => ∃ q, w2.heap.size ≤ q ∧ W.heap[q]? = some (.cells #[.slice x.1.1.1.a x.1.1.1.n x.1.1.1.c, .int .i64 x.1.1.1.age] 39 (0, 0)) ∧ (∃ ov0, W.heap[w.heap.size]? = some (.cells #[ov0] 36 (0, 0)) ∧ ov0.ownBlock ≠ some q) ∧ a' = { tmps := #[.pointer (some ⟨t, 0, none⟩), .int .i64 0, .int .i64 1, undef, undef, undef, .slice none 0 0, .pointer (some ⟨w.heap.size, 0, none⟩), undef, .pointer (some ⟨q, 0, none⟩), .pointer (some ⟨t, 0, none⟩), .int .i64 0, .int .i64 1, .pointer (some ⟨c, 0, none⟩), .func (.func 56) #[] #[.pointer (some ⟨E, 0, none⟩)], .int .i64 x.1.1.2, fV x.1.1.1, undef, undef, undef, undef, undef, undef, undef, undef, undef, undef], defers := [] })
    (fun x a' W W' ⟨q, h1, h2, ⟨ov0, h4, h5⟩, h3⟩ hf => ⟨q, h1, blk_stay h2 hf, ⟨ov0, blk_stay h4 hf, h5⟩, h3⟩) ?assign ?body ?done ?stop
  case hI => exact fun s W W' h hf => h.stay hf (by omega)
  case hIx => exact fun cd s W W' h hf => h
  case assign =>
    intro lp pre x W K hi hK
    dsimp only [encsF]
    gi_wp2
    have hb : Below W.heap.size W (W.alloc (.cells #[.slice x.1.1.1.a x.1.1.1.n x.1.1.1.c, .int .i64 x.1.1.1.age] 39)) := (Below.refl _ W).alloc (Nat.le_refl _) _
    refine hK _ _ (KeepsFrom.of_fr_no hb) (keep_fr (T := no) (Fr.of_below hb no) (fun _ e => e.elim) (fun a ha cv hcv k hk => .inl ⟨a, ha, cv, ?_, hk⟩)) (hi.below hb) ⟨W.heap.size, hi.ge, heap_alloc_new' W _, (by obtain ⟨ov, fo, h1, h2, h3⟩ := hi.out; exact ⟨ov, (hb.block _ (lt_of_block h1)).trans h1, fun e => by have := own_lt h2 e; omega⟩), rfl⟩
    rw [← hcv]
    exact (hb.cell (by rw [List.mem_singleton.1 ha]; have := hi.ge; show w.heap.size < _; omega)).symm
  case body =>
    rintro lp pre ⟨⟨⟨⟨fa, fn, fc, fg⟩, j⟩, b⟩, hxo, hxl⟩ a' W hlp ⟨r, hr⟩ hi ⟨q, hqg, hq, ⟨ov0, ho0, hnq⟩, rfl⟩ hlt
    dsimp only at hq hxo hxl ⊢
    obtain ⟨ov, fo, ho, hown, hall⟩ := hi.out
    obtain rfl : ov0 = ov := by rw [ho] at ho0; simpa using ho0.symm
    obtain ⟨oa, oc, hov, _⟩ := own_shape hown
    subst hov
    obtain ⟨m, hm⟩ : ∃ m, m = fo.length := ⟨_, rfl⟩
    have hfn : fn = b.length := by
      obtain ⟨a, k, hv, _⟩ := own_shape hxo
      simp at hv
      exact hv.2.1
    subst hfn
    rw [← hm] at ho hown hnq
    have HNQ := Lib.hid hnq
    clear hnq ho0
    have k1 : W.drew.cell? ⟨w.heap.size, 0, none⟩ = some (.slice oa m oc) := cell_of_one ho
    have y0 : W.drew.cell? ⟨q, 0, none⟩ = some (.slice fa b.length fc) := blk_cell hq 0
    have y1 : W.drew.cell? ⟨q, 1, none⟩ = some (.int .i64 fg) := blk_cell hq 1
    have hwq : ¬ w.heap.size = q := by omega
    have HI := Lib.hid hi
    have Ho := Lib.hid ho
    have Hown := Lib.hid hown
    have Hall := Lib.hid hall
    have Hxo := Lib.hid hxo
    have Hq := Lib.hid hq
    have Hm := Lib.hid hm
    generalize hX : (⟨(({ a := fa, n := b.length, c := fc, age := fg }, j), b), ⟨hxo, hxl⟩⟩ : Cm w) = X
    have Hcm := Lib.hid (show cmO X = (b, fg) by rw [← hX]; rfl)
    clear hX
    clear hi ho hown hr hq hall hxo hm
    gi_upto_region 4 with fail
    refine wpIn_region_round (S := fun w' => w'.cell? ⟨q, 0, none⟩ = some (.slice fa b.length fc) ∧ w'.cell? ⟨q, 1, none⟩ = some (.int .i64 fg)) (by kernel_rfl) (by kernel_rfl) (by rintro ⟨_, _, h⟩; exact h) ?_
    have hS0 : (fun w' : World => w'.cell? ⟨q, 0, none⟩ = some (.slice fa b.length fc) ∧ w'.cell? ⟨q, 1, none⟩ = some (.int .i64 fg)) W.drew := ⟨y0, y1⟩
    have hs2w : w.heap.size < w2.heap.size := by omega
    have hml : m ≤ 100000 := by have h1 := Hm.out; have h2 := forall_len Hall.out; rw [List.length_map] at h2; have h3 := congrArg List.length HZK.out; rw [List.length_map, List.length_zipIdx] at h3; omega
    refine wpAnyH_take (i := 1) (oi := ⟨some 18, _, _, _, _, _⟩) (v := .pointer (some ⟨q, 0, none⟩)) rfl (by kernel_rfl) (by kernel_rfl) (by kernel_rfl) (fun _ _ _ h => h) (Or.inl ⟨by rfl, ?_⟩) hS0 ?_
    · intro w' hSw
      go_simp
    try simp only [Act.put, List.setIfInBounds_toArray, List.set_cons_zero, List.set_cons_succ]
    refine wpAnyH_take (i := 2) (oi := ⟨some 19, _, _, _, _, _⟩) (v := .slice fa b.length fc) rfl (by kernel_rfl) (by kernel_rfl) (by kernel_rfl) (fun _ _ _ h => h) (Or.inl ⟨by rfl, ?_⟩) hS0 ?_
    · intro w' hSw
      obtain ⟨s0, s1⟩ := hSw
      go_simp
    try simp only [Act.put, List.setIfInBounds_toArray, List.set_cons_zero, List.set_cons_succ]
    refine wpAnyH_take (i := 4) (oi := ⟨some 21, _, _, _, _, _⟩) (v := .pointer (some ⟨q, 1, none⟩)) rfl (by kernel_rfl) (by kernel_rfl) (by kernel_rfl) (fun _ _ _ h => h) (Or.inl ⟨by rfl, ?_⟩) hS0 ?_
    · intro w' hSw
      go_simp
    try simp only [Act.put, List.setIfInBounds_toArray, List.set_cons_zero, List.set_cons_succ]
    refine wpAnyH_take (i := 5) (oi := ⟨some 22, _, _, _, _, _⟩) (v := .int .i64 fg) rfl (by kernel_rfl) (by kernel_rfl) (by kernel_rfl) (fun _ _ _ h => h) (Or.inl ⟨by rfl, ?_⟩) hS0 ?_
    · intro w' hSw
      obtain ⟨s0, s1⟩ := hSw
      go_simp
    try simp only [Act.put, List.setIfInBounds_toArray, List.set_cons_zero, List.set_cons_succ]
    refine wpAnyH_ready (rs := [0, 3]) (by kernel_rfl) (by simp) ?_
    refine AllReadyH.cons (i := 0) (o := ⟨some 17, _, _, _, _, _⟩) rfl (fun K hK => ?_) ?_
    · go_simp
      refine hK.out _ _ hS0 (fun hHeld => ?_)
      clear hK
      try simp only [Act.put, List.setIfInBounds_toArray, List.set_cons_zero, List.set_cons_succ]
      refine wpAnyH_ready (rs := [3]) (by kernel_rfl) (by simp) ?_
      refine AllReadyH.cons (i := 3) (o := ⟨some 20, _, _, _, _, _⟩) rfl (fun K hK => ?_) ?_
      · go_simp
        go_at_call 33
        refine (cloneB _ b W.drew (ownB_below Hxo.out (HI.out.bel.trans (Below.refl _ W).drew)).rd hxl).mono ?_
        rintro e w3 ⟨v3, rfl, o3, b3⟩
        obtain ⟨a3, c3, hv3, _⟩ := own_shape o3
        subst hv3
        have b3' : Below W.heap.size W w3 := ((Below.refl _ W).drew).trans b3
        have O3 := Lib.hid (show OwnB 0 w3 (.slice a3 b.length c3) b from own_zero o3)
        have B3 := Lib.hid b3'
        have k3 : w3.cell? ⟨w.heap.size, 0, none⟩ = some (.slice oa m oc) := (b3'.cell (lt_of_block Ho.out)).trans k1
        have hol : w.heap.size < w3.heap.size := Nat.lt_of_lt_of_le (lt_of_block Ho.out) b3'.size
        have hql : q < w3.heap.size := Nat.lt_of_lt_of_le (lt_of_block Hq.out) b3'.size
        have hq3 := (b3'.block q (lt_of_block Hq.out)).trans Hq.out
        have s3 : w3.cell? ⟨q, 0, none⟩ = some (.slice fa b.length fc) ∧ w3.cell? ⟨q, 1, none⟩ = some (.int .i64 fg) := ⟨blk_cell hq3 0, blk_cell hq3 1⟩
        have hA : Below W.heap.size W (w3.alloc (.cells #[.slice a3 b.length c3, .int .i64 fg] 39)) := b3'.alloc b3'.size _
        have hqA := (hA.block q (lt_of_block Hq.out)).trans Hq.out
        have sA : (w3.alloc (.cells #[.slice a3 b.length c3, .int .i64 fg] 39)).cell? ⟨q, 0, none⟩ = some (.slice fa b.length fc) ∧ (w3.alloc (.cells #[.slice a3 b.length c3, .int .i64 fg] 39)).cell? ⟨q, 1, none⟩ = some (.int .i64 fg) := ⟨blk_cell hqA 0, blk_cell hqA 1⟩
        have OA := Lib.hid (show (w3.alloc (.cells #[.slice a3 b.length c3, .int .i64 fg] 39)).ownsRow w2.heap.size 39 2 (.slice oa m oc) m (fo.flatMap enF) by have := (Hown.out.keep (fun g hg => hA.block g (own_lt Hown.out hg))); unfold Own at this; rw [← Hm.out] at this; exact this)
        have RA := Lib.hid (show Rd (w3.alloc (.cells #[.slice a3 b.length c3, .int .i64 fg] 39)) 2 (.slice (some ⟨w3.heap.size, 0, none⟩) 1 1) 1 (enF ⟨a3, b.length, c3, fg⟩) from Rd.new rfl rfl)
        have SZ : w2.heap.size ≤ (w3.alloc (.cells #[.slice a3 b.length c3, .int .i64 fg] 39)).heap.size := Nat.le_trans HI.out.ge hA.size
        clear o3 b3 b3' hq3 hqA hA
        refine hK.out _ _ s3 (fun hHeld => ?_)
        clear hK
        try simp only [Act.put, List.setIfInBounds_toArray, List.set_cons_zero, List.set_cons_succ]
        refine wpAnyH_take (i := 6) (oi := ⟨some 23, _, _, _, _, _⟩) (v := .agg #[.slice a3 b.length c3, .int .i64 fg]) rfl (by kernel_rfl) (by kernel_rfl) (by kernel_rfl) (fun _ _ _ h => h) (Or.inl ⟨by rfl, ?_⟩) s3 ?_
        · intro w' hSw
          go_simp
        try simp only [Act.put, List.setIfInBounds_toArray, List.set_cons_zero, List.set_cons_succ]
        refine wpAnyH_ready (rs := [7]) (by kernel_rfl) (by simp) ?_
        refine AllReadyH.cons (i := 7) (o := ⟨some 24, _, _, _, _, _⟩) rfl (fun K hK => ?_) ?_
        · go_simp
          refine hK.out _ _ sA (fun hHeld => ?_)
          clear hK
          try simp only [Act.put, List.setIfInBounds_toArray, List.set_cons_zero, List.set_cons_succ]
          refine wpAnyH_ready (rs := [8]) (by kernel_rfl) (by simp) ?_
          refine AllReadyH.cons (i := 8) (o := ⟨some 25, _, _, _, _, _⟩) rfl (fun K hK => ?_) ?_
          · refine step_app (B := w2.heap.size) (v := .slice oa m oc) (n := m) (m := 1) rfl (.tmp 17) (.tmp 24) 36 rfl 39 i0 _ 2 _ Try.underlying36 hi0 hz0 hz1 hz2 rfl (by decide) SZ rfl rfl OA.out RA.out (enF_one _) (by unfold maxLen; omega) (by omega) ?_
            intro v5 w5 o5 f5 m5 n5 z5
            have F5 := Lib.hid (row_fin hs2w HI.out Ho.out Hown.out Hall.out Hm.out Hcm.out B3.out O3.out o5 f5 m5)
            have k5 : w5.cell? ⟨w.heap.size, 0, none⟩ = some (.slice oa m oc) := cell_of_one F5.out.1
            have z5' : w5.frozen? ⟨w.heap.size, 0, none⟩ = false := free_of_one F5.out.1
            have hqA := ((B3.out.alloc B3.out.size (.cells #[.slice a3 b.length c3, .int .i64 fg] 39)).block q (lt_of_block Hq.out)).trans Hq.out
            have hq5 := f5.heap hqA HNQ.out
            have hq6 := ((Fr.refl (fun k => k = w.heap.size) w5).setCell (p := ⟨w.heap.size, 0, none⟩) (fun _ => rfl) v5).heap hq5 (fun e => hwq (by rw [e]))
            have s5 : w5.cell? ⟨q, 0, none⟩ = some (.slice fa b.length fc) ∧ w5.cell? ⟨q, 1, none⟩ = some (.int .i64 fg) := ⟨blk_cell hq5 0, blk_cell hq5 1⟩
            obtain ⟨a5, c5, hv5, _⟩ := own_shape o5
            subst hv5
            have s6 : (w5.setCell ⟨w.heap.size, 0, none⟩ (.slice a5 (m + 1) c5)).cell? ⟨q, 0, none⟩ = some (.slice fa b.length fc) ∧ (w5.setCell ⟨w.heap.size, 0, none⟩ (.slice a5 (m + 1) c5)).cell? ⟨q, 1, none⟩ = some (.int .i64 fg) := ⟨blk_cell hq6 0, blk_cell hq6 1⟩
            clear hq5 hq6 hqA o5 f5 m5 n5 z5
            try simp only [Act.put, List.setIfInBounds_toArray, List.set_cons_zero, List.set_cons_succ]
            refine hK.out _ _ s5 (fun hHeld => ?_)
            clear hK
            try simp only [Act.put, List.setIfInBounds_toArray, List.set_cons_zero, List.set_cons_succ]
            refine wpAnyH_ready (rs := [9]) (by kernel_rfl) (by simp) ?_
            refine AllReadyH.cons (i := 9) (o := ⟨none, _, _, _, _, _⟩) rfl (fun K hK => ?_) ?_
            · go_simp
              refine hK.out _ _ s6 (fun hHeld => ?_)
              clear hK
              try simp only [Act.put, List.setIfInBounds_toArray, List.set_cons_zero, List.set_cons_succ]
              refine wpAnyH_done (by kernel_rfl) ?_ _
              exact F5.out.2
            exact AllReadyH.nil
          exact AllReadyH.nil
        exact AllReadyH.nil
      exact AllReadyH.nil
    refine AllReadyH.cons (i := 3) (o := ⟨some 20, _, _, _, _, _⟩) rfl (fun K hK => ?_) ?_
    · go_simp
      go_at_call 33
      refine (cloneB _ b W.drew (ownB_below Hxo.out (HI.out.bel.trans (Below.refl _ W).drew)).rd hxl).mono ?_
      rintro e w3 ⟨v3, rfl, o3, b3⟩
      obtain ⟨a3, c3, hv3, _⟩ := own_shape o3
      subst hv3
      have b3' : Below W.heap.size W w3 := ((Below.refl _ W).drew).trans b3
      have O3 := Lib.hid (show OwnB 0 w3 (.slice a3 b.length c3) b from own_zero o3)
      have B3 := Lib.hid b3'
      have k3 : w3.cell? ⟨w.heap.size, 0, none⟩ = some (.slice oa m oc) := (b3'.cell (lt_of_block Ho.out)).trans k1
      have hol : w.heap.size < w3.heap.size := Nat.lt_of_lt_of_le (lt_of_block Ho.out) b3'.size
      have hql : q < w3.heap.size := Nat.lt_of_lt_of_le (lt_of_block Hq.out) b3'.size
      have hq3 := (b3'.block q (lt_of_block Hq.out)).trans Hq.out
      have s3 : w3.cell? ⟨q, 0, none⟩ = some (.slice fa b.length fc) ∧ w3.cell? ⟨q, 1, none⟩ = some (.int .i64 fg) := ⟨blk_cell hq3 0, blk_cell hq3 1⟩
      have hA : Below W.heap.size W (w3.alloc (.cells #[.slice a3 b.length c3, .int .i64 fg] 39)) := b3'.alloc b3'.size _
      have hqA := (hA.block q (lt_of_block Hq.out)).trans Hq.out
      have sA : (w3.alloc (.cells #[.slice a3 b.length c3, .int .i64 fg] 39)).cell? ⟨q, 0, none⟩ = some (.slice fa b.length fc) ∧ (w3.alloc (.cells #[.slice a3 b.length c3, .int .i64 fg] 39)).cell? ⟨q, 1, none⟩ = some (.int .i64 fg) := ⟨blk_cell hqA 0, blk_cell hqA 1⟩
      have OA := Lib.hid (show (w3.alloc (.cells #[.slice a3 b.length c3, .int .i64 fg] 39)).ownsRow w2.heap.size 39 2 (.slice oa m oc) m (fo.flatMap enF) by have := (Hown.out.keep (fun g hg => hA.block g (own_lt Hown.out hg))); unfold Own at this; rw [← Hm.out] at this; exact this)
      have RA := Lib.hid (show Rd (w3.alloc (.cells #[.slice a3 b.length c3, .int .i64 fg] 39)) 2 (.slice (some ⟨w3.heap.size, 0, none⟩) 1 1) 1 (enF ⟨a3, b.length, c3, fg⟩) from Rd.new rfl rfl)
      have SZ : w2.heap.size ≤ (w3.alloc (.cells #[.slice a3 b.length c3, .int .i64 fg] 39)).heap.size := Nat.le_trans HI.out.ge hA.size
      clear o3 b3 b3' hq3 hqA hA
      refine hK.out _ _ s3 (fun hHeld => ?_)
      clear hK
      try simp only [Act.put, List.setIfInBounds_toArray, List.set_cons_zero, List.set_cons_succ]
      refine wpAnyH_take (i := 6) (oi := ⟨some 23, _, _, _, _, _⟩) (v := .agg #[.slice a3 b.length c3, .int .i64 fg]) rfl (by kernel_rfl) (by kernel_rfl) (by kernel_rfl) (fun _ _ _ h => h) (Or.inl ⟨by rfl, ?_⟩) s3 ?_
      · intro w' hSw
        go_simp
      try simp only [Act.put, List.setIfInBounds_toArray, List.set_cons_zero, List.set_cons_succ]
      refine wpAnyH_ready (rs := [0, 7]) (by kernel_rfl) (by simp) ?_
      refine AllReadyH.cons (i := 0) (o := ⟨some 17, _, _, _, _, _⟩) rfl (fun K hK => ?_) ?_
      · go_simp
        refine hK.out _ _ s3 (fun hHeld => ?_)
        clear hK
        try simp only [Act.put, List.setIfInBounds_toArray, List.set_cons_zero, List.set_cons_succ]
        refine wpAnyH_ready (rs := [7]) (by kernel_rfl) (by simp) ?_
        refine AllReadyH.cons (i := 7) (o := ⟨some 24, _, _, _, _, _⟩) rfl (fun K hK => ?_) ?_
        · go_simp
          refine hK.out _ _ sA (fun hHeld => ?_)
          clear hK
          try simp only [Act.put, List.setIfInBounds_toArray, List.set_cons_zero, List.set_cons_succ]
          refine wpAnyH_ready (rs := [8]) (by kernel_rfl) (by simp) ?_
          refine AllReadyH.cons (i := 8) (o := ⟨some 25, _, _, _, _, _⟩) rfl (fun K hK => ?_) ?_
          · refine step_app (B := w2.heap.size) (v := .slice oa m oc) (n := m) (m := 1) rfl (.tmp 17) (.tmp 24) 36 rfl 39 i0 _ 2 _ Try.underlying36 hi0 hz0 hz1 hz2 rfl (by decide) SZ rfl rfl OA.out RA.out (enF_one _) (by unfold maxLen; omega) (by omega) ?_
            intro v5 w5 o5 f5 m5 n5 z5
            have F5 := Lib.hid (row_fin hs2w HI.out Ho.out Hown.out Hall.out Hm.out Hcm.out B3.out O3.out o5 f5 m5)
            have k5 : w5.cell? ⟨w.heap.size, 0, none⟩ = some (.slice oa m oc) := cell_of_one F5.out.1
            have z5' : w5.frozen? ⟨w.heap.size, 0, none⟩ = false := free_of_one F5.out.1
            have hqA := ((B3.out.alloc B3.out.size (.cells #[.slice a3 b.length c3, .int .i64 fg] 39)).block q (lt_of_block Hq.out)).trans Hq.out
            have hq5 := f5.heap hqA HNQ.out
            have hq6 := ((Fr.refl (fun k => k = w.heap.size) w5).setCell (p := ⟨w.heap.size, 0, none⟩) (fun _ => rfl) v5).heap hq5 (fun e => hwq (by rw [e]))
            have s5 : w5.cell? ⟨q, 0, none⟩ = some (.slice fa b.length fc) ∧ w5.cell? ⟨q, 1, none⟩ = some (.int .i64 fg) := ⟨blk_cell hq5 0, blk_cell hq5 1⟩
            obtain ⟨a5, c5, hv5, _⟩ := own_shape o5
            subst hv5
            have s6 : (w5.setCell ⟨w.heap.size, 0, none⟩ (.slice a5 (m + 1) c5)).cell? ⟨q, 0, none⟩ = some (.slice fa b.length fc) ∧ (w5.setCell ⟨w.heap.size, 0, none⟩ (.slice a5 (m + 1) c5)).cell? ⟨q, 1, none⟩ = some (.int .i64 fg) := ⟨blk_cell hq6 0, blk_cell hq6 1⟩
            clear hq5 hq6 hqA o5 f5 m5 n5 z5
            try simp only [Act.put, List.setIfInBounds_toArray, List.set_cons_zero, List.set_cons_succ]
            refine hK.out _ _ s5 (fun hHeld => ?_)
            clear hK
            try simp only [Act.put, List.setIfInBounds_toArray, List.set_cons_zero, List.set_cons_succ]
            refine wpAnyH_ready (rs := [9]) (by kernel_rfl) (by simp) ?_
            refine AllReadyH.cons (i := 9) (o := ⟨none, _, _, _, _, _⟩) rfl (fun K hK => ?_) ?_
            · go_simp
              refine hK.out _ _ s6 (fun hHeld => ?_)
              clear hK
              try simp only [Act.put, List.setIfInBounds_toArray, List.set_cons_zero, List.set_cons_succ]
              refine wpAnyH_done (by kernel_rfl) ?_ _
              exact F5.out.2
            exact AllReadyH.nil
          exact AllReadyH.nil
        exact AllReadyH.nil
      refine AllReadyH.cons (i := 7) (o := ⟨some 24, _, _, _, _, _⟩) rfl (fun K hK => ?_) ?_
      · go_simp
        refine hK.out _ _ sA (fun hHeld => ?_)
        clear hK
        try simp only [Act.put, List.setIfInBounds_toArray, List.set_cons_zero, List.set_cons_succ]
        refine wpAnyH_ready (rs := [0]) (by kernel_rfl) (by simp) ?_
        refine AllReadyH.cons (i := 0) (o := ⟨some 17, _, _, _, _, _⟩) rfl (fun K hK => ?_) ?_
        · go_simp
          refine hK.out _ _ sA (fun hHeld => ?_)
          clear hK
          try simp only [Act.put, List.setIfInBounds_toArray, List.set_cons_zero, List.set_cons_succ]
          refine wpAnyH_ready (rs := [8]) (by kernel_rfl) (by simp) ?_
          refine AllReadyH.cons (i := 8) (o := ⟨some 25, _, _, _, _, _⟩) rfl (fun K hK => ?_) ?_
          · refine step_app (B := w2.heap.size) (v := .slice oa m oc) (n := m) (m := 1) rfl (.tmp 17) (.tmp 24) 36 rfl 39 i0 _ 2 _ Try.underlying36 hi0 hz0 hz1 hz2 rfl (by decide) SZ rfl rfl OA.out RA.out (enF_one _) (by unfold maxLen; omega) (by omega) ?_
            intro v5 w5 o5 f5 m5 n5 z5
            have F5 := Lib.hid (row_fin hs2w HI.out Ho.out Hown.out Hall.out Hm.out Hcm.out B3.out O3.out o5 f5 m5)
            have k5 : w5.cell? ⟨w.heap.size, 0, none⟩ = some (.slice oa m oc) := cell_of_one F5.out.1
            have z5' : w5.frozen? ⟨w.heap.size, 0, none⟩ = false := free_of_one F5.out.1
            have hqA := ((B3.out.alloc B3.out.size (.cells #[.slice a3 b.length c3, .int .i64 fg] 39)).block q (lt_of_block Hq.out)).trans Hq.out
            have hq5 := f5.heap hqA HNQ.out
            have hq6 := ((Fr.refl (fun k => k = w.heap.size) w5).setCell (p := ⟨w.heap.size, 0, none⟩) (fun _ => rfl) v5).heap hq5 (fun e => hwq (by rw [e]))
            have s5 : w5.cell? ⟨q, 0, none⟩ = some (.slice fa b.length fc) ∧ w5.cell? ⟨q, 1, none⟩ = some (.int .i64 fg) := ⟨blk_cell hq5 0, blk_cell hq5 1⟩
            obtain ⟨a5, c5, hv5, _⟩ := own_shape o5
            subst hv5
            have s6 : (w5.setCell ⟨w.heap.size, 0, none⟩ (.slice a5 (m + 1) c5)).cell? ⟨q, 0, none⟩ = some (.slice fa b.length fc) ∧ (w5.setCell ⟨w.heap.size, 0, none⟩ (.slice a5 (m + 1) c5)).cell? ⟨q, 1, none⟩ = some (.int .i64 fg) := ⟨blk_cell hq6 0, blk_cell hq6 1⟩
            clear hq5 hq6 hqA o5 f5 m5 n5 z5
            try simp only [Act.put, List.setIfInBounds_toArray, List.set_cons_zero, List.set_cons_succ]
            refine hK.out _ _ s5 (fun hHeld => ?_)
            clear hK
            try simp only [Act.put, List.setIfInBounds_toArray, List.set_cons_zero, List.set_cons_succ]
            refine wpAnyH_ready (rs := [9]) (by kernel_rfl) (by simp) ?_
            refine AllReadyH.cons (i := 9) (o := ⟨none, _, _, _, _, _⟩) rfl (fun K hK => ?_) ?_
            · go_simp
              refine hK.out _ _ s6 (fun hHeld => ?_)
              clear hK
              try simp only [Act.put, List.setIfInBounds_toArray, List.set_cons_zero, List.set_cons_succ]
              refine wpAnyH_done (by kernel_rfl) ?_ _
              exact F5.out.2
            exact AllReadyH.nil
          exact AllReadyH.nil
        exact AllReadyH.nil
      exact AllReadyH.nil
    exact AllReadyH.nil
  case done =>
    rintro D ys W hD rfl hi hK
    obtain ⟨ov, fo, ho, hown, hall⟩ := hi.out
    have k1 := cell_of_one ho
    have HI := Lib.hid hi
    have Hown := Lib.hid hown
    have Hall := Lib.hid hall
    have HK := Lib.hid hK
    clear hi ho hown hK hall
    go_wp2_with fail
    refine ⟨by simp, .inl ⟨_, _, rfl, run_takeDeferred HK.out, ?_⟩⟩
    have hf := fr_putObj W D w2.heap.size (.deferred none) _ hD HK.out rfl
    refine ⟨_, results_tmp rfl _ _ _, ov, fo, rfl, ?_, ?_, ?_⟩
    · have h1 := Hown.out.stay hf
      exact own_base (own_zero h1) (fun g hg => by have := (h1.lt g hg).1; omega)
    · have := forall_imp Hall.out (R' := FlB (W.putObj D (.deferred none))) (fun f p e => ⟨Own.stay e.1 hf, e.2⟩)
      rw [HZL.out] at this
      exact this
    · exact below_stay HI.out.bel hf (by omega) (Nat.le_refl _)
  case stop =>
    rintro D cd pre W hD _ h hK
    exact h.elim
end Go.Proofs.Yteihpaikdpdglaa
