/-
  Layer 4: ints (are two rows one), all (what a walk tells).
-/
import Derived.Test.YtjefmicmhcajoaaL4A
import Derived.Test.YtjefmicmhcajoaaQueEI
import Derived.Test.YtjefmicmhcajoaaTl
namespace Go.Proofs.Ytjefmicmhcajoaa
open Go.RowKit
set_option linter.unusedVariables false
attribute [local go_sem] Oper.semAt_some


/-- A row of ints that reads. -/
abbrev RdZ (w : World) (v : Value) (zs : List Int) : Prop := Rd w 1 v zs.length ((ivsI zs).flatMap enQ)
theorem rdz_at {w : World} {b o n c : Nat} {zs : List Int} (h : RdZ w (.slice (some ⟨b, o, none⟩) n c) zs) {i : Nat} (hi : i < zs.length) : w.cell? ⟨b, o + i, none⟩ = some (.int .i64 zs[i]) := by
  obtain ⟨b', o', c', hv, _, hx⟩ := Rd.some h (by omega) (by decide)
  simp at hv
  obtain ⟨⟨rfl, rfl⟩, _, _⟩ := hv
  have := Rd.el enQ_len hx (i := i) (by simpa using hi) (j := 0) (by decide) rfl
  simpa using this
theorem rdz_of_own {w : World} {B : Nat} {v : Value} {zs : List Int} (h : Own enQ 3 1 B w v (ivsI zs)) : RdZ w v zs := by
  have := h.rd
  rw [ivsI_len] at this
  exact this

def sameZ (a b : List Int) : Bool := decide (a = b)
theorem sameZ_self (a : List Int) : sameZ a a = true := by simp [sameZ]
theorem sameZ_len {a b : List Int} (h : a.length ≠ b.length) : sameZ a b = false := by unfold sameZ; simp; exact fun e => h (by rw [e])
theorem sameZ_no {a b : List Int} {i : Nat} (ha : i < a.length) (hb : i < b.length) (h : a[i] ≠ b[i]) : sameZ a b = false := by unfold sameZ; simp; intro e; subst e; exact h rfl
theorem sameZ_yes {a b : List Int} (hl : a.length = b.length) (h : ∀ i, (ha : i < a.length) → (hb : i < b.length) → a[i] = b[i]) : sameZ a b = true := by unfold sameZ; simp; exact List.ext_getElem hl (fun i h1 h2 => h i h1 h2)

set_option maxHeartbeats 1000000 in
theorem ints (va vb : Value) (la lb : List Int) (w : World) (ha : RdZ w va la) (hb : RdZ w vb lb) (hm : la.length ≤ 1000000) :
    Calls Try.prog 24 #[va, vb] w fun e w' => e = .returned (.bool (sameZ la lb)) ∧ Below w.heap.size w w' := by
  obtain ⟨aa, ac, rfl⟩ := ha.len
  obtain ⟨ba, bc, rfl⟩ := hb.len
  have Ha := Lib.hid ha
  have Hb := Lib.hid hb
  clear ha hb
  cases hl : ((la.length : Int) == (lb.length : Int)) with
  | false =>
    have hs := Lib.hid (sameZ_len (a := la) (b := lb) (by simp at hl; omega))
    have hl2 : ((la.length : Int) != (lb.length : Int)) = true := by rw [bne, hl]; rfl
    go_enter Try.func24, Try.ntmps24
    go_wp2_with fail
    go_ret
    exact ⟨by rw [hs.out]; rfl, Below.refl _ _⟩
  | true =>
    have hlen : la.length = lb.length := by simp at hl; omega
    have hl2 : ((la.length : Int) != (lb.length : Int)) = false := by rw [bne, hl]; rfl
    have Hlen := Lib.hid hlen
    clear hlen
    go_enter Try.func24, Try.ntmps24
    go_wp2_with fail
    go_loopw [5] (fun v wr => ∃ i : Nat, i ≤ la.length ∧ v = .int .i64 i ∧ Hid (Below w.heap.size w wr) ∧ Hid (∀ j, j < i → (h1 : j < la.length) → (h2 : j < lb.length) → la[j] = lb[j])) (fun v _ => la.length - (intOf v).toNat)
    case atStart => exact ⟨0, by omega, rfl, Below.refl _ _, fun j hj => by omega⟩
    case round =>
      obtain ⟨i, hi, rfl, Hw, hall⟩ := hrel
      by_cases hlt : i < la.length
      · have hlt2 : i < lb.length := by have := Hlen.out; omega
        have ha1 := Rd.fr Ha.out (Fr.of_below Hw.out no) (fun _ _ e => e)
        have hb1 := Rd.fr Hb.out (Fr.of_below Hw.out no) (fun _ _ e => e)
        obtain ⟨b1, o1, c1, e1, g1, x1⟩ := ha1.some (by omega) (by decide)
        obtain ⟨b2, o2, c2, e2, g2, x2⟩ := hb1.some (by omega) (by decide)
        simp at e1 e2
        obtain ⟨rfl, rfl⟩ := e1
        obtain ⟨rfl, rfl⟩ := e2
        clear x1 x2
        have y1 := rdz_at ha1 hlt
        have y2 := rdz_at hb1 hlt2
        clear ha1 hb1
        cases hq : (la[i] == lb[i]) with
        | true =>
          have hq2 : (la[i] != lb[i]) = false := by rw [bne, hq]; rfl
          go_wp2_with fail
          go_quiet (fail)
          go_wp2_with fail
          go_roundw
          case rel => exact ⟨i + 1, by omega, by go_num, below_drewN Hw.out _, fun j hj h1 h2 => by
            by_cases e : j = i
            · subst e; simpa using hq
            · exact hall.out j (by omega) h1 h2⟩
          case measure => simp [intOf]; omega
        | false =>
          have hq2 : (la[i] != lb[i]) = true := by rw [bne, hq]; rfl
          have hs := Lib.hid (sameZ_no hlt hlt2 (by simpa using hq))
          go_wp2_with fail
          go_quiet (fail)
          go_wp2_with fail
          go_ret
          exact ⟨by rw [hs.out]; rfl, below_drewN Hw.out _⟩
      · have hs := Lib.hid (sameZ_yes Hlen.out (fun j h1 h2 => hall.out j (by omega) h1 h2))
        go_wp2_with fail
        go_ret
        exact ⟨by rw [hs.out]; rfl, Hw.out⟩

/-- The first n; all, if n is below 0. -/
def firstN (n : Int) (zs : List Int) : List Int := if n < 0 then zs else zs.take n.toNat

/-- What the walk has laid when 'pre' has come. -/
structure AllInv (w : World) (C : Nat) (n : Int) (pre : List (Int × Nat)) (W : World) : Prop where
  out : ∃ ov, W.heap[w.heap.size + 1]? = some (.cells #[ov] 42 (0, 0)) ∧ Own enQ 3 1 C W ov (ivsI (pre.map Prod.fst))
  num : W.heap[w.heap.size]? = some (.cells #[.int .i64 n] 3 (0, 0))
  bel : Below w.heap.size w W
  ne : ∀ x ∈ pre, (x.2 : Int) ≠ n
  ge : C ≤ W.heap.size

set_option maxRecDepth 100000 in
set_option maxHeartbeats 4000000 in
theorem all (n : Int) (c : Nat) (most : Int) (sv : Value) (zs : List Int) (w : World) (B : Nat) (h : IsQI w B c most sv (ivsI zs)) (hl : zs.length ≤ 100000) :
    Calls Try.prog 27 #[.pointer (some ⟨c, 0, none⟩), .int .i64 n] w fun e w' => ∃ ov, e = .returned ov ∧ Own enQ 3 1 w.heap.size w' ov (ivsI (firstN n zs)) ∧ Below w.heap.size w w' := by
  obtain ⟨i0, hi0, hz0, hz1, hz2⟩ := info_parts infoQI
  have hc := lt_of_block h.blk
  have H := Lib.hid h
  clear h
  refine (callsIn_wide (n := 2)).1 ?_
  refine callsIn_of_wp_marks Try.func27 rfl trivial ?_ rfl
  simp only [Try.ntmps27, List.size_toArray, List.length_cons, List.length_nil, Nat.reduceAdd, Nat.reduceSub, Array.replicate_succ, Array.replicate_zero, List.push_toArray, List.append_toArray, List.nil_append, List.cons_append]
  refine wpIn_wide.2 ?_
  go_wp2_with fail
  refine (eachQI c _).mono ?_
  rintro e w1 ⟨rfl, hbx, hbel, hsz⟩
  have hs1 : w1.heap.size = w.heap.size + 3 := by rw [hsz]; simp
  have hB1 : Below w.heap.size w w1 := (((Below.refl _ w).alloc (Nat.le_refl _) _).alloc (by simp) _).trans (hbel.mono (by simp; omega))
  have hn1 : w1.heap[w.heap.size]? = some (.cells #[.int .i64 n] 3 (0, 0)) := (hbel.block _ (by simp; omega)).trans ((heap_alloc_lt _ _ (by simp)).trans (heap_alloc_new' w _))
  have ho1 : w1.heap[w.heap.size + 1]? = some (.cells #[.slice none 0 0] 42 (0, 0)) := (hbel.block _ (by simp)).trans (by have := heap_alloc_new' (w.alloc (.cells #[.int .i64 n] 3)) (.cells #[.slice none 0 0] 42); simpa using this)
  have hb1 : w1.heap[w.heap.size + 1 + 1]? = some (.cells #[.pointer (some ⟨c, 0, none⟩)] 30 (0, 0)) := by simpa using hbx
  clear hbx hbel hsz
  go_wp2_with fail
  have hq1 := H.out.below hB1
  have inv0 : AllInv w w1.heap.size n [] w1 := ⟨⟨_, ho1, Own.nil _ _ _ _ _⟩, hn1, hB1, fun x hx => by simp at hx, Nat.le_refl _⟩
  have Inv0 := Lib.hid inv0
  have Hseq := Lib.hid (each1QI (w.heap.size + 1 + 1) c most sv zs w1 B [⟨w.heap.size + 1, 0, none⟩] (fun a ha => by rw [List.mem_singleton.1 ha]; show w.heap.size + 1 < _; omega) (fun a ha cv hcv k hk => by
    rw [List.mem_singleton.1 ha, blk_cell ho1 0] at hcv
    simp at hcv
    subst hcv
    simp [Value.ownBlock] at hk) hb1 hq1 hl)
  clear inv0 hb1 ho1 hn1 hB1 hq1
  refine (wpIn_wide (n := 2)).1 ?_
  refine wp_rangeK (gf := 51) (lb := #[.pointer (some ⟨w.heap.size + 1 + 1, 0, none⟩)]) rfl (enters_of Try.func51 (by kernel_rfl) rfl) (Kp := Keep [⟨w.heap.size + 1, 0, none⟩] w1.heap.size) keep_t (keep_b (fun a ha => by rw [List.mem_singleton.1 ha]; show w.heap.size + 1 < _; omega)) Hseq.out (fun _ => rfl)
    (fun pre W => AllInv w w1.heap.size n pre W) (fun cd pre W => cd = .exit 0 ∧ ∃ p0 x, pre = p0 ++ [x] ∧ (x.2 : Int) = n ∧ AllInv w w1.heap.size n p0 W) ?hI ?hIx Inv0.out
    (fun x a' W => a' = { tmps := #[.pointer (some ⟨c, 0, none⟩), .int .i64 n, undef, .pointer (some ⟨w.heap.size, 0, none⟩), .slice none 0 0, .pointer (some ⟨w.heap.size + 1, 0, none⟩), .int .i64 x.2, .int .i64 x.1, .pointer (some ⟨c, 0, none⟩), .func (.func 51) #[] #[.pointer (some ⟨w.heap.size + 1 + 1, 0, none⟩)], .int .i64 x.2, .int .i64 x.1, undef, undef, undef, undef, undef, undef, undef, undef], defers := [] })
    (fun _ _ _ _ h _ => h) ?assign ?body ?done ?stop
  case hI => exact fun s W W' h hf => ⟨by obtain ⟨ov, h1, h2⟩ := h.out; exact ⟨ov, blk_stay h1 hf, h2.stay hf⟩, blk_stay h.num hf, below_stay h.bel hf (by omega) (Nat.le_refl _), h.ne, Nat.le_trans h.ge hf.size⟩
  case hIx => exact fun cd s W W' ⟨e, p0, x, h1, h2, h⟩ hf => ⟨e, p0, x, h1, h2, by obtain ⟨ov, h1, h2⟩ := h.out; exact ⟨ov, blk_stay h1 hf, h2.stay hf⟩, blk_stay h.num hf, below_stay h.bel hf (by omega) (Nat.le_refl _), h.ne, Nat.le_trans h.ge hf.size⟩
  case assign =>
    intro lp pre x W K hi hK
    dsimp only [encsQI]
    gi_wp2
    exact hK _ _ (KeepsFrom.refl _ _) (keep_refl _ _ _) hi rfl
  case body =>
    rintro lp pre x a' W hlp ⟨r, hr⟩ hi rfl hlt
    obtain ⟨ov, ho, hown⟩ := hi.out
    obtain ⟨oa, oc, hov, _⟩ := own_shape hown
    rw [ivsI_len, List.length_map] at hov
    subst hov
    have k0 := cell_of_one hi.num
    have k1 := cell_of_one ho
    have z1 := free_of_one ho
    have hlen : pre.length ≤ 100000 := by omega
    have hWs := lt_of_block ho
    have HI := Lib.hid hi
    have Ho := Lib.hid ho
    have Hown := Lib.hid hown
    clear hi ho hown hr
    cases hq : ((x.2 : Int) == n) with
    | true =>
      gi_wp2
      have he : (x.2 : Int) = n := by simpa using hq
      exact ⟨KeepsFrom.refl _ _, rfl, pre, x, rfl, he, HI.out⟩
    | false =>
      have hne : (x.2 : Int) ≠ n := by simpa using hq
      gi_wp2_with (gi_at_builtin; refine held ?_)
      refine unheld ?_
      refine wpListIn_app (B := w1.heap.size) (v := .slice oa pre.length oc) (n := pre.length) rfl (.tmp 15) (.tmp 17) 42 rfl 3 i0 _ 1 _ Try.underlying42 hi0 hz0 hz1 hz2 rfl (by decide) (by have := HI.out.ge; simp; omega) rfl rfl (by have := Own.fr Hown.out ((Fr.refl no W).alloc (.cells #[.int .i64 x.1] 3)) (fun _ _ e => e); unfold Own at this; rw [ivsI_len, List.length_map] at this; exact this) (Rd.new rfl rfl) (by intro u hu; simp at hu; subst hu; rfl) (by unfold maxLen; omega) (by omega) ?_
      intro v5 w5 o5 f5 m5 n5 z5
      have f25 : Fr (fun b => (Value.slice oa pre.length oc).ownBlock = some b) W w5 := ((Fr.refl _ W).alloc _).trans f5
      have b5 := f25.heap Ho.out (fun e => own_ne Hown.out Ho.out (by decide) e)
      have k5 := cell_of_one b5
      have zz5 := free_of_one b5
      have hs5 := f25.size
      have o6 : Own enQ 3 1 w1.heap.size w5 v5 (ivsI ((pre ++ [x]).map Prod.fst)) := by
        have : w5.ownsRow w1.heap.size 3 1 v5 ((ivsI (pre.map Prod.fst)).length + 1) ((ivsI (pre.map Prod.fst)).flatMap enQ ++ [.int .i64 x.1]) := by rw [ivsI_len, List.length_map]; exact o5
        have := Own.snoc (x := Value.int .i64 x.1) this rfl
        simpa using this
      obtain ⟨a5, c5, rfl, _⟩ := own_shape o5
      have O6 := Lib.hid o6
      have B5 := Lib.hid b5
      clear o5 o6 b5 n5
      gi_wp2
      have f6 : Fr (fun b => b = w.heap.size + 1) w5 (w5.setCell ⟨w.heap.size + 1, 0, none⟩ (.slice a5 (pre.length + 1) c5)) := (Fr.refl (fun b => b = w.heap.size + 1) w5).setCell (fun _ => rfl) _
      have fall := f25.trans' f6 (T := fun b => (Value.slice oa pre.length oc).ownBlock = some b ∨ b = w.heap.size + 1) (fun _ _ e => .inl e) (fun _ _ e => .inr e)
      have hb6 : (w5.setCell ⟨w.heap.size + 1, 0, none⟩ (.slice a5 (pre.length + 1) c5)).heap[w.heap.size + 1]? = some (.cells #[.slice a5 (pre.length + 1) c5] 42 (0, 0)) := one_setCell B5.out
      refine ⟨keepsFrom_fr fall (fun k hk => ?_), keep_fr fall (fun k hk => ?_) (fun a ha cv hcv k hk => ?_), ⟨⟨_, hb6, ?_⟩, fall.heap HI.out.num ?_, HI.out.bel.trans (fall.below' HI.out.bel.size (fun k hk => ?_)), ?_, ?_⟩⟩
      · rcases hk with hk | hk
        · obtain ⟨cur, hc⟩ := own_type Hown.out hk
          exact .inr ⟨_, _, _, hc⟩
        · exact .inl (by omega)
      · rcases hk with hk | hk
        · exact .inr (fun hn => hn _ (List.mem_singleton.2 rfl) _ k1 hk)
        · exact .inl (by omega)
      · rw [List.mem_singleton.1 ha, blk_cell hb6 0] at hcv
        simp at hcv
        subst hcv
        rcases m5 with m5 | m5
        · exact .inl ⟨_, List.mem_singleton.2 rfl, _, k1, by rw [← m5]; exact hk⟩
        · have : some k = some _ := hk.symm.trans m5
          injection this with this
          exact .inr (by rw [this]; simp)
      · exact O6.out.fr f6 (fun g hg (e : g = w.heap.size + 1) => by subst e; exact own_ne O6.out B5.out (by decide) hg)
      · rintro (e | e)
        · have := (Hown.out.lt _ e).1; omega
        · omega
      · rcases hk with hk | hk
        · have := (Hown.out.lt k hk).1; omega
        · omega
      · intro y hy
        rcases List.mem_append.1 hy with hy | hy
        · exact HI.out.ne y hy
        · rw [List.mem_singleton.1 hy]; exact hne
      · have := HI.out.ge; have := fall.size; omega
  case done =>
    rintro D ys W hD rfl hi hK
    obtain ⟨ov, ho, hown⟩ := hi.out
    have k1 := cell_of_one ho
    have HI := Lib.hid hi
    have Hown := Lib.hid hown
    have HK := Lib.hid hK
    clear hi ho hown hK
    go_wp2_with fail
    refine ⟨by simp, .inl ⟨_, _, rfl, run_takeDeferred HK.out, ?_⟩⟩
    refine ⟨_, results_tmp rfl _ _ _, ov, rfl, ?_, ?_⟩
    · have hf := fr_putObj W D w1.heap.size (.deferred none) _ hD HK.out rfl
      have h1 := Hown.out.stay hf
      have h2 : firstN n zs = zs.zipIdx.map Prod.fst := by
        rw [List.zipIdx_map_fst]
        unfold firstN
        split
        · rfl
        · refine List.take_of_length_le ?_
          by_cases hx : n.toNat < zs.length
          · have := HI.out.ne (zs[n.toNat], n.toNat) (by
              rw [List.mem_iff_getElem]
              exact ⟨n.toNat, by simpa using hx, by simp⟩)
            dsimp only at this
            omega
          · omega
      rw [h2]
      exact own_base (own_zero h1) (fun g hg => by have := (h1.lt g hg).1; omega)
    · exact below_stay HI.out.bel (fr_putObj W D w1.heap.size (.deferred none) _ hD HK.out rfl) (by omega) (Nat.le_refl _)
  case stop =>
    rintro D cd pre W hD ⟨j, hj0, hj, rfl⟩ ⟨rfl, p0, x, hp, hxn, hi⟩ hK
    obtain ⟨ov, ho, hown⟩ := hi.out
    have k1 := cell_of_one ho
    have HI := Lib.hid hi
    have Hown := Lib.hid hown
    have HK := Lib.hid hK
    have Hp := Lib.hid hp
    have Hx := Lib.hid hxn
    clear hi ho hown hK hp hxn
    refine wpIn_wide.2 ?_
    go_wp2_with fail
    refine ⟨by simp, .inl ⟨_, _, rfl, run_takeDeferred HK.out, ?_⟩⟩
    refine ⟨_, results_tmp rfl _ _ _, ov, rfl, ?_, ?_⟩
    · have hf := fr_putObj W D w1.heap.size (.deferred none) _ hD HK.out rfl
      have h1 := Hown.out.stay hf
      have h2 : firstN n zs = p0.map Prod.fst := by
        obtain ⟨j, rfl⟩ : ∃ q, j = q + 1 := ⟨j - 1, by omega⟩
        have hp := Hp.out
        rw [idx_snocI zs (by omega)] at hp
        obtain ⟨e1, e2⟩ := List.append_inj_right' hp rfl |> fun e => And.intro (List.append_inj_left' hp rfl) e
        simp at e2
        subst e2
        have hxn := Hx.out
        dsimp only at hxn
        rw [← e1]
        unfold firstN
        rw [if_neg (by omega), ← hxn, Int.toNat_natCast, ← List.map_take.symm, List.zipIdx_map_fst]
      rw [h2]
      exact own_base (own_zero h1) (fun g hg => by have := (h1.lt g hg).1; omega)
    · exact below_stay HI.out.bel (fr_putObj W D w1.heap.size (.deferred none) _ hD HK.out rfl) (by omega) (Nat.le_refl _)
end Go.Proofs.Ytjefmicmhcajoaa
