/-
  Layer 10: ClockOrder: the plain law and the walk.
-/
import Derived.Test.YtidcjbfppdhghaaC10A
import Derived.Test.YtidcjbfppdhghaaC10G
namespace Go.Proofs.Ytidcjbfppdhghaa
open Go.RowKit


/-- All keys with the same left. -/
def ordL (n : Int) (o : List Int) : List TmI := o.map fun k => (k, n)
/-- A key comes last. -/
def ordS (k : Int) (o : List Int) : List Int := o.filter (fun x => x != k) ++ [k]
/-- Keys, each once, below 20. -/
def ordOk (o : List Int) : Prop := o.Nodup ∧ ∀ x ∈ o, 0 ≤ x ∧ x < 20

theorem nodup_len : ∀ (n : Nat) (l : List Int), l.Nodup → (∀ x ∈ l, 0 ≤ x ∧ x < (n : Int)) → l.length ≤ n := by
  have hf : ∀ (a : Int) (l : List Int), l.Nodup → l.length ≤ (l.filter (fun x => x != a)).length + 1 := by
    intro a l
    induction l with
    | nil => simp
    | cons x l ih =>
      intro h
      obtain ⟨h1, h2⟩ := List.nodup_cons.1 h
      by_cases e : x = a
      · subst e
        have : l.filter (fun y => y != x) = l := List.filter_eq_self.2 (fun y hy => by simp; intro e; subst e; exact h1 hy)
        simp [this]
      · have := ih h2
        simp [e]
        omega
  intro n
  induction n with
  | zero =>
    intro l _ h
    cases l with
    | nil => simp
    | cons x l => have := h x (by simp); omega
  | succ n ih =>
    intro l hn h
    have h1 := hf (n : Int) l hn
    have h2 := ih (l.filter (fun x => x != (n : Int))) (List.Pairwise.filter _ hn) (fun x hx => by
      have := List.mem_filter.1 hx
      have h3 := h x this.1
      have h4 : x ≠ (n : Int) := by simpa using this.2
      omega)
    omega
theorem ordOk_len {o : List Int} (h : ordOk o) : o.length ≤ 20 := nodup_len 20 o h.1 h.2
theorem ordOk_step {o : List Int} {k : Int} (h : ordOk o) (hk : 0 ≤ k ∧ k < 20) : ordOk (ordS k o) := by
  refine ⟨?_, fun x hx => ?_⟩
  · unfold ordS
    rw [List.nodup_append]
    refine ⟨List.Pairwise.filter _ h.1, by simp, ?_⟩
    intro a ha b hb e
    simp at ha hb
    subst hb
    exact ha.2 e
  · unfold ordS at hx
    simp at hx
    rcases hx with hx | rfl
    · exact h.2 x hx.1
    · exact hk
theorem ordL_stop {o : List Int} {k n : Int} (h : o.Nodup) : stopLI k (ordL n o) = ordL n (o.filter (fun x => x != k)) := by
  unfold stopLI ordL
  induction o with
  | nil => rfl
  | cons x o ih =>
    obtain ⟨h1, h2⟩ := List.nodup_cons.1 h
    rw [List.map_cons, List.eraseP_cons]
    cases e : keqI x k with
    | true =>
      have e' : x = k := by simpa [keqI] using e
      subst e'
      have : o.filter (fun y => y != x) = o := List.filter_eq_self.2 (fun y hy => by simp; intro e; subst e; exact h1 hy)
      simp [this]
    | false =>
      have e' : ¬ x = k := by simpa [keqI] using e
      rw [ih h2]
      simp [e']
theorem ord_start {o : List Int} {k n : Int} (h : ordOk o) (hk : 0 ≤ k ∧ k < 20) (hn : 1 ≤ n ∧ n ≤ 10000) :
    startOkI (max 20 0) k n (ordL n o) = true ∧ afterStartI (max 20 0) k n (ordL n o) = ordL n (ordS k o) := by
  have h1 : startOkI (max 20 0) k n (ordL n o) = true := by
    unfold startOkI
    simp only [hn.1, hn.2, decide_true, Bool.true_and, Bool.not_eq_true', Bool.and_eq_false_imp]
    intro hf
    rcases fidxI_cases k (ordL n o) with ⟨_, hno⟩ | ⟨i, hi, _⟩
    · have hno' := List.findIdx?_eq_none_iff.1 hno
      have hnot : k ∉ o := fun hm => by
        have := hno' (k, n) (List.mem_map.2 ⟨k, hm, rfl⟩)
        simp [keqI] at this
      have hs := ordOk_len (ordOk_step h hk)
      have : o.filter (fun x => x != k) = o := List.filter_eq_self.2 (fun y hy => by simp; intro e; subst e; exact hnot hy)
      unfold ordS at hs
      rw [this, List.length_append, List.length_singleton] at hs
      simp [ordL]
      omega
    · simp at hf
      omega
  refine ⟨h1, ?_⟩
  unfold afterStartI startLI
  rw [if_pos h1, ordL_stop h.1]
  unfold ordL ordS
  simp
theorem ord_over1 (o : List Int) : overLI (ordL 1 o) = o ∧ restLI (ordL 1 o) = [] := by
  unfold overLI restLI ordL
  constructor
  · induction o with
    | nil => rfl
    | cons x o ih => simpa using ih
  · simp
theorem ord_over {o : List Int} {n : Int} (h : n ≠ 1) : overLI (ordL n o) = [] ∧ restLI (ordL n o) = ordL (n - 1) o := by
  unfold overLI restLI ordL
  have h2 : (n == 1) = false := by simpa using h
  constructor
  · simp [h]
  · induction o with
    | nil => rfl
    | cons x o ih => simp [h] at ih ⊢; exact ih

theorem ordF_succ {o : List Int} {k : Int} {j : Nat} (hj : j < o.length) : (o.take (j + 1)).filter (fun x => x != k) = (o.take j).filter (fun x => x != k) ++ if (o[j] != k) = true then [o[j]] else [] := by
  rw [List.take_succ_eq_append_getElem hj, List.filter_append]
  cases h : (o[j] != k) <;> simp [h]

/-- What holds while they are started. -/
structure OrdInv (c : Nat) (n : Int) (w : World) (ov : Value) (o : List Int) (wr : World) : Prop where
  clk : ∃ sv, IsClkI wr c c (max 20 0) 0 sv (ordL n o)
  own : Own encKI 3 1 c wr ov o
  bel : Below w.heap.size w wr
  cge : w.heap.size ≤ c
  clt : c < wr.heap.size
  ok : ordOk o
/-- What holds while it ticks. -/
structure TickInv (c : Nat) (n : Int) (w : World) (ov : Value) (o : List Int) (i : Int) (wr : World) : Prop where
  clk : ClkI wr c c (max 20 0) (i - 1) (ordL (n + 1 - i) o)
  own : Own encKI 3 1 c wr ov o
  bel : Below w.heap.size w wr

set_option maxHeartbeats 4000000 in
theorem order (v0 : Value) (l : List Int) (a1 : Int) (h1 : 0 ≤ a1 ∧ a1 ≤ 255) (w : World) (hl : Rd w 1 v0 l.length (l.flatMap fun z => [Value.int .u8 z])) (hok : ∀ d ∈ l, 0 ≤ d ∧ d ≤ 255) (hm : l.length ≤ maxLen) :
    Calls Try.prog 5 #[v0, .int .u8 a1] w fun e w' => e = .returned (.bool true) ∧ Below w.heap.size w w' := by
  obtain ⟨i1, hi1, hz3, hz4, hz5⟩ := info_parts info3
  obtain ⟨a, cp, rfl⟩ := hl.len
  obtain ⟨h10, h11⟩ := h1
  have hm2 : l.length ≤ 9223372036854775807 := by unfold maxLen at hm; omega
  have Hok := Lib.hid hok
  have Hl := Lib.hid hl
  clear hok hl
  by_cases hlen : 100 < l.length
  · go_enter Try.func5, Try.ntmps5
    go_wp2_with fail
    refine (awake w).mono ?_
    rintro e w0 ⟨rfl, hb0⟩
    go_wp2_with fail
    go_ret
    exact ⟨rfl, hb0⟩
  · go_enter Try.func5, Try.ntmps5
    go_wp2_with fail
    refine (awake w).mono ?_
    rintro e w0 ⟨rfl, hb0⟩
    go_wp2_with fail
    refine (newI 20 w0 (by decide)).mono ?_
    rintro e w1 ⟨rfl, hk1, hb1⟩
    obtain ⟨c, hc⟩ : ∃ c, c = w0.heap.size := ⟨_, rfl⟩
    rw [← hc] at hk1 ⊢
    have hcs : w.heap.size ≤ c := by rw [hc]; exact hb0.size
    have hbc : Below w.heap.size w w1 := hb0.trans (hb1.mono hb0.size)
    clear hc hb0 hb1
    obtain ⟨n, hn⟩ := Int.eq_ofNat_of_zero_le (show (0 : Int) ≤ 1 + a1 % 20 by omega)
    have hn1 : 1 ≤ n := by omega
    have hn2 : n ≤ 20 := by omega
    have Hn := Lib.hid hn
    clear hn
    have inv0 : OrdInv c n w (.slice none 0 0) [] w1 := ⟨⟨_, hk1⟩, Own.nil _ _ _ _ _, hbc, hcs, lt_of_block hk1.blk, by simp [ordOk]⟩
    have Inv0 := Lib.hid inv0
    clear inv0 hk1 hbc
    go_wp2_with fail
    rw [Hn.out]
    clear h10 h11
    go_loopw [7, 8] (fun v7 v8 wr => ∃ (i : Nat) (o : List Int), i ≤ l.length ∧ v8 = .int .i64 i ∧ OrdInv c n w v7 o wr) (fun _ v8 _ => l.length - (intOf v8).toNat)
    case atStart => exact ⟨0, [], by omega, rfl, Inv0.out⟩
    case round =>
      obtain ⟨i, o, hi, rfl, hinv⟩ := hrel
      have hol := ordOk_len hinv.ok
      by_cases hil : i < l.length
      · obtain ⟨b, of, cp', hv, hb, hx⟩ := Hl.out.some (by omega) (by decide)
        simp at hv
        obtain ⟨rfl, rfl⟩ := hv
        obtain ⟨d1, d2⟩ := Hok.out l[i] (List.getElem_mem hil)
        have x0 : wr.cell? ⟨b, of + i, none⟩ = some (.int .u8 l[i]) := (hinv.bel.cell (p := ⟨b, _, none⟩) hb).trans (by have := Rd.el (enc := fun z => [Value.int .u8 z]) (k := 1) (fun _ => rfl) hx hil (j := 0) (by decide) rfl; simpa using this)
        obtain ⟨k, hk⟩ : ∃ k, k = l[i] % 20 := ⟨_, rfl⟩
        have hk1 : 0 ≤ k := by omega
        have hk2 : k < 20 := by omega
        have Hk := Lib.hid hk.symm
        obtain ⟨oa, oc, rfl, hoc, homax, hoa⟩ := own_shape hinv.own
        have hcr := hinv.clt
        obtain ⟨sv, hsv⟩ := hinv.clk
        obtain ⟨s1, s2⟩ := ord_start hinv.ok ⟨hk1, hk2⟩ (show (1 : Int) ≤ (n : Int) ∧ (n : Int) ≤ 10000 by omega)
        have I := Lib.hid hinv
        have Hsv := Lib.hid hsv
        have Hoa := Lib.hid hoa
        clear hinv hx hk hsv hoa
        go_wp2_with fail
        rw [Hk.out]
        refine (startI k n c _ _ sv _ wr c (by omega) Hsv.out).mono ?_
        rw [s1, s2]
        rintro e w3 ⟨rfl, sv3, hk3, hm3, hf3⟩
        have ho3 : Own encKI 3 1 c w3 (.slice oa o.length oc) o := I.out.own.fr hf3 (fun g hg e => by
          rcases e with rfl | e
          · exact own_ne I.out.own Hsv.out.blk (by decide) hg
          · exact own_sep I.out.own Hsv.out.own (by decide) hg e)
        have hb3 : Below w.heap.size w w3 := I.out.bel.trans (hf3.below' (by have := I.out.bel.size; omega) (fun k e => by have := Hsv.out.ftp_ge k e; have := I.out.cge; omega))
        have hs3 := hf3.size
        have hok3 := ordOk_step I.out.ok (k := k) ⟨hk1, hk2⟩
        have Hk3 := Lib.hid hk3
        have Ho3 := Lib.hid ho3
        have Hb3 := Lib.hid hb3
        have Hok3 := Lib.hid hok3
        clear hk3 ho3 hb3 hf3 hm3 s1 s2 hok3
        go_wp2_with fail
        go_loopw [10, 11] (fun v10 v11 wr => ∃ j : Nat, j ≤ o.length ∧ v11 = .int .i64 j ∧ Own encKI 3 1 w3.heap.size wr v10 ((o.take j).filter (fun x => x != k)) ∧ Below w3.heap.size w3 wr) (fun _ v11 _ => o.length - (intOf v11).toNat)
        case atStart => exact ⟨0, by omega, rfl, Own.nil _ _ _ _ _, Below.refl _ _⟩
        case round =>
          obtain ⟨j, hj, rfl, hlo, hlb⟩ := hrel
          have hls : ((o.take j).filter (fun x => x != k)).length ≤ o.length := by
            have := List.length_filter_le (fun x => x != k) (o.take j); rw [List.length_take] at this; omega
          have Hlb := Lib.hid hlb
          have hqs := hlb.size
          by_cases hjl : j < o.length
          · obtain ⟨g, rfl, hg⟩ := Hoa.out (by omega)
            have y0 : wr.cell? ⟨g, j, none⟩ = some (.int .i64 o[j]) := by have := Ho3.out.cell' encKI_len hlb j 0 hjl (by omega); rw [Nat.mul_one] at this; exact this
            have hgq : g < wr.heap.size := by omega
            have Hlo := Lib.hid hlo
            clear hlo hlb
            cases hx : (o[j] == k) with
            | false =>
              have hx2 : (o[j] != k) = true := by rw [bne, hx]; rfl
              have hfil : Hid ((o.take (j + 1)).filter (fun x => x != k) = (o.take j).filter (fun x => x != k) ++ [o[j]]) := by rw [ordF_succ hjl, hx2]; rfl
              go_wp2_with (at_builtin; refine held ?_)
              refine unheld ?_
              refine wpList_app (B := w3.heap.size) (v := u10) rfl (.tmp 52) (.tmp 57) 36 rfl 3 i1 _ 1 _ Try.underlying36 hi1 hz3 hz4 hz5 rfl (by decide) (by simp; omega) rfl rfl (Hlo.out.fr ((Fr.refl no wr).alloc _) (fun _ _ e => e)) (Rd.new (by simp) rfl) (by intro u hu; simp at hu; subst hu; rfl) (by unfold maxLen; omega) (by omega) ?_
              intro v5 w5 o5 f5 m5 n5 z5
              have f25 : Fr (fun b => u10.ownBlock = some b) wr w5 := (((Fr.refl _ wr).alloc _)).trans f5
              have fin1 : Own encKI 3 1 w3.heap.size w5 v5 ((o.take (j + 1)).filter (fun x => x != k)) := by rw [hfil.out]; exact Own.snoc o5 rfl
              have fin2 : Below w3.heap.size w3 w5 := Hlb.out.trans (f25.below' hqs (fun b e => (Hlo.out.lt b e).1))
              have Fin1 := Lib.hid fin1
              have Fin2 := Lib.hid fin2
              clear fin1 fin2 o5 n5 m5
              go_wp2_with fail
              go_roundw
              case rel => exact ⟨j + 1, by omega, by go_num, Fin1.out, Fin2.out⟩
              case measure => simp [intOf]; omega
            | true =>
              have hx2 : (o[j] != k) = false := by rw [bne, hx]; rfl
              have hfil : Hid ((o.take (j + 1)).filter (fun x => x != k) = (o.take j).filter (fun x => x != k)) := by rw [ordF_succ hjl, hx2, if_neg Bool.false_ne_true, List.append_nil]; rfl
              go_wp2_with fail
              go_roundw
              case rel => exact ⟨j + 1, by omega, by go_num, by rw [hfil.out]; exact Hlo.out, Hlb.out⟩
              case measure => simp [intOf]; omega
          · have ht : o.take j = o := List.take_of_length_le (by omega)
            rw [ht] at hlo hls
            have Hlo := Lib.hid hlo
            clear hlo hlb ht
            go_wp2_with (at_builtin; refine held ?_)
            refine unheld ?_
            refine wpList_app (B := w3.heap.size) (v := u10) rfl (.tmp 59) (.tmp 61) 36 rfl 3 i1 _ 1 _ Try.underlying36 hi1 hz3 hz4 hz5 rfl (by decide) (by simp; omega) rfl rfl (Hlo.out.fr ((Fr.refl no wr).alloc _) (fun _ _ e => e)) (Rd.new (by simp) rfl) (by intro u hu; simp at hu; subst hu; rfl) (by unfold maxLen; omega) (by omega) ?_
            intro v5 w5 o5 f5 m5 n5 z5
            have f25 : Fr (fun b => u10.ownBlock = some b) wr w5 := (((Fr.refl _ wr).alloc _)).trans f5
            have fb : Below w3.heap.size w3 w5 := Hlb.out.trans (f25.below' hqs (fun b e => (Hlo.out.lt b e).1))
            have fin : OrdInv c n w v5 (ordS k o) w5 := by
              refine ⟨⟨sv3, Hk3.out.below fb⟩, ?_, Hb3.out.trans (fb.mono (by have := Hb3.out.size; omega)), I.out.cge, by have := fb.size; omega, Hok3.out⟩
              have h5 : Own encKI 3 1 w3.heap.size w5 v5 (ordS k o) := Own.snoc o5 rfl
              exact own_base (own_zero h5) (fun g hg => by have := (h5.lt g hg).1; omega)
            have Fin := Lib.hid fin
            clear fin o5 n5 m5
            go_wp2_with fail
            go_roundw
            case rel => exact ⟨i + 1, _, by omega, by go_num, Fin.out⟩
            case measure => simp [intOf]; omega
      · obtain ⟨oa, oc, rfl, hoc, homax, hoa⟩ := own_shape hinv.own
        have tin : TickInv c n w (.slice oa o.length oc) o 1 wr := by
          obtain ⟨sv, hsv⟩ := hinv.clk
          refine ⟨⟨by have := hinv.clt; omega, sv, ?_⟩, hinv.own, hinv.bel⟩
          rw [show (n : Int) + 1 - 1 = n by omega]
          exact hsv
        have hcge := hinv.cge
        have Tin := Lib.hid tin
        clear tin hinv hoa
        go_wp2_with fail
        go_loopw [12] (fun v12 wr => ∃ i : Nat, 1 ≤ i ∧ i ≤ n ∧ v12 = .int .i64 i ∧ TickInv c n w (.slice oa o.length oc) o i wr) (fun v12 _ => n - (intOf v12).toNat)
        case atStart => exact ⟨1, by omega, by omega, rfl, Tin.out⟩
        case round =>
          obtain ⟨i, hi1, hin, rfl, ht⟩ := hrel
          have HT := Lib.hid ht
          clear ht
          by_cases hlt : i < n
          · go_wp2_with fail
            refine (tickI' c _ _ _ wr c ⟨by omega, by omega⟩ HT.out.clk).mono ?_
            rw [(ord_over (show (n : Int) + 1 - i ≠ 1 by omega)).1, (ord_over (show (n : Int) + 1 - i ≠ 1 by omega)).2]
            rintro e w3 ⟨ov3, rfl, ho3, hk3, hf3, hb3⟩
            obtain ⟨a3, c3, rfl, _⟩ := own_shape ho3
            have fin : TickInv c n w (.slice oa o.length oc) o (i + 1 : Nat) w3 := by
              refine ⟨?_, over_frI HT.out.own HT.out.clk hf3, HT.out.bel.trans (hb3.mono hcge)⟩
              have e1 : ((i + 1 : Nat) : Int) - 1 = (i : Int) - 1 + 1 := by omega
              have e2 : (n : Int) + 1 - ((i + 1 : Nat) : Int) = (n : Int) + 1 - i - 1 := by omega
              rw [e1, e2]
              exact hk3
            have Fin := Lib.hid fin
            clear fin hk3 ho3 hf3 hb3
            go_wp2_with fail
            go_roundw
            case rel => exact ⟨i + 1, by omega, by omega, by go_num, Fin.out⟩
            case measure => simp [intOf]; omega
          · have hin' : (i : Int) = n := by omega
            go_wp2_with fail
            refine (tickI' c _ _ _ wr c ⟨by omega, by omega⟩ HT.out.clk).mono ?_
            rw [show (n : Int) + 1 - i = 1 by omega, (ord_over1 o).1, (ord_over1 o).2]
            rintro e w3 ⟨ov3, rfl, ho3, hk3, hf3, hb3⟩
            have ho4 := over_frI HT.out.own HT.out.clk hf3
            obtain ⟨_, sv3, hk4⟩ := hk3
            have hb4 := HT.out.bel.trans (hb3.mono hcge)
            have Ho3 := Lib.hid ho3
            have Ho4 := Lib.hid ho4
            have Hk4 := Lib.hid hk4
            have Hb4 := Lib.hid hb4
            clear ho3 ho4 hk4 hb4 hf3 hb3
            go_wp2_with fail
            refine (ints _ _ o o w3 Ho3.out.rd Ho4.out.rd (by omega)).mono ?_
            rw [show same2 o o = true by simp [same2]]
            rintro e w5 ⟨rfl, hb5⟩
            have hk6 := Hk4.out.below hb5
            have hb6 := Hb4.out.trans (hb5.mono Hb4.out.size)
            have Hk6 := Lib.hid hk6
            have Hb6 := Lib.hid hb6
            clear hk6 hb6 hb5
            go_wp2_with fail
            refine (lenI c _ _ sv3 _ w5 c Hk6.out).mono ?_
            rintro e w7 ⟨rfl, hb7⟩
            have hb8 := Hb6.out.trans (hb7.mono Hb6.out.size)
            have Hb8 := Lib.hid hb8
            clear hb7 hb8
            go_wp2_with fail
            go_ret
            exact ⟨rfl, Hb8.out⟩
end Go.Proofs.Ytidcjbfppdhghaa
