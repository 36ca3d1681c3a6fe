/-
  Package grid: slices.Clone, slices.Grow, slices.Concat at ints; each.
-/
import Derived.Test.YtnafppdnapdbcaaGrd
import Derived.Lib.Walk
namespace Go.Proofs.Ytnafppdnapdbcaa
open Go.RowKit


theorem cloneI (v : Value) (l : List Int) (w : World) (N : Nat) (hN : N ≤ w.heap.size) (h : RdN N w v l) (hm : l.length ≤ 100000) :
    Calls Try.prog 46 #[v] w fun e w' => ∃ v', e = .returned v' ∧ RdN N w' v' l ∧ Below w.heap.size w w' := by
  obtain ⟨i1, hi1, hz3, hz4, hz5⟩ := info_parts infoI
  obtain ⟨aa, ac, rfl⟩ := h.rd.len
  have hq := fun (w : World) => Lib.run_eql_slice_nil (P := Try.prog) w 23 3 aa l.length ac 0 0 Try.underlying23
  cases aa with
  | none =>
    obtain ⟨_, a, c, hv, h0, _⟩ := h.rd
    simp at hv
    obtain ⟨rfl, rfl⟩ := hv
    have hl : l = [] := List.eq_nil_of_length_eq_zero (h0 rfl).1
    have hc0 : ac = 0 := (h0 rfl).2
    subst hl hc0
    clear hq
    have hq := fun (w : World) => Lib.run_eql_slice_nil (P := Try.prog) w 23 3 none 0 0 0 0 Try.underlying23
    change Calls Try.prog 46 #[.slice none 0 0] w _
    go_enter Try.func46, Try.ntmps46
    go_wp2_with fail
    go_ret
    exact ⟨_, rfl, RdN.nil _ _, Below.refl _ _⟩
  | some ad =>
    have H := Lib.hid h
    have H1 := Lib.hid (enI_ones l)
    clear h
    go_enter Try.func46, Try.ntmps46
    go_wp2_with (at_builtin; refine held ?_)
    refine unheld ?_
    refine wpList_app (B := w.heap.size) (v := .slice (some ⟨w.heap.size, 0, none⟩) 0 0) rfl (.tmp 5) (.tmp 6) 23 rfl 3 i1 _ 1 _ Try.underlying23 hi1 hz3 hz4 hz5 rfl (by decide) (by simp) rfl rfl (own_empty w _ _ _ (Nat.le_refl _)) (H.out.below ((Below.refl _ w).alloc (Nat.le_refl _) _)).rd H1.out (by unfold maxLen; omega) (by omega) ?_
    intro v5 w5 o5 f5 m5 n5 z5
    have f25 := ((Fr.refl (fun b => w.heap.size ≤ b) w).alloc (.cells #[] 3)).trans' f5 (T := fun b => w.heap.size ≤ b) (fun _ _ e => e) (fun b _ e => by simp [Value.ownBlock] at e; omega)
    have fin : Own enI 3 1 w.heap.size w5 v5 l := by
      unfold Own
      have h := o5
      rw [Nat.zero_add, List.nil_append] at h
      exact h
    have Fin := Lib.hid (RdN.of_own fin hN)
    have Fb := Lib.hid (f25.below' (Nat.le_refl _) (fun _ e => e))
    clear fin o5 n5 m5 f25 f5
    go_wp2_with fail
    go_ret
    exact ⟨_, rfl, Fin.out, Fb.out⟩

theorem grow0 (n : Nat) (w : World) (hn : n ≤ 100000) :
    Calls Try.prog 47 #[.slice none 0 0, .int .i64 n] w fun e w' => ∃ v, e = .returned v ∧ Own enI 3 1 w.heap.size w' v [] ∧ Below w.heap.size w w' := by
  obtain ⟨i1, hi1, hz3, hz4, hz5⟩ := info_parts infoI
  by_cases h0 : n = 0
  · subst h0
    change Calls Try.prog 47 #[.slice none 0 0, .int .i64 0] w _
    go_enter Try.func47, Try.ntmps47
    go_wp2_with fail
    go_ret
    exact ⟨_, rfl, Own.nil _ _ _ _ _, Below.refl _ _⟩
  · have hG : n ≤ grownCap w n 0 3 := grownCap_ge w n 0 3
    have hG2 : grownCap w n 0 3 ≤ maxLen := grownCap_le_maxLen w n 0 3 (by unfold maxLen; omega)
    have hrz := fun ty => Lib.run_append_grow_zeros (P := Try.prog) w 23 3 ty 3 i1 (.int .i64 0) .i64 .i64 Try.underlying23 Try.underlying3 hi1 hz3 none 0 0 [] (run_firstCells_none w.drew i1.size 0 0 0) n (by omega) (by omega) (by omega) (by omega) (by rw [hz5]; omega)
      (growslice_fits (by omega) (by rw [hz5]; omega))
    simp only [Nat.zero_add] at hrz
    obtain ⟨G, hGG⟩ : ∃ G, G = grownCap w n 0 3 := ⟨_, rfl⟩
    rw [← hGG] at hrz hG hG2
    have hzz : ∀ X : Array Value, ([] : List Value).toArray ++ X = X := fun X => by simp
    rw [Array.append_assoc, hzz] at hrz
    have fin := own_new w.drew w.heap.size 3 1 (Nat.le_refl _) [] (Builtin.zeroCells (Value.int .i64 0).cells n ++ Builtin.zeroCells (Value.int .i64 0).cells (G - n)) 0 G (by simp) (Nat.zero_le _) hG2 (by simp [zeroCells_size, Value.cells]; omega)
    rw [hzz] at fin
    have hbel : Below w.heap.size w (w.alloc (.cells (Builtin.zeroCells (Value.int .i64 0).cells n ++ Builtin.zeroCells (Value.int .i64 0).cells (G - n)) 3)).drew := ((Below.refl _ w).alloc (Nat.le_refl _) _).drew
    have Fin : Hid (Own enI 3 1 w.heap.size (w.alloc (.cells (Builtin.zeroCells (Value.int .i64 0).cells n ++ Builtin.zeroCells (Value.int .i64 0).cells (G - n)) 3)).drew (.slice (some ⟨w.heap.size, 0, none⟩) 0 G) []) := fin
    have Hb := Lib.hid hbel
    have hG63 : G ≤ 9223372036854775807 := by unfold maxLen at hG2; omega
    have hn1 : decide ((0 : Int) < (n : Int)) = true := by simp; omega
    have hn2 : (0 : Int) < (n : Int) := by omega
    clear fin hbel hGG hzz
    go_enter Try.func47, Try.ntmps47
    go_wp2_with (at_builtin; refine Lib.wpList_append_run _ rfl _ _ _ _ rfl _ _ rfl rfl _ _ (hrz _) ?_)
    go_ret
    exact ⟨_, rfl, Fin.out, Hb.out⟩

/-- Slices of ints, and what they read as. -/
def RdAll (N : Nat) (w : World) : List Value → List (List Int) → Prop
  | [], [] => True
  | v :: vs, l :: ls => RdN N w v l ∧ RdAll N w vs ls
  | _, _ => False
theorem RdAll.len {N : Nat} {w : World} : ∀ {vs : List Value} {ls : List (List Int)}, RdAll N w vs ls → vs.length = ls.length
  | [], [], _ => rfl
  | _ :: vs, _ :: ls, h => by simp [h.2.len]
  | [], _ :: _, h => h.elim
  | _ :: _, [], h => h.elim
theorem RdAll.get {N : Nat} {w : World} : ∀ {vs : List Value} {ls : List (List Int)}, RdAll N w vs ls → ∀ i, (h1 : i < vs.length) → (h2 : i < ls.length) → RdN N w vs[i] ls[i]
  | v :: vs, l :: ls, h, 0, _, _ => h.1
  | v :: vs, l :: ls, h, i + 1, h1, h2 => h.2.get i (by simpa using h1) (by simpa using h2)
  | [], [], _, i, h1, _ => absurd h1 (by simp)
  | [], _ :: _, h, _, _, _ => h.elim
  | _ :: _, [], h, _, _, _ => h.elim
theorem RdAll.below {N : Nat} {w w' : World} (hb : Below w.heap.size w w') : ∀ {vs : List Value} {ls : List (List Int)}, RdAll N w vs ls → RdAll N w' vs ls
  | [], [], _ => trivial
  | _ :: _, _ :: _, h => ⟨h.1.below hb, h.2.below hb⟩
  | [], _ :: _, h => h.elim
  | _ :: _, [], h => h.elim
abbrev enV (v : Value) : List Value := [v]
theorem enV_len (v : Value) : (enV v).length = 1 := rfl

theorem flatten_take_succ {α : Type} (ls : List (List α)) (i : Nat) (h : i < ls.length) : (ls.take (i + 1)).flatten = (ls.take i).flatten ++ ls[i] := by
  rw [List.take_succ_eq_append_getElem h, List.flatten_append]
  simp
theorem flatten_take_le {α : Type} (ls : List (List α)) (i : Nat) : (ls.take i).flatten.length ≤ ls.flatten.length := by
  have : ls.flatten = (ls.take i).flatten ++ (ls.drop i).flatten := by rw [← List.flatten_append, List.take_append_drop]
  rw [this, List.length_append]; omega

set_option maxHeartbeats 1000000 in
theorem concat (sv : Value) (vs : List Value) (ls : List (List Int)) (w : World) (N : Nat) (hN : N ≤ w.heap.size) (hs : Rd w 1 sv vs.length (vs.flatMap enV)) (h : RdAll N w vs ls) (hm : ls.flatten.length ≤ 100000) (hm2 : ls.length ≤ 1000) :
    Calls Try.prog 43 #[sv] w fun e w' => ∃ v', e = .returned v' ∧ RdN N w' v' ls.flatten ∧ Below w.heap.size w w' := by
  obtain ⟨i1, hi1, hz3, hz4, hz5⟩ := info_parts infoI
  obtain ⟨aa, ac, rfl⟩ := hs.len
  have hl := h.len
  have H := Lib.hid h
  have Hs := Lib.hid hs
  have Hl := Lib.hid hl
  have hvs : vs.length ≤ 1000 := by omega
  clear h hs hl
  go_enter Try.func43, Try.ntmps43
  go_wp2_with fail
  go_loop [3, 11] (fun v3 v11 => ∃ i : Nat, i ≤ vs.length ∧ v11 = .int .i64 i ∧ (∃ n : Nat, v3 = .int .i64 n ∧ Hid (n = (ls.take i).flatten.length))) (fun _ v => vs.length - (intOf v).toNat)
  case atStart => exact ⟨0, by omega, rfl, ⟨0, rfl, by unfold Hid; simp⟩⟩
  case round =>
    obtain ⟨i, hi, rfl, ⟨n, rfl, hn⟩⟩ := hrel
    have hnm : n ≤ 100000 := by have := hn.out; have := flatten_take_le ls i; omega
    by_cases hlt : i < vs.length
    · have hlt2 : i < ls.length := by have := Hl.out; omega
      obtain ⟨b1, o1, c1, e1, g1, x1⟩ := Hs.out.some (by omega) (by decide)
      simp at e1
      obtain ⟨rfl, rfl⟩ := e1
      have y1 := Rd.el enV_len x1 hlt (j := 0) (by decide) rfl
      rw [Nat.mul_one, Nat.add_zero] at y1
      have hg := H.out.get i hlt hlt2
      obtain ⟨a2, c2, hv2⟩ := hg.rd.len
      rw [hv2] at y1
      have hll : ls[i].length ≤ 100000 := by
        have h1 := flatten_take_succ ls i hlt2
        have h2 := flatten_take_le ls (i + 1)
        rw [h1, List.length_append] at h2
        omega
      have Hn : Hid (n + ls[i].length = (ls.take (i + 1)).flatten.length) := by rw [flatten_take_succ ls i hlt2, List.length_append, ← hn.out]; rfl
      have Hv := Lib.hid hv2
      have Hg := Lib.hid hg
      clear x1 hv2 hg hn
      have h01 : decide ((n : Int) + (ls[i].length : Int) < 0) = false := by simp; omega
      go_wp2_with fail
      go_round
      case rel => exact ⟨i + 1, by omega, by go_num, ⟨n + ls[i].length, by go_num, Hn⟩⟩
      case measure => simp [intOf]; omega
    · have hn' : n = ls.flatten.length := by have := hn.out; rw [List.take_of_length_le (by have := Hl.out; omega)] at this; exact this
      clear hn
      have Hn := Lib.hid hn'
      clear hn'
      go_wp2_with fail
      refine (grow0 n w hnm).mono ?_
      rintro e w2 ⟨v2, rfl, o2, b2⟩
      have O2 := Lib.hid o2
      clear o2
      go_wp2_with fail
      go_loopw [6, 27] (fun v6 v27 wr2 => ∃ i : Nat, i ≤ vs.length ∧ v27 = .int .i64 i ∧ Hid (Own enI 3 1 w.heap.size wr2 v6 (ls.take i).flatten) ∧ Hid (Below w.heap.size w wr2)) (fun _ v _ => vs.length - (intOf v).toNat)
      case atStart => exact ⟨0, by omega, rfl, by simpa using O2, b2⟩
      case round =>
        obtain ⟨i, hi, rfl, ho, hb⟩ := hrel
        have hs := hb.out.size
        have hfl := flatten_take_le ls i
        by_cases hlt : i < vs.length
        · have hlt2 : i < ls.length := by have := Hl.out; omega
          obtain ⟨b1, o1, c1, e1, g1, x1⟩ := (Hs.out.fr (Fr.of_below hb.out no) (fun _ _ e => e)).some (by omega) (by decide)
          simp at e1
          obtain ⟨rfl, rfl⟩ := e1
          have y1 := Rd.el enV_len x1 hlt (j := 0) (by decide) rfl
          rw [Nat.mul_one, Nat.add_zero] at y1
          have hg := (H.out.get i hlt hlt2).below hb.out
          obtain ⟨a2, c2, hv2⟩ := hg.rd.len
          rw [hv2] at y1 hg
          have hll : (ls.take i).flatten.length + ls[i].length ≤ 100000 := by
            have h1 := flatten_take_succ ls i hlt2
            have h2 := flatten_take_le ls (i + 1)
            rw [h1, List.length_append] at h2
            omega
          have ht : Hid ((ls.take (i + 1)).flatten = (ls.take i).flatten ++ ls[i]) := flatten_take_succ ls i hlt2
          have Hg := Lib.hid hg
          clear x1 hv2 hg hfl
          go_wp2_with (at_builtin; refine held ?_)
          refine unheld ?_
          refine wpList_app (B := w.heap.size) (v := u6) rfl (.tmp 31) (.tmp 32) 23 rfl 3 i1 _ 1 _ Try.underlying23 hi1 hz3 hz4 hz5 rfl (by decide) hs rfl rfl ho.out Hg.out.rd (enI_ones _) (by unfold maxLen; omega) (by omega) ?_
          intro v5 w5 o5 f5 m5 n5 z5
          have fin1 : Own enI 3 1 w.heap.size w5 v5 (ls.take (i + 1)).flatten := by
            unfold Own
            rw [ht.out, List.flatMap_append, List.length_append]
            exact o5
          have fin2 : Below w.heap.size w w5 := hb.out.trans (f5.below' hs (fun b e => (ho.out.lt b e).1))
          have Fin1 := Lib.hid fin1
          have Fin2 := Lib.hid fin2
          clear fin1 fin2 o5 n5 m5 f5
          go_wp2_with fail
          go_roundw
          case rel => exact ⟨i + 1, by omega, by go_num, Fin1, Fin2⟩
          case measure => simp [intOf]; omega
        · have ht : (ls.take i).flatten = ls.flatten := by rw [List.take_of_length_le (by have := Hl.out; omega)]
          have ho' := ho.out
          rw [ht] at ho'
          have Ho := Lib.hid ho'
          clear ho ho' ht
          go_wp2_with fail
          go_ret
          exact ⟨_, rfl, RdN.of_own Ho.out hN, hb.out⟩

/-- Rows for states and events. -/
def eachT (T : GT) (ins evs : List Int) (n : Int) (d : List Int) : GT := ins.foldl (fun T s => evs.foldl (fun T e => layT T s e n d) T) T

set_option maxHeartbeats 1000000 in
theorem each (iv ev dv t : Value) (ins evs d : List Int) (n : Int) (w : World) (B N : Nat) (T : GT) (hi : RdN N w iv ins) (he : RdN N w ev evs) (hd : RdN N w dv d) (hT : Tab B N w t T)
    (hin : ∀ s ∈ ins, 0 ≤ s ∧ s < 14) (hev : ∀ e ∈ evs, 0 ≤ e ∧ e < 34) (h1 : ins.length ≤ 1000) (h2 : evs.length ≤ 1000) (h3 : d.length ≤ 1000) :
    Calls Try.prog 40 #[t, iv, ev, .int .i64 n, dv] w fun x w' => x = .returned (.tuple #[]) ∧ Tab B N w' t (eachT T ins evs n d) ∧ Kp B N w w' := by
  obtain ⟨ia, ic, rfl⟩ := hi.rd.len
  obtain ⟨ea, ec, rfl⟩ := he.rd.len
  obtain ⟨g, cap, r, rfl, _⟩ := hT.ex
  have Hi := Lib.hid hi
  have He := Lib.hid he
  have Hd := Lib.hid hd
  have HT := Lib.hid hT
  have Hin := Lib.hid hin
  have Hev := Lib.hid hev
  clear hi he hd hT hin hev
  go_enter Try.func40, Try.ntmps40
  go_wp2_with fail
  go_loopw [16] (fun v16 wr => ∃ i : Nat, i ≤ ins.length ∧ v16 = .int .i64 i ∧ Hid (Tab B N wr (.slice (some ⟨g, 0, none⟩) 14 cap) (eachT T (ins.take i) evs n d) ∧ Kp B N w wr)) (fun v _ => ins.length - (intOf v).toNat)
  case atStart => exact ⟨0, by omega, rfl, HT.out, Fr.refl _ _⟩
  case round =>
    obtain ⟨i, hi, rfl, H⟩ := hrel
    by_cases hlt : i < ins.length
    · obtain ⟨b1, o1, c1, e1, g1, x1⟩ := (Hi.out.fr H.out.2 (Nat.le_refl _)).rd.some (by omega) (by decide)
      simp at e1
      obtain ⟨rfl, rfl⟩ := e1
      clear x1
      have y1 := (Hi.out.fr H.out.2 (Nat.le_refl _)).at hlt
      have hs := Hin.out _ (List.getElem_mem hlt)
      obtain ⟨s, hss⟩ : ∃ s, s = ins[i] := ⟨_, rfl⟩
      rw [← hss] at y1 hs
      have Hs : Hid (eachT T (ins.take (i + 1)) evs n d = evs.foldl (fun T e => layT T s e n d) (eachT T (ins.take i) evs n d)) := by
        unfold eachT
        rw [List.take_succ_eq_append_getElem hlt, List.foldl_append, ← hss]; rfl
      clear hss
      go_wp2_with fail
      obtain ⟨wo, rfl⟩ : ∃ wo : World, wo = wr := ⟨_, rfl⟩
      go_loopw [22] (fun v22 wr => ∃ j : Nat, j ≤ evs.length ∧ v22 = .int .i64 j ∧ Hid (Tab B N wr (.slice (some ⟨g, 0, none⟩) 14 cap) ((evs.take j).foldl (fun T e => layT T s e n d) (eachT T (ins.take i) evs n d)) ∧ Kp B N w wr)) (fun v _ => evs.length - (intOf v).toNat)
      case atStart => exact ⟨0, by omega, rfl, H.out.1, H.out.2⟩
      case round =>
        obtain ⟨j, hj, rfl, H2⟩ := hrel
        by_cases hlt2 : j < evs.length
        · obtain ⟨b2, o2, c2, e2, g2, x2⟩ := (He.out.fr H2.out.2 (Nat.le_refl _)).rd.some (by omega) (by decide)
          simp at e2
          obtain ⟨rfl, rfl⟩ := e2
          clear x2
          have y2 := (He.out.fr H2.out.2 (Nat.le_refl _)).at hlt2
          have he := Hev.out _ (List.getElem_mem hlt2)
          obtain ⟨e, hee⟩ : ∃ e, e = evs[j] := ⟨_, rfl⟩
          rw [← hee] at y2 he
          have Hs2 : Hid ((evs.take (j + 1)).foldl (fun T e => layT T s e n d) (eachT T (ins.take i) evs n d) = layT ((evs.take j).foldl (fun T e => layT T s e n d) (eachT T (ins.take i) evs n d)) s e n d) := by
            rw [List.take_succ_eq_append_getElem hlt2, List.foldl_append, ← hee]; rfl
          clear hee
          go_wp2_with fail
          refine (cloneI _ d wr N H2.out.1.size (Hd.out.fr H2.out.2 (Nat.le_refl _)) (by omega)).mono ?_
          rintro x w3 ⟨v3, rfl, r3, k3⟩
          have T3 := Lib.hid (H2.out.1.below k3)
          have R3 := Lib.hid r3
          have K3 : Hid (Kp B N w w3) := H2.out.2.trans (Fr.of_below k3 _)
          obtain ⟨a3, c3, rfl⟩ := r3.rd.len
          clear r3 k3
          go_wp2_with fail
          refine (lay s e n d _ _ w3 B N _ ⟨hs.1, hs.2, he.1, he.2⟩ T3.out R3.out).mono ?_
          rintro x w4 ⟨rfl, t4, k4⟩
          have fin : Hid (Tab B N w4 (.slice (some ⟨g, 0, none⟩) 14 cap) ((evs.take (j + 1)).foldl (fun T e => layT T s e n d) (eachT T (ins.take i) evs n d)) ∧ Kp B N w w4) := ⟨by rw [Hs2.out]; exact t4, K3.out.trans k4⟩
          clear t4 k4
          go_wp2_with fail
          go_roundw
          case rel => exact ⟨j + 1, by omega, by go_num, fin⟩
          case measure => simp [intOf]; omega
        · have ht : evs.take j = evs := List.take_of_length_le (by omega)
          have h := H2.out
          rw [ht, ← Hs.out] at h
          have fin := Lib.hid h
          clear h ht
          go_wp2_with fail
          go_roundw
          case rel => exact ⟨i + 1, by omega, by go_num, fin⟩
          case measure => simp [intOf]; omega
    · have ht : ins.take i = ins := List.take_of_length_le (by omega)
      have h := H.out
      rw [ht] at h
      have fin := Lib.hid h
      clear h ht H
      go_wp2_with fail
      go_end0
      exact ⟨rfl, fin.out⟩
end Go.Proofs.Ytnafppdnapdbcaa
