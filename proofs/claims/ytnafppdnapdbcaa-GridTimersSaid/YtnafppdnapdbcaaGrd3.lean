/-
  Package grid: the closures of answers and infos.
-/
import Derived.Test.YtnafppdnapdbcaaGrd2
import Derived.Deep.DeepCutAuto
import Derived.Deep.CutBlock
import Derived.Deep.RegionHeld3
namespace Go.Proofs.Ytnafppdnapdbcaa
open Go.RowKit


theorem RdN.later {N : Nat} {w : World} {v : Value} {l : List Int} (h : RdN N w v l) (o : Obj) : RdN N (w.alloc o) v l := h.below ((Below.refl _ w).alloc (Nat.le_refl _) o)
theorem RdN.drew {N : Nat} {w : World} {v : Value} {l : List Int} (h : RdN N w v l) : RdN N w.drew v l := ⟨h.rd, h.ge⟩
theorem Tab.drew {B N : Nat} {w : World} {t : Value} {T : GT} (h : Tab B N w t T) : Tab B N w.drew t T := h.below (Below.refl _ w).drew
theorem Tab.later {B N : Nat} {w : World} {t : Value} {T : GT} (h : Tab B N w t T) (o : Obj) : Tab B N (w.alloc o) t T := h.below ((Below.refl _ w).alloc (Nat.le_refl _) o)
theorem Kp.cell {B N : Nat} {w w' : World} (h : Kp B N w w') {b o : Nat} {v : Value} (hc : w.cell? ⟨b, o, none⟩ = some v) (hb : N ≤ b) : w'.cell? ⟨b, o, none⟩ = some v :=
  (Fr.cell h (World.block_lt_of_cell? w _ hc) (fun e => by have := e.2; simp at this; omega)).trans hc

theorem cell_on {w w' : World} {a : Addr} {v : Value} (hc : w.cell? a = some v) (hb : Below w.heap.size w w') : w'.cell? a = some v := (hb.cell (World.block_lt_of_cell? w _ hc)).trans hc
theorem Now.cell {B N : Nat} {w w' : World} {t : Value} {T : GT} (h : Hid (Tab B N w' t T ∧ Kp B N w w')) {b o : Nat} {v : Value} (hc : w.cell? ⟨b, o, none⟩ = some v) (hb : N ≤ b) : w'.cell? ⟨b, o, none⟩ = some v := h.out.2.cell hc hb

/-- The arguments of Concat: one block with slices in it. -/
theorem concat2 (w : World) (N : Nat) (hN : N ≤ w.heap.size) (v1 v2 : Value) (l1 l2 : List Int) (h1 : RdN N w v1 l1) (h2 : RdN N w v2 l2) (hm : l1.length + l2.length ≤ 1000) :
    Calls Try.prog 43 #[.slice (some ⟨w.heap.size, 0, none⟩) 2 2] (w.alloc (.cells #[v1, v2] 23)).drew fun e w' => ∃ a n c, e = .returned (.slice a n c) ∧ Hid (RdN N w' (.slice a n c) (l1 ++ l2)) ∧ Below w.heap.size w w' := by
  refine (concat _ [v1, v2] [l1, l2] _ N (by simp; omega) (Rd.drew (Rd.new (by simp) rfl)) ⟨(h1.later _).drew, (h2.later _).drew, trivial⟩ (by simp; omega) (by simp)).mono ?_
  rintro e w' ⟨v', he, hr, hb⟩
  simp only [List.flatten_cons, List.flatten_nil, List.append_nil] at hr
  obtain ⟨a, c, rfl⟩ := hr.rd.len
  exact ⟨a, _, c, he, hr, ((Below.refl _ w).alloc (Nat.le_refl _) _).drew.trans (hb.mono (by simp))⟩
theorem concat3 (w : World) (b : Nat) (hb : b = w.heap.size) (N : Nat) (hN : N ≤ w.heap.size) (v1 v2 v3 : Value) (l1 l2 l3 : List Int) (h1 : RdN N w v1 l1) (h2 : RdN N w v2 l2) (h3 : RdN N w v3 l3) (hm : l1.length + l2.length + l3.length ≤ 1000) :
    Calls Try.prog 43 #[.slice (some ⟨b, 0, none⟩) 3 3] (w.alloc (.cells #[v1, v2, v3] 23)).drew fun e w' => ∃ a n c, e = .returned (.slice a n c) ∧ Hid (RdN N w' (.slice a n c) (l1 ++ (l2 ++ l3))) ∧ Below w.heap.size w w' := by
  subst hb
  refine (concat _ [v1, v2, v3] [l1, l2, l3] _ N (by simp; omega) (Rd.drew (Rd.new (by simp) rfl)) ⟨(h1.later _).drew, (h2.later _).drew, (h3.later _).drew, trivial⟩ (by simp; omega) (by simp)).mono ?_
  rintro e w' ⟨v', he, hr, hb⟩
  simp only [List.flatten_cons, List.flatten_nil, List.append_nil] at hr
  obtain ⟨a, c, rfl⟩ := hr.rd.len
  exact ⟨a, _, c, he, hr, ((Below.refl _ w).alloc (Nat.le_refl _) _).drew.trans (hb.mono (by simp))⟩

set_option maxHeartbeats 1000000 in
theorem bothA (bt bx : Nat) (s e ask : Int) (t hv tv : Value) (hd tl : List Int) (w : World) (B N : Nat) (T : GT) (hT : Tab B N w t T) (hbt : w.cell? ⟨bt, 0, none⟩ = some t) (hx : w.cell? ⟨bx, 3, none⟩ = some (.int .i64 ask)) (h1 : RdN N w hv hd) (h2 : RdN N w tv tl)
    (hb1 : N ≤ bt) (hb2 : N ≤ bx) (h : 0 ≤ s ∧ s < 14 ∧ 0 ≤ e ∧ e < 33) (hm : hd.length + tl.length ≤ 100) :
    Calls Try.prog 42 #[.int .i64 s, .int .i64 e, hv, tv, .pointer (some ⟨bt, 0, none⟩), .pointer (some ⟨bx, 0, none⟩)] w fun x w' => x = .returned (.tuple #[]) ∧ Tab B N w' t (layT (layT T s e (-1) (hd ++ tl)) s (e + 1) (-1) (hd ++ ask :: tl)) ∧ Kp B N w w' := by
  obtain ⟨g, cap, r, rfl, _⟩ := hT.ex
  obtain ⟨ha, hc, rfl⟩ := h1.rd.len
  obtain ⟨ta, tc, rfl⟩ := h2.rd.len
  have HT := Lib.hid hT
  have H1 := Lib.hid h1
  have H2 := Lib.hid h2
  have hN := hT.size
  clear hT h1 h2
  go_enter Try.func42, Try.ntmps42
  go_upto_region 0 with fail
  go_cut [] (fun wx => Hid (Tab B N wx (.slice (some ⟨g, 0, none⟩) 14 cap) (layT T s e (-1) (hd ++ tl)) ∧ Kp B N w wx))
  case first =>
    have lt1 := World.block_lt_of_cell? w _ hbt
    simp only at lt1
    have ne1 := World.new_ne w _ hbt
    have ne2 : ¬ bt = w.heap.size := by omega
    go_region_held3 (fun w' => w'.cell? ⟨bt, 0, none⟩ = some (.slice (some ⟨g, 0, none⟩) 14 cap)) (first | assumption | go_keep) (first
      | (go_at_call 43; refine (concat2 w N hN _ _ _ _ H1.out H2.out (by omega)).mono ?_; rintro x w2 ⟨a2, n2, c2, rfl, r2, k2⟩; have q2 := cell_on hbt k2)
      | (go_at_call 39; refine (lay s e (-1) (hd ++ tl) _ _ w2 B N T ⟨h.1, h.2.1, h.2.2.1, by omega⟩ (HT.out.below k2) r2.out).mono ?_; rintro x w3 ⟨rfl, t3, k3⟩; have fin : Hid (Tab B N w3 (.slice (some ⟨g, 0, none⟩) 14 cap) (layT T s e (-1) (hd ++ tl)) ∧ Kp B N w w3) := ⟨t3, (Fr.of_below k2 _).trans k3⟩; have q3 := Now.cell fin hbt hb1; clear t3 k3))
    all_goals
      go_wp2_with fail
      go_meet
      exact fin
  case rest =>
    have q1 := Now.cell hcut hbt hb1
    have q2 := Now.cell hcut hx hb2
    clear hbt hx
    have lt1 := World.block_lt_of_cell? wc _ q1
    have lt2 := World.block_lt_of_cell? wc _ q2
    simp only at lt1 lt2
    have ne1 := World.new_ne wc _ q1
    have ne2 := World.new_ne wc _ q2
    have ne3 : ¬ bt = wc.heap.size + 1 := by omega
    have ne4 : ¬ bx = wc.heap.size + 1 := by omega
    go_upto_region 1 with fail
    have hN := hcut.out.1.size
    have hN2 : N ≤ (wc.alloc (.cells #[.int .i64 ask] 3)).heap.size := by simp; omega
    have hsz : wc.heap.size + 1 = (wc.alloc (.cells #[.int .i64 ask] 3)).heap.size := by simp
    have hl3 : hd.length + [ask].length + tl.length ≤ 1000 := by simp; omega
    have hse : 0 ≤ s ∧ s < 14 ∧ 0 ≤ e + 1 ∧ e + 1 < 34 := by omega
    have hwz : wc.heap.size ≤ (wc.alloc (.cells #[.int .i64 ask] 3)).heap.size := by simp
    have HN2 := Lib.hid hN2
    have Hsz := Lib.hid hsz
    have Hl3 := Lib.hid hl3
    have Hse := Lib.hid hse
    have Hwz := Lib.hid hwz
    clear hN2 hsz hl3 hse hwz h
    have e1 : IntKind.i64.wrap (e + 1) = e + 1 := IntWalk.i64_in _ (by have := Hse.out; omega)
    go_region_held3 (fun w' => w'.cell? ⟨bt, 0, none⟩ = some (.slice (some ⟨g, 0, none⟩) 14 cap) ∧ w'.cell? ⟨bx, 3, none⟩ = some (.int .i64 ask)) (first | exact ⟨by assumption, by assumption⟩ | go_keep) (first
      | (go_at_call 41; refine (some_ _ _).mono ?_; rintro x w1 ⟨rfl, rfl⟩)
      | (go_at_call 43; refine (concat3 (wc.alloc (.cells #[.int .i64 ask] 3)) (wc.heap.size + 1) Hsz.out N HN2.out _ _ _ _ [ask] _ ((H1.out.fr hcut.out.2 (Nat.le_refl _)).later _) (RdN.new rfl hN rfl rfl) ((H2.out.fr hcut.out.2 (Nat.le_refl _)).later _) Hl3.out).mono ?_; rintro x w2 ⟨a2, n2, c2, rfl, r2, k2⟩; have k2' := ((Below.refl _ wc).alloc (Nat.le_refl _) (.cells #[.int .i64 ask] 3)).trans (k2.mono Hwz.out); have q3 := cell_on q1 k2'; have q4 := cell_on q2 k2')
      | (go_at_call 39; refine (lay s (e + 1) (-1) (hd ++ ask :: tl) _ _ w2 B N _ Hse.out (hcut.out.1.below k2') r2.out).mono ?_; rintro x w3 ⟨rfl, t3, k3⟩; have fin : Hid (Tab B N w3 (.slice (some ⟨g, 0, none⟩) 14 cap) (layT (layT T s e (-1) (hd ++ tl)) s (e + 1) (-1) (hd ++ ask :: tl)) ∧ Kp B N w w3) := ⟨t3, (hcut.out.2.trans (Fr.of_below k2' _)).trans k3⟩; have q5 := Kp.cell k3 q3 hb1; have q6 := Kp.cell k3 q4 hb2; clear t3 k3))
    all_goals
      go_wp2_with fail
      go_end0
      exact ⟨rfl, fin.out⟩

set_option maxHeartbeats 2000000 in
theorem bothI (bt : Nat) (s e n said ask : Int) (t hv tv : Value) (hd tl : List Int) (w : World) (B N : Nat) (T : GT) (hT : Tab B N w t T) (hbt : w.cell? ⟨bt, 0, none⟩ = some t) (h1 : RdN N w hv hd) (h2 : RdN N w tv tl)
    (hb1 : N ≤ bt) (h : 0 ≤ s ∧ s < 14 ∧ 0 ≤ e ∧ e < 33) (hm : hd.length + tl.length ≤ 100) :
    Calls Try.prog 44 #[.int .i64 s, .int .i64 e, .int .i64 n, .int .i64 said, .int .i64 ask, hv, tv, .pointer (some ⟨bt, 0, none⟩)] w fun x w' => x = .returned (.tuple #[]) ∧ Tab B N w' t (layT (layT T s e n (hd ++ said :: tl)) s (e + 1) n (hd ++ ask :: tl)) ∧ Kp B N w w' := by
  obtain ⟨g, cap, r, rfl, _⟩ := hT.ex
  obtain ⟨ha, hc, rfl⟩ := h1.rd.len
  obtain ⟨ta, tc, rfl⟩ := h2.rd.len
  have H1 := Lib.hid h1
  have H2 := Lib.hid h2
  have hN := hT.size
  have Hs0 : Hid (0 ≤ s ∧ s < 14 ∧ 0 ≤ e ∧ e < 34) := ⟨h.1, h.2.1, h.2.2.1, by omega⟩
  have Hse : Hid (0 ≤ s ∧ s < 14 ∧ 0 ≤ e + 1 ∧ e + 1 < 34) := ⟨h.1, h.2.1, by omega, by omega⟩
  have Hl3 : Hid (hd.length + 1 + tl.length ≤ 1000) := by unfold Hid; omega
  have E1 : Hid (IntKind.i64.wrap (e + 1) = e + 1) := IntWalk.i64_in _ (by omega)
  have G0 : Hid (Tab B N w (.slice (some ⟨g, 0, none⟩) 14 cap) T ∧ Kp B N w w) := ⟨hT, Fr.refl _ _⟩
  clear hT h1 h2 h hm
  go_enter Try.func44, Try.ntmps44
  go_upto_region 0 with fail
  go_cut [] (fun wx => Hid (Tab B N wx (.slice (some ⟨g, 0, none⟩) 14 cap) (layT T s e n (hd ++ said :: tl)) ∧ Kp B N w wx))
  case first =>
    have q1 := hbt
    have G1 := H1
    have G2 := H2
    have lt1 := World.block_lt_of_cell? w _ q1
    simp only at lt1
    have ne1 := World.new_ne w _ q1
    have ne3 : ¬ bt = w.heap.size + 1 := by omega
    have HN := Lib.hid hN
    have Hsz : Hid (w.heap.size + 1 = (w.alloc (.cells #[.int .i64 said] 3)).heap.size) := by unfold Hid; simp
    have Hwz : Hid (w.heap.size ≤ (w.alloc (.cells #[.int .i64 said] 3)).heap.size) := by unfold Hid; simp
    have HN2 : Hid (N ≤ (w.alloc (.cells #[.int .i64 said] 3)).heap.size) := Nat.le_trans hN Hwz.out
    clear hN lt1
    go_region_held3 (fun w' => w'.cell? ⟨bt, 0, none⟩ = some (.slice (some ⟨g, 0, none⟩) 14 cap)) (first | assumption | go_keep) (first
      | (go_at_call 41; refine (some_ _ _).mono ?_; rintro x w1 ⟨rfl, rfl⟩)
      | (go_at_call 43; refine (concat3 (w.alloc (.cells #[.int .i64 said] 3)) (w.heap.size + 1) Hsz.out N HN2.out _ _ _ _ [said] _ (G1.out.later _) (RdN.new rfl HN.out rfl rfl) (G2.out.later _) Hl3.out).mono ?_; rintro x w2 ⟨a2, n2, c2, rfl, r2, k2⟩; have k2' := ((Below.refl _ w).alloc (Nat.le_refl _) (.cells #[.int .i64 said] 3)).trans (k2.mono Hwz.out); have q3 := cell_on q1 k2')
      | (go_at_call 39; refine (lay s e n (hd ++ said :: tl) _ _ w2 B N _ Hs0.out (G0.out.1.below k2') r2.out).mono ?_; rintro x w3 ⟨rfl, t3, k3⟩; have fin : Hid (Tab B N w3 (.slice (some ⟨g, 0, none⟩) 14 cap) (layT T s e n (hd ++ said :: tl)) ∧ Kp B N w w3) := ⟨t3, (G0.out.2.trans (Fr.of_below k2' _)).trans k3⟩; have q5 := Kp.cell k3 q3 hb1; clear t3 k3))
    all_goals
      go_wp2_with fail
      go_meet
      exact fin
  case rest =>
    have q1 := Now.cell hcut hbt hb1
    have G1 := Lib.hid (H1.out.fr hcut.out.2 (Nat.le_refl _))
    have G2 := Lib.hid (H2.out.fr hcut.out.2 (Nat.le_refl _))
    clear hbt H1 H2 G0 hN
    have G0 := hcut
    have hN := hcut.out.1.size
    have lt1 := World.block_lt_of_cell? wc _ q1
    simp only at lt1
    have ne1 := World.new_ne wc _ q1
    have ne3 : ¬ bt = wc.heap.size + 1 := by omega
    have HN := Lib.hid hN
    have Hsz : Hid (wc.heap.size + 1 = (wc.alloc (.cells #[.int .i64 ask] 3)).heap.size) := by unfold Hid; simp
    have Hwz : Hid (wc.heap.size ≤ (wc.alloc (.cells #[.int .i64 ask] 3)).heap.size) := by unfold Hid; simp
    have HN2 : Hid (N ≤ (wc.alloc (.cells #[.int .i64 ask] 3)).heap.size) := Nat.le_trans hN Hwz.out
    clear hN lt1
    have e1 := E1.out
    go_upto_region 1 with fail
    go_region_held3 (fun w' => w'.cell? ⟨bt, 0, none⟩ = some (.slice (some ⟨g, 0, none⟩) 14 cap)) (first | assumption | go_keep) (first
      | (go_at_call 41; refine (some_ _ _).mono ?_; rintro x w1 ⟨rfl, rfl⟩)
      | (go_at_call 43; refine (concat3 (wc.alloc (.cells #[.int .i64 ask] 3)) (wc.heap.size + 1) Hsz.out N HN2.out _ _ _ _ [ask] _ (G1.out.later _) (RdN.new rfl HN.out rfl rfl) (G2.out.later _) Hl3.out).mono ?_; rintro x w2 ⟨a2, n2, c2, rfl, r2, k2⟩; have k2' := ((Below.refl _ wc).alloc (Nat.le_refl _) (.cells #[.int .i64 ask] 3)).trans (k2.mono Hwz.out); have q3 := cell_on q1 k2')
      | (go_at_call 39; refine (lay s (e + 1) n (hd ++ ask :: tl) _ _ w2 B N _ Hse.out (G0.out.1.below k2') r2.out).mono ?_; rintro x w3 ⟨rfl, t3, k3⟩; have fin : Hid (Tab B N w3 (.slice (some ⟨g, 0, none⟩) 14 cap) (layT (layT T s e n (hd ++ said :: tl)) s (e + 1) n (hd ++ ask :: tl)) ∧ Kp B N w w3) := ⟨t3, (G0.out.2.trans (Fr.of_below k2' _)).trans k3⟩; have q5 := Kp.cell k3 q3 hb1; clear t3 k3))
    all_goals
      go_wp2_with fail
      go_end0
      exact ⟨rfl, fin.out⟩
end Go.Proofs.Ytnafppdnapdbcaa
