/-
  Package grid: the table in memory; lay, each, some, slices.Clone, slices.Grow, slices.Concat.
-/
import Derived.Test.YtnafppdnapdbcaaSub
import Derived.Test.YtnafppdnapdbcaaRows
import Derived.Lib.AppendZerosOnto
namespace Go.Proofs.Ytnafppdnapdbcaa
open Go.RowKit


abbrev enI (z : Int) : List Value := [.int .i64 z]
theorem enI_len (z : Int) : (enI z).length = 1 := rfl
theorem enI_ones (l : List Int) : ∀ u ∈ l.flatMap enI, u.oneCell' = true := fun u hu => by
  obtain ⟨x, _, hx⟩ := List.mem_flatMap.1 hu
  simp [enI] at hx; subst hx; rfl
theorem infoI : (Try.prog.info? 3).map (fun i => (i.zero, i.size, i.bytes)) = some (some (.int .i64 0), 1, 8) := by kernel_rfl

/-- A row of ints that lies in a block from N on. -/
structure RdN (N : Nat) (w : World) (v : Value) (l : List Int) : Prop where
  rd : Rd w 1 v l.length (l.flatMap enI)
  ge : ∀ g, v.ownBlock = some g → N ≤ g
/-- Only blocks from B on and below N may turn. -/
abbrev Kp (B N : Nat) (w w' : World) : Prop := Fr (fun k => B ≤ k ∧ k < N) w w'

theorem RdN.fr {B N M : Nat} {w w' : World} {v : Value} {l : List Int} (h : RdN N w v l) (hf : Kp B M w w') (hm : M ≤ N) : RdN N w' v l :=
  ⟨h.rd.fr hf (fun g hg e => by have := h.ge g hg; omega), h.ge⟩
theorem RdN.below {N : Nat} {w w' : World} {v : Value} {l : List Int} (h : RdN N w v l) (hb : Below w.heap.size w w') : RdN N w' v l :=
  ⟨h.rd.fr (Fr.of_below hb no) (fun _ _ e => e), h.ge⟩
theorem RdN.mono {N M : Nat} {w : World} {v : Value} {l : List Int} (h : RdN N w v l) (hm : M ≤ N) : RdN M w v l := ⟨h.rd, fun g hg => Nat.le_trans hm (h.ge g hg)⟩
theorem RdN.nil (N : Nat) (w : World) : RdN N w (.slice none 0 0) [] := ⟨⟨rfl, none, 0, rfl, fun _ => ⟨rfl, rfl⟩, fun _ e => by cases e⟩, fun g hg => by simp [Value.ownBlock] at hg⟩
theorem RdN.new {N : Nat} {w : World} {cs : Array Value} {l : List Int} {c n b t : Nat} (hb : b = w.heap.size) (hN : N ≤ w.heap.size) (hl : n = l.length) (hc : cs.toList = l.flatMap enI) : RdN N (w.alloc (.cells cs t)) (.slice (some ⟨b, 0, none⟩) n c) l := by
  subst hb hl
  have h := Rd.new (w := w) (cs := cs) (t := t) (k := 1) (n := l.length) (c := c) rfl (by rw [← Array.length_toList, hc, flat_len enI 1 enI_len])
  rw [hc] at h
  exact ⟨h, fun g hg => by simp [Value.ownBlock] at hg; omega⟩
theorem RdN.of_own {B N : Nat} {w : World} {v : Value} {l : List Int} (h : Own enI 3 1 B w v l) (hN : N ≤ B) : RdN N w v l := ⟨h.rd, fun g hg => Nat.le_trans hN (h.lt g hg).1⟩
theorem RdN.at {N : Nat} {w : World} {b o n c : Nat} {l : List Int} (h : RdN N w (.slice (some ⟨b, o, none⟩) n c) l) {i : Nat} (hi : i < l.length) : w.cell? ⟨b, o + i, none⟩ = some (.int .i64 l[i]) := by
  obtain ⟨b', o', c', hv, _, hx⟩ := Rd.some h.rd (by omega) (by decide)
  simp at hv
  obtain ⟨⟨rfl, rfl⟩, _, _⟩ := hv
  have := Rd.el enI_len hx hi (j := 0) (by decide) rfl
  simpa using this

/-! ### The table -/

abbrev GT := Int → Int → List Int × Int × Bool
def layT (T : GT) (s e n : Int) (d : List Int) : GT := fun s' e' => if s' = s ∧ e' = e then (d, if n = -1 then s else n, true) else T s' e'

/-- A cell that may be written. -/
def CF (w : World) (b o : Nat) (v : Value) : Prop := w.cell? ⟨b, o, none⟩ = some v ∧ w.frozen? ⟨b, o, none⟩ = false
theorem CF.below {w w' : World} {b o : Nat} {v : Value} (h : CF w b o v) (hb : Below w.heap.size w w') : CF w' b o v := by
  have hlt := World.block_lt_of_cell? w _ h.1
  exact ⟨(hb.cell hlt).trans h.1, (hb.frozen hlt).trans h.2⟩
theorem CF.set_ne {w : World} {b o b' o' : Nat} {v u : Value} (h : CF w b o v) (hn : b' ≠ b ∨ o' ≠ o) : CF (w.setCell ⟨b', o', none⟩ u) b o v := by
  refine ⟨?_, ?_⟩
  · rw [World.cell?_setCell_other _ _ _ _ (by intro e; simp at e; omega)]; exact h.1
  · have := h.2; simpa using this
theorem CF.set_eq {w : World} {b o : Nat} {v : Value} (h : CF w b o v) (u : Value) : CF (w.setCell ⟨b, o, none⟩ u) b o u := by
  refine ⟨World.cell?_setCell_same _ _ _ h.1, ?_⟩
  have := h.2; simpa using this

/-- A row's cells. -/
structure RowAt (N : Nat) (w : World) (b e : Nat) (x : List Int × Int × Bool) : Prop where
  ex : ∃ v, RdN N w v x.1 ∧ CF w b (e * 3) v ∧ CF w b (e * 3 + 1) (.int .i64 x.2.1) ∧ CF w b (e * 3 + 2) (.bool x.2.2)

structure Tab (B N : Nat) (w : World) (t : Value) (T : GT) : Prop where
  le : B ≤ N
  size : N ≤ w.heap.size
  ex : ∃ (g cap : Nat) (r : Nat → Nat), t = .slice (some ⟨g, 0, none⟩) 14 cap ∧ 14 ≤ cap ∧ cap ≤ maxLen ∧ (∀ s, s < 14 → w.cell? ⟨g, s, none⟩ = some (.slice (some ⟨r s, 0, none⟩) 34 34) ∧ r s ≠ g ∧ B ≤ r s ∧ r s < N) ∧
    (∀ s s', s < 14 → s' < 14 → r s = r s' → s = s') ∧ (∀ s e : Nat, s < 14 → e < 34 → RowAt N w (r s) e (T s e))

theorem RowAt.below {N : Nat} {w w' : World} {b e : Nat} {x : List Int × Int × Bool} (h : RowAt N w b e x) (hb : Below w.heap.size w w') : RowAt N w' b e x := by
  obtain ⟨v, h1, h2, h3, h4⟩ := h.ex
  exact ⟨v, h1.below hb, h2.below hb, h3.below hb, h4.below hb⟩
theorem Tab.below {B N : Nat} {w w' : World} {t : Value} {T : GT} (h : Tab B N w t T) (hb : Below w.heap.size w w') : Tab B N w' t T := by
  obtain ⟨g, cap, r, rfl, h1, h2, h3, h4, h5⟩ := h.ex
  refine ⟨h.le, Nat.le_trans h.size hb.size, g, cap, r, rfl, h1, h2, fun s hs => ?_, h4, fun s e hs he => (h5 s e hs he).below hb⟩
  obtain ⟨a, b⟩ := h3 s hs
  exact ⟨(hb.cell (World.block_lt_of_cell? w _ a)).trans a, b⟩

theorem RdN.set {N : Nat} {w : World} {v : Value} {l : List Int} (h : RdN N w v l) {b o : Nat} (hb : b < N) (u : Value) : RdN N (w.setCell ⟨b, o, none⟩ u) v l :=
  h.fr (B := b) (M := b + 1) (Fr.setCell (Fr.refl _ w) (fun _ => by simp) u) (by omega)

/-- What a store of a row does. -/
theorem Tab.laid {B N : Nat} {w : World} {T : GT} {g cap : Nat} {r : Nat → Nat} (le : B ≤ N) (size : N ≤ w.heap.size) (h1 : 14 ≤ cap) (h2 : cap ≤ maxLen) (h3 : ∀ s, s < 14 → w.cell? ⟨g, s, none⟩ = some (.slice (some ⟨r s, 0, none⟩) 34 34) ∧ r s ≠ g ∧ B ≤ r s ∧ r s < N)
    (h4 : ∀ s s', s < 14 → s' < 14 → r s = r s' → s = s') (h5 : ∀ s e : Nat, s < 14 → e < 34 → RowAt N w (r s) e (T s e)) {s e : Nat} (hs : s < 14) (he : e < 34) {n : Int} {d : List Int} {v : Value} (hd : RdN N w v d) :
    Tab B N (((w.setCell ⟨r s, e * 3, none⟩ v).setCell ⟨r s, e * 3 + 1, none⟩ (.int .i64 (if n = -1 then (s : Int) else n))).setCell ⟨r s, e * 3 + 2, none⟩ (.bool true)) (.slice (some ⟨g, 0, none⟩) 14 cap) (layT T s e n d) := by
  have hr := h3 s hs
  refine ⟨le, by simpa using size, g, cap, r, rfl, h1, h2, fun s' hs' => ?_, h4, fun s' e' hs' he' => ?_⟩
  · have := h3 s' hs'
    have hx : ∀ o, (⟨r s, o, none⟩ : Addr) ≠ ⟨g, s', none⟩ := fun o e => by injection e with e1 e2; exact hr.2.1 e1
    refine ⟨?_, this.2⟩
    rw [World.cell?_setCell_other _ _ _ _ (hx _), World.cell?_setCell_other _ _ _ _ (hx _), World.cell?_setCell_other _ _ _ _ (hx _)]
    exact this.1
  · obtain ⟨u, k1, k2, k3, k4⟩ := (h5 s' e' hs' he').ex
    by_cases hh : s' = s ∧ e' = e
    · obtain ⟨rfl, rfl⟩ := hh
      have : layT T s' e' n d s' e' = (d, if n = -1 then (s' : Int) else n, true) := by simp [layT]
      rw [this]
      exact ⟨v, ((hd.set hr.2.2.2 _).set hr.2.2.2 _).set hr.2.2.2 _, ((k2.set_eq v).set_ne (by omega)).set_ne (by omega), ((k3.set_ne (by omega)).set_eq _).set_ne (by omega), ((k4.set_ne (by omega)).set_ne (by omega)).set_eq _⟩
    · have : layT T s e n d s' e' = T s' e' := by simp only [layT]; rw [if_neg]; omega
      rw [this]
      have hne : r s ≠ r s' ∨ e ≠ e' := by
        by_cases h : s = s'
        · right; omega
        · left; exact fun e => h (h4 s s' hs hs' e)
      exact ⟨u, ((k1.set hr.2.2.2 _).set hr.2.2.2 _).set hr.2.2.2 _, ((k2.set_ne (by omega)).set_ne (by omega)).set_ne (by omega), ((k3.set_ne (by omega)).set_ne (by omega)).set_ne (by omega), ((k4.set_ne (by omega)).set_ne (by omega)).set_ne (by omega)⟩

set_option maxHeartbeats 1000000 in
theorem lay_nat (s e : Nat) (n : Int) (d : List Int) (dv t : Value) (w : World) (B N : Nat) (T : GT) (hs : s < 14) (he : e < 34) (hT : Tab B N w t T) (hd : RdN N w dv d) :
    Calls Try.prog 39 #[t, .int .i64 s, .int .i64 e, .int .i64 n, dv] w fun x w' => x = .returned (.tuple #[]) ∧ Tab B N w' t (layT T s e n d) ∧ Kp B N w w' := by
  obtain ⟨g, cap, r, rfl, h1, h2, h3, h4, h5⟩ := hT.ex
  obtain ⟨aa, ac, rfl⟩ := hd.rd.len
  have h2' : cap ≤ 9223372036854775807 := by unfold maxLen at h2; omega
  obtain ⟨c1, c2, c3, c4⟩ := h3 s hs
  obtain ⟨v, k1, k2, k3, k4⟩ := (h5 s e hs he).ex
  have F := Lib.hid (Tab.laid hT.le hT.size h1 h2 h3 h4 h5 hs he (n := n) hd)
  obtain ⟨f1, f1'⟩ := k2
  obtain ⟨f2, f2'⟩ := k3
  obtain ⟨f3, f3'⟩ := k4
  have K := Lib.hid (fun x y z : Value => ((((Fr.refl (fun k => B ≤ k ∧ k < N) w).setCell (p := ⟨r s, e * 3, none⟩) (fun _ => ⟨c3, c4⟩) x).setCell (p := ⟨r s, e * 3 + 1, none⟩) (fun _ => ⟨c3, c4⟩) y).setCell (p := ⟨r s, e * 3 + 2, none⟩) (fun _ => ⟨c3, c4⟩) z))
  clear h3 h4 h5 hT hd k1
  cases hn : (n == -1) with
  | true =>
    have hn' : n = -1 := by simpa using hn
    have F' := F.out
    rw [if_pos hn'] at F'
    have F'' := Lib.hid F'
    clear F F'
    have Hn := Lib.hid hn'
    clear hn'
    go_enter Try.func39, Try.ntmps39
    go_wp2_with fail
    go_end0
    exact ⟨rfl, F''.out, K.out _ _ _⟩
  | false =>
    have hn' : ¬ n = -1 := by simpa using hn
    have F' := F.out
    rw [if_neg hn'] at F'
    have F'' := Lib.hid F'
    clear F F' hn'
    go_enter Try.func39, Try.ntmps39
    go_wp2_with fail
    go_end0
    exact ⟨rfl, F''.out, K.out _ _ _⟩

theorem lay (s e n : Int) (d : List Int) (dv t : Value) (w : World) (B N : Nat) (T : GT) (h : 0 ≤ s ∧ s < 14 ∧ 0 ≤ e ∧ e < 34) (hT : Tab B N w t T) (hd : RdN N w dv d) :
    Calls Try.prog 39 #[t, .int .i64 s, .int .i64 e, .int .i64 n, dv] w fun x w' => x = .returned (.tuple #[]) ∧ Tab B N w' t (layT T s e n d) ∧ Kp B N w w' := by
  obtain ⟨s, rfl⟩ : ∃ m : Nat, s = m := ⟨s.toNat, by omega⟩
  obtain ⟨e, rfl⟩ : ∃ m : Nat, e = m := ⟨e.toNat, by omega⟩
  exact lay_nat s e n d dv t w B N T (by omega) (by omega) hT hd

theorem some_ (v : Value) (w : World) : Calls Try.prog 41 #[v] w fun e w' => e = .returned v ∧ w' = w := by
  go_enter Try.func41, Try.ntmps41
  go_wp2_with fail
  go_ret
  exact ⟨rfl, rfl⟩
end Go.Proofs.Ytnafppdnapdbcaa
