/-
  Package lan: a whole line in memory: each row of it, and the blocks that it holds.
-/
import Derived.Test.YteihpaikdpdglaaGlA
import Derived.Test.YteihpaikdpdglaaKep
namespace Go.Proofs.Yteihpaikdpdglaa
open Go.RowKit
set_option linter.unusedVariables false


/-- Frames on their way: bytes and age. -/
abbrev FlA := List (List Int × Int)
/-- A queue in memory with its frames' bytes; F: its blocks. -/
structure QX (w : World) (F : Nat → Prop) (c : Nat) (most : Int) (l : FlA) : Prop where
  ex : ∃ sv fl, IsF w c most sv fl ∧ All2 (FlB w) fl l ∧ Dj (fl.map Fl.v) ∧ (∀ g, sv.ownBlock = some g → F g) ∧ (∀ u ∈ fl.map Fl.v, ∀ g, u.ownBlock = some g → F g)
  c : F c
  lt : ∀ b, F b → b < w.heap.size
section
variable {w w' : World} {F : Nat → Prop} {c : Nat} {most : Int} {l : FlA}
theorem all2_mem {R R' : Fl → (List Int × Int) → Prop} : ∀ {fl : List Fl} {l : FlA}, All2 R fl l → (∀ f p, f ∈ fl → R f p → R' f p) → All2 R' fl l
  | [], [], _, _ => trivial
  | f :: fl, p :: l, h, hi => ⟨hi f p (List.mem_cons_self ..) h.1, all2_mem h.2 (fun f p hf => hi f p (List.mem_cons_of_mem _ hf))⟩
  | [], _ :: _, h, _ => h.elim
  | _ :: _, [], h, _ => h.elim
theorem QX.keep (h : QX w F c most l) (hs : w.heap.size ≤ w'.heap.size) (hk : ∀ b, F b → w'.heap[b]? = w.heap[b]?) : QX w' F c most l := by
  obtain ⟨sv, fl, h1, h2, h3, h4, h5⟩ := h.ex
  exact ⟨⟨sv, fl, h1.keep (hk c h.c) (fun g hg => hk g (h4 g hg)), all2_mem h2 (fun f p hf e => ⟨e.1.keep (fun g hg => hk g (h5 _ (List.mem_map.2 ⟨f, hf, rfl⟩) g hg)), e.2⟩), h3, h4, h5⟩, h.c, fun b hb => Nat.lt_of_lt_of_le (h.lt b hb) hs⟩
theorem QX.below (h : QX w F c most l) (hb : Below w.heap.size w w') : QX w' F c most l := h.keep hb.size (fun b hF => hb.block b (h.lt b hF))
theorem QX.wide {F' : Nat → Prop} (h : QX w F c most l) (hF : ∀ b, F b → F' b) (hl : ∀ b, F' b → b < w.heap.size) : QX w F' c most l := by
  obtain ⟨sv, fl, h1, h2, h3, h4, h5⟩ := h.ex
  exact ⟨⟨sv, fl, h1, h2, h3, fun g hg => hF g (h4 g hg), fun u hu g hg => hF g (h5 u hu g hg)⟩, hF _ h.c, hl⟩
theorem QX.len (h : QX w F c most l) : (l.length : Int) ≤ most ∧ l.length ≤ 10000 := by
  obtain ⟨sv, fl, h1, h2, h3⟩ := h.ex
  rw [← forall_len h2]
  exact ⟨h1.le, h1.len⟩
theorem QX.mm (h : QX w F c most l) : 0 ≤ most ∧ most ≤ 10000 := by
  obtain ⟨sv, fl, h1, h2, h3⟩ := h.ex
  exact h1.m0
end

/-- A frame that may be: bytes, few, not too old. -/
structure OkFr (life : Int) (p : List Int × Int) : Prop where
  len : p.1.length ≤ 1000
  byte : ∀ x ∈ p.1, 0 ≤ x ∧ x ≤ 255
  age : 0 ≤ p.2 ∧ p.2 ≤ life
/-- A whole line: st stations, the rows qs; t, rv, ps: where it lies; Fs: each row's blocks; F: all. -/
structure LGi (w : World) (F : Nat → Prop) (t st : Nat) (life lost most : Int) (qs : List FlA) (rv : Value) (ps : List Nat) (Fs : Nat → Nat → Prop) : Prop where
  blk : w.heap[t]? = some (.cells #[.int .i64 st, .int .i64 life, .int .i64 lost, rv] 69 (0, 0))
  rows : Own enP 70 1 0 w rv ps
  sts : 1 ≤ st ∧ st ≤ 16
  len : ps.length = st * st
  qlen : qs.length = st * st
  m : 0 ≤ most ∧ most ≤ 10000
  lf : 1 ≤ life ∧ life ≤ 10000
  ok : ∀ l ∈ qs, ∀ p ∈ l, OkFr life p
  q : ∀ i (h : i < ps.length) (h' : i < qs.length), QX w (Fs i) ps[i] most qs[i]
  dj : ∀ i j b, Fs i b → Fs j b → i = j
  sub : ∀ i b, Fs i b → F b
  ft : F t
  frv : ∀ g, rv.ownBlock = some g → F g
  nt : ∀ i, ¬ Fs i t
  nrv : ∀ i g, rv.ownBlock = some g → ¬ Fs i g
  lt : ∀ b, F b → b < w.heap.size
def LG (w : World) (F : Nat → Prop) (t st : Nat) (life lost most : Int) (qs : List FlA) : Prop := ∃ rv ps Fs, LGi w F t st life lost most qs rv ps Fs
section
variable {w w' : World} {F : Nat → Prop} {t st : Nat} {life lost most : Int} {qs : List FlA} {rv : Value} {ps : List Nat} {Fs : Nat → Nat → Prop}
theorem LGi.keep (h : LGi w F t st life lost most qs rv ps Fs) (hs : w.heap.size ≤ w'.heap.size) (hk : ∀ b, F b → w'.heap[b]? = w.heap[b]?) : LGi w' F t st life lost most qs rv ps Fs :=
  ⟨(hk t h.ft).trans h.blk, h.rows.keep (fun g hg => hk g (h.frv g hg)), h.sts, h.len, h.qlen, h.m, h.lf, h.ok, fun i h1 h2 => (h.q i h1 h2).keep hs (fun b hb => hk b (h.sub i b hb)), h.dj, h.sub, h.ft, h.frv, h.nt, h.nrv, fun b hb => Nat.lt_of_lt_of_le (h.lt b hb) hs⟩
theorem LGi.below (h : LGi w F t st life lost most qs rv ps Fs) (hb : Below w.heap.size w w') : LGi w' F t st life lost most qs rv ps Fs := h.keep hb.size (fun b hF => hb.block b (h.lt b hF))
theorem LG.keep (h : LG w F t st life lost most qs) (hs : w.heap.size ≤ w'.heap.size) (hk : ∀ b, F b → w'.heap[b]? = w.heap[b]?) : LG w' F t st life lost most qs := by
  obtain ⟨rv, ps, Fs, h⟩ := h
  exact ⟨rv, ps, Fs, h.keep hs hk⟩
theorem LG.below (h : LG w F t st life lost most qs) (hb : Below w.heap.size w w') : LG w' F t st life lost most qs := by
  obtain ⟨rv, ps, Fs, h⟩ := h
  exact ⟨rv, ps, Fs, h.below hb⟩
theorem LG.lt (h : LG w F t st life lost most qs) : ∀ b, F b → b < w.heap.size := by
  obtain ⟨rv, ps, Fs, h⟩ := h
  exact h.lt
theorem LG.sts (h : LG w F t st life lost most qs) : 1 ≤ st ∧ st ≤ 16 := by
  obtain ⟨rv, ps, Fs, h⟩ := h
  exact h.sts
theorem LG.qlen (h : LG w F t st life lost most qs) : qs.length = st * st := by
  obtain ⟨rv, ps, Fs, h⟩ := h
  exact h.qlen
theorem LG.le (h : LG w F t st life lost most qs) {i : Nat} (hi : i < qs.length) : (qs[i].length : Int) ≤ most ∧ qs[i].length ≤ 10000 := by
  obtain ⟨rv, ps, Fs, h⟩ := h
  exact (h.q i (by rw [h.len, ← h.qlen]; exact hi) hi).len
/-- One row has turned. -/
theorem LGi.turn {i : Nat} {l' : FlA} {Fi' : Nat → Prop} (h : LGi w F t st life lost most qs rv ps Fs) (hi : i < ps.length) (s : Stp (Fs i) Fi' w w') (q : QX w' Fi' ps[i] most l') (hok : ∀ p ∈ l', OkFr life p) :
    ∃ F' Fs', LGi w' F' t st life lost most (qs.set i l') rv ps Fs' ∧ Stp F F' w w' ∧ (∀ b, F b → F' b) := by
  have hsz := s.fr.size
  refine ⟨fun b => F b ∨ Fi' b, fun j => if j = i then Fi' else Fs j, ⟨s.fr.heap h.blk (h.nt i), h.rows.fr s.fr (fun g hg e => h.nrv i g hg e), h.sts, h.len, by rw [List.length_set]; exact h.qlen, h.m, h.lf, fun l hl p hp => ?_, fun j h1 h2 => ?_, fun j k b => ?_, fun j b => ?_, .inl h.ft, fun g hg => .inl (h.frv g hg), fun j => ?_, fun j g hg => ?_, fun b hb => ?_⟩, ⟨s.fr.mono (fun _ _ e => h.sub i _ e), fun b hb => ?_⟩, fun b hb => .inl hb⟩
  · rcases List.mem_or_eq_of_mem_set hl with e | e
    · exact h.ok l e p hp
    · rw [e] at hp; exact hok p hp
  · have h2' : j < qs.length := by simpa using h2
    try dsimp only
    by_cases e : j = i
    · subst e
      rw [if_pos rfl, List.getElem_set_self]
      exact q
    · rw [if_neg e, List.getElem_set_ne (by omega)]
      exact (h.q j h1 h2').keep hsz (fun b hb => s.fr.blk b ((h.q j h1 h2').lt b hb) (fun e' => e (h.dj j i b hb e')))
  · try dsimp only
    have hx : ∀ j b, j ≠ i → Fs j b → j < ps.length ∨ True := fun _ _ _ _ => .inr trivial
    by_cases e : j = i
    · by_cases e' : k = i
      · intro _ _; rw [e, e']
      · rw [if_pos e, if_neg e']
        intro h1 h2
        rcases s.new b h1 with h3 | h3
        · exact absurd (h.dj k i b h2 h3) e'
        · have := h.lt b (h.sub k b h2); omega
    · by_cases e' : k = i
      · rw [if_neg e, if_pos e']
        intro h1 h2
        rcases s.new b h2 with h3 | h3
        · exact absurd (h.dj j i b h1 h3) e
        · have := h.lt b (h.sub j b h1); omega
      · rw [if_neg e, if_neg e']
        exact h.dj j k b
  · try dsimp only
    by_cases e : j = i
    · rw [if_pos e]; exact fun h => .inr h
    · rw [if_neg e]; exact fun hb => .inl (h.sub j b hb)
  · try dsimp only
    by_cases e : j = i
    · rw [if_pos e]
      intro e'
      rcases s.new _ e' with h3 | h3
      · exact h.nt i h3
      · have := h.lt t h.ft; omega
    · rw [if_neg e]; exact h.nt j
  · try dsimp only
    by_cases e : j = i
    · rw [if_pos e]
      intro e'
      rcases s.new _ e' with h3 | h3
      · exact h.nrv i g hg h3
      · have := h.lt g (h.frv g hg); omega
    · rw [if_neg e]; exact h.nrv j g hg
  · rcases hb with hb | hb
    · exact Nat.lt_of_lt_of_le (h.lt b hb) hsz
    · exact q.lt b hb
  · rcases hb with hb | hb
    · exact .inl hb
    · exact (s.new b hb).imp (h.sub i b) id
/-- How many were lost is turned. -/
theorem LGi.lose (h : LGi w F t st life lost most qs rv ps Fs) (lost' : Int) : LGi (w.setCell ⟨t, 2, none⟩ (.int .i64 lost')) F t st life lost' most qs rv ps Fs ∧ Stp F F w (w.setCell ⟨t, 2, none⟩ (.int .i64 lost')) := by
  have f : Fr (fun b => b = t) w (w.setCell ⟨t, 2, none⟩ (.int .i64 lost')) := (Fr.refl (fun b => b = t) w).setCell (p := ⟨t, 2, none⟩) (fun _ => rfl) _
  refine ⟨⟨by have := set_heap_same h.blk (i := 2) (.int .i64 lost'); simpa using this, h.rows.fr f (fun g hg (e : g = t) => by subst e; exact own_ne h.rows h.blk (by decide) hg), h.sts, h.len, h.qlen, h.m, h.lf, h.ok, fun i h1 h2 => (h.q i h1 h2).keep f.size (fun b hb => f.blk b ((h.q i h1 h2).lt b hb) (fun (e : b = t) => h.nt i (by rw [← e]; exact hb))), h.dj, h.sub, h.ft, h.frv, h.nt, h.nrv, fun b hb => Nat.lt_of_lt_of_le (h.lt b hb) f.size⟩, ⟨f.mono (fun b _ (e : b = t) => by rw [e]; exact h.ft), fun b hb => .inl hb⟩⟩
end

theorem LG.ok {w : World} {F : Nat → Prop} {t st : Nat} {life lost most : Int} {qs : List FlA} (h : LG w F t st life lost most qs) : (∀ l ∈ qs, ∀ p ∈ l, OkFr life p) ∧ (1 ≤ life ∧ life ≤ 10000) ∧ (0 ≤ most ∧ most ≤ 10000) := by
  obtain ⟨rv, ps, Fs, h⟩ := h
  exact ⟨h.ok, h.lf, h.m⟩
/-- The place of a row. -/
def rix (st : Nat) (a b : Int) : Option Nat := if 0 ≤ a ∧ a < (st : Int) ∧ 0 ≤ b ∧ b < (st : Int) ∧ a ≠ b then some (a.toNat * st + b.toNat) else none
theorem rix_lt {st : Nat} {a b : Int} {k : Nat} (h : rix st a b = some k) : ∃ A B : Nat, a = A ∧ b = B ∧ A < st ∧ B < st ∧ A ≠ B ∧ k = A * st + B ∧ k < st * st := by
  unfold rix at h
  split at h
  · rename_i hh
    obtain ⟨h1, h2, h3, h4, h5⟩ := hh
    obtain ⟨A, rfl⟩ := Int.eq_ofNat_of_zero_le h1
    obtain ⟨B, rfl⟩ := Int.eq_ofNat_of_zero_le h3
    injection h with h
    simp only [Int.toNat_natCast] at h
    refine ⟨A, B, rfl, rfl, by omega, by omega, by omega, h.symm, ?_⟩
    have : (A + 1) * st ≤ st * st := Nat.mul_le_mul_right _ (by omega)
    rw [Nat.add_mul] at this
    omega
  · cases h

theorem i64_wrap_in (x : Int) (h : -9223372036854775808 ≤ x ∧ x ≤ 9223372036854775807) : IntKind.i64.wrap x = x := by
  exact IntWalk.i64_in _ (by omega)
theorem hasG {w : World} {F : Nat → Prop} {t st : Nat} {life lost most : Int} {qs : List FlA} {rv : Value} {ps : List Nat} {Fs : Nat → Nat → Prop} (h : LGi w F t st life lost most qs rv ps Fs) (n : Int) :
    Calls Try.prog 38 #[.pointer (some ⟨t, 0, none⟩), .int .i64 n] w fun e w' => e = .returned (.bool (decide (0 ≤ n) && decide (n < (st : Int)))) ∧ w' = w := by
  have k0 : w.cell? ⟨t, 0, none⟩ = some (.int .i64 st) := blk_cell h.blk 0
  clear h
  obtain ⟨u, hu⟩ : ∃ u : Int, u = (st : Int) := ⟨_, rfl⟩
  rw [← hu] at k0 ⊢
  clear hu
  by_cases h0 : 0 ≤ n
  · have hd0 : decide ((0 : Int) ≤ n) = true := decide_eq_true h0
    by_cases h1 : n < u
    · have hd1 : decide (n < u) = true := decide_eq_true h1
      rw [hd0, hd1]
      go_enter Try.func38, Try.ntmps38
      go_wp2_with fail
      go_ret
      exact ⟨rfl, rfl⟩
    · have hd1 : decide (n < u) = false := decide_eq_false h1
      rw [hd0, hd1]
      go_enter Try.func38, Try.ntmps38
      go_wp2_with fail
      go_ret
      exact ⟨rfl, rfl⟩
  · have hd0 : decide ((0 : Int) ≤ n) = false := decide_eq_false h0
    rw [hd0]
    go_enter Try.func38, Try.ntmps38
    go_wp2_with fail
    go_ret
    exact ⟨rfl, rfl⟩
theorem rowSome {w : World} {F : Nat → Prop} {t st : Nat} {life lost most : Int} {qs : List FlA} {rv : Value} {ps : List Nat} {Fs : Nat → Nat → Prop} (h : LGi w F t st life lost most qs rv ps Fs) {a b : Int} {k : Nat} (hk : rix st a b = some k) :
    Calls Try.prog 31 #[.pointer (some ⟨t, 0, none⟩), .int .i64 a, .int .i64 b] w fun e w' => ∃ hi : k < ps.length, e = .returned (.pointer (some ⟨ps[k], 0, none⟩)) ∧ Below w.heap.size w w' := by
  obtain ⟨A, B, rfl, rfl, hA, hB, hne, hkk, hlt⟩ := rix_lt hk
  have hst := h.sts
  have hps : k < ps.length := by rw [h.len]; exact hlt
  obtain ⟨g, cap, rfl, hg, hc1, hc2⟩ := own_some h.rows (by omega)
  have k0 : w.cell? ⟨t, 0, none⟩ = some (.int .i64 st) := blk_cell h.blk 0
  have k3 : w.cell? ⟨t, 3, none⟩ = some (.slice (some ⟨g, 0, none⟩) ps.length cap) := blk_cell h.blk 3
  obtain ⟨c, hc⟩ : ∃ c, c = ps[k] := ⟨_, rfl⟩
  have y1 : w.cell? ⟨g, k, none⟩ = some (.pointer (some ⟨c, 0, none⟩)) := by
    have := h.rows.cell enP_len k 0 hps (by decide)
    rw [hc]
    simpa [enP] using this
  have hp1 : ((k : Int)) < (ps.length : Int) := by omega
  have hm : IntKind.i64.wrap ((A : Int) * (st : Int)) = ((A * st : Nat) : Int) := by
    have h1 : (A * st : Nat) ≤ 16 * 16 := Nat.mul_le_mul (by omega) hst.2
    have h2 : ((A : Int) * (st : Int)) = ((A * st : Nat) : Int) := by rw [Int.natCast_mul]
    rw [h2]
    exact i64_wrap_in _ (by omega)
  obtain ⟨M, hM⟩ : ∃ M, M = A * st := ⟨_, rfl⟩
  rw [← hM] at hkk hm
  have hMb : M ≤ 256 := by rw [hM]; exact Nat.le_trans (Nat.mul_le_mul (show A ≤ 16 by omega) hst.2) (by decide)
  have hkk' : IntKind.i64.wrap ((M : Int) + (B : Int)) = (k : Int) := by
    rw [i64_wrap_in _ (by omega), hkk]; omega
  have hd0 : decide ((0 : Int) ≤ (A : Int)) = true := decide_eq_true (by omega)
  have hd1 : decide ((A : Int) < (st : Int)) = true := decide_eq_true (by omega)
  have hd2 : decide ((0 : Int) ≤ (B : Int)) = true := decide_eq_true (by omega)
  have hd3 : decide ((B : Int) < (st : Int)) = true := decide_eq_true (by omega)
  have hne' : ((A : Int) == (B : Int)) = false := by rw [beq_eq_false_iff_ne]; omega
  have hne'' : (A == B) = false := by rw [beq_eq_false_iff_ne]; exact hne
  obtain ⟨n, hn⟩ : ∃ n, n = ps.length := ⟨_, rfl⟩
  have H := Lib.hid h
  have HC := Lib.hid hc
  have HN := Lib.hid hn
  rw [← hn] at k3 hp1
  clear h hc hn hk hkk hM hlt
  go_enter Try.func31, Try.ntmps31
  go_wp2_with fail
  refine (hasG H.out A).mono ?_
  rintro e w' ⟨rfl, rfl⟩
  rw [hd0, hd1]
  go_wp2_with fail
  refine (hasG H.out B).mono ?_
  rintro e w' ⟨rfl, rfl⟩
  rw [hd2, hd3]
  go_upto_region 3 with fail
  go_quiet (fail)
  go_wp2_with fail
  go_ret
  refine ⟨hps, ?_, below_drewN (Below.refl _ _) _⟩
  rw [← HC.out]
  rfl
theorem rowNone {w : World} {F : Nat → Prop} {t st : Nat} {life lost most : Int} {qs : List FlA} {rv : Value} {ps : List Nat} {Fs : Nat → Nat → Prop} (h : LGi w F t st life lost most qs rv ps Fs) {a b : Int} (hk : rix st a b = none) :
    Calls Try.prog 31 #[.pointer (some ⟨t, 0, none⟩), .int .i64 a, .int .i64 b] w fun e w' => e = .returned (.pointer none) ∧ w' = w := by
  obtain ⟨x, hx⟩ : ∃ x, x = (decide (0 ≤ a) && decide (a < (st : Int))) := ⟨_, rfl⟩
  obtain ⟨y, hy⟩ : ∃ y, y = (decide (0 ≤ b) && decide (b < (st : Int))) := ⟨_, rfl⟩
  have h1 := fun w' (hw : w' = w) => hasG (h.below (w' := w') (by rw [hw]; exact Below.refl _ _)) a
  have h2 := fun w' (hw : w' = w) => hasG (h.below (w' := w') (by rw [hw]; exact Below.refl _ _)) b
  rw [← hx] at h1
  rw [← hy] at h2
  have hxy : x = true → y = true → (a == b) = true := by
    intro e1 e2
    rw [hx] at e1
    rw [hy] at e2
    simp at e1 e2
    unfold rix at hk
    split at hk
    · cases hk
    · rename_i hh
      rw [beq_iff_eq]
      by_cases e : a = b
      · exact e
      · exact absurd ⟨e1.1, e1.2, e2.1, e2.2, e⟩ hh
  have H1 := Lib.hid h1
  have H2 := Lib.hid h2
  clear h h1 h2 hx hy hk
  cases x
  · clear hxy
    go_enter Try.func31, Try.ntmps31
    go_wp2_with fail
    refine (H1.out w rfl).mono ?_
    rintro e w' ⟨rfl, rfl⟩
    go_wp2_with fail
    go_ret
    exact ⟨rfl, rfl⟩
  · cases y
    · clear hxy
      go_enter Try.func31, Try.ntmps31
      go_wp2_with fail
      refine (H1.out w rfl).mono ?_
      rintro e w' ⟨rfl, rfl⟩
      go_wp2_with fail
      refine (H2.out w' rfl).mono ?_
      rintro e w' ⟨rfl, rfl⟩
      go_wp2_with fail
      go_ret
      exact ⟨rfl, rfl⟩
    · have hab := hxy rfl rfl
      clear hxy
      go_enter Try.func31, Try.ntmps31
      go_wp2_with fail
      refine (H1.out w rfl).mono ?_
      rintro e w' ⟨rfl, rfl⟩
      go_wp2_with fail
      refine (H2.out w' rfl).mono ?_
      rintro e w' ⟨rfl, rfl⟩
      go_wp2_with fail
      go_ret
      exact ⟨rfl, rfl⟩
theorem lostG {w : World} {F : Nat → Prop} {t st : Nat} {life lost most : Int} {qs : List FlA} (h : LG w F t st life lost most qs) :
    Calls Try.prog 17 #[.pointer (some ⟨t, 0, none⟩)] w fun e w' => e = .returned (.int .i64 lost) ∧ w' = w := by
  obtain ⟨rv, ps, Fs, h⟩ := h
  have k2 : w.cell? ⟨t, 2, none⟩ = some (.int .i64 lost) := blk_cell h.blk 2
  clear h
  go_enter Try.func17, Try.ntmps17
  go_wp2_with fail
  go_ret
  exact ⟨rfl, rfl⟩
end Go.Proofs.Yteihpaikdpdglaa
