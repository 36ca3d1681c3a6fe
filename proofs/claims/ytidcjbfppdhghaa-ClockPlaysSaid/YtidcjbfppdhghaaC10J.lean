/-
  Layer 10: antiphonref10.Clock: what each function does to one in memory.
-/
import Derived.Test.YtidcjbfppdhghaaSub
import Derived.Test.YtidcjbfppdhghaaClkTI
import Derived.Test.YtidcjbfppdhghaaClkRI
import Derived.Test.YtidcjbfppdhghaaC10F
namespace Go.Proofs.Ytidcjbfppdhghaa
open Go.RowKit


/-- A reference clock. -/
structure IsRef (w : World) (B m : Nat) (most now : Int) (sv : Value) (l : List TmI) : Prop where
  blk : w.heap[m]? = some (.cells #[.int .i64 most, .int .i64 now, sv] 48 (0, 0))
  own : Own encI 54 2 B w sv l
  ge : B ≤ m
  small : (l.length : Int) ≤ most
  mx : most ≤ 100000
  tk : ∀ x ∈ l, 1 ≤ x.2 ∧ x.2 ≤ 10000
theorem IsRef.fr {w w' : World} {B m : Nat} {most now : Int} {sv : Value} {l : List TmI} {S : Nat → Prop} (h : IsRef w B m most now sv l) (hf : Fr S w w') (h1 : ¬ S m) (h2 : ∀ g, sv.ownBlock = some g → ¬ S g) : IsRef w' B m most now sv l :=
  ⟨hf.heap h.blk h1, h.own.fr hf h2, h.ge, h.small, h.mx, h.tk⟩
theorem IsRef.below {w w' : World} {B m : Nat} {most now : Int} {sv : Value} {l : List TmI} (h : IsRef w B m most now sv l) (hf : Below w.heap.size w w') : IsRef w' B m most now sv l :=
  h.fr (Fr.of_below hf no) (fun e => e) (fun _ _ e => e)
theorem IsRef.ne {w : World} {B m : Nat} {most now : Int} {sv : Value} {l : List TmI} (h : IsRef w B m most now sv l) : sv.ownBlock ≠ some m := own_ne h.own h.blk (by decide)

set_option maxHeartbeats 1000000 in
theorem atR (k : Int) (m : Nat) (most now : Int) (sv : Value) (l : List TmI) (w : World) (B : Nat) (h : IsRef w B m most now sv l) :
    Calls Try.prog 32 #[.pointer (some ⟨m, 0, none⟩), .int .i64 k] w fun e w' => e = .returned (.int .i64 (fidxI k l)) ∧ w' = w := by
  obtain ⟨a, cap, rfl, hcap, hmax, ha⟩ := own_shape h.own
  have hsm : l.length ≤ 1000000 := by have := h.small; have := h.mx; omega
  have c2 : w.cell? ⟨m, 2, none⟩ = some (.slice a l.length cap) := by have := blk_cell h.blk 2; simpa using this
  have Ha := Lib.hid ha
  have H := Lib.hid h
  clear h ha
  go_enter Try.func32, Try.ntmps32
  go_wp2_with fail
  go_loop [5] (fun v => ∃ i : Nat, i ≤ l.length ∧ v = .int .i64 i ∧ Hid (∀ j, j < i → (h1 : j < l.length) → keqI l[j].1 k = false)) (fun v => l.length - (intOf v).toNat)
  case atStart => exact ⟨0, by omega, rfl, fun j hj => by omega⟩
  case round =>
    obtain ⟨i, hi, rfl, hall⟩ := hrel
    by_cases hlt : i < l.length
    · obtain ⟨g, rfl, hg⟩ := Ha.out (by omega)
      have y0 : w.cell? ⟨g, i * 2, none⟩ = some (.int .i64 l[i].1) := H.out.own.cell encI_len i 0 hlt (by omega)
      cases hx : (l[i].1 == k) with
      | false =>
        go_wp2_with fail
        go_round
        case rel => exact ⟨i + 1, by omega, by go_num, fun j hj h1 => by
          by_cases e : j = i
          · subst e; exact hx
          · exact hall.out j (by omega) h1⟩
        case measure => simp [intOf]; omega
      | true =>
        have hf := Lib.hid (fidxI_some (k := k) (l := l) hlt hx (fun j hj h1 => hall.out j hj h1))
        go_wp2_with fail
        go_ret
        exact ⟨by rw [hf.out]; rfl, rfl⟩
    · have hf := Lib.hid (fidxI_none (k := k) (l := l) (fun j h1 => hall.out j (by omega) h1))
      go_wp2_with fail
      go_ret
      exact ⟨by rw [hf.out]; rfl, rfl⟩

theorem leftR (k : Int) (m : Nat) (most now : Int) (sv : Value) (l : List TmI) (w : World) (B : Nat) (h : IsRef w B m most now sv l) :
    Calls Try.prog 24 #[.pointer (some ⟨m, 0, none⟩), .int .i64 k] w fun e w' => e = .returned (.int .i64 (leftLI k l)) ∧ w' = w := by
  rcases fidxI_cases k l with ⟨hi, hfi⟩ | ⟨i, hi, hlt, hfi⟩
  · have Hl := Lib.hid (leftLI_none hfi)
    have hi' : fidxI k l < 0 := by omega
    have H := Lib.hid h
    clear hi hfi h
    go_enter Try.func24, Try.ntmps24
    go_wp2_with (go_at_call 32; refine (atR k m most now sv l _ B H.out).mono ?_; rintro e w' ⟨rfl, rfl⟩)
    go_ret
    exact ⟨by rw [Hl.out]; rfl, rfl⟩
  · obtain ⟨g, cap, rfl, hg, hcap, hmax⟩ := own_some h.own (by omega)
    have Hl := Lib.hid (leftLI_some hfi hlt)
    have Hi := Lib.hid hi
    have c2 : w.cell? ⟨m, 2, none⟩ = some (.slice (some ⟨g, 0, none⟩) l.length cap) := by have := blk_cell h.blk 2; simpa using this
    have c3 : w.cell? ⟨g, i * 2 + 1, none⟩ = some (.int .i64 l[i].2) := h.own.cell encI_len i 1 hlt (by omega)
    have H := Lib.hid h
    clear hi hfi h
    go_enter Try.func24, Try.ntmps24
    go_wp2_with fail
    refine (atR k m most now _ l _ B H.out).mono ?_
    rw [Hi.out]
    rintro e w' ⟨rfl, rfl⟩
    go_wp2
    go_ret
    exact ⟨by rw [Hl.out]; rfl, rfl⟩

set_option maxHeartbeats 1000000 in
theorem stopR (k : Int) (m : Nat) (most now : Int) (sv : Value) (l : List TmI) (w : World) (B : Nat) (hB : B ≤ w.heap.size) (h : IsRef w B m most now sv l) :
    Calls Try.prog 22 #[.pointer (some ⟨m, 0, none⟩), .int .i64 k] w fun e w' => e = .returned (.bool (decide (0 ≤ fidxI k l))) ∧ ∃ sv', IsRef w' B m most now sv' (stopLI k l) ∧ Mv w sv sv' ∧ Fr (fun b => b = m) w w' := by
  rcases fidxI_cases k l with ⟨hi, hfi⟩ | ⟨i, hi, hlt, hfi⟩
  · have hi' : fidxI k l < 0 := by omega
    have hi2 : decide (0 ≤ fidxI k l) = false := by simpa using hi'
    have Hs : Hid (stopLI k l = l) := by unfold stopLI; rw [List.eraseP_eq_eraseIdx, hfi]; rfl
    have H := Lib.hid h
    clear h hi hfi
    go_enter Try.func22, Try.ntmps22
    go_wp2_with (go_at_call 32; refine (atR k m most now sv l _ B H.out).mono ?_; rintro e w' ⟨rfl, rfl⟩)
    go_ret
    refine ⟨by rw [hi2]; rfl, sv, ?_, Mv.refl _ _, Fr.refl _ _⟩
    rw [Hs.out]
    exact H.out
  · obtain ⟨i0, hi0, hz0, hz1, hz2⟩ := info_parts info54
    obtain ⟨g, cap, rfl, hg, hcap, hmax⟩ := own_some h.own (by omega)
    have hmw := lt_of_block h.blk
    have hne : m ≠ g := fun e => h.ne (by rw [e]; rfl)
    have hmax2 : cap ≤ 9223372036854775807 := by unfold maxLen at hmax; omega
    have hi2 : decide (0 ≤ fidxI k l) = true := by rw [hi]; simp
    have Hi := Lib.hid hi
    have Hs : Hid (stopLI k l = l.eraseIdx i) := by unfold stopLI; rw [List.eraseP_eq_eraseIdx, hfi]; rfl
    have hsm : l.length ≤ 1000000 := by have := h.small; have := h.mx; omega
    have c2 : w.cell? ⟨m, 2, none⟩ = some (.slice (some ⟨g, 0, none⟩) l.length cap) := by have := blk_cell h.blk 2; simpa using this
    have z2 := blk_free h.blk 2
    have H1 : Hid (∀ u ∈ (l.take i).flatMap encI, u.oneCell' = true) := fun u hu => by
      obtain ⟨x, _, hx⟩ := List.mem_flatMap.1 hu
      exact encI_one x u hx
    have H2 : Hid (∀ u ∈ (l.drop (i + 1)).flatMap encI, u.oneCell' = true) := fun u hu => by
      obtain ⟨x, _, hx⟩ := List.mem_flatMap.1 hu
      exact encI_one x u hx
    have R1 := Lib.hid (Own.takeRd encI_len h.own (i := i) (by omega) cap)
    have R2 := Lib.hid (Own.dropRd encI_len h.own (i := i + 1) (by omega) hcap)
    have hic : i ≤ cap := by omega
    have hjc : i + 1 ≤ cap := by omega
    have hI0 : (0 : Int) ≤ (i : Int) + 1 := by omega
    have hI1 : (i : Int) + 1 ≤ (l.length : Int) := by omega
    have hwrap : IntKind.i64.wrap ((i : Int) + 1) = (i : Int) + 1 := IntWalk.i64_in _ (by omega)
    have H := Lib.hid h
    clear h hi hfi
    go_enter Try.func22, Try.ntmps22
    go_wp2_with fail
    refine (atR k m most now _ l _ B H.out).mono ?_
    rw [Hi.out]
    rintro e w' ⟨rfl, rfl⟩
    go_wp2_with fail
    go_region_law (first
        | (refine step_app (B := w'.heap.size) (v := .slice (some ⟨w'.heap.size, 0, none⟩) 0 0) rfl (.tmp 12) (.tmp 18) 46 rfl 54 i0 _ 2 _ Try.underlying46 hi0 hz0 hz1 hz2 rfl (by decide) (by simp) rfl rfl (own_drew (own_empty w' _ _ _ (Nat.le_refl _))) ((R1.out.fr ((Fr.refl no _).alloc _) (fun _ _ e => e)).drew) H1.out (by unfold maxLen; omega) (by omega) ?_; intro v1 w1 o1 f1 m1 n1 z1; have k1 := held_fr (held_alloc ⟨c2, z2⟩) f1 (fun e => by simp [Value.ownBlock] at e; omega); have k2 := k1.1)
        | (refine step_app (B := w'.heap.size) (v := v1) rfl (.tmp 19) (.tmp 26) 46 rfl 54 i0 _ 2 _ Try.underlying46 hi0 hz0 hz1 hz2 rfl (by decide) (by have := f1.size; simp at this; omega) rfl rfl o1 (((R2.out.fr ((Fr.refl no _).alloc _) (fun _ _ e => e)).drew).fr f1 (fun g' e e' => by split at e <;> simp [Value.ownBlock] at e e' <;> omega)) H2.out (by unfold maxLen; omega) (by omega) ?_; intro v2 w2 o2 f2 m2 n2 z2; have k3 := held_fr k1 f2 (fun e => by rcases m1 with m1 | m1 <;> rw [m1] at e <;> simp [Value.ownBlock] at e <;> omega); have k4 := k3.1; have k5 := k3.2; obtain ⟨a2, cp2, rfl, _⟩ := own_shape o2))
    all_goals
      have Hlen : Hid (i + (l.length - (i + 1)) = (l.eraseIdx i).length) := by have h := List.length_eraseIdx_of_lt hlt; exact (by omega : i + (l.length - (i + 1)) = (l.eraseIdx i).length)
      have F2 := ((((Fr.refl (fun b => w'.heap.size ≤ b) w').alloc (.cells #[] 54)).drew.trans' f1 (T := fun b => w'.heap.size ≤ b) (fun _ _ e => e) (fun b _ e => by simp [Value.ownBlock] at e; omega)).trans' f2 (T := fun b => w'.heap.size ≤ b) (fun _ _ e => e) (fun b _ e => by rcases m1 with m1 | m1 <;> rw [m1] at e <;> simp [Value.ownBlock] at e <;> omega))
      have o2' : Own encI 54 2 w'.heap.size w2 (.slice a2 (i + (l.length - (i + 1))) cp2) (l.eraseIdx i) := by
        unfold Own
        rw [List.eraseIdx_eq_take_drop_succ, List.flatMap_append, List.length_append, List.length_take, List.length_drop, Nat.min_eq_left (by omega)]
        simpa using o2
      have O2 := Lib.hid o2'
      have B2 := Lib.hid (F2.heap H.out.blk (by omega))
      have F2' := Lib.hid F2
      clear F2 o2' o1 o2 m1 m2 n1 n2 z1 z2 f1 f2 R2
      obtain ⟨ad, had⟩ : ∃ ad, (if cap = i + 1 then some (⟨g, 0, none⟩ : Addr) else some ⟨g, (i + 1) * 2, none⟩) = ad := ⟨_, rfl⟩
      rw [had]
      clear had
      go_wp2_with fail
      go_ret
      have hf := (Fr.refl (fun b => b = m) w2).setCell (p := ⟨m, 2, none⟩) (fun _ => rfl) (.slice a2 (i + (l.length - (i + 1))) cp2)
      refine ⟨by first | rfl | (rw [hi2]; rfl), .slice a2 (i + (l.length - (i + 1))) cp2, ⟨by simpa using heap_setCell_same B2.out (i := 2) (.slice a2 (i + (l.length - (i + 1))) cp2), ?_, H.out.ge, ?_, H.out.mx, fun x hx => H.out.tk x (List.mem_of_mem_eraseP hx)⟩, fun g' hg' => .inr (O2.out.lt g' hg').1, ?_⟩
      · rw [Hs.out]
        exact own_base (own_zero (O2.out.fr hf (fun g' e (e' : g' = m) => by subst e'; exact own_ne O2.out B2.out (by decide) e))) (fun g' e => by have := (O2.out.lt g' e).1; omega)
      · rw [Hs.out, ← Hlen.out]; have := H.out.small; omega
      · exact F2'.out.trans' hf (fun b hb e => by omega) (fun b _ e => e)
end Go.Proofs.Ytidcjbfppdhghaa
