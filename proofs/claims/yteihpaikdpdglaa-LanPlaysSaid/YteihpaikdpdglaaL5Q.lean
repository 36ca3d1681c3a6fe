/-
  Layer 5: Room (as in L5I) and what is lost, without the other laws' texts: a claim's folder holds at most 60 files.
-/
import Derived.Test.YteihpaikdpdglaaGlL
import Derived.Test.YteihpaikdpdglaaR5R
namespace Go.Proofs.Yteihpaikdpdglaa
open Go.RowKit
set_option linter.unusedVariables false


/-- Few deeds, each with few bytes. -/
def roomP (l : List De) (most : Int) : Bool := decide ((l.length : Int) ≤ most) && l.all (fun d => decide (d.b.length ≤ 200))
theorem room_true {l : List De} {most : Int} (h : roomP l most = true) : (l.length : Int) ≤ most ∧ ∀ d ∈ l, d.b.length ≤ 200 := by
  unfold roomP at h
  rw [Bool.and_eq_true, List.all_eq_true] at h
  exact ⟨by simpa using h.1, fun d hd => by simpa using h.2 d hd⟩
theorem deedAt {w : World} {l : List De} {o bb c n : Nat} (hrd : Rd w 5 (.slice (some ⟨bb, o, none⟩) n c) l.length (l.flatMap encE)) {i : Nat} (hi : i < l.length) :
    w.cell? ⟨bb, o + i * 5, none⟩ = some (.int .i64 l[i].dw) ∧ w.cell? ⟨bb, o + i * 5 + 1, none⟩ = some (.int .i64 l[i].fr) ∧ w.cell? ⟨bb, o + i * 5 + 2, none⟩ = some (.int .i64 l[i].tg) ∧ w.cell? ⟨bb, o + i * 5 + 3, none⟩ = some (.int .i64 l[i].bit) ∧ w.cell? ⟨bb, o + i * 5 + 4, none⟩ = some (.slice l[i].a l[i].n l[i].c) := by
  obtain ⟨hl, ad, c', hv, h0, h1⟩ := hrd
  simp at hv
  obtain ⟨rfl, rfl, rfl⟩ := hv
  have hc : ∀ j (hj : j < 5) u, (encE l[i])[j]? = some u → w.cell? ⟨bb, o + i * 5 + j, none⟩ = some u := fun j hj u hu => by
    have := h1 _ rfl (i * 5 + j) u (by rw [flat_get encE 5 encE_len l i j hi hj]; exact hu)
    rwa [Addr.add_lit, ← Nat.add_assoc] at this
  exact ⟨hc 0 (by decide) _ rfl, hc 1 (by decide) _ rfl, hc 2 (by decide) _ rfl, hc 3 (by decide) _ rfl, hc 4 (by decide) _ rfl⟩
set_option maxRecDepth 100000 in
set_option maxHeartbeats 2000000 in
theorem room (v : Value) (l : List De) (most : Int) (hm : 0 ≤ most ∧ most ≤ 1000) (w : World) (hrd : Rd w 5 v l.length (l.flatMap encE)) (hok : ∀ d ∈ l, d.ok w) (hlm : l.length ≤ maxLen) :
    Calls Try.prog 23 #[v, .int .i64 most] w fun e w' => e = .returned (.bool (roomP l most)) ∧ w' = w := by
  obtain ⟨la, lc, rfl⟩ := hrd.len
  have HRD := Lib.hid hrd
  have HOK := Lib.hid hok
  have hlm2 : l.length ≤ 9223372036854775807 := by unfold maxLen at hlm; omega
  clear hrd hok hlm
  obtain ⟨N, hN⟩ : ∃ N, N = l.length := ⟨_, rfl⟩
  have HN := Lib.hid hN
  rw [← hN] at hlm2 ⊢
  clear hN
  by_cases hlen : most < (N : Int)
  · have hd : decide (most < (N : Int)) = true := decide_eq_true hlen
    have HR : Hid (roomP l most = false) := by unfold Hid roomP; rw [← HN.out, decide_eq_false (by omega)]; rfl
    clear hlen
    go_enter Try.func23, Try.ntmps23
    go_wp2_with fail
    go_ret
    exact ⟨by rw [HR.out]; rfl, rfl⟩
  have hd : decide (most < (N : Int)) = false := decide_eq_false hlen
  have hN1 : N ≤ 1000 := by omega
  go_enter Try.func23, Try.ntmps23
  go_wp2_with fail
  go_loopg [5] N (fun g s5 wx => ∃ i : Nat, i ≤ N ∧ s5 = .int .i64 i ∧ g = N - i ∧ wx = w ∧ Hid ((l.take i).all (fun d => decide (d.b.length ≤ 200)) = true))
  case atStart => exact ⟨0, Nat.zero_le _, rfl, rfl, rfl, rfl⟩
  case round =>
    obtain ⟨i, hi, rfl, rfl, rfl, HA⟩ := hrel
    by_cases hlt : i < N
    · have hdl : decide ((i : Int) < (N : Int)) = true := decide_eq_true (by omega)
      have hdn : decide (i < N) = true := decide_eq_true hlt
      have hil : i < l.length := by rw [← HN.out]; exact hlt
      obtain ⟨bb, o, c, hvv, _, _⟩ := Rd.some HRD.out (by omega) (by decide)
      have hvv := hvv
      simp at hvv
      obtain ⟨rfl, hvc⟩ := hvv
      obtain ⟨_, _, _, _, y4⟩ := deedAt HRD.out hil
      obtain ⟨d, hdd⟩ : ∃ d, d = l[i] := ⟨_, rfl⟩
      rw [← hdd] at y4
      have hok := HOK.out d (by rw [hdd]; exact List.getElem_mem hil)
      have hn := hok.len
      have hnm : d.n ≤ 9223372036854775807 := by have := hok.cap; unfold maxLen at this; omega
      have HT : Hid ((l.take (i + 1)).all (fun d => decide (d.b.length ≤ 200)) = decide (d.b.length ≤ 200)) := by
        unfold Hid
        rw [List.take_succ_eq_append_getElem hil, List.all_append, HA.out, ← hdd]
        simp
      have hi1 : (i : Int) < (N : Int) := by omega
      have HNN := Lib.hid hn
      have HD := Lib.hid hdd
      clear hok hn hdd hvc
      by_cases h2 : 200 < d.n
      · have hd2 : decide ((200 : Int) < (d.n : Int)) = true := decide_eq_true (by omega)
        have hd2n : decide (200 < d.n) = true := decide_eq_true h2
        have HR : Hid (roomP l most = false) := by
          unfold Hid roomP
          have hx : l.all (fun d => decide (d.b.length ≤ 200)) = false := List.all_eq_false.2 ⟨d, by rw [HD.out]; exact List.getElem_mem hil, by have := HNN.out; rw [decide_eq_false (by omega)]; decide⟩
          rw [hx]
          exact Bool.and_false _
        clear h2
        go_wp2_with fail
        go_ret
        exact ⟨by rw [HR.out]; rfl, rfl⟩
      · have hd2 : decide ((200 : Int) < (d.n : Int)) = false := decide_eq_false (by omega)
        have hd2n : decide (200 < d.n) = false := decide_eq_false h2
        have HT2 : Hid ((l.take (i + 1)).all (fun d => decide (d.b.length ≤ 200)) = true) := by
          unfold Hid
          rw [HT.out]
          have := HNN.out
          simp
          omega
        clear h2
        go_wp2_with fail
        go_roundg (N - (i + 1))
        case measure => omega
        case rel => exact ⟨i + 1, by omega, by go_num, rfl, rfl, HT2⟩
    · obtain rfl : i = N := by omega
      have hdl : decide ((i : Int) < (i : Int)) = false := by simp
      have HR : Hid (roomP l most = true) := by
        have h9 := HA.out
        rw [List.take_of_length_le (by rw [HN.out]; exact Nat.le_refl _)] at h9
        unfold Hid roomP
        rw [h9, ← HN.out, decide_eq_true (by omega)]
        rfl
      go_wp2_with fail
      go_ret
      exact ⟨by rw [HR.out]; rfl, rfl⟩
theorem lost_send (st : Nat) (most a b : Int) (x : List Int) (S : LS) : S.2 ≤ (sendP st most a b x S).2.2 ∧ (sendP st most a b x S).2.2 ≤ S.2 + 1 := sendP_lost st most a b x S
theorem lost_pass (st : Nat) (a b : Int) (S : LS) : (passP st a b S).2.2 = S.2 := by
  unfold passP
  cases rix st a b with
  | none => rfl
  | some k =>
    dsimp only
    cases rowAt S k with
    | nil => rfl
    | cons p l => rfl
theorem lost_drop (st : Nat) (a b : Int) (S : LS) : S.2 ≤ (dropP st a b S).2.2 ∧ (dropP st a b S).2.2 ≤ S.2 + 1 := by
  have h := lost_pass st a b S
  unfold dropP
  generalize passP st a b S = r at h
  obtain ⟨r1, r2⟩ := r
  dsimp only at h
  cases r1 with
  | none => dsimp only; omega
  | some x => dsimp only; omega
theorem lost_twice (st : Nat) (most a b : Int) (S : LS) : (twiceP st most a b S).2.2 = S.2 := by
  unfold twiceP
  cases rix st a b with
  | none => rfl
  | some k =>
    dsimp only
    cases rowAt S k with
    | nil => rfl
    | cons p l => dsimp only; split <;> rfl
theorem lost_spoil (st : Nat) (a b bit : Int) (S : LS) : (spoilP st a b bit S).2.2 = S.2 := by
  unfold spoilP
  cases rix st a b with
  | none => rfl
  | some k =>
    dsimp only
    cases rowAt S k with
    | nil => rfl
    | cons p l => dsimp only; split <;> rfl
end Go.Proofs.Yteihpaikdpdglaa
