/-
  Layer 10: the plain law of ClockOnce: a timer that is not touched.
-/
import Derived.Test.YtidcjbfppdhghaaClkTI
namespace Go.Proofs.Ytidcjbfppdhghaa

/-- The timer of key -1 has so much left; 0: it runs no more. -/
def Mine (L : List TmI) (r : Int) : Prop := (r = 0 → L.filter (fun x => x.1 == -1) = []) ∧ (r ≠ 0 → L.filter (fun x => x.1 == -1) = [(-1, r)])

theorem filter_eraseP {L : List TmI} {k : Int} (hk : k ≠ -1) : (L.eraseP (fun x => keqI x.1 k)).filter (fun x => x.1 == -1) = L.filter (fun x => x.1 == -1) := by
  induction L with
  | nil => rfl
  | cons x L ih =>
    rw [List.eraseP_cons]
    cases h : keqI x.1 k with
    | true =>
      have hx : x.1 = k := by simpa [keqI] using h
      have : (x.1 == -1) = false := by rw [hx]; simpa using hk
      simp [this]
    | false =>
      simp only [Bool.cond_false, List.filter_cons, ih]

theorem mine_stop {L : List TmI} {r k : Int} (h : Mine L r) (hk : k ≠ -1) : Mine (stopLI k L) r := by
  unfold Mine stopLI
  rw [filter_eraseP hk]
  exact h
theorem mine_start {L : List TmI} {r k n : Int} (most : Int) (h : Mine L r) (hk : k ≠ -1) : Mine (afterStartI most k n L) r := by
  unfold afterStartI
  split
  · unfold startLI
    have h1 := mine_stop h hk
    unfold Mine at h1 ⊢
    have : (k == -1) = false := by simpa using hk
    rw [List.filter_append]
    simp [this]
    simpa using h1
  · exact h
theorem filter_over (L : List TmI) : (overLI L).filter (fun x => x == -1) = ((L.filter (fun x => x.1 == -1)).filter (fun x => x.2 == 1)).map (·.1) := by
  unfold overLI
  rw [List.filter_map, List.filter_filter, List.filter_filter]
  congr 1
  exact List.filter_congr (fun x _ => by simp [Bool.and_comm])
theorem filter_rest (L : List TmI) : (restLI L).filter (fun x => x.1 == -1) = ((L.filter (fun x => x.1 == -1)).filter (fun x => !(x.2 == 1))).map (fun x => (x.1, x.2 - 1)) := by
  unfold restLI
  rw [List.filter_map, List.filter_filter, List.filter_filter]
  congr 1
  exact List.filter_congr (fun x _ => by simp [Bool.and_comm])

/-- A tick: what is left; and whether it is told. -/
theorem mine_tick {L : List TmI} {r : Int} (h : Mine L r) (hr : 0 ≤ r) : Mine (restLI L) (max (r - 1) 0) ∧ (overLI L).filter (fun x => x == -1) = if r = 1 then [-1] else [] := by
  unfold Mine
  rw [filter_over, filter_rest]
  by_cases h0 : r = 0
  · rw [h.1 h0]
    subst h0
    simp
    omega
  · rw [h.2 h0]
    by_cases h1 : r = 1
    · subst h1
      simp
    · have e1 : (r == 1) = false := by simpa using h1
      have e2 : max (r - 1) 0 = r - 1 := by omega
      rw [e2]
      simp [e1, h1]
      omega

/-- How often -1 stands among the first k. -/
def toldIn (x : List Int) (k : Nat) : Nat := ((x.take k).filter (fun x => x == -1)).length
theorem toldIn_zero (x : List Int) : toldIn x 0 = 0 := by simp [toldIn]
theorem toldIn_all (x : List Int) : toldIn x x.length = (x.filter (fun x => x == -1)).length := by simp [toldIn]
theorem toldIn_succ {x : List Int} {k : Nat} (hk : k < x.length) : toldIn x (k + 1) = toldIn x k + if (x[k] == -1) = true then 1 else 0 := by
  unfold toldIn
  rw [List.take_succ_eq_append_getElem hk, List.filter_append, List.length_append]
  cases h : (x[k] == -1) <;> simp [h]
end Go.Proofs.Ytidcjbfppdhghaa
