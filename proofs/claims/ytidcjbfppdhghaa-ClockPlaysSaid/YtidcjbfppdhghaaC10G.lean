/-
  Layer 10: ints, same: are two lists?
-/
import Derived.Test.YtidcjbfppdhghaaC10F
namespace Go.Proofs.Ytidcjbfppdhghaa
open Go.RowKit


def encZ (z : Int) : List Value := [.int .i64 z]
theorem encZ_len (z : Int) : (encZ z).length = 1 := rfl
/-- Are two lists one? -/
def same2 {α : Type} [DecidableEq α] (a b : List α) : Bool := decide (a = b)
theorem same2_len {α : Type} [DecidableEq α] {a b : List α} (h : a.length ≠ b.length) : same2 a b = false := by
  unfold same2; simp; exact fun e => h (by rw [e])
theorem same2_no {α : Type} [DecidableEq α] {a b : List α} {i : Nat} (ha : i < a.length) (hb : i < b.length) (h : a[i] ≠ b[i]) : same2 a b = false := by
  unfold same2; simp; intro e; subst e; exact h rfl
theorem same2_yes {α : Type} [DecidableEq α] {a b : List α} (hl : a.length = b.length) (h : ∀ i, (ha : i < a.length) → (hb : i < b.length) → a[i] = b[i]) : same2 a b = true := by
  unfold same2; simp; exact List.ext_getElem hl (fun i h1 h2 => h i h1 h2)

theorem below_drewN {w w' : World} (h : Below w.heap.size w w') (n : Nat) : Below w.heap.size w (w'.drewN n) := ((Fr.of_below h no).drewN n).below
set_option maxHeartbeats 1000000 in
theorem ints (va vb : Value) (la lb : List Int) (w : World) (ha : Rd w 1 va la.length (la.flatMap encZ)) (hb : Rd w 1 vb lb.length (lb.flatMap encZ)) (hm : la.length ≤ 1000000) :
    Calls Try.prog 18 #[va, vb] w fun e w' => e = .returned (.bool (same2 la lb)) ∧ Below w.heap.size w w' := by
  obtain ⟨aa, ac, rfl⟩ := ha.len
  obtain ⟨ba, bc, rfl⟩ := hb.len
  have Ha := Lib.hid ha
  have Hb := Lib.hid hb
  clear ha hb
  cases hl : ((la.length : Int) == (lb.length : Int)) with
  | false =>
    have hs := Lib.hid (same2_len (a := la) (b := lb) (by simp at hl; omega))
    go_enter Try.func18, Try.ntmps18
    go_wp2_with fail
    go_ret
    exact ⟨by rw [hs.out]; rfl, Below.refl _ _⟩
  | true =>
    have hlen : la.length = lb.length := by simp at hl; omega
    have Hlen := Lib.hid hlen
    clear hlen
    go_enter Try.func18, Try.ntmps18
    go_wp2_with fail
    go_loopw [5] (fun v wr => ∃ i : Nat, i ≤ la.length ∧ v = .int .i64 i ∧ Hid (Below w.heap.size w wr) ∧ Hid (∀ j, j < i → (h1 : j < la.length) → (h2 : j < lb.length) → la[j] = lb[j])) (fun v _ => la.length - (intOf v).toNat)
    case atStart => exact ⟨0, by omega, rfl, Below.refl _ _, fun j hj => by omega⟩
    case round =>
      obtain ⟨i, hi, rfl, Hw, hall⟩ := hrel
      by_cases hlt : i < la.length
      · have hlt2 : i < lb.length := by have := Hlen.out; omega
        obtain ⟨b1, o1, c1, e1, g1, x1⟩ := (Ha.out.fr (Fr.of_below Hw.out no) (fun _ _ e => e)).some (by omega) (by decide)
        obtain ⟨b2, o2, c2, e2, g2, x2⟩ := (Hb.out.fr (Fr.of_below Hw.out no) (fun _ _ e => e)).some (by omega) (by decide)
        simp at e1 e2
        obtain ⟨rfl, rfl⟩ := e1
        obtain ⟨rfl, rfl⟩ := e2
        have y1 : wr.cell? ⟨b1, o1 + i, none⟩ = some (.int .i64 la[i]) := by have := Rd.el encZ_len x1 hlt (j := 0) (by decide) rfl; simpa using this
        have y2 : wr.cell? ⟨b2, o2 + i, none⟩ = some (.int .i64 lb[i]) := by have := Rd.el encZ_len x2 hlt2 (j := 0) (by decide) rfl; simpa using this
        clear x1 x2
        cases hq : (la[i] == lb[i]) with
        | true =>
          have hq2 : (la[i] != lb[i]) = false := by rw [bne, hq]; rfl
          go_wp2_with fail
          go_quiet (fail)
          go_wp2_with fail
          go_roundw
          case rel => exact ⟨i + 1, by omega, by go_num, below_drewN Hw.out _, fun j hj h1 h2 => by
            by_cases e : j = i
            · subst e; simpa using hq
            · exact hall.out j (by omega) h1 h2⟩
          case measure => simp [intOf]; omega
        | false =>
          have hq2 : (la[i] != lb[i]) = true := by rw [bne, hq]; rfl
          have hs := Lib.hid (same2_no hlt hlt2 (by simpa using hq))
          go_wp2_with fail
          go_quiet (fail)
          go_wp2_with fail
          go_ret
          exact ⟨by rw [hs.out]; rfl, below_drewN Hw.out _⟩
      · have hs := Lib.hid (same2_yes Hlen.out (fun j h1 h2 => hall.out j (by omega) h1 h2))
        go_wp2_with fail
        go_ret
        exact ⟨by rw [hs.out]; rfl, Hw.out⟩

def ne2 (a b c d : Int) : Bool := !(a == c && b == d)
@[local go_sem] theorem run_neqR (w : World) (a b c d : Int) : (Go.binOp .neq 54 (.agg #[.int .i64 a, .int .i64 b]) (.agg #[.int .i64 c, .int .i64 d])).run Try.prog w = .ok (.bool (ne2 a b c d)) w := by
  unfold ne2
  go_simp
  by_cases h1 : a = c <;> by_cases h2 : b = d <;> simp [h1, h2]
set_option maxHeartbeats 1000000 in
theorem sameR (va vb : Value) (la lb : List TmI) (w : World) (ha : Rd w 2 va la.length (la.flatMap encI)) (hb : Rd w 2 vb lb.length (lb.flatMap encI)) (hm : la.length ≤ 1000000) :
    Calls Try.prog 26 #[va, vb] w fun e w' => e = .returned (.bool (same2 la lb)) ∧ Below w.heap.size w w' := by
  obtain ⟨aa, ac, rfl⟩ := ha.len
  obtain ⟨ba, bc, rfl⟩ := hb.len
  have Ha := Lib.hid ha
  have Hb := Lib.hid hb
  clear ha hb
  cases hl : ((la.length : Int) == (lb.length : Int)) with
  | false =>
    have hs := Lib.hid (same2_len (a := la) (b := lb) (by simp at hl; omega))
    go_enter Try.func26, Try.ntmps26
    go_wp2_with fail
    go_ret
    exact ⟨by rw [hs.out]; rfl, Below.refl _ _⟩
  | true =>
    have hlen : la.length = lb.length := by simp at hl; omega
    have Hlen := Lib.hid hlen
    clear hlen
    go_enter Try.func26, Try.ntmps26
    go_wp2_with fail
    go_loopw [5] (fun v wr => ∃ i : Nat, i ≤ la.length ∧ v = .int .i64 i ∧ Hid (Below w.heap.size w wr) ∧ Hid (∀ j, j < i → (h1 : j < la.length) → (h2 : j < lb.length) → la[j] = lb[j])) (fun v _ => la.length - (intOf v).toNat)
    case atStart => exact ⟨0, by omega, rfl, Below.refl _ _, fun j hj => by omega⟩
    case round =>
      obtain ⟨i, hi, rfl, Hw, hall⟩ := hrel
      by_cases hlt : i < la.length
      · have hlt2 : i < lb.length := by have := Hlen.out; omega
        obtain ⟨b1, o1, c1, e1, g1, x1⟩ := (Ha.out.fr (Fr.of_below Hw.out no) (fun _ _ e => e)).some (by omega) (by decide)
        obtain ⟨b2, o2, c2, e2, g2, x2⟩ := (Hb.out.fr (Fr.of_below Hw.out no) (fun _ _ e => e)).some (by omega) (by decide)
        simp at e1 e2
        obtain ⟨rfl, rfl⟩ := e1
        obtain ⟨rfl, rfl⟩ := e2
        have y1 : wr.cell? ⟨b1, o1 + i * 2, none⟩ = some (.int .i64 la[i].1) := Rd.el encI_len x1 hlt (j := 0) (by decide) rfl
        have y2 : wr.cell? ⟨b1, o1 + i * 2 + 1, none⟩ = some (.int .i64 la[i].2) := Rd.el encI_len x1 hlt (j := 1) (by decide) rfl
        have y3 : wr.cell? ⟨b2, o2 + i * 2, none⟩ = some (.int .i64 lb[i].1) := Rd.el encI_len x2 hlt2 (j := 0) (by decide) rfl
        have y4 : wr.cell? ⟨b2, o2 + i * 2 + 1, none⟩ = some (.int .i64 lb[i].2) := Rd.el encI_len x2 hlt2 (j := 1) (by decide) rfl
        clear x1 x2
        cases hq1 : (la[i].1 == lb[i].1)
        all_goals cases hq2 : (la[i].2 == lb[i].2)
        case true.true =>
          have hq3 : ne2 la[i].1 la[i].2 lb[i].1 lb[i].2 = false := by unfold ne2; rw [hq1, hq2]; rfl
          go_wp2_with fail
          go_quiet (fail)
          go_wp2_with fail
          go_roundw
          case rel => exact ⟨i + 1, by omega, by go_num, below_drewN Hw.out _, fun j hj h1 h2 => by
            by_cases e : j = i
            · subst e; exact Prod.ext (by simpa using hq1) (by simpa using hq2)
            · exact hall.out j (by omega) h1 h2⟩
          case measure => simp [intOf]; omega
        all_goals
          have hs := Lib.hid (same2_no hlt hlt2 (by intro e; simp [e] at hq1 hq2))
          have hq3 : ne2 la[i].1 la[i].2 lb[i].1 lb[i].2 = true := by unfold ne2; rw [hq1, hq2]; rfl
          go_wp2_with fail
          go_quiet (fail)
          go_wp2_with fail
          go_ret
          exact ⟨by rw [hs.out]; rfl, below_drewN Hw.out _⟩
      · have hs := Lib.hid (same2_yes Hlen.out (fun j h1 h2 => hall.out j (by omega) h1 h2))
        go_wp2_with fail
        go_ret
        exact ⟨by rw [hs.out]; rfl, Hw.out⟩
end Go.Proofs.Ytidcjbfppdhghaa
