/-
  Layer 12: same: are two rows one?
-/
import Derived.Test.YtjjfminpaoooaaaL12I
namespace Go.Proofs.Ytjjfminpaoooaaa
open Go.RowKit
set_option linter.unusedVariables false


/-- A row of rows that reads. -/
abbrev RdT (w : World) (v : Value) (zs : List ItI) : Prop := Rd w 9 v zs.length (zs.flatMap enTI)
theorem rdt_at {w : World} {b o n c : Nat} {zs : List ItI} (h : RdT w (.slice (some ⟨b, o, none⟩) n c) zs) {i : Nat} (hi : i < zs.length) : ∀ j u, (enTI zs[i])[j]? = some u → w.cell? ⟨b, o + i * 9 + j, none⟩ = some u := by
  obtain ⟨b', o', c', hv, _, hx⟩ := Rd.some h (by omega) (by decide)
  simp at hv
  obtain ⟨⟨rfl, rfl⟩, _, _⟩ := hv
  intro j u hu
  have hj : j < 9 := by
    by_cases h : j < 9
    · exact h
    · rw [List.getElem?_eq_none (by rw [enTI_len]; omega)] at hu; cases hu
  have := Rd.el enTI_len hx hi hj hu
  rwa [← Nat.add_assoc] at this
theorem rdt_of_own {w : World} {B : Nat} {v : Value} {zs : List ItI} (h : Own enTI 48 9 B w v zs) : RdT w v zs := h.rd

theorem cmpRow (p q : ItI) (r : Bool) (h : r = decide (p = q)) (w : World) :
    (((Op.equalIn 9998 23 (faV p.1) (faV q.1)).run Try.prog w).andThen (fun c w' => if c = false then Result.ok false w' else if p.1.near = q.1.near then (if p.1.there = q.1.there then Result.ok true w' else Result.ok false w') else Result.ok false w')).andThen (fun c w' => if c = false then Result.ok false w' else if p.2 = q.2 then Result.ok true w' else Result.ok false w') = Result.ok r w := by
  rw [farEq2, Result.andThen_ok, h]
  obtain ⟨a, x⟩ := p
  obtain ⟨b, y⟩ := q
  by_cases e : a = b
  · subst e
    by_cases e2 : x = y <;> simp [e2]
  · have : ¬ (a.b = b.b ∧ a.near = b.near ∧ a.there = b.there) := by
      rintro ⟨h1, h2, h3⟩
      apply e
      cases a; cases b
      simp_all [Ky.b]
    by_cases e1 : a.b = b.b
    · by_cases e2 : a.near = b.near
      · by_cases e3 : a.there = b.there
        · exact absurd ⟨e1, e2, e3⟩ this
        · simp [e, e1, e2, e3]
      · simp [e, e1, e2]
    · simp [e, e1]
def sameZ (a b : List ItI) : Bool := decide (a = b)
theorem sameZ_self (a : List ItI) : sameZ a a = true := by simp [sameZ]
theorem sameZ_len {a b : List ItI} (h : a.length ≠ b.length) : sameZ a b = false := by unfold sameZ; simp; exact fun e => h (by rw [e])
theorem sameZ_no {a b : List ItI} {i : Nat} (ha : i < a.length) (hb : i < b.length) (h : a[i] ≠ b[i]) : sameZ a b = false := by unfold sameZ; simp; intro e; subst e; exact h rfl
theorem sameZ_yes {a b : List ItI} (hl : a.length = b.length) (h : ∀ i, (ha : i < a.length) → (hb : i < b.length) → a[i] = b[i]) : sameZ a b = true := by unfold sameZ; simp; exact List.ext_getElem hl (fun i h1 h2 => h i h1 h2)

set_option maxHeartbeats 2000000 in
theorem sameL (va vb : Value) (la lb : List ItI) (w : World) (ha : RdT w va la) (hb : RdT w vb lb) (hm : la.length ≤ 1000000) :
    Calls Try.prog 22 #[va, vb] w fun e w' => e = .returned (.bool (sameZ la lb)) ∧ Below w.heap.size w w' := by
  obtain ⟨aa, ac, rfl⟩ := ha.len
  obtain ⟨ba, bc, rfl⟩ := hb.len
  have Ha := Lib.hid ha
  have Hb := Lib.hid hb
  clear ha hb
  cases hl : ((la.length : Int) == (lb.length : Int)) with
  | false =>
    have hs := Lib.hid (sameZ_len (a := la) (b := lb) (by simp at hl; omega))
    have hl2 : ((la.length : Int) != (lb.length : Int)) = true := by rw [bne, hl]; rfl
    go_enter Try.func22, Try.ntmps22
    go_wp2_with fail
    go_ret
    exact ⟨by rw [hs.out]; rfl, Below.refl _ _⟩
  | true =>
    have hlen : la.length = lb.length := by simp at hl; omega
    have hl2 : ((la.length : Int) != (lb.length : Int)) = false := by rw [bne, hl]; rfl
    have Hlen := Lib.hid hlen
    clear hlen
    go_enter Try.func22, Try.ntmps22
    go_wp2_with fail
    go_loopw [5] (fun v wr => ∃ i : Nat, i ≤ la.length ∧ v = .int .i64 i ∧ Hid (Below w.heap.size w wr) ∧ Hid (∀ j, j < i → (h1 : j < la.length) → (h2 : j < lb.length) → la[j] = lb[j])) (fun v _ => la.length - (intOf v).toNat)
    case atStart => exact ⟨0, by omega, rfl, Below.refl _ _, fun j hj => by omega⟩
    case round =>
      obtain ⟨i, hi, rfl, Hw, hall⟩ := hrel
      by_cases hlt : i < la.length
      · have hlt2 : i < lb.length := by have := Hlen.out; omega
        have ha1 := Rd.fr Ha.out (Fr.of_below Hw.out no) (fun _ _ e => e)
        have hb1 := Rd.fr Hb.out (Fr.of_below Hw.out no) (fun _ _ e => e)
        obtain ⟨b1, o1, c1, e1, g1, x1⟩ := ha1.some (by omega) (by decide)
        obtain ⟨b2, o2, c2, e2, g2, x2⟩ := hb1.some (by omega) (by decide)
        simp at e1 e2
        obtain ⟨rfl, rfl⟩ := e1
        obtain ⟨rfl, rfl⟩ := e2
        clear x1 x2
        obtain ⟨p, hp⟩ : ∃ p, p = la[i]'hlt := ⟨_, rfl⟩
        obtain ⟨q, hq⟩ : ∃ q, q = lb[i]'hlt2 := ⟨_, rfl⟩
        have y1 := rdt_at ha1 hlt
        have y2 := rdt_at hb1 hlt2
        rw [← hp] at y1
        rw [← hq] at y2
        have HP := Lib.hid hp
        have HQ := Lib.hid hq
        have p0 : ∀ u : After wr, u.w'.cell? ⟨b1, o1 + i * 9, none⟩ = some (.int .u8 p.1.f0) := fun u => u.cell (y1 0 _ rfl)
        have p1 : ∀ u : After wr, u.w'.cell? ⟨b1, o1 + i * 9 + 1, none⟩ = some (.int .u8 p.1.f1) := fun u => u.cell (y1 1 _ rfl)
        have p2 : ∀ u : After wr, u.w'.cell? ⟨b1, o1 + i * 9 + 2, none⟩ = some (.int .u8 p.1.f2) := fun u => u.cell (y1 2 _ rfl)
        have p3 : ∀ u : After wr, u.w'.cell? ⟨b1, o1 + i * 9 + 3, none⟩ = some (.int .u8 p.1.f3) := fun u => u.cell (y1 3 _ rfl)
        have p4 : ∀ u : After wr, u.w'.cell? ⟨b1, o1 + i * 9 + 4, none⟩ = some (.int .u8 p.1.f4) := fun u => u.cell (y1 4 _ rfl)
        have p5 : ∀ u : After wr, u.w'.cell? ⟨b1, o1 + i * 9 + 5, none⟩ = some (.int .u8 p.1.f5) := fun u => u.cell (y1 5 _ rfl)
        have p6 : ∀ u : After wr, u.w'.cell? ⟨b1, o1 + i * 9 + 6, none⟩ = some (.int .i64 p.1.near) := fun u => u.cell (y1 6 _ rfl)
        have p7 : ∀ u : After wr, u.w'.cell? ⟨b1, o1 + i * 9 + 7, none⟩ = some (.int .i64 p.1.there) := fun u => u.cell (y1 7 _ rfl)
        have p8 : ∀ u : After wr, u.w'.cell? ⟨b1, o1 + i * 9 + 8, none⟩ = some (.int .i64 p.2) := fun u => u.cell (y1 8 _ rfl)
        have q0 : ∀ u : After wr, u.w'.cell? ⟨b2, o2 + i * 9, none⟩ = some (.int .u8 q.1.f0) := fun u => u.cell (y2 0 _ rfl)
        have q1 : ∀ u : After wr, u.w'.cell? ⟨b2, o2 + i * 9 + 1, none⟩ = some (.int .u8 q.1.f1) := fun u => u.cell (y2 1 _ rfl)
        have q2 : ∀ u : After wr, u.w'.cell? ⟨b2, o2 + i * 9 + 2, none⟩ = some (.int .u8 q.1.f2) := fun u => u.cell (y2 2 _ rfl)
        have q3 : ∀ u : After wr, u.w'.cell? ⟨b2, o2 + i * 9 + 3, none⟩ = some (.int .u8 q.1.f3) := fun u => u.cell (y2 3 _ rfl)
        have q4 : ∀ u : After wr, u.w'.cell? ⟨b2, o2 + i * 9 + 4, none⟩ = some (.int .u8 q.1.f4) := fun u => u.cell (y2 4 _ rfl)
        have q5 : ∀ u : After wr, u.w'.cell? ⟨b2, o2 + i * 9 + 5, none⟩ = some (.int .u8 q.1.f5) := fun u => u.cell (y2 5 _ rfl)
        have q6 : ∀ u : After wr, u.w'.cell? ⟨b2, o2 + i * 9 + 6, none⟩ = some (.int .i64 q.1.near) := fun u => u.cell (y2 6 _ rfl)
        have q7 : ∀ u : After wr, u.w'.cell? ⟨b2, o2 + i * 9 + 7, none⟩ = some (.int .i64 q.1.there) := fun u => u.cell (y2 7 _ rfl)
        have q8 : ∀ u : After wr, u.w'.cell? ⟨b2, o2 + i * 9 + 8, none⟩ = some (.int .i64 q.2) := fun u => u.cell (y2 8 _ rfl)
        clear ha1 hb1 y1 y2 hp hq
        obtain ⟨r, hr⟩ : ∃ r, r = decide (p = q) := ⟨_, rfl⟩
        have HR := Lib.hid hr
        clear hr
        go_upto_region 6 with fail
        refine wp_region_after (by kernel_rfl) (by kernel_rfl) ?_
        go_big_quiet_step (fail)
        go_big_quiet_step (fail)
        go_big_quiet_step (fail)
        go_big_quiet_step (fail)
        go_big_quiet_step (fail)
        go_big_quiet_step (fail)
        go_big_quiet_step (fail)
        go_big_quiet_step (fail)
        go_big_quiet_step ((rw [cmpRow p q r HR.out]; exact ⟨rfl, rfl⟩))
        refine wpQuiet_nil ?_
        rintro w3 ⟨⟨_, hb3⟩, rfl⟩
        have HB3 := Lib.hid (Hw.out.trans (hb3.mono Hw.out.size))
        clear hb3 p0 p1 p2 p3 p4 p5 p6 p7 p8 q0 q1 q2 q3 q4 q5 q6 q7 q8
        cases r with
        | true =>
          go_wp2_with fail
          go_roundw
          case rel => exact ⟨i + 1, by omega, by go_num, HB3.out, fun j hj h1 h2 => by
            by_cases e : j = i
            · subst e
              have := of_decide_eq_true HR.out.symm
              rw [HP.out, HQ.out] at this
              exact this
            · exact hall.out j (by omega) h1 h2⟩
          case measure => simp [intOf]; omega
        | false =>
          have hs := Lib.hid (sameZ_no hlt hlt2 (by
            have := of_decide_eq_false HR.out.symm
            rw [HP.out, HQ.out] at this
            exact this))
          go_wp2_with fail
          go_ret
          exact ⟨by rw [hs.out]; rfl, HB3.out⟩
      · have hs := Lib.hid (sameZ_yes Hlen.out (fun j h1 h2 => hall.out j (by omega) h1 h2))
        go_wp2_with fail
        go_ret
        exact ⟨by rw [hs.out]; rfl, Hw.out⟩
end Go.Proofs.Ytjjfminpaoooaaa
