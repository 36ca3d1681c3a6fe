/-
  Layer 12: how two keys are compared by ==.
-/
import Derived.Test.YtjjfminpaoooaaaL12E
import Derived.ChangeKeysEq
namespace Go.Proofs.Ytjjfminpaoooaaa
open Go.RowKit

abbrev faV (k : Ky) : Value := .agg #[.int .u8 k.f0, .int .u8 k.f1, .int .u8 k.f2, .int .u8 k.f3, .int .u8 k.f4, .int .u8 k.f5]
theorem farEqD (d : Nat) (a b : Ky) (w : World) : (Op.equalIn (d + 2) 23 (faV a) (faV b)).run Try.prog w = .ok (decide (a.b = b.b)) w := by
  obtain ⟨i, hi⟩ := Option.isSome_iff_exists.1 (show (Try.prog.info? 5).isSome = true by kernel_rfl)
  have := run_equalIn_array (P := Try.prog) w (d + 1) (t := 23) (n := 6) (e := 5) (faV a).cells (faV b).cells (by kernel_rfl) hi
  refine this.trans ?_
  have hr : List.range 6 = [0, 1, 2, 3, 4, 5] := rfl
  have hc : Try.prog.cellsOf 5 = 1 := by kernel_rfl
  rw [hr, hc]
  have hpart : ∀ (k : Ky) (j : Nat) (x : Int) (w : World), k.b[j]? = some x → (part 5 (faV k).cells (j * 1)).run Try.prog w = .ok (.int .u8 x) w := by
    intro k j x w h
    refine run_part_plain w (by kernel_rfl) ?_
    rcases j with _ | _ | _ | _ | _ | _ | j <;> simp_all [Ky.b, Value.cells]
  have heq : ∀ (x y : Int) (w : World), (Op.equalIn (d + 1) 5 (.int .u8 x) (.int .u8 y)).run Try.prog w = .ok (x == y) w := fun x y w => run_equalIn_int w d 5 .u8 .u8 x y (by kernel_rfl)
  simp only [Op.eqItems, Sem.run_bind, hpart a 0 _ _ rfl, hpart a 1 _ _ rfl, hpart a 2 _ _ rfl, hpart a 3 _ _ rfl, hpart a 4 _ _ rfl, hpart a 5 _ _ rfl, hpart b 0 _ _ rfl, hpart b 1 _ _ rfl, hpart b 2 _ _ rfl, hpart b 3 _ _ rfl, hpart b 4 _ _ rfl, hpart b 5 _ _ rfl, heq, Result.andThen_ok, Sem.run_ite, Sem.run_pure]
  by_cases e0 : a.f0 = b.f0 <;> by_cases e1 : a.f1 = b.f1 <;> by_cases e2 : a.f2 = b.f2 <;> by_cases e3 : a.f3 = b.f3 <;> by_cases e4 : a.f4 = b.f4 <;> by_cases e5 : a.f5 = b.f5 <;> simp [Ky.b, e0, e1, e2, e3, e4, e5]

theorem farEq (a b : Ky) (w : World) : (Op.equalIn 9999 23 (faV a) (faV b)).run Try.prog w = .ok (decide (a.b = b.b)) w := farEqD 9997 a b w
theorem farEq2 (a b : Ky) (w : World) : (Op.equalIn 9998 23 (faV a) (faV b)).run Try.prog w = .ok (decide (a.b = b.b)) w := farEqD 9996 a b w
instance : DecidableEq Ky := fun a b => decidable_of_iff (a.l = b.l) ⟨Ky.ext', fun h => h ▸ rfl⟩
theorem cmpKy (a b : Ky) (r : Bool) (h : r = decide (a = b)) (w : World) :
    ((Op.equalIn 9999 23 (faV a) (faV b)).run Try.prog w).andThen (fun c w' => if c = false then Result.ok false w' else if a.near = b.near then (if a.there = b.there then Result.ok true w' else Result.ok false w') else Result.ok false w') = Result.ok r w := by
  rw [farEq, Result.andThen_ok, h]
  by_cases e : a = b
  · subst e; simp
  · have : ¬ (a.b = b.b ∧ a.near = b.near ∧ a.there = b.there) := by
      rintro ⟨h1, h2, h3⟩
      apply e
      cases a; cases b
      simp_all [Ky.b]
    by_cases e1 : a.b = b.b
    · by_cases e2 : a.near = b.near
      · by_cases e3 : a.there = b.there
        · exact absurd ⟨e1, e2, e3⟩ this
        · simp [e, e1, e2, e3]
      · simp [e, e1, e2]
    · simp [e, e1]
end Go.Proofs.Ytjjfminpaoooaaa
