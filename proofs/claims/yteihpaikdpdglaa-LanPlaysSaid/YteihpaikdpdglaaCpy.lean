/-
  copy between rows of elements of k cells; what a row holds behind an insertion; apart slices do not overlap.
-/
import Derived.Test.YteihpaikdpdglaaSub
import Derived.Laws.CopyRow
import Derived.Lib.AppendZerosOnto
import Derived.Lib.Overlaps
import Derived.Shelf.Spec.SlicesInsert
namespace Go.Proofs.Yteihpaikdpdglaa
open Go.RowKit
set_option linter.unusedVariables false

theorem run_copyk {P : Program} (w : World) (dT sT ty elem : TypeId) (k g o dLen dCap : Nat) (a : Addr) (sLen sCap : Nat) (cur : Array Value) (t : TypeId) (cs : List Value)
    (hu : P.underlying dT = some (.slice elem)) (hs : (P.info? elem).map (·.size) = some k)
    (hg : w.heap[g]? = some (.cells cur t (0, 0))) (hn : cs.length = Nat.min sLen dLen * k)
    (hsrc : ∀ j v, cs[j]? = some v → w.cell? (a.add j) = some v) (hfit : o + cs.length ≤ cur.size) (h1 : ∀ v ∈ cs, v.oneCell' = true) :
    (Builtin.copy_ #[dT, sT] ty #[.slice (some ⟨g, o, none⟩) dLen dCap, .slice (some a) sLen sCap]).run P w =
      .ok (goInt (Nat.min sLen dLen)) (w.setRow g (cur.toList.take o ++ cs ++ cur.toList.drop (o + cs.length)).toArray) := by
  have hl := run_loadCells_list (P := P) w a cs hsrc
  have hst := run_storeCells_at P g o t cs 0 cur w hg (by simpa using hfit) h1
  cases hq : P.info? elem with
  | none => simp [hq] at hs
  | some i =>
    have hi : i.size = k := by simpa [hq] using hs
    simp [Builtin.copy_, run_underlying hu, Builtin.lenOf, Builtin.firstCells, sizeOf, typeInfo, hq, hi, ← hn, hl, hst]

/-- Shifted up by vs, and vs laid into the gap. -/
theorem ins_shift (cur xs vs : List Value) (n i k : Nat) (hxs : cur.take (n * k) = xs) (hxl : xs.length = n * k) (hv : vs.length = k) (hi : i ≤ n) (hfit : (n + 1) * k ≤ cur.length)
    (R1 : List Value) (h1 : R1 = cur.take ((i + 1) * k) ++ xs.drop (i * k) ++ cur.drop ((i + 1) * k + (xs.drop (i * k)).length)) :
    (R1.take (i * k) ++ vs ++ R1.drop (i * k + vs.length)).take ((n + 1) * k) = xs.take (i * k) ++ vs ++ xs.drop (i * k) := by
  have e1 : (i + 1) * k = i * k + k := by rw [Nat.add_mul]; omega
  have e2 : (n + 1) * k = n * k + k := by rw [Nat.add_mul]; omega
  have e3 : i * k ≤ n * k := Nat.mul_le_mul_right _ hi
  have hr1 : R1.take (i * k) = xs.take (i * k) := by
    rw [h1, List.append_assoc, List.take_append_of_le_length (by simp; omega), List.take_take, ← hxs, List.take_take]
    congr 1
    omega
  have hr2 : R1.drop (i * k + vs.length) = xs.drop (i * k) ++ cur.drop ((i + 1) * k + (xs.drop (i * k)).length) := by
    rw [h1, List.append_assoc, hv, ← e1, List.drop_append_of_le_length (by simp; omega), List.drop_of_length_le (by rw [List.length_take]; exact Nat.min_le_left _ _), List.nil_append]
  rw [hr1, hr2, ← List.append_assoc, List.take_append_of_le_length (by simp; omega), List.take_of_length_le (by simp; omega)]

/-- Laid into a new row: ahead of it, it, and what was behind. -/
theorem ins_new (A Z xs vs : List Value) (n i k : Nat) (hA : A = xs.take (i * k)) (hxl : xs.length = n * k) (hv : vs.length = k) (hi : i ≤ n) (hz : (n + 1 - i) * k ≤ Z.length)
    (R1 : List Value) (h1 : R1 = (A ++ Z).take (i * k) ++ vs ++ (A ++ Z).drop (i * k + vs.length)) :
    (R1.take ((i + 1) * k) ++ xs.drop (i * k) ++ R1.drop ((i + 1) * k + (xs.drop (i * k)).length)).take ((n + 1) * k) = xs.take (i * k) ++ vs ++ xs.drop (i * k) := by
  have e1 : (i + 1) * k = i * k + k := by rw [Nat.add_mul]; omega
  have e2 : (n + 1) * k = n * k + k := by rw [Nat.add_mul]; omega
  have e3 : i * k ≤ n * k := Nat.mul_le_mul_right _ hi
  have hAl : A.length = i * k := by rw [hA, List.length_take]; omega
  have hR : R1.take ((i + 1) * k) = xs.take (i * k) ++ vs := by
    rw [h1, List.take_append_of_le_length (by simp; omega), List.take_of_length_le (by simp; omega), List.take_append_of_le_length (by omega), List.take_of_length_le (by omega), hA]
  rw [hR, List.take_append_of_le_length (by simp; omega), List.take_of_length_le (by simp; omega)]

theorem shape_blk {w : World} {b : Nat} {cs : Array Value} {t : TypeId} (h : w.heap[b]? = some (.cells cs t (0, 0))) : w.shape? b = some (t, cs.size) := by simp [World.shape?, h]

theorem flat_ins {α : Type} (enc : α → List Value) (l : List α) (x : α) (i : Nat) : (l.take i ++ x :: l.drop i).flatMap enc = (l.take i).flatMap enc ++ enc x ++ (l.drop i).flatMap enc := by simp
/-- The row behind an insertion. -/
def insL {α : Type} (l : List α) (i : Nat) (x : α) : List α := l.take i ++ x :: l.drop i
end Go.Proofs.Yteihpaikdpdglaa
