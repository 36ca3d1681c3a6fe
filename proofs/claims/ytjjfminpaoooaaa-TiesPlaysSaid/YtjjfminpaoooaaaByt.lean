/-
  Rows of bytes: bytes.Clone, antiphonref1.Copy, antiphonref1.Same.
-/
import Derived.Test.YtjjfminpaoooaaaSub
import Derived.Test.YtjjfminpaoooaaaRows
namespace Go.Proofs.Ytjjfminpaoooaaa
open Go.RowKit


def encB (z : Int) : List Value := [.int .u8 z]
theorem encB_len (z : Int) : (encB z).length = 1 := rfl
theorem encB_one (z : Int) : ∀ u ∈ encB z, u.oneCell' = true := by intro u hu; simp [encB] at hu; subst hu; rfl
theorem encB_ones (l : List Int) : ∀ u ∈ l.flatMap encB, u.oneCell' = true := fun u hu => by
  obtain ⟨x, _, hx⟩ := List.mem_flatMap.1 hu
  exact encB_one x u hx
/-- A slice of bytes that is read. -/
abbrev RdB (w : World) (v : Value) (l : List Int) : Prop := Rd w 1 v l.length (l.flatMap encB)
abbrev OwnB (B : Nat) (w : World) (v : Value) (l : List Int) : Prop := Own encB 5 1 B w v l

theorem infoB : (Try.prog.info? 5).map (fun i => (i.zero, i.size, i.bytes)) = some (some (.int .u8 0), 1, 1) := by kernel_rfl

theorem RdB.at {w : World} {b o n c : Nat} {l : List Int} (h : RdB w (.slice (some ⟨b, o, none⟩) n c) l) {i : Nat} (hi : i < l.length) : w.cell? ⟨b, o + i, none⟩ = some (.int .u8 l[i]) := by
  obtain ⟨b', o', c', hv, _, hx⟩ := Rd.some h (by omega) (by decide)
  simp at hv
  obtain ⟨⟨rfl, rfl⟩, _, _⟩ := hv
  have := Rd.el encB_len hx hi (j := 0) (by decide) rfl
  simpa using this
theorem RdB.fr {w w' : World} {v : Value} {l : List Int} (h : RdB w v l) (hb : Below w.heap.size w w') : RdB w' v l := Rd.fr h (Fr.of_below hb no) (fun _ _ e => e)

/-- Are two rows one? -/
def sameB (a b : List Int) : Bool := decide (a = b)
theorem sameB_len {a b : List Int} (h : a.length ≠ b.length) : sameB a b = false := by
  unfold sameB; simp; exact fun e => h (by rw [e])
theorem sameB_no {a b : List Int} {i : Nat} (ha : i < a.length) (hb : i < b.length) (h : a[i] ≠ b[i]) : sameB a b = false := by
  unfold sameB; simp; intro e; subst e; exact h rfl
theorem sameB_yes {a b : List Int} (hl : a.length = b.length) (h : ∀ i, (ha : i < a.length) → (hb : i < b.length) → a[i] = b[i]) : sameB a b = true := by
  unfold sameB; simp; exact List.ext_getElem hl (fun i h1 h2 => h i h1 h2)
theorem sameB_self (a : List Int) : sameB a a = true := by simp [sameB]



end Go.Proofs.Ytjjfminpaoooaaa
