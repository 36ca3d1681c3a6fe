/-
  New rows of bytes, as they are read; a row of bytes as a string.
-/
import Derived.Test.YtlpkjnafmknddaaItb
import Derived.Laws.BytesString
import Derived.Lib.SlBytesConst
namespace Go.Proofs.Ytlpkjnafmknddaa
open Go.RowKit
set_option linter.unusedVariables false
theorem strB {w : World} {ad : Addr} {n c : Nat} {l : List Int} (h : RdB w (.slice (some ad) n c) l) : (convert 26 9 (.slice (some ad) n c)).run Try.prog w = .ok (.string (l.foldl (fun r n => r.push (UInt8.ofNat n.toNat)) ByteArray.empty)) w := by
  obtain ⟨hl, a, c', hv, _, hx⟩ := h
  simp at hv
  obtain ⟨rfl, rfl, rfl⟩ := hv
  rw [run_convert_bytes_string w 26 9 5 _ _ _ Try.underlying26 Try.underlying5 Try.underlying9]
  refine run_bytesToString w ad l.length _ l ?_
  have hm : ∀ l : List Int, l.map (Value.int .u8) = l.flatMap encB := fun l => by
    induction l with
    | nil => rfl
    | cons x l ih => rw [List.map_cons, List.flatMap_cons, ih]; rfl
  have := run_loadCells_list (P := Try.prog) w ad (l.flatMap encB) (hx ad rfl)
  rw [hm]
  rw [hl, Nat.mul_one] at this
  exact this
theorem rdB_new {w : World} {cs : Array Value} {l : List Int} {c n b t : Nat} (hb : b = w.heap.size) (hl : n = l.length) (hc : cs.toList = l.flatMap encB) : RdB (w.alloc (.cells cs t)) (.slice (some ⟨b, 0, none⟩) n c) l := by
  subst hb hl
  have h := Rd.new (w := w) (cs := cs) (t := t) (k := 1) (n := l.length) (c := c) rfl (by rw [← Array.length_toList, hc, flat_len encB 1 encB_len])
  rw [hc] at h
  exact h

theorem rdB_newF {w : World} {cs : Array Value} {l : List Int} {c n b t : Nat} {fr : Nat × Nat} (hb : b = w.heap.size) (hl : n = l.length) (hc : cs.toList = l.flatMap encB) : RdB (w.alloc (.cells cs t fr)) (.slice (some ⟨b, 0, none⟩) n c) l := by
  subst hb hl
  refine ⟨by rw [flat_len encB 1 encB_len], _, _, rfl, fun e => (by cases e), fun ad e j u hu => ?_⟩
  cases e
  rw [Addr.add_lit, Nat.zero_add]
  have h := heap_alloc_new' w (.cells cs t fr)
  rw [← hc] at hu
  simp only [World.cell?, h]
  simpa using hu
end Go.Proofs.Ytlpkjnafmknddaa
