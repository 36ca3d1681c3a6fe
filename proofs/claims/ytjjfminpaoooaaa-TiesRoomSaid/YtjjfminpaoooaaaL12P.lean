/-
  Layer 12: TiesRoom: the plain law.
-/
import Derived.Test.YtjjfminpaoooaaaL12A
import Derived.Test.YtjjfminpaoooaaaTieXS
namespace Go.Proofs.Ytjjfminpaoooaaa
open Go.RowKit
set_option linter.unusedVariables false

theorem pos_mem {α : Type} {l : List (Ky × α)} {k : Ky} (hs : Srt l) {i : Nat} (hi : i < l.length) (hk : l[i].1 = k) : pos l k = i := by
  refine pos_of (by omega) (fun t ht hti => ?_) (fun t ht hti => ?_)
  · rw [← hk]; exact hs t i ht hi hti
  · by_cases e : t = i
    · subst e; rw [hk, ordK_self]; exact Int.le_refl _
    · have := hs i t hi ht (by omega)
      rw [hk] at this
      rw [ordK_flip]
      omega
theorem fnd_mem {α : Type} {l : List (Ky × α)} {k : Ky} (hs : Srt l) {e : Ky × α} (he : e ∈ l) (hk : e.1 = k) : fnd l k = true ∧ l[pos l k]? = some e := by
  obtain ⟨i, hi, rfl⟩ := List.getElem_of_mem he
  have hp := pos_mem hs hi hk
  have h2 : l[pos l k]? = some l[i] := by rw [hp, List.getElem?_eq_getElem hi]
  refine ⟨?_, h2⟩
  unfold fnd
  rw [h2]
  simp [hk, ordK_self]
theorem fnd_none {α : Type} {l : List (Ky × α)} {k : Ky} (h : ∀ e ∈ l, e.1 ≠ k) : fnd l k = false := by
  unfold fnd
  cases hx : l[pos l k]? with
  | none => rfl
  | some e =>
    have := List.mem_of_getElem? hx
    simp only [decide_eq_false_iff_not]
    exact fun h0 => h e this (ordK_eq h0)
theorem ord_kn (a b : Int) : ordK (kn a) (kn b) = cmpI a b := by
  unfold ordK Ky.l
  simp [cmpZ, cmpI]
theorem kn_ne {a b : Int} (h : a ≠ b) : kn a ≠ kn b := fun e => h (congrArg Ky.near e)

abbrev chA : ByteArray := ⟨#[97]⟩
/-- So many keys, one behind the other. -/
def tabA (n : Nat) : List ItS := (List.range n).map (fun (j : Nat) => (kn (2 * (j : Int)), chA))
theorem tabA_len (n : Nat) : (tabA n).length = n := by simp [tabA]
theorem tabA_get (n i : Nat) (h : i < (tabA n).length) : (tabA n)[i] = (kn (2 * (i : Int)), chA) := by simp [tabA]
theorem tabA_srt (n : Nat) : Srt (tabA n) := by
  intro i j hi hj hij
  rw [tabA_get, tabA_get, ord_kn]
  unfold cmpI
  rw [if_pos (by omega)]
  decide
theorem tabA_mem {n : Nat} {e : ItS} (h : e ∈ tabA n) : ∃ j : Nat, j < n ∧ e = (kn (2 * (j : Int)), chA) := by
  obtain ⟨i, hi, rfl⟩ := List.getElem_of_mem h
  exact ⟨i, by simpa [tabA_len] using hi, tabA_get n i hi⟩
theorem tabA_new (n : Nat) : fnd (tabA n) (kn (2 * (n : Int))) = false := fnd_none (fun e he => by
  obtain ⟨j, hj, rfl⟩ := tabA_mem he
  exact kn_ne (by omega))
theorem tabA_pos (n : Nat) : pos (tabA n) (kn (2 * (n : Int))) = n := by
  refine pos_of (by rw [tabA_len]; exact Nat.le_refl _) (fun t ht hti => ?_) (fun t ht hti => ?_)
  · rw [tabA_get, ord_kn]; unfold cmpI; rw [if_pos (by omega)]; decide
  · rw [tabA_len] at ht; omega
theorem tabA_put (i n : Nat) (h : i < n) : putES (tabA i) n (kn (2 * (i : Int))) = 0 ∧ putLS (tabA i) n (kn (2 * (i : Int))) chA = tabA (i + 1) := by
  unfold putES putLS
  rw [tabA_new, tabA_len, tabA_pos]
  have h1 : ¬ ((n : Int) ≤ (i : Int)) := by omega
  rw [if_neg (by simp), if_neg h1, if_neg (by simp), if_neg h1]
  refine ⟨rfl, ?_⟩
  rw [List.take_of_length_le (by rw [tabA_len]; exact Nat.le_refl _), List.drop_of_length_le (by rw [tabA_len]; exact Nat.le_refl _)]
  unfold tabA
  rw [List.range_succ, List.map_append]
  rfl

abbrev chB : ByteArray := ⟨#[98]⟩
abbrev chC : ByteArray := ⟨#[99]⟩
abbrev chD : ByteArray := ⟨#[100]⟩
theorem room (n c : Nat) (hc : c < n) : ∃ L1 L2 L3 : List ItS,
    (putES (tabA n) n (kn (2 * (n : Int))) = 6 ∧ putLS (tabA n) n (kn (2 * (n : Int))) chB = tabA n) ∧
    (putES (tabA n) n (kn (2 * (c : Int))) = 0 ∧ putLS (tabA n) n (kn (2 * (c : Int))) chC = L1) ∧
    (getVS L1 (kn (2 * (c : Int))) = .string chC ∧ fnd L1 (kn (2 * (c : Int))) = true ∧ delLS L1 (kn (2 * (c : Int))) = L2) ∧
    (putES L2 n (kn (2 * (n : Int))) = 0 ∧ putLS L2 n (kn (2 * (n : Int))) chD = L3) ∧
    (fnd L3 (kn (2 * (c : Int))) = false ∧ getVS L3 (kn (2 * (c : Int))) = .string .empty) ∧ (getVS L3 (kn (2 * (n : Int))) = .string chD ∧ fnd L3 (kn (2 * (n : Int))) = true ∧ L3.length = n) := by
  have hlc : c < (tabA n).length := by rw [tabA_len]; exact hc
  have hk0 : (tabA n)[c].1 = kn (2 * (c : Int)) := by rw [tabA_get]
  have hpc : pos (tabA n) (kn (2 * (c : Int))) = c := pos_mem (tabA_srt n) hlc hk0
  have hfc : fnd (tabA n) (kn (2 * (c : Int))) = true := (fnd_mem (tabA_srt n) (List.getElem_mem hlc) hk0).1
  obtain ⟨L1, hL1⟩ : ∃ L1, L1 = (tabA n).set c (kn (2 * (c : Int)), chC) := ⟨_, rfl⟩
  have h1len : L1.length = n := by rw [hL1, List.length_set, tabA_len]
  have h1get : ∀ i (h : i < L1.length), (L1[i]'h).1 = kn (2 * (i : Int)) := fun i h => by
    subst hL1
    rw [List.getElem_set]
    split
    · rename_i e; subst e; rfl
    · rw [tabA_get]
  have h1srt : Srt L1 := fun i j hi hj hij => by
    rw [h1get, h1get, ord_kn]
    unfold cmpI
    rw [if_pos (by omega)]
    decide
  have h1c : c < L1.length := by omega
  have h1e : L1[c] = (kn (2 * (c : Int)), chC) := by subst hL1; simp
  obtain ⟨f1, g1⟩ := fnd_mem h1srt (List.getElem_mem h1c) (h1get c h1c)
  have p1 := pos_mem h1srt h1c (h1get c h1c)
  obtain ⟨L2, hL2⟩ : ∃ L2, L2 = L1.eraseIdx c := ⟨_, rfl⟩
  have h2len : L2.length = n - 1 := by rw [hL2, List.length_eraseIdx_of_lt h1c, h1len]
  have h2mem : ∀ e ∈ L2, ∃ j : Nat, j < n ∧ j ≠ c ∧ e.1 = kn (2 * (j : Int)) := fun e he => by
    rw [hL2, List.mem_eraseIdx_iff_getElem] at he
    obtain ⟨i, hi, hne, rfl⟩ := he
    exact ⟨i, by omega, hne, h1get i hi⟩
  have h2srt : Srt L2 := by rw [hL2]; exact srt_eraseS h1srt c
  have f2 : fnd L2 (kn (2 * (n : Int))) = false := fnd_none (fun e he => by
    obtain ⟨j, hj, _, hk⟩ := h2mem e he
    rw [hk]
    exact kn_ne (by omega))
  obtain ⟨L3, hL3⟩ : ∃ L3, L3 = L2.take (pos L2 (kn (2 * (n : Int)))) ++ (kn (2 * (n : Int)), chD) :: L2.drop (pos L2 (kn (2 * (n : Int)))) := ⟨_, rfl⟩
  have h3srt : Srt L3 := by rw [hL3]; exact srt_insS h2srt f2
  have h3mem : ∀ e ∈ L3, e = (kn (2 * (n : Int)), chD) ∨ e ∈ L2 := fun e he => by
    rw [hL3] at he
    rcases List.mem_append.1 he with he | he
    · exact .inr (List.mem_of_mem_take he)
    · rcases List.mem_cons.1 he with he | he
      · exact .inl he
      · exact .inr (List.mem_of_mem_drop he)
  have f3 : fnd L3 (kn (2 * (c : Int))) = false := fnd_none (fun e he => by
    rcases h3mem e he with rfl | he
    · exact kn_ne (by omega)
    · obtain ⟨j, hj, hne, hk⟩ := h2mem e he
      rw [hk]
      exact kn_ne (by omega))
  obtain ⟨f4, g4⟩ := fnd_mem (l := L3) (k := kn (2 * (n : Int))) (e := (kn (2 * (n : Int)), chD)) h3srt (by rw [hL3]; simp) rfl
  have hm2 : ¬ ((n : Int) ≤ (L2.length : Int)) := by omega
  refine ⟨L1, L2, L3, ⟨?_, ?_⟩, ⟨?_, ?_⟩, ⟨?_, f1, ?_⟩, ⟨?_, ?_⟩, ⟨f3, ?_⟩, ⟨?_, f4, ?_⟩⟩
  · unfold putES; rw [tabA_new, tabA_len, if_neg (by simp), if_pos (Int.le_refl _)]
  · unfold putLS; rw [tabA_new, tabA_len, if_neg (by simp), if_pos (Int.le_refl _)]
  · unfold putES; rw [hfc, if_pos rfl]
  · unfold putLS; rw [hfc, if_pos rfl, hpc, hL1]
  · unfold getVS; rw [f1, if_pos rfl, g1, h1e]
  · unfold delLS; rw [f1, if_pos rfl, p1, hL2]
  · unfold putES; rw [f2, if_neg (by simp), if_neg hm2]
  · unfold putLS; rw [f2, if_neg (by simp), if_neg hm2, hL3]
  · unfold getVS; rw [f3, if_neg (by simp)]
  · unfold getVS; rw [f4, if_pos rfl, g4]
  · have hple := pos_le L2 (kn (2 * (n : Int)))
    rw [hL3, List.length_append, List.length_cons, List.length_take, List.length_drop]
    omega
end Go.Proofs.Ytjjfminpaoooaaa
