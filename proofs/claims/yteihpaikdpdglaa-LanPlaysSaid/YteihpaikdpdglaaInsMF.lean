/-
  slices.Insert of one element in the midst of a row.
-/
import Derived.Test.YteihpaikdpdglaaCpy
import Derived.Test.YteihpaikdpdglaaFlyA
import Derived.Shelf.Spec.SlicesInsertGrow
namespace Go.Proofs.Yteihpaikdpdglaa
open Go.RowKit
set_option linter.unusedVariables false

set_option maxHeartbeats 4000000 in
set_option maxRecDepth 100000 in
/-- There is room. -/
theorem insShiftF (l : List Fl) (x : Fl) (g cap b i : Nat) (w : World) (B : Nat) (hown : Own enF 39 2 B w (.slice (some ⟨g, 0, none⟩) l.length cap) l) (hx : w.heap[b]? = some (.cells (enF x).toArray 39 (0, 0)))
    (h1 : ∀ u ∈ l.flatMap enF, u.oneCell' = true) (h1x : ∀ u ∈ enF x, u.oneCell' = true) (hi : i < l.length) (hl : l.length ≤ 100000) (hgb : b ≠ g) (hroom : l.length + 1 ≤ cap) :
    Calls Try.prog 55 #[.slice (some ⟨g, 0, none⟩) l.length cap, .int .i64 i, .slice (some ⟨b, 0, none⟩) 1 1] w fun e w' => e = .returned (.slice (some ⟨g, 0, none⟩) (l.length + 1) cap) ∧
      Own enF 39 2 B w' (.slice (some ⟨g, 0, none⟩) (l.length + 1) cap) (l.take i ++ x :: l.drop i) ∧ Fr (fun q => q = g) w w' := by
  obtain ⟨i1, hi1, hz3, hz4, hz5⟩ := info_parts infoF
  have hsz : (Try.prog.info? 39).map (·.size) = some 2 := by rw [hi1]; simp [hz4]
  have hxl : (l.flatMap enF).length = l.length * 2 := hown.1
  obtain ⟨cur, hBg, hg, hcm, hcs, htake⟩ : ∃ cur : Array Value, B ≤ g ∧ w.heap[g]? = some (.cells cur 39 (0, 0)) ∧ cap ≤ maxLen ∧ cur.size = cap * 2 ∧ cur.toList.take (l.length * 2) = l.flatMap enF := by
    rcases hown.2 with ⟨h0, _⟩ | ⟨g', cap', cur, h0, hBg, hg, hnc, hcm, hcs, htake⟩
    · simp at h0
    · simp at h0
      obtain ⟨rfl, rfl⟩ := h0
      exact ⟨cur, hBg, hg, hcm, hcs, htake⟩
  have hcells : ∀ j u, (l.flatMap enF)[j]? = some u → w.cell? ⟨g, j, none⟩ = some u := fun j u hu => by
    have := hown.cells (g := g) rfl j u hu
    rwa [Addr.add_lit, Nat.zero_add] at this
  obtain ⟨n, hn⟩ : ∃ n, n = l.length := ⟨_, rfl⟩
  rw [← hn] at hxl htake hi hl hroom ⊢
  have hc63 : cap ≤ 9223372036854775807 := by unfold maxLen at hcm; omega
  have hov : ∀ lb cb, (callFunc 61 #[.slice (some ⟨b, 0, none⟩) 1 1, .slice (some ⟨g, (i + 1) * 2, none⟩) lb cb]).run Try.prog w = .ok (.value (.bool false)) w := fun lb cb => by
    rw [run_callFunc_extern Try.func61 (by kernel_rfl) (by kernel_rfl) (by kernel_rfl) (e := Extern.SlicesOverlaps.overlaps #[36, 36] #[4]) (by kernel_rfl),
      Lib.run_overlaps_apart w 36 4 39 Try.underlying36 2 (fun w => by simp [sizeOf, typeInfo, hi1, hz4]) ⟨b, 0, none⟩ ⟨g, (i + 1) * 2, none⟩ 1 1 lb cb hgb _ _ _ _ (shape_blk hx) (shape_blk hg) (by rw [hcs]; omega) (blk_free hx 0) (blk_free hx _)]
    rfl
  have hdl : ((l.flatMap enF).drop (i * 2)).length = (n - i) * 2 := by rw [List.length_drop, hxl, Nat.sub_mul]
  obtain ⟨R1, hR1⟩ : ∃ R1, R1 = cur.toList.take ((i + 1) * 2) ++ (l.flatMap enF).drop (i * 2) ++ cur.toList.drop ((i + 1) * 2 + ((l.flatMap enF).drop (i * 2)).length) := ⟨_, rfl⟩
  obtain ⟨R2, hR2⟩ : ∃ R2, R2 = R1.take (i * 2) ++ enF x ++ R1.drop (i * 2 + (enF x).length) := ⟨_, rfl⟩
  have hfit2 : (n + 1) * 2 ≤ cap * 2 := Nat.mul_le_mul_right _ hroom
  have hk1 : (i + 1) * 2 ≤ cap * 2 := Nat.mul_le_mul_right _ (by omega)
  have hR1l : R1.length = cur.size := by
    rw [hR1]
    simp only [List.length_append, List.length_take, List.length_drop, Array.length_toList, hxl]
    omega
  have hR2l : R2.length = cur.size := by
    rw [hR2]
    have : (enF x).length = 2 := enF_len x
    simp only [List.length_append, List.length_take, List.length_drop, hR1l, this]
    omega
  have hR2t : R2.take ((n + 1) * 2) = (l.flatMap enF).take (i * 2) ++ enF x ++ (l.flatMap enF).drop (i * 2) := by
    rw [hR2]
    exact ins_shift cur.toList _ _ n i 2 htake hxl (enF_len x) (by omega) (by simp; omega) R1 hR1
  have hcp1 : ∀ ty dc sc, (Builtin.copy_ #[36, 36] ty #[.slice (some ⟨g, (i + 1) * 2, none⟩) (n - i) dc, .slice (some ⟨g, i * 2, none⟩) (n + 1 - i) sc]).run Try.prog w.drew = .ok (goInt (n - i)) (w.drew.setRow g R1.toArray) := fun ty dc sc => by
    have := run_copyk (P := Try.prog) w.drew 36 36 ty 39 2 g ((i + 1) * 2) (n - i) dc ⟨g, i * 2, none⟩ (n + 1 - i) sc cur 39 ((l.flatMap enF).drop (i * 2)) Try.underlying36 hsz hg (by rw [hdl]; congr 1; simp only [Nat.min_def]; split <;> omega)
      (fun j u hu => by rw [Addr.add_lit]; rw [List.getElem?_drop] at hu; exact hcells _ u hu) (by rw [hdl]; omega) (fun u hu => h1 u (List.mem_of_mem_drop hu))
    rw [← hR1] at this
    rw [this]
    congr 2
    simp only [Nat.min_def]; split <;> omega
  have hg1 : (w.drew.setRow g R1.toArray).heap[g]? = some (.cells R1.toArray 39 (0, 0)) := setRow_heap w.drew g cur _ 39 _ hg
  have hx1 : (w.drew.setRow g R1.toArray).heap[b]? = some (.cells (enF x).toArray 39 (0, 0)) := (setRow_other w.drew g b _ hgb).trans hx
  have hcp2 : ∀ (W : World), W.heap = (w.drew.setRow g R1.toArray).heap → ∀ ty dc, (Builtin.copy_ #[36, 36] ty #[.slice (some ⟨g, i * 2, none⟩) (n + 1 - i) dc, .slice (some ⟨b, 0, none⟩) 1 1]).run Try.prog W = .ok (goInt 1) (W.setRow g R2.toArray) := fun W hW ty dc => by
    have := run_copyk (P := Try.prog) W 36 36 ty 39 2 g (i * 2) (n + 1 - i) dc ⟨b, 0, none⟩ 1 1 R1.toArray 39 (enF x) Try.underlying36 hsz (by rw [hW]; exact hg1) (by rw [enF_len]; simp only [Nat.min_def]; split <;> omega)
      (fun j u hu => by rw [Addr.add_lit, Nat.zero_add, blk_cell (by rw [hW]; exact hx1)]; simpa using hu) (by rw [enF_len]; simp [hR1l, hcs]; omega) h1x
    rw [this]
    congr 2
    · simp only [Nat.min_def]; split
      · rfl
      · omega
    · simp [hR2]
  have fin : ∀ W : World, W.heap = ((w.drew.setRow g R1.toArray).setRow g R2.toArray).heap → W.os = w.os → W.tape = w.tape → W.output = w.output →
      Hid (Own enF 39 2 B W (.slice (some ⟨g, 0, none⟩) (n + 1) cap) (l.take i ++ x :: l.drop i) ∧ Fr (fun q => q = g) w W) := fun W hW h2 h3 h4 => by
    refine ⟨?_, ⟨h2, h3, h4, by rw [hW]; simp, fun k hk hne => by rw [hW, setRow_other _ g k _ hne, setRow_other _ g k _ hne]; rfl⟩⟩
    have hl2 : (l.take i ++ x :: l.drop i).length = n + 1 := by simp; omega
    unfold Own
    rw [hl2, flat_ins, ← flat_take enF 2 enF_len, ← flat_drop enF 2 enF_len, ← hR2t]
    refine ⟨by rw [List.length_take, hR2l, hcs]; omega, .inr ⟨g, cap, R2.toArray, rfl, hBg, by rw [hW]; exact setRow_heap _ g _ _ 39 _ hg1, hroom, hcm, by simp [hR2l, hcs], by simp⟩⟩
  have Fin := Lib.hid fin
  have hz1 : ¬ ((i : Int) = (n : Int)) := by omega
  have hb2 : ¬ (cap = i + 1) := by omega
  have hb3 : (i : Int) ≤ (n : Int) + 1 := by omega
  have hb4 : ¬ (cap = i) := by omega
  have hb5 : (i : Int) ≤ (n : Int) := by omega
  have hb6 : (n : Int) ≤ (cap : Int) := by omega
  have hb7 : (n : Int) + 1 ≤ (cap : Int) := by omega
  have hw1 : IntKind.i64.wrap ((i : Int) + 1) = (i : Int) + 1 := by rw [IntKind.wrap_i64]; omega
  have hw2 : IntKind.i64.wrap ((n : Int) + 1) = (n : Int) + 1 := by rw [IntKind.wrap_i64]; omega
  have hb1 : (0 : Int) ≤ (i : Int) + 1 := by omega
  have hb8 : (i : Int) + 1 ≤ (n : Int) + 1 := by omega
  have hin : i ≤ n := by omega
  have htn : ((i : Int) + 1).toNat = i + 1 := by omega
  have htn2 : ((n : Int) + 1).toNat = n + 1 := by omega
  have mixed : Try.prog.follows .mixedOrders = true := by kernel_rfl
  clear hn hown hcells fin hR1 hR2 hR2t hR2l hR1l hfit2 hk1 hg1 hx1 hdl hsz hz3 hz4 hz5 hi1 hxl htake hcs hg
  go_enter Try.func55, Try.ntmps55
  try simp only [Nat.mul_one] at hov hcp1 hcp2
  go_wp2_with (simp only [hov])
  go_region_law_o (refine step_copy_runI rfl _ _ 36 36 rfl _ _ (by simp [Act.eval, Act.put]) (by simp [Act.eval, Act.put]) (hcp1 _ _ _) ?_)
  go_wp2_with (at_builtin; refine wpList_copy_runI _ rfl _ _ 36 36 rfl _ _ rfl rfl (hcp2 _ rfl _ _) ?_)
  go_ret
  refine ⟨rfl, Hid.out (Fin.out _ ?_ ?_ ?_ ?_)⟩
  all_goals rfl

set_option maxHeartbeats 4000000 in
set_option maxRecDepth 100000 in
/-- There is no room: a new row. -/
theorem insGrowF (l : List Fl) (x : Fl) (g cap b i : Nat) (w : World) (B : Nat) (hB : B ≤ w.heap.size) (hown : Own enF 39 2 B w (.slice (some ⟨g, 0, none⟩) l.length cap) l) (hx : w.heap[b]? = some (.cells (enF x).toArray 39 (0, 0)))
    (h1 : ∀ u ∈ l.flatMap enF, u.oneCell' = true) (h1x : ∀ u ∈ enF x, u.oneCell' = true) (hi : i < l.length) (hl : l.length ≤ 100000) (hroom : cap < l.length + 1) :
    Calls Try.prog 55 #[.slice (some ⟨g, 0, none⟩) l.length cap, .int .i64 i, .slice (some ⟨b, 0, none⟩) 1 1] w fun e w' => ∃ G, e = .returned (.slice (some ⟨w.heap.size, 0, none⟩) (l.length + 1) G) ∧
      Own enF 39 2 B w' (.slice (some ⟨w.heap.size, 0, none⟩) (l.length + 1) G) (l.take i ++ x :: l.drop i) ∧ Below w.heap.size w w' := by
  obtain ⟨i1, hi1, hz3, hz4, hz5⟩ := info_parts infoF
  have hsz : (Try.prog.info? 39).map (·.size) = some 2 := by rw [hi1]; simp [hz4]
  have hxl : (l.flatMap enF).length = l.length * 2 := hown.1
  have hnc : l.length ≤ cap := by
    rcases hown.2 with ⟨h0, _⟩ | ⟨g', cap', cur, h0, hBg, hg, hnc, hcm, hcs, htake⟩
    · simp at h0
    · simp at h0
      obtain ⟨rfl, rfl⟩ := h0
      exact hnc
  have hcells : ∀ j u, (l.flatMap enF)[j]? = some u → w.cell? ⟨g, j, none⟩ = some u := fun j u hu => by
    have := hown.cells (g := g) rfl j u hu
    rwa [Addr.add_lit, Nat.zero_add] at this
  have hgw : g < w.heap.size := own_lt hown (g := g) rfl
  have hbw : b < w.heap.size := lt_of_block hx
  obtain ⟨n, hn⟩ : ∃ n, n = l.length := ⟨_, rfl⟩
  obtain ⟨xs, hxs⟩ : ∃ xs, xs = l.flatMap enF := ⟨_, rfl⟩
  have hfi1 : xs.take (i * 2) = (l.take i).flatMap enF := by rw [hxs]; exact flat_take enF 2 enF_len l i
  have hfi2 : xs.drop (i * 2) = (l.drop i).flatMap enF := by rw [hxs]; exact flat_drop enF 2 enF_len l i
  have hl2 : (l.take i ++ x :: l.drop i).length = n + 1 := by simp; omega
  rw [← hn] at hxl hi hl hroom hnc ⊢
  rw [← hxs] at hxl h1 hcells
  have hkk : (n : Int) + 1 - (i : Int) = ((n + 1 - i : Nat) : Int) := by omega
  have hik : i + (n + 1 - i) = n + 1 := by omega
  have e3 : i * 2 ≤ n * 2 := Nat.mul_le_mul_right _ (by omega)
  have hold : (Builtin.firstCells i1.size i (.slice (some ⟨g, 0, none⟩) i cap)).run Try.prog w.drew = .ok (xs.take (i * 2)).toArray w.drew := by
    rw [hz4]
    exact run_firstCells_some w.drew 2 i ⟨g, 0, none⟩ i cap (xs.take (i * 2)) (by rw [List.length_take]; omega) (fun j u hj => by
      rw [Addr.add_lit, Nat.zero_add]
      rw [List.getElem?_take] at hj
      split at hj
      · exact hcells j u hj
      · cases hj)
  obtain ⟨G, hG⟩ : ∃ G, G = grownCap w (n + 1) cap 39 := ⟨_, rfl⟩
  obtain ⟨Z, hZ⟩ : ∃ Z : Array Value, Z = Builtin.zeroCells (.agg #[.slice none 0 0, .int .i64 0] : Value).cells (n + 1 - i) ++ Builtin.zeroCells (.agg #[.slice none 0 0, .int .i64 0] : Value).cells (G - (n + 1)) := ⟨_, rfl⟩
  obtain ⟨ROW, hROW⟩ : ∃ ROW : Array Value, ROW = (xs.take (i * 2)).toArray ++ Z := ⟨_, rfl⟩
  have hGn : n + 1 ≤ G := by rw [hG]; exact grownCap_ge w _ _ _
  have hGm : G ≤ maxLen := by rw [hG]; exact grownCap_le_maxLen w (n + 1) cap 39 (by unfold maxLen; omega)
  have hG63 : G ≤ 9223372036854775807 := by unfold maxLen at hGm; omega
  have hzc : (.agg #[.slice none 0 0, .int .i64 0] : Value).cells.size = 2 := by rfl
  have hZl : Z.size = (G - i) * 2 := by
    rw [hZ, Array.size_append, zeroCells_size, zeroCells_size, hzc, ← Nat.add_mul]
    congr 1
    omega
  have hRl : ROW.size = G * 2 := by
    rw [hROW, Array.size_append, hZl]
    simp only [List.size_toArray, List.length_take, hxl]
    have : i * 2 ≤ G * 2 := Nat.mul_le_mul_right _ (by omega)
    rw [Nat.sub_mul]
    omega
  have hrz : ∀ ty, (Builtin.append_ #[36, 3] ty #[.slice (some ⟨g, 0, none⟩) i cap, .int .i64 ((n : Int) + 1 - (i : Int))]).run Try.prog w =
      .ok (.slice (some ⟨w.heap.size, 0, none⟩) (n + 1) G) (w.drew.alloc (.cells ROW 39)) := fun ty => by
    have h := Lib.run_append_grow_zeros w 36 3 ty 39 i1 _ .i64 .i64 Try.underlying36 Try.underlying3 hi1 hz3 (some ⟨g, 0, none⟩) i cap (xs.take (i * 2)) hold (n + 1 - i) (by omega) (by rw [hz4]; omega) (by omega) (by omega) (by rw [hz5]; omega) (by rw [hz5, hik]; exact growslice_fits hroom (by omega))
    rw [hik, ← hG] at h
    rw [hkk, h, hROW, hZ, Array.append_assoc]
  obtain ⟨R1, hR1⟩ : ∃ R1, R1 = ROW.toList.take (i * 2) ++ enF x ++ ROW.toList.drop (i * 2 + (enF x).length) := ⟨_, rfl⟩
  have hdl : (xs.drop (i * 2)).length = (n - i) * 2 := by rw [List.length_drop, hxl, Nat.sub_mul]
  obtain ⟨R2, hR2⟩ : ∃ R2, R2 = R1.take ((i + 1) * 2) ++ xs.drop (i * 2) ++ R1.drop ((i + 1) * 2 + (xs.drop (i * 2)).length) := ⟨_, rfl⟩
  have hk1 : (i + 1) * 2 ≤ G * 2 := Nat.mul_le_mul_right _ (by omega)
  have hk2 : (n + 1) * 2 ≤ G * 2 := Nat.mul_le_mul_right _ hGn
  have hxk : (enF x).length = 2 := enF_len x
  have hR1l : R1.length = ROW.size := by
    rw [hR1]
    simp only [List.length_append, List.length_take, List.length_drop, Array.length_toList, hxk]
    omega
  have hR2l : R2.length = ROW.size := by
    rw [hR2]
    simp only [List.length_append, List.length_take, hR1l, List.length_drop, hxl]
    omega
  have hR2t : R2.take ((n + 1) * 2) = xs.take (i * 2) ++ enF x ++ xs.drop (i * 2) := by
    rw [hR2]
    refine ins_new (xs.take (i * 2)) Z.toList xs _ n i 2 rfl hxl hxk (by omega) ?_ R1 ?_
    · rw [Array.length_toList, hZl]
      exact Nat.mul_le_mul_right _ (by omega)
    · rw [hR1, hROW]
      simp
  have hg1 : (w.drew.alloc (.cells ROW 39)).heap[w.heap.size]? = some (.cells ROW 39 (0, 0)) := heap_alloc_new' w.drew _
  have hx1 : (w.drew.alloc (.cells ROW 39)).heap[b]? = some (.cells (enF x).toArray 39 (0, 0)) := (heap_alloc_lt w.drew _ hbw).trans hx
  have hcpA : ∀ (W : World), W.heap = (w.drew.alloc (.cells ROW 39)).heap → ∀ ty dc, (Builtin.copy_ #[36, 36] ty #[.slice (some ⟨w.heap.size, i * 2, none⟩) (n + 1 - i) dc, .slice (some ⟨b, 0, none⟩) 1 1]).run Try.prog W = .ok (goInt 1) (W.setRow w.heap.size R1.toArray) := fun W hW ty dc => by
    have := run_copyk (P := Try.prog) W 36 36 ty 39 2 w.heap.size (i * 2) (n + 1 - i) dc ⟨b, 0, none⟩ 1 1 ROW 39 (enF x) Try.underlying36 hsz (by rw [hW]; exact hg1) (by rw [enF_len]; simp only [Nat.min_def]; split <;> omega)
      (fun j u hu => by rw [Addr.add_lit, Nat.zero_add, blk_cell (by rw [hW]; exact hx1)]; simpa using hu) (by rw [enF_len]; omega) h1x
    rw [this]
    congr 2
    · simp only [Nat.min_def]; split
      · rfl
      · omega
    · simp [hR1]
  have hg2 : ((w.drew.alloc (.cells ROW 39)).setRow w.heap.size R1.toArray).heap[w.heap.size]? = some (.cells R1.toArray 39 (0, 0)) := setRow_heap _ _ _ _ 39 _ hg1
  have hcpB : ∀ (W : World), W.heap = ((w.drew.alloc (.cells ROW 39)).setRow w.heap.size R1.toArray).heap → ∀ ty dc sc, (Builtin.copy_ #[36, 36] ty #[.slice (some ⟨w.heap.size, (i + 1) * 2, none⟩) (n - i) dc, .slice (some ⟨g, i * 2, none⟩) (n - i) sc]).run Try.prog W = .ok (goInt (n - i)) (W.setRow w.heap.size R2.toArray) := fun W hW ty dc sc => by
    have := run_copyk (P := Try.prog) W 36 36 ty 39 2 w.heap.size ((i + 1) * 2) (n - i) dc ⟨g, i * 2, none⟩ (n - i) sc R1.toArray 39 (xs.drop (i * 2)) Try.underlying36 hsz (by rw [hW]; exact hg2) (by rw [hdl]; simp only [Nat.min_def]; split <;> omega)
      (fun j u hu => by
        rw [Addr.add_lit]
        rw [List.getElem?_drop] at hu
        have h := hcells _ u hu
        rw [World.cell?_of_block (w := w) (by rw [hW]; exact (setRow_other _ _ g _ (by omega)).trans (heap_alloc_lt w.drew _ hgw))]
        exact h) (by rw [hdl]; simp only [List.size_toArray, hR1l, hRl]; rw [Nat.sub_mul]; omega) (fun u hu => h1 u (List.mem_of_mem_drop hu))
    rw [this]
    congr 2
    · simp only [Nat.min_def]; split <;> omega
    · simp [hR2]
  have fin : ∀ W : World, W.heap = (((w.drew.alloc (.cells ROW 39)).setRow w.heap.size R1.toArray).setRow w.heap.size R2.toArray).heap → W.os = w.os → W.tape = w.tape → W.output = w.output →
      Hid (Own enF 39 2 B W (.slice (some ⟨w.heap.size, 0, none⟩) (n + 1) G) (l.take i ++ x :: l.drop i) ∧ Below w.heap.size w W) := fun W hW h2 h3 h4 => by
    refine ⟨?_, ⟨h2, h3, h4, by rw [hW]; simp, fun k hk => by rw [hW, setRow_other _ _ k _ (by omega), setRow_other _ _ k _ (by omega)]; exact heap_alloc_lt w.drew _ hk⟩⟩
    unfold Own
    rw [hl2, flat_ins, ← hfi1, ← hfi2, ← hR2t]
    refine ⟨by rw [List.length_take, hR2l, hRl]; omega, .inr ⟨w.heap.size, G, R2.toArray, rfl, hB, by rw [hW]; exact setRow_heap _ _ _ _ 39 _ hg2, hGn, hGm, by simp [hR2l, hRl], by simp⟩⟩
  have Fin := Lib.hid fin
  have hz1 : ¬ ((i : Int) = (n : Int)) := by omega
  have hz2 : (cap : Int) < (n : Int) + 1 := by omega
  have hb3 : (i : Int) ≤ (n : Int) + 1 := by omega
  have hb4 : ¬ (G = i) := by omega
  have hb4' : ¬ (cap = i) := by omega
  have hb2 : ¬ (G = i + 1) := by omega
  have hb5 : (i : Int) ≤ (n : Int) := by omega
  have hb6 : (n : Int) ≤ (cap : Int) := by omega
  have hb7 : (n : Int) + 1 ≤ (G : Int) := by omega
  have hb9 : (i : Int) ≤ (cap : Int) := by omega
  have hc63 : cap ≤ 9223372036854775807 := by omega
  have hw1 : IntKind.i64.wrap ((i : Int) + 1) = (i : Int) + 1 := by rw [IntKind.wrap_i64]; omega
  have hw2 : IntKind.i64.wrap ((n : Int) + 1) = (n : Int) + 1 := by rw [IntKind.wrap_i64]; omega
  have hw3 : IntKind.i64.wrap ((n : Int) + 1 - (i : Int)) = (n : Int) + 1 - (i : Int) := by rw [IntKind.wrap_i64]; omega
  have hb1 : (0 : Int) ≤ (i : Int) + 1 := by omega
  have hb8 : (i : Int) + 1 ≤ (n : Int) + 1 := by omega
  have hin : i ≤ n := by omega
  have htn : ((i : Int) + 1).toNat = i + 1 := by omega
  have htn2 : ((n : Int) + 1).toNat = n + 1 := by omega
  have mixed : Try.prog.follows .mixedOrders = true := by kernel_rfl
  try simp only [Nat.mul_one] at hrz hcpA hcpB
  clear hn hxs hown hcells fin hR1 hR2 hR2t hR2l hR1l hk1 hk2 hg1 hg2 hx1 hdl hsz hz3 hz4 hz5 hi1 hxl hkk hik e3 hold hG hROW hZ hRl hZl hzc hfi1 hfi2 hl2
  go_enter Try.func55, Try.ntmps55
  go_wp2_with (at_builtin; refine held ?_)
  refine unheld ?_
  refine Lib.wpList_append_run _ rfl _ _ _ _ rfl _ _ rfl rfl _ _ (hrz _) ?_
  have hcpA1 := fun ty dc => hcpA (w.alloc (.cells ROW 39)).drew rfl ty dc
  have hcpB1 := fun ty dc sc => hcpB ((w.alloc (.cells ROW 39)).drew.setRow w.heap.size R1.toArray).drew rfl ty dc sc
  clear hcpA hrz hcpB
  go_wp2_with fail
  go_region_law_o (fail)
  go_wp2_with fail
  go_ret
  refine ⟨G, rfl, Hid.out (Fin.out _ ?_ ?_ ?_ ?_)⟩
  all_goals rfl

/-- slices.Insert of one element ahead of the i-th. -/
theorem insMidF (l : List Fl) (x : Fl) (g cap b i : Nat) (w : World) (B : Nat) (hB : B ≤ w.heap.size) (hown : Own enF 39 2 B w (.slice (some ⟨g, 0, none⟩) l.length cap) l) (hx : w.heap[b]? = some (.cells (enF x).toArray 39 (0, 0)))
    (h1 : ∀ u ∈ l.flatMap enF, u.oneCell' = true) (h1x : ∀ u ∈ enF x, u.oneCell' = true) (hi : i < l.length) (hl : l.length ≤ 100000) (hgb : b ≠ g) :
    Calls Try.prog 55 #[.slice (some ⟨g, 0, none⟩) l.length cap, .int .i64 i, .slice (some ⟨b, 0, none⟩) 1 1] w fun e w' => ∃ sv', e = .returned sv' ∧
      Own enF 39 2 B w' sv' (l.take i ++ x :: l.drop i) ∧ Fr (fun q => q = g) w w' ∧ Mv w (.slice (some ⟨g, 0, none⟩) l.length cap) sv' := by
  by_cases hroom : l.length + 1 ≤ cap
  · exact (insShiftF l x g cap b i w B hown hx h1 h1x hi hl hgb hroom).mono fun e w' ⟨he, ho, hf⟩ => ⟨_, he, ho, hf, fun q hq => .inl hq⟩
  · exact (insGrowF l x g cap b i w B hB hown hx h1 h1x hi hl (by omega)).mono fun e w' ⟨G, he, ho, hb⟩ => ⟨_, he, ho, Fr.of_below hb _, fun q hq => .inr (by simp [Value.ownBlock] at hq; omega)⟩
end Go.Proofs.Yteihpaikdpdglaa
