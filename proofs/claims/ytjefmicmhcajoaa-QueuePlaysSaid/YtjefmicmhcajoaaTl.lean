/-
  Slices that own the tail of a row (what s = s[i:] leaves): read, cut once more, appended to.
-/
import Derived.Test.YtjefmicmhcajoaaSub
namespace Go.Proofs.Ytjefmicmhcajoaa
open Go.RowKit
set_option linter.unusedVariables false

/-- The slice v holds xs, in a row from some place on, and may be appended to. -/
def TlR (w : World) (e k B : Nat) (v : Value) (n : Nat) (xs : List Value) : Prop :=
  xs.length = n * k ∧ ((v = .slice none 0 0 ∧ n = 0) ∨ ∃ g o cap cur, v = .slice (some ⟨g, o, none⟩) n cap ∧ B ≤ g ∧ w.heap[g]? = some (.cells cur e (0, 0)) ∧ n ≤ cap ∧ cap ≤ maxLen ∧ o + cap * k ≤ cur.size ∧ (cur.toList.drop o).take (n * k) = xs)

theorem TlR.of_own {w : World} {B e k : Nat} {v : Value} {n : Nat} {xs : List Value} (h : w.ownsRow B e k v n xs) : TlR w e k B v n xs := by
  refine ⟨h.1, ?_⟩
  rcases h.2 with h | ⟨g, cap, cur, h0, hb, hg, h1, h2, h3, h4⟩
  · exact .inl h
  · exact .inr ⟨g, 0, cap, cur, h0, hb, hg, h1, h2, by omega, by simpa using h4⟩
theorem TlR.nil (w : World) (e k B : Nat) : TlR w e k B (.slice none 0 0) 0 [] := ⟨by simp, .inl ⟨rfl, rfl⟩⟩
theorem TlR.keep {w w' : World} {e k B : Nat} {v : Value} {n : Nat} {xs : List Value} (h : TlR w e k B v n xs) (hk : ∀ g, v.ownBlock = some g → w'.heap[g]? = w.heap[g]?) : TlR w' e k B v n xs := by
  refine ⟨h.1, ?_⟩
  rcases h.2 with h | ⟨g, o, cap, cur, h0, hb, hg, r⟩
  · exact .inl h
  · exact .inr ⟨g, o, cap, cur, h0, hb, (hk g (by rw [h0]; rfl)).trans hg, r⟩
theorem TlR.lt {w : World} {e k B : Nat} {v : Value} {n : Nat} {xs : List Value} (h : TlR w e k B v n xs) {g : Nat} (hg : v.ownBlock = some g) : B ≤ g ∧ g < w.heap.size := by
  rcases h.2 with ⟨rfl, _⟩ | ⟨g', o, cap, cur, rfl, hb, hc, _⟩
  · simp [Value.ownBlock] at hg
  · simp [Value.ownBlock] at hg; subst hg; exact ⟨hb, lt_of_block hc⟩
theorem TlR.base {w : World} {e k B B' : Nat} {v : Value} {n : Nat} {xs : List Value} (h : TlR w e k B v n xs) (hB : ∀ g, v.ownBlock = some g → B' ≤ g) : TlR w e k B' v n xs := by
  refine ⟨h.1, ?_⟩
  rcases h.2 with h | ⟨g, o, cap, cur, h0, hb, r⟩
  · exact .inl h
  · exact .inr ⟨g, o, cap, cur, h0, hB g (by rw [h0]; rfl), r⟩
theorem TlR.type {w : World} {e k B : Nat} {v : Value} {n : Nat} {xs : List Value} (h : TlR w e k B v n xs) {g : Nat} (hg : v.ownBlock = some g) : ∃ cur, w.heap[g]? = some (.cells cur e (0, 0)) := by
  rcases h.2 with ⟨rfl, _⟩ | ⟨g', o, cap, cur, rfl, hb, hc, _⟩
  · simp [Value.ownBlock] at hg
  · simp [Value.ownBlock] at hg; subst hg; exact ⟨cur, hc⟩
theorem TlR.ne {w : World} {e k B : Nat} {v : Value} {n : Nat} {xs : List Value} (h : TlR w e k B v n xs) {b : Nat} {cs : Array Value} {t : TypeId} {fr : Nat × Nat} (hb : w.heap[b]? = some (.cells cs t fr)) (ht : t ≠ e) : v.ownBlock ≠ some b := by
  intro hg
  obtain ⟨cur, hc⟩ := h.type hg
  rw [hc] at hb
  injection hb with hb
  injection hb with _ h2 _
  exact ht h2.symm
theorem TlR.shape {w : World} {e k B : Nat} {v : Value} {n : Nat} {xs : List Value} (h : TlR w e k B v n xs) : ∃ a cap, v = .slice a n cap ∧ n ≤ cap ∧ cap ≤ maxLen := by
  rcases h.2 with ⟨h0, rfl⟩ | ⟨g, o, cap, cur, rfl, _, hg, h1, h2, h3, h4⟩
  · exact ⟨none, 0, h0, Nat.le_refl _, Nat.zero_le _⟩
  · exact ⟨_, cap, rfl, h1, h2⟩
theorem TlR.some' {w : World} {e k B : Nat} {v : Value} {n : Nat} {xs : List Value} (h : TlR w e k B v n xs) (hn : 0 < n) : ∃ g o cap, v = .slice (some ⟨g, o, none⟩) n cap ∧ B ≤ g ∧ g < w.heap.size ∧ n ≤ cap ∧ cap ≤ maxLen := by
  rcases h.2 with ⟨h0, rfl⟩ | ⟨g, o, cap, cur, rfl, hb, hg, h1, h2, h3, h4⟩
  · omega
  · exact ⟨g, o, cap, rfl, hb, lt_of_block hg, h1, h2⟩
/-- The cells. -/
theorem TlR.cells {w : World} {e k B : Nat} {g o n cap : Nat} {xs : List Value} (h : TlR w e k B (.slice (some ⟨g, o, none⟩) n cap) n xs) (j : Nat) (u : Value) (hu : xs[j]? = some u) : w.cell? ⟨g, o + j, none⟩ = some u := by
  rcases h.2 with ⟨h0, _⟩ | ⟨g', o', cap', cur, h0, hb, hg, h1, h2, h3, h4⟩
  · cases h0
  · simp at h0
    obtain ⟨⟨rfl, rfl⟩, rfl⟩ := h0
    rw [blk_cell hg]
    rw [← h4, List.getElem?_take] at hu
    split at hu
    · rw [List.getElem?_drop] at hu
      simpa using hu
    · cases hu
theorem TlR.rd {w : World} {e k B : Nat} {v : Value} {n : Nat} {xs : List Value} (h : TlR w e k B v n xs) : Rd w k v n xs := by
  refine ⟨h.1, ?_⟩
  rcases h.2 with ⟨rfl, rfl⟩ | ⟨g, o, cap, cur, rfl, hb, hg, h1, h2, h3, h4⟩
  · exact ⟨none, 0, rfl, fun _ => ⟨rfl, rfl⟩, fun _ e => by cases e⟩
  · refine ⟨_, cap, rfl, fun e => (by cases e), fun ad e => ?_⟩
    cases e
    intro j u hu
    rw [Addr.add_lit]
    exact TlR.cells ⟨h.1, .inr ⟨g, o, cap, cur, rfl, hb, hg, h1, h2, h3, h4⟩⟩ j u hu
/-- s[i:]. -/
theorem TlR.drop {w : World} {e k B : Nat} {g o n cap : Nat} {xs : List Value} (h : TlR w e k B (.slice (some ⟨g, o, none⟩) n cap) n xs) {i : Nat} (hi : i ≤ n) :
    TlR w e k B (.slice (if cap = i then some ⟨g, o, none⟩ else some ⟨g, o + i * k, none⟩) (n - i) (cap - i)) (n - i) (xs.drop (i * k)) := by
  rcases h.2 with ⟨h0, _⟩ | ⟨g', o', cap', cur, h0, hb, hg, h1, h2, h3, h4⟩
  · cases h0
  simp at h0
  obtain ⟨⟨rfl, rfl⟩, rfl⟩ := h0
  have hl : (xs.drop (i * k)).length = (n - i) * k := by rw [List.length_drop, h.1, Nat.sub_mul]
  refine ⟨hl, .inr ?_⟩
  have hik : i * k ≤ cap * k := Nat.mul_le_mul_right _ (by omega)
  by_cases hc : cap = i
  · rw [if_pos hc]
    refine ⟨g, o, cap - i, cur, rfl, hb, hg, by omega, by omega, by rw [Nat.sub_mul]; omega, ?_⟩
    have : n - i = 0 := by omega
    rw [this, Nat.zero_mul] at hl ⊢
    rw [List.take_zero]
    exact (List.eq_nil_of_length_eq_zero hl).symm
  · rw [if_neg hc]
    refine ⟨g, o + i * k, cap - i, cur, rfl, hb, hg, by omega, by omega, by rw [Nat.sub_mul]; omega, ?_⟩
    rw [← h4, List.drop_take, List.drop_drop, Nat.sub_mul]

section
variable {P : Program} {w : World} {a : Act} {o : Oper} {Q : Exit → Act → World → Prop}

/-- append, run, at the tail of a row. -/
theorem run_appT (t ty e : TypeId) (i : TypeInfo) (z : Value) (k bytes : Nat) (ht : P.underlying t = some (.slice e)) (hi : P.info? e = some i) (hz : i.zero = some z)
    (hk : i.size = k) (hby : i.bytes = bytes) (hzs : z.cells.size = k) (hk0 : 0 < k)
    {B : Nat} (hB : B ≤ w.heap.size) {v xv : Value} {n m : Nat} {xs news : List Value} (hown : TlR w e k B v n xs) (hrd : Rd w k xv m news) (h1 : ∀ u ∈ news, u.oneCell' = true)
    (h63 : n + m ≤ maxLen) (hb : (n + m) * bytes ≤ 140737488355328) :
    ∃ v' w', (Builtin.append_ #[t, t] ty #[v, xv]).run P w = .ok v' w' ∧ TlR w' e k B v' (n + m) (xs ++ news) ∧ Fr (fun b => v.ownBlock = some b) w w' ∧
      (v'.ownBlock = v.ownBlock ∨ v'.ownBlock = some w.heap.size) ∧ (w'.heap.size ≤ w.heap.size + 1) := by
  subst hk
  subst hby
  have hsmall : n + m ≤ 9223372036854775807 := by simp only [maxLen] at h63; omega
  rcases hown.2 with ⟨rfl, rfl⟩ | ⟨g, o, cap, cur, rfl, hBg, hg, hnc, hcm, hcs, htake⟩
  · have hx : xs = [] := List.eq_nil_of_length_eq_zero (by simpa using hown.1)
    subst hx
    obtain ⟨v', w', hr, h2, h3, h4, h5, h6⟩ := run_app (P := P) (w := w) t ty e i z i.size i.bytes ht hi hz rfl rfl hzs hk0 hB (World.ownsRow_nil w B e i.size) hrd h1 (by omega) (by simpa using hb)
    exact ⟨v', w', hr, TlR.of_own h2, h3, h4, h6⟩
  · obtain ⟨hl, ad, c, rfl, hnone, hsome⟩ := hrd
    have hlen : (xs ++ news).length = (n + m) * i.size := by rw [List.length_append, hown.1, hl, Nat.add_mul]
    have hcur : o + n * i.size ≤ cur.size := Nat.le_trans (Nat.add_le_add_left (Nat.mul_le_mul_right _ hnc) _) hcs
    by_cases hroom : n + m ≤ cap
    · have hfit : o + n * i.size + news.length ≤ cur.size := by
        have h9 : (n + m) * i.size ≤ cap * i.size := Nat.mul_le_mul_right _ hroom
        rw [Nat.add_mul] at h9
        rw [hl]
        omega
      have hst := run_storeCells_at P g (o + n * i.size) e news 0 cur w hg (by simpa using hfit) h1
      simp only [Nat.add_zero] at hst
      have hr : (Builtin.append_ #[t, t] ty #[.slice (some ⟨g, o, none⟩) n cap, .slice ad m c]).run P w =
          .ok (.slice (some ⟨g, o, none⟩) (n + m) cap) (w.setRow g (cur.toList.take (o + n * i.size) ++ news ++ cur.toList.drop (o + n * i.size + news.length)).toArray) := by
        cases ad with
        | some ad =>
          have hf := run_firstCells_some (P := P) w i.size m ad m c news hl (hsome ad rfl)
          simp [Builtin.append_, run_underlying ht, sizeOf, typeInfo, hi, Builtin.lenOf, hroom, hf, Addr.add_lit, hst]
        | none =>
          obtain ⟨rfl, rfl⟩ := hnone rfl
          have hn : news = [] := List.eq_nil_of_length_eq_zero (by simpa using hl)
          subst hn
          have hnc' : n ≤ cap := by omega
          simp [Builtin.append_, run_underlying ht, sizeOf, typeInfo, hi, Builtin.lenOf, hnc', run_firstCells_none, storeCells, setRow_self w g cur e (0, 0) hg]
      refine ⟨_, _, hr, ⟨hlen, .inr ⟨g, o, cap, _, rfl, hBg, setRow_heap w g cur _ e _ hg, hroom, hcm, ?_, ?_⟩⟩, Fr.setRow (S := fun b => (Value.slice (some ⟨g, o, none⟩) n cap).ownBlock = some b) (Fr.refl _ w) (fun _ => rfl) _, .inl rfl, by simp⟩
      · simp only [List.size_toArray, List.length_append, List.length_take, List.length_drop, Array.length_toList]
        omega
      · have h5 : (cur.toList.take (o + n * i.size)).length = o + n * i.size := by rw [List.length_take, Array.length_toList]; omega
        have h6 : (cur.toList.take (o + n * i.size)).drop o = xs := by rw [List.drop_take, Nat.add_sub_cancel_left]; exact htake
        show (((cur.toList.take (o + n * i.size) ++ news) ++ cur.toList.drop (o + n * i.size + news.length)).drop o).take ((n + m) * i.size) = xs ++ news
        rw [List.drop_append_of_le_length (by rw [List.length_append, h5]; omega), List.drop_append_of_le_length (by omega), h6, ← hlen]
        exact List.take_left
    · have holds : ∀ j u, xs[j]? = some u → w.cell? ((⟨g, o, none⟩ : Addr).add j) = some u := fun j u hu => by rw [Addr.add_lit]; exact TlR.cells hown j u hu
      have hge := grownCap_ge w (n + m) cap e
      have hcm' : grownCap w (n + m) cap e ≤ maxLen := grownCap_le_maxLen w (n + m) cap e h63
      cases ad with
      | none => exact absurd (hnone rfl).1 (by omega)
      | some ad =>
        have hr := run_append_grow (P := P) w t ty e i z ht hi hz ⟨g, o, none⟩ n cap xs hown.1 holds ad m c news hl (hsome ad rfl) (by omega) (by omega) (growslice_fits (by omega) hb)
        have hgr := own_new w.drew B e i.size hB (xs ++ news) (Builtin.zeroCells z.cells (grownCap w (n + m) cap e - (n + m))) (n + m) (grownCap w (n + m) cap e) hlen hge hcm' (by rw [hlen, zeroCells_size, hzs, ← Nat.add_mul]; congr 1; omega)
        exact ⟨_, _, hr, TlR.of_own (by simpa using hgr), by simpa using ((Fr.refl (fun b => (Value.slice (some ⟨g, o, none⟩) n cap).ownBlock = some b) w).drew).alloc (.cells ((xs ++ news).toArray ++ Builtin.zeroCells z.cells (grownCap w (n + m) cap e - (n + m))) e), .inr rfl, by simp⟩

theorem op_appT {K : Act → World → Prop} (s x : Operand) (t : TypeId) (ho : o.op = .call { callee := .builtin .append, args := #[s, x], argTypes := #[t, t] })
    (e : TypeId) (i : TypeInfo) (z : Value) (k bytes : Nat) (ht : P.underlying t = some (.slice e)) (hi : P.info? e = some i) (hz : i.zero = some z)
    (hk : i.size = k) (hby : i.bytes = bytes) (hzs : z.cells.size = k) (hk0 : 0 < k)
    {B : Nat} (hB : B ≤ w.heap.size) {v xv : Value} {n m : Nat} {xs news : List Value} (hs : a.eval s = v) (hx : a.eval x = xv) (hown : TlR w e k B v n xs) (hrd : Rd w k xv m news) (h1 : ∀ u ∈ news, u.oneCell' = true)
    (h63 : n + m ≤ maxLen) (hb : (n + m) * bytes ≤ 140737488355328)
    (h : ∀ v' w', TlR w' e k B v' (n + m) (xs ++ news) → Fr (fun b => v.ownBlock = some b) w w' → (v'.ownBlock = v.ownBlock ∨ v'.ownBlock = some w.heap.size) → w'.heap.size ≤ w.heap.size + 1 → K (a.put o.dst v') w') : o.wp P a w K Q := by
  obtain ⟨v', w', hr, h2, h3, h4, h6⟩ := run_appT (P := P) (w := w) t o.type e i z k bytes ht hi hz hk hby hzs hk0 hB hown hrd h1 h63 hb
  unfold Oper.wp execOp
  simp only [ho, resolve, invoke, builtin, Sem.run_bind, Sem.run_pure, Result.andThen_ok, List.map_toArray, List.map_cons, List.map_nil, hs, hx, hr]
  exact h v' w' h2 h3 h4 h6
theorem wpList_appT {ops : Array Oper} {rest : List Oper} (hgd : o.guard = none) (s x : Operand) (t : TypeId) (ho : o.op = .call { callee := .builtin .append, args := #[s, x], argTypes := #[t, t] })
    (e : TypeId) (i : TypeInfo) (z : Value) (k bytes : Nat) (ht : P.underlying t = some (.slice e)) (hi : P.info? e = some i) (hz : i.zero = some z)
    (hk : i.size = k) (hby : i.bytes = bytes) (hzs : z.cells.size = k) (hk0 : 0 < k)
    {B : Nat} (hB : B ≤ w.heap.size) {v xv : Value} {n m : Nat} {xs news : List Value} (hs : a.eval s = v) (hx : a.eval x = xv) (hown : TlR w e k B v n xs) (hrd : Rd w k xv m news) (h1 : ∀ u ∈ news, u.oneCell' = true)
    (h63 : n + m ≤ maxLen) (hb : (n + m) * bytes ≤ 140737488355328)
    (h : ∀ v' w', TlR w' e k B v' (n + m) (xs ++ news) → Fr (fun b => v.ownBlock = some b) w w' → (v'.ownBlock = v.ownBlock ∨ v'.ownBlock = some w.heap.size) → w'.heap.size ≤ w.heap.size + 1 → wpList P ops Q rest (a.put o.dst v') w') : wpList P ops Q (o :: rest) a w :=
  wpList_plain hgd fun _ hK => op_appT s x t ho e i z k bytes ht hi hz hk hby hzs hk0 hB hs hx hown hrd h1 h63 hb (fun v' w' h1 h2 h3 h5 => hK _ _ (h v' w' h1 h2 h3 h5))
end
end Go.Proofs.Ytjefmicmhcajoaa
