/-
  Keys: in which order they stand, as a law of lists; bytes.Compare over two arrays, cmp.Compare.
-/
import Derived.Test.YtjjfminpaoooaaaByt
import Derived.Lib.BytesEntry
import Derived.Lib.Bytealg
import Derived.Laws.Externs
import Derived.Deep.RegionHeld3
namespace Go.Proofs.Ytjjfminpaoooaaa
open Go.RowKit
set_option linter.unusedVariables false


structure Ky where
  f0 : Int
  f1 : Int
  f2 : Int
  f3 : Int
  f4 : Int
  f5 : Int
  near : Int
  there : Int
def Ky.b (k : Ky) : List Int := [k.f0, k.f1, k.f2, k.f3, k.f4, k.f5]
def Ky.l (k : Ky) : List Int := [k.f0, k.f1, k.f2, k.f3, k.f4, k.f5, k.near, k.there]
def Ky.ok (k : Ky) : Prop := ∀ x ∈ k.b, 0 ≤ x ∧ x ≤ 255
abbrev kyCs (k : Ky) : Array Value := #[.int .u8 k.f0, .int .u8 k.f1, .int .u8 k.f2, .int .u8 k.f3, .int .u8 k.f4, .int .u8 k.f5, .int .i64 k.near, .int .i64 k.there]
abbrev kyV (k : Ky) : Value := .agg (kyCs k)

/-- Of two rows of numbers the first unlike ones decide. -/
def cmpZ : List Int → List Int → Int
  | a :: l, b :: r => if a < b then -1 else if b < a then 1 else cmpZ l r
  | _, _ => 0
def cmpI (a b : Int) : Int := if a < b then -1 else if b < a then 1 else 0
/-- How two keys stand. -/
def ordK (a b : Ky) : Int := cmpZ a.l b.l

theorem cmpZ_cons (x y : Int) (a b : List Int) : cmpZ (x :: a) (y :: b) = if x < y then -1 else if y < x then 1 else cmpZ a b := by rw [cmpZ]
theorem cmpZ_self : ∀ a : List Int, cmpZ a a = 0
  | [] => rfl
  | x :: a => by unfold cmpZ; rw [if_neg (by omega), if_neg (by omega)]; exact cmpZ_self a
theorem cmpZ_flip : ∀ a b : List Int, cmpZ b a = - cmpZ a b
  | [], [] => rfl
  | [], _ :: _ => rfl
  | _ :: _, [] => rfl
  | x :: a, y :: b => by
    unfold cmpZ
    have := cmpZ_flip a b
    by_cases h1 : x < y
    · rw [if_neg (by omega), if_pos h1, if_pos h1]; rfl
    · by_cases h2 : y < x
      · rw [if_pos h2, if_neg h1, if_pos h2]
      · rw [if_neg h2, if_neg h1, if_neg h1, if_neg h2]; exact this
theorem cmpZ_eq : ∀ a b : List Int, a.length = b.length → cmpZ a b = 0 → a = b
  | [], [], _, _ => rfl
  | [], _ :: _, h, _ => by simp at h
  | _ :: _, [], h, _ => by simp at h
  | x :: a, y :: b, h, h0 => by
    unfold cmpZ at h0
    split at h0
    · omega
    · split at h0
      · omega
      · rw [cmpZ_eq a b (by simpa using h) h0, show x = y by omega]
theorem cmpZ_trans : ∀ a b c : List Int, a.length = b.length → b.length = c.length → cmpZ a b < 0 → cmpZ b c < 0 → cmpZ a c < 0
  | [], _, _, _, _, h, _ => by simp [cmpZ] at h
  | _ :: _, [], _, h, _, _, _ => by simp at h
  | _ :: _, _ :: _, [], _, h, _, _ => by simp at h
  | x :: a, y :: b, z :: c, h1, h2, h3, h4 => by
    unfold cmpZ at h3 h4 ⊢
    have ih := cmpZ_trans a b c (by simpa using h1) (by simpa using h2)
    by_cases e1 : x < y
    · by_cases e2 : y < z
      · rw [if_pos (by omega)]; omega
      · rw [if_neg e2] at h4
        by_cases e3 : z < y
        · rw [if_pos e3] at h4; omega
        · rw [if_pos (by omega)]; omega
    · rw [if_neg e1] at h3
      by_cases e2 : y < x
      · rw [if_pos e2] at h3; omega
      · rw [if_neg e2] at h3
        by_cases e3 : y < z
        · rw [if_pos (by omega)]; omega
        · rw [if_neg e3] at h4
          by_cases e4 : z < y
          · rw [if_pos e4] at h4; omega
          · rw [if_neg e4] at h4
            rw [if_neg (by omega), if_neg (by omega)]
            exact ih h3 h4
theorem cmpZ_app : ∀ a b c d : List Int, a.length = b.length → cmpZ (a ++ c) (b ++ d) = if cmpZ a b = 0 then cmpZ c d else cmpZ a b
  | [], [], c, d, _ => by simp [cmpZ]
  | [], _ :: _, _, _, h => by simp at h
  | _ :: _, [], _, _, h => by simp at h
  | x :: a, y :: b, c, d, h => by
    have ih := cmpZ_app a b c d (by simpa using h)
    rw [List.cons_append, List.cons_append, cmpZ_cons, cmpZ_cons]
    by_cases h1 : x < y
    · rw [if_pos h1, if_pos h1, if_neg (by decide)]
    · rw [if_neg h1, if_neg h1]
      by_cases h2 : y < x
      · rw [if_pos h2, if_pos h2, if_neg (by decide)]
      · rw [if_neg h2, if_neg h2]; exact ih
theorem cmpZ_one (x y : Int) : cmpZ [x] [y] = cmpI x y := by unfold cmpZ cmpI; rfl
/-- The first that is not 0. -/
def or3 (x y z : Int) : Int := if x = 0 then (if y = 0 then z else y) else x
theorem ordK_or (a b : Ky) : ordK a b = or3 (cmpZ a.b b.b) (cmpI a.near b.near) (cmpI a.there b.there) := by
  have h1 := cmpZ_app a.b b.b [a.near, a.there] [b.near, b.there] rfl
  have h2 := cmpZ_app [a.near] [b.near] [a.there] [b.there] rfl
  rw [cmpZ_one, cmpZ_one] at h2
  unfold ordK or3
  rw [show a.l = a.b ++ [a.near, a.there] from rfl, show b.l = b.b ++ [b.near, b.there] from rfl, h1]
  by_cases h : cmpZ a.b b.b = 0
  · rw [if_pos h, if_pos h]; exact h2
  · rw [if_neg h, if_neg h]
theorem Ky.ext' {a b : Ky} (h : a.l = b.l) : a = b := by
  obtain ⟨a0, a1, a2, a3, a4, a5, a6, a7⟩ := a
  obtain ⟨b0, b1, b2, b3, b4, b5, b6, b7⟩ := b
  simp [Ky.l] at h
  simp [h]
theorem ordK_self (a : Ky) : ordK a a = 0 := cmpZ_self _
theorem ordK_flip (a b : Ky) : ordK b a = - ordK a b := cmpZ_flip _ _
theorem ordK_eq {a b : Ky} (h : ordK a b = 0) : a = b := Ky.ext' (cmpZ_eq _ _ rfl h)
theorem ordK_trans {a b c : Ky} (h1 : ordK a b < 0) (h2 : ordK b c < 0) : ordK a c < 0 := cmpZ_trans a.l b.l c.l rfl rfl h1 h2

theorem u8_lt {x y : Int} (hx : 0 ≤ x ∧ x ≤ 255) (hy : 0 ≤ y ∧ y ≤ 255) : (x.toNat.toUInt8 < y.toNat.toUInt8) ↔ x < y := by
  rw [UInt8.lt_iff_toNat_lt]
  simp
  omega
theorem compare_cmpZ : ∀ a b : List Int, a.length = b.length → (∀ x ∈ a, 0 ≤ x ∧ x ≤ 255) → (∀ x ∈ b, 0 ≤ x ∧ x ≤ 255) → Lib.compareBytes (Lib.bytesOf a) (Lib.bytesOf b) = cmpZ a b
  | [], [], _, _, _ => rfl
  | [], _ :: _, h, _, _ => by simp at h
  | _ :: _, [], h, _, _ => by simp at h
  | x :: a, y :: b, h, ha, hb => by
    have ih := compare_cmpZ a b (by simpa using h) (fun z hz => ha z (List.mem_cons_of_mem _ hz)) (fun z hz => hb z (List.mem_cons_of_mem _ hz))
    have hx := ha x (List.mem_cons_self ..)
    have hy := hb y (List.mem_cons_self ..)
    show Lib.compareBytes (x.toNat.toUInt8 :: Lib.bytesOf a) (y.toNat.toUInt8 :: Lib.bytesOf b) = _
    unfold Lib.compareBytes cmpZ
    simp only [u8_lt hx hy, u8_lt hy hx, ih]

theorem run_cmpSlices {P : Program} (w : World) (a b : Addr) (c d : Nat) (xs ys : List Int) (hx : ∀ j x, xs[j]? = some x → w.cell? (a.add j) = some (.int .u8 x)) (hy : ∀ j x, ys[j]? = some x → w.cell? (b.add j) = some (.int .u8 x)) :
    (Extern.BytealgCompare.compare #[.slice (some a) xs.length c, .slice (some b) ys.length d]).run P w = .ok (.int .i64 (Lib.compareBytes (Lib.bytesOf xs) (Lib.bytesOf ys))) w := by
  have h1 := Lib.run_loadBytesX (P := P) w xs a .empty hx
  have h2 := Lib.run_loadBytesX (P := P) w ys b .empty hy
  have he : ∀ l : List UInt8, (⟨ByteArray.empty.data ++ l.toArray⟩ : ByteArray) = ⟨l.toArray⟩ := fun l => by
    apply ByteArray.ext
    show (#[] : Array UInt8) ++ l.toArray = l.toArray
    simp
  rw [he] at h1 h2
  change Sem.run P (do pure (goInt (Extern.BytealgCompare.cmp (← Extern.Bytes.bytesOf (.slice (some a) xs.length c)) (← Extern.Bytes.bytesOf (.slice (some b) ys.length d))))) w = _
  simp only [Extern.Bytes.bytesOf, Sem.run_bind, Sem.run_pure, h1, h2, Result.andThen]
  rw [Lib.cmp_eq]
  rfl

/-- bytes.Compare over the arrays of two keys that lie in memory. -/
theorem kbcmp (a b : Ky) (ha : a.ok) (hb : b.ok) (x y : Nat) (w : World) (hx : w.heap[x]? = some (.cells (kyCs a) 28 (0, 0))) (hy : w.heap[y]? = some (.cells (kyCs b) 28 (0, 0))) :
    Calls Try.prog 34 #[.slice (some ⟨x, 0, none⟩) 6 6, .slice (some ⟨y, 0, none⟩) 6 6] w fun e w' => e = .returned (.int .i64 (cmpZ a.b b.b)) ∧ w' = w := by
  have cell : ∀ (k : Ky) (q : Nat), w.heap[q]? = some (.cells (kyCs k) 28 (0, 0)) → ∀ j z, k.b[j]? = some z → w.cell? ((⟨q, 0, none⟩ : Addr).add j) = some (.int .u8 z) := fun k q hq j z hz => by
    rw [Addr.add_lit, Nat.zero_add, blk_cell hq]
    have hj : j < 6 := (List.getElem?_eq_some_iff.1 hz).1
    match j, hj with
    | 0, _ => simp [Ky.b] at hz; subst hz; rfl
    | 1, _ => simp [Ky.b] at hz; subst hz; rfl
    | 2, _ => simp [Ky.b] at hz; subst hz; rfl
    | 3, _ => simp [Ky.b] at hz; subst hz; rfl
    | 4, _ => simp [Ky.b] at hz; subst hz; rfl
    | 5, _ => simp [Ky.b] at hz; subst hz; rfl
  have hc : (callFunc 46 #[.slice (some ⟨x, 0, none⟩) 6 6, .slice (some ⟨y, 0, none⟩) 6 6]).run Try.prog w = .ok (.value (.int .i64 (cmpZ a.b b.b))) w := by
    rw [run_callFunc_extern Try.func46 (by kernel_rfl) (by kernel_rfl) (by kernel_rfl) (e := Extern.BytealgCompare.compare) (by kernel_rfl)]
    have h := run_cmpSlices (P := Try.prog) w ⟨x, 0, none⟩ ⟨y, 0, none⟩ 6 6 a.b b.b (cell a x hx) (cell b y hy)
    rw [compare_cmpZ a.b b.b rfl ha hb] at h
    rw [show a.b.length = 6 from rfl, show b.b.length = 6 from rfl] at h
    rw [h]
    rfl
  obtain ⟨z, hz⟩ : ∃ z, z = cmpZ a.b b.b := ⟨_, rfl⟩
  rw [← hz] at hc ⊢
  clear hx hy cell hz
  go_enter Try.func34, Try.ntmps34
  go_wp2_with fail
  go_ret
  exact ⟨rfl, rfl⟩

theorem knan (x : Int) (w : World) : Calls Try.prog 47 #[.int .i64 x] w fun e w' => e = .returned (.bool false) ∧ w' = w := by
  have h : (x != x) = false := by simp
  go_enter Try.func47, Try.ntmps47
  go_wp2_with fail
  go_ret
  exact ⟨rfl, rfl⟩
theorem kcmp (x y : Int) (w : World) : Calls Try.prog 35 #[.int .i64 x, .int .i64 y] w fun e w' => e = .returned (.int .i64 (cmpI x y)) ∧ w' = w := by
  have N := Lib.hid (fun (x : Int) (w : World) => knan x w)
  by_cases h1 : x < y
  · have d1 : decide (x < y) = true := by simpa using h1
    have hr : cmpI x y = -1 := if_pos h1
    rw [hr]
    clear hr h1
    go_enter Try.func35, Try.ntmps35
    go_wp2_with (go_at_call 47; refine (N.out _ _).mono ?_; rintro e w' ⟨rfl, rfl⟩)
    go_ret
    exact ⟨rfl, rfl⟩
  have d1 : decide (x < y) = false := by simpa using h1
  by_cases h2 : y < x
  · have d2 : decide (y < x) = true := by simpa using h2
    have hr : cmpI x y = 1 := by unfold cmpI; rw [if_neg h1, if_pos h2]
    rw [hr]
    clear hr h1 h2
    go_enter Try.func35, Try.ntmps35
    go_wp2_with (go_at_call 47; refine (N.out _ _).mono ?_; rintro e w' ⟨rfl, rfl⟩)
    go_ret
    exact ⟨rfl, rfl⟩
  have d2 : decide (y < x) = false := by simpa using h2
  have hr : cmpI x y = 0 := by unfold cmpI; rw [if_neg h1, if_neg h2]
  rw [hr]
  clear hr h1 h2
  go_enter Try.func35, Try.ntmps35
  go_wp2_with (go_at_call 47; refine (N.out _ _).mono ?_; rintro e w' ⟨rfl, rfl⟩)
  go_ret
  exact ⟨rfl, rfl⟩

/-- The first of a row that is not 0. -/
def nz : List Int → Int
  | [] => 0
  | x :: l => if x = 0 then nz l else x
theorem nz_cons (x : Int) (l : List Int) : nz (x :: l) = if x = 0 then nz l else x := by rw [nz]
theorem nz_drop {l : List Int} {j : Nat} (h : ∀ i, (hi : i < j) → (h1 : i < l.length) → l[i] = 0) : nz l = nz (l.drop j) := by
  induction l generalizing j with
  | nil => simp
  | cons x l ih =>
    cases j with
    | zero => simp
    | succ j =>
      have h0 := h 0 (by omega) (by simp)
      simp at h0
      subst h0
      rw [List.drop_succ_cons, nz_cons, if_pos rfl]
      exact ih (j := j) (fun i hi h1 => by have := h (i + 1) (by omega) (by simpa using h1); simpa using this)
theorem nz3 (x y z : Int) : nz [x, y, z] = or3 x y z := by
  rw [nz_cons, nz_cons, nz_cons]
  unfold or3
  by_cases h1 : x = 0
  · rw [if_pos h1, if_pos h1]
    by_cases h2 : y = 0
    · rw [if_pos h2, if_pos h2]
      by_cases h3 : z = 0
      · rw [if_pos h3, h3]; rfl
      · rw [if_neg h3]
    · rw [if_neg h2, if_neg h2]
  · rw [if_neg h1, if_neg h1]

set_option maxHeartbeats 1000000 in
theorem kor (l : List Int) (b : Nat) (w : World) (hb : w.heap[b]? = some (.cells (l.map (Value.int .i64)).toArray 3 (0, 0))) (hl : l.length ≤ 1000) :
    Calls Try.prog 33 #[.slice (some ⟨b, 0, none⟩) l.length l.length] w fun e w' => e = .returned (.int .i64 (nz l)) ∧ w' = w := by
  have hc : ∀ i, (h : i < l.length) → w.cell? ⟨b, i, none⟩ = some (.int .i64 l[i]) := fun i h => by rw [blk_cell hb]; simp [h]
  have Hc := Lib.hid hc
  clear hc hb
  go_enter Try.func33, Try.ntmps33
  go_wp2_with fail
  go_loopw [8] (fun v wr => ∃ j : Nat, j ≤ l.length ∧ v = .int .i64 j ∧ Hid (∀ i, (hi : i < j) → (h1 : i < l.length) → l[i] = 0) ∧ wr = w) (fun v _ => l.length - (intOf v).toNat)
  case atStart => exact ⟨0, by omega, rfl, fun i hi => by omega, (by first | rfl | trivial)⟩
  case round =>
    obtain ⟨j, hj, rfl, Hz, rfl⟩ := hrel
    by_cases hlt : j < l.length
    · have c0 := Hc.out j hlt
      obtain ⟨x, hx⟩ : ∃ x, x = l[j] := ⟨_, rfl⟩
      rw [← hx] at c0
      have Hx := Lib.hid hx
      clear hx
      by_cases h0 : x = 0
      · have d0 : (x != 0) = false := by simpa using h0
        have H0 := Lib.hid h0
        clear h0
        go_wp2_with fail
        go_roundw
        case rel => exact ⟨j + 1, by omega, by go_num, fun i hi h1 => by
          by_cases e : i = j
          · subst e; rw [← Hx.out]; exact H0.out
          · exact Hz.out i (by omega) h1, (by first | rfl | trivial)⟩
        case measure => simp [intOf]; omega
      · have d0 : (x != 0) = true := by simpa using h0
        have hn : nz l = x := by rw [nz_drop Hz.out, List.drop_eq_getElem_cons hlt, ← Hx.out, nz_cons, if_neg h0]
        have Hn := Lib.hid hn
        clear h0 hn
        go_wp2_with fail
        go_ret
        exact ⟨by rw [Hn.out]; rfl, rfl⟩
    · have hn : nz l = 0 := by rw [nz_drop Hz.out, List.drop_of_length_le (by omega)]; rfl
      have Hn := Lib.hid hn
      clear hn
      go_wp2_with fail
      go_ret
      exact ⟨by rw [Hn.out]; rfl, rfl⟩
end Go.Proofs.Ytjjfminpaoooaaa
