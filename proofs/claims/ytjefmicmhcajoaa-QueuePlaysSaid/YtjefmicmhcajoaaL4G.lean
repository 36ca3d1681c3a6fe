/-
  Layer 4: unlike; queue.Filter with it.
-/
import Derived.Test.YtjefmicmhcajoaaL4C
import Derived.Test.YtjefmicmhcajoaaQinsI
import Derived.Deep.LoopGhost
namespace Go.Proofs.Ytjefmicmhcajoaa
open Go.RowKit
set_option linter.unusedVariables false


theorem unlike (x : Int) (w : World) : Calls Try.prog 31 #[.int .i64 x] w fun e w' => e = .returned (.func (.func 45) #[] #[.pointer (some ⟨w.heap.size, 0, none⟩)]) ∧ w' = w.alloc (.cells #[.int .i64 x] 3) := by
  go_enter Try.func31, Try.ntmps31
  go_wp2_with fail
  go_ret
  exact ⟨rfl, rfl⟩

theorem unlike1 (x y : Int) (b : Nat) (w : World) (h : w.cell? ⟨b, 0, none⟩ = some (.int .i64 x)) : Calls Try.prog 45 #[.int .i64 y, .pointer (some ⟨b, 0, none⟩)] w fun e w' => e = .returned (.bool (y % 4 != x)) ∧ w' = w := by
  have h3 : bits .and .i64 y 3 = y % 4 := i64_and3 y
  go_enter Try.func45, Try.ntmps45
  go_wp2_with fail
  go_ret
  exact ⟨rfl, rfl⟩

def filtL (x : Int) (zs : List Int) : List Int := zs.filter (fun y => y % 4 != x)
theorem filtL_snoc {x : Int} {zs : List Int} {j : Nat} (hj : j < zs.length) : filtL x (zs.take (j + 1)) = filtL x (zs.take j) ++ (if zs[j] % 4 != x then [zs[j]] else []) := by
  unfold filtL
  rw [List.take_succ_eq_append_getElem hj, List.filter_append]
  congr 1
  by_cases h : (zs[j] % 4 != x) = true <;> simp [h]
theorem filtL_le (x : Int) (zs : List Int) : (filtL x zs).length ≤ zs.length := List.length_filter_le _ _

set_option maxHeartbeats 4000000 in
set_option maxRecDepth 100000 in
theorem filterQ (x : Int) (b c : Nat) (most : Int) (sv : Value) (zs : List Int) (w : World) (B : Nat) (hB : B ≤ w.heap.size) (h : IsQI w B c most sv (ivsI zs)) (hb : w.heap[b]? = some (.cells #[.int .i64 x] 3 (0, 0))) (hl : zs.length ≤ 100000) :
    Calls Try.prog 30 #[.pointer (some ⟨c, 0, none⟩), .func (.func 45) #[] #[.pointer (some ⟨b, 0, none⟩)]] w fun e w' => e = .returned (.int .i64 ((zs.length : Int) - ((filtL x zs).length : Int))) ∧ ∃ sv', IsQI w' B c most sv' (ivsI (filtL x zs)) ∧ Mv w sv sv' ∧ Fr (fun b => b = c) w w' := by
  obtain ⟨i0, hi0, hz0, hz1, hz2⟩ := info_parts infoQI
  obtain ⟨a, cap, hsv, hcap, hmax, ha⟩ := own_shape h.own
  rw [ivsI_len] at hsv hcap ha
  subst hsv
  have c1 := h.cell1
  have hcl := lt_of_block h.blk
  have hsz : zs.length ≤ 9223372036854775807 := by omega
  have H := Lib.hid h
  have Hb := Lib.hid hb
  have Ha := Lib.hid ha
  have ini : Hid (Below w.heap.size w w ∧ Own enQ 3 1 w.heap.size w (.slice none 0 0) (ivsI (filtL x (zs.take 0)))) := ⟨Below.refl _ _, Own.nil _ _ _ _ _⟩
  clear h hb ha
  go_enter Try.func30, Try.ntmps30
  go_wp2_with fail
  go_loopg [5, 16] zs.length (fun g s5 s16 wx => ∃ j : Nat, j ≤ zs.length ∧ s16 = .int .i64 j ∧ g = zs.length - j ∧ Hid (Below w.heap.size w wx ∧ Own enQ 3 1 w.heap.size wx s5 (ivsI (filtL x (zs.take j)))))
  case atStart => exact ⟨0, Nat.zero_le _, rfl, rfl, ini⟩
  case round =>
    obtain ⟨j, hj, rfl, rfl, HR⟩ := hrel
    obtain ⟨la, lc, hlv, _⟩ := own_shape HR.out.2
    rw [ivsI_len] at hlv
    have Hw := Lib.hid (H.out.below HR.out.1)
    by_cases hlt : j < zs.length
    · obtain ⟨g, rfl, hg⟩ := Ha.out (by omega)
      have x0 : wr.cell? ⟨g, j, none⟩ = some (.int .i64 zs[j]) := by
        have := Hw.out.own.cell enQ_len j 0 (by rw [ivsI_len]; exact hlt) (by decide)
        simpa using this
      have kb : wr.cell? ⟨b, 0, none⟩ = some (.int .i64 x) := blk_cell ((HR.out.1.block b (lt_of_block Hb.out)).trans Hb.out) 0
      have HS := Lib.hid (filtL_snoc (x := x) hlt)
      obtain ⟨fl, hfl⟩ : ∃ fl, fl = filtL x (zs.take j) := ⟨_, rfl⟩
      have hfl2 : fl.length ≤ 100000 := by have := filtL_le x (zs.take j); rw [← hfl] at this; simp at this; omega
      rw [← hfl] at hlv HR HS
      clear hfl
      subst hlv
      generalize zs[j] = z at x0 HS
      cases hq : (z % 4 != x) with
      | true =>
        rw [hq] at HS
        go_wp2_with fail
        refine (unlike1 x z b _ kb).mono ?_
        rintro e w' ⟨rfl, rfl⟩
        rw [hq]
        go_wp2_with (at_builtin; refine held ?_)
        refine unheld ?_
        refine wpList_app (B := w.heap.size) (v := .slice la fl.length lc) (n := fl.length) rfl (.tmp 23) (.tmp 25) 42 rfl 3 i0 _ 1 _ Try.underlying42 hi0 hz0 hz1 hz2 rfl (by decide) (by have := HR.out.1.size; simp; omega) rfl rfl (by have := Own.fr HR.out.2 ((Fr.refl no _).alloc (.cells #[.int .i64 z] 3)) (fun _ _ e => e); unfold Own at this; rw [ivsI_len] at this; exact this) (Rd.new rfl rfl) (by intro u hu; simp at hu; subst hu; rfl) (by unfold maxLen; omega) (by omega) ?_
        intro v5 w5 o5 f5 m5 n5 z5
        have fin : Hid (Below w.heap.size w w5 ∧ Own enQ 3 1 w.heap.size w5 v5 (ivsI (fl ++ [z]))) := by
          refine ⟨HR.out.1.trans ((((Fr.refl _ w').alloc _).trans f5).below' HR.out.1.size (fun k hk => (HR.out.2.lt k hk).1)), ?_⟩
          have : w5.ownsRow w.heap.size 3 1 v5 ((ivsI fl).length + 1) ((ivsI fl).flatMap enQ ++ [.int .i64 z]) := by rw [ivsI_len]; exact o5
          have := Own.snoc (x := Value.int .i64 z) this rfl
          simpa using this
        clear o5 f5 m5 n5 z5
        go_wp2_with fail
        go_roundg (zs.length - (j + 1))
        case measure => omega
        case rel => exact ⟨j + 1, by omega, by go_num, rfl, by rw [HS.out]; exact fin⟩
      | false =>
        rw [hq] at HS
        go_wp2_with fail
        refine (unlike1 x z b _ kb).mono ?_
        rintro e w' ⟨rfl, rfl⟩
        rw [hq]
        go_wp2_with fail
        go_roundg (zs.length - (j + 1))
        case measure => omega
        case rel => exact ⟨j + 1, by omega, by go_num, rfl, by rw [HS.out]; simpa using HR⟩
    · obtain rfl : j = zs.length := by omega
      rw [List.take_of_length_le (Nat.le_refl _)] at HR hlv
      obtain ⟨fl, hfl⟩ : ∃ fl, fl = filtL x zs := ⟨_, rfl⟩
      have hfl2 : fl.length ≤ zs.length := by have := filtL_le x zs; rw [← hfl] at this; omega
      rw [← hfl] at hlv HR
      have Hfl := Lib.hid hfl
      clear hfl
      subst hlv
      have k1 := Hw.out.cell1
      have k2 : wr.frozen? ⟨c, 1, none⟩ = false := blk_free Hw.out.blk 1
      have hne : ¬ (Value.slice la fl.length lc).ownBlock = some c := fun e => by have := (HR.out.2.lt c e).1; omega
      have fin : Hid (IsQI (wr.setCell ⟨c, 1, none⟩ (.slice la fl.length lc)) B c most (.slice la fl.length lc) (ivsI fl) ∧ Mv w (.slice a zs.length cap) (.slice la fl.length lc) ∧ Fr (fun b => b = c) w (wr.setCell ⟨c, 1, none⟩ (.slice la fl.length lc))) := by
        refine ⟨⟨by simpa using heap_setCell_same Hw.out.blk (i := 1) (.slice la fl.length lc), Hw.out.ge, ?_, Hw.out.m0, Hw.out.m1, ?_, ?_⟩, fun g hg => .inr (HR.out.2.lt g hg).1, (Fr.of_below HR.out.1 (fun b => b = c)).setCell (p := ⟨c, 1, none⟩) (fun _ => rfl) _⟩
        · exact Own.fr (S := fun b => b = c) (own_base (own_zero HR.out.2) (fun g hg => Nat.le_trans hB (HR.out.2.lt g hg).1)) ((Fr.refl (fun b => b = c) _).setCell (fun _ => rfl) _) (fun g hg e => hne (by rw [hg, e]))
        · intro u hu; obtain ⟨z, _, rfl⟩ := List.mem_map.1 hu; rfl
        · have := Hw.out.le; rw [ivsI_len] at this ⊢; omega
      have hw1 : IntKind.i64.wrap ((zs.length : Int) - (fl.length : Int)) = (zs.length : Int) - (fl.length : Int) := by rw [IntKind.wrap_i64]; omega
      clear HR
      go_wp2_with fail
      go_ret
      rw [← Hfl.out]
      exact ⟨rfl, _, fin.out⟩
end Go.Proofs.Ytjefmicmhcajoaa
