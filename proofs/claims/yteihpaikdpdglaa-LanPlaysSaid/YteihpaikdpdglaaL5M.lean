/-
  Layer 5: the law's row: two rows are the same.
-/
import Derived.Test.YteihpaikdpdglaaRlJ
import Derived.Test.YteihpaikdpdglaaL5Q
namespace Go.Proofs.Yteihpaikdpdglaa
open Go.RowKit
set_option linter.unusedVariables false


theorem flN {w : World} {f : Fl} {p : List Int × Int} (h : FlB w f p) : f.n = p.1.length := by
  obtain ⟨a, c, hv, _⟩ := own_shape h.1
  obtain ⟨fa, fn, fc, fg⟩ := f
  simp at hv
  exact hv.2.1
theorem fl_at {w : World} : ∀ {fl : List Fl} {l : FlA} (h : All2 (FlB w) fl l) (i : Nat) (h1 : i < fl.length) (h2 : i < l.length), FlB w fl[i] l[i]
  | f :: fl, p :: l, h, 0, _, _ => h.1
  | f :: fl, p :: l, h, i + 1, h1, h2 => by
    have := fl_at (show All2 (FlB w) fl l from h.2) i (by simpa using h1) (by simpa using h2)
    simpa using this
theorem sameSelf (va vb : Value) (l : List Int) (w : World) (ha : RdB w va l) (hb : RdB w vb l) (hm : l.length ≤ 1000000) :
    Calls Try.prog 16 #[va, vb] w fun e w' => e = .returned (.bool true) ∧ Below w.heap.size w w' := by
  have h := sameRows va vb l l w ha hb hm
  rw [sameB_self] at h
  exact h
set_option maxRecDepth 100000 in
set_option maxHeartbeats 4000000 in
theorem rowSame {w : World} {va vb : Value} {fa fb : List Fl} {l : FlA} {B1 B2 : Nat} (ha : Own enF 39 2 B1 w va fa) (hb : Own enF 85 2 B2 w vb fb) (ha2 : All2 (FlB w) fa l) (hb2 : All2 (FlB w) fb l) (hok : ∀ p ∈ l, p.1.length ≤ 1000) (hlen : l.length ≤ 10000) :
    Calls Try.prog 28 #[va, vb] w fun e w' => e = .returned (.bool true) ∧ Below w.heap.size w w' := by
  obtain ⟨aa, ac, rfl, hac1, hac2, _⟩ := own_shape ha
  obtain ⟨ba, bc, rfl, hbc1, hbc2, _⟩ := own_shape hb
  have hna : fa.length = l.length := forall_len ha2
  have hnb : fb.length = l.length := forall_len hb2
  obtain ⟨n, hn⟩ : ∃ n, n = l.length := ⟨_, rfl⟩
  rw [hna, ← hn] at ha hac1
  rw [hnb, ← hn] at hb hbc1
  rw [hna, hnb, ← hn]
  have hn1 : n ≤ 10000 := by omega
  have hac3 : n ≤ 9223372036854775807 := by omega
  have HA := Lib.hid ha
  have HB := Lib.hid hb
  have HA2 := Lib.hid ha2
  have HB2 := Lib.hid hb2
  have HOK := Lib.hid hok
  have HN := Lib.hid hn
  have HNA := Lib.hid hna
  have HNB := Lib.hid hnb
  clear ha hb ha2 hb2 hok hn hna hnb hlen
  go_enter Try.func28, Try.ntmps28
  go_wp2_with fail
  go_loopg [5] n (fun g s5 wx => ∃ i : Nat, i ≤ n ∧ s5 = .int .i64 i ∧ g = n - i ∧ Hid (Below w.heap.size w wx))
  case atStart => exact ⟨0, Nat.zero_le _, rfl, rfl, Lib.hid (Below.refl _ w)⟩
  case round =>
    obtain ⟨i, hi, rfl, rfl, HW⟩ := hrel
    rename World => wx
    by_cases hlt : i < n
    · have hdl : decide ((i : Int) < (n : Int)) = true := decide_eq_true (by omega)
      have hdn : decide (i < n) = true := decide_eq_true hlt
      have hia : i < fa.length := by rw [HNA.out, ← HN.out]; exact hlt
      have hib : i < fb.length := by rw [HNB.out, ← HN.out]; exact hlt
      have hil : i < l.length := by rw [← HN.out]; exact hlt
      obtain ⟨qa, rfl⟩ : ∃ q, aa = some ⟨q, 0, none⟩ := by
        have h9 := HA.out
        rw [HN.out, ← HNA.out] at h9
        obtain ⟨q, cq, hq, _⟩ := own_some h9 (by omega)
        simp at hq
        exact ⟨q, hq.1⟩
      obtain ⟨qb, rfl⟩ : ∃ q, ba = some ⟨q, 0, none⟩ := by
        have h9 := HB.out
        rw [HN.out, ← HNB.out] at h9
        obtain ⟨q, cq, hq, _⟩ := own_some h9 (by omega)
        simp at hq
        exact ⟨q, hq.1⟩
      have hA := HA.out
      rw [HN.out, ← HNA.out] at hA
      have hB := HB.out
      rw [HN.out, ← HNB.out] at hB
      obtain ⟨f, hf⟩ : ∃ f, f = fa[i] := ⟨_, rfl⟩
      obtain ⟨g, hg⟩ : ∃ g, g = fb[i] := ⟨_, rfl⟩
      obtain ⟨p, hp⟩ : ∃ p, p = l[i] := ⟨_, rfl⟩
      have x0 := hA.cell enF_len i 0 hia (by decide)
      have x1 := hA.cell enF_len i 1 hia (by decide)
      have y0 := hB.cell enF_len i 0 hib (by decide)
      have y1 := hB.cell enF_len i 1 hib (by decide)
      rw [← hf] at x0 x1
      rw [← hg] at y0 y1
      have hfp := fl_at HA2.out i hia hil
      have hgp := fl_at HB2.out i hib hil
      rw [← hf, ← hp] at hfp
      rw [← hg, ← hp] at hgp
      have hpl : p.1.length ≤ 1000 := HOK.out p (by rw [hp]; exact List.getElem_mem hil)
      have hfn := flN hfp
      have hgn := flN hgp
      obtain ⟨a1, n1, c1, g1⟩ := f
      obtain ⟨a2, n2, c2, g2⟩ := g
      obtain rfl : g1 = p.2 := hfp.2
      obtain rfl : g2 = p.2 := hgp.2
      dsimp only at hfn hgn
      subst hfn
      subst hgn
      have cx0 : ∀ u : After wx, u.w'.cell? ⟨qa, i * 2, none⟩ = some (.slice a1 p.1.length c1) := fun u => u.cell (cellOn' (by simpa [enF] using x0) HW.out)
      have cx1 : ∀ u : After wx, u.w'.cell? ⟨qa, i * 2 + 1, none⟩ = some (.int .i64 p.2) := fun u => u.cell (cellOn' (by simpa [enF] using x1) HW.out)
      have cy0 : ∀ u : After wx, u.w'.cell? ⟨qb, i * 2, none⟩ = some (.slice a2 p.1.length c2) := fun u => u.cell (cellOn' (by simpa [enF] using y0) HW.out)
      have cy1 : ∀ u : After wx, u.w'.cell? ⟨qb, i * 2 + 1, none⟩ = some (.int .i64 p.2) := fun u => u.cell (cellOn' (by simpa [enF] using y1) HW.out)
      have HX := Lib.hid (show RdB wx (.slice a1 p.1.length c1) p.1 from RdB.fr hfp.1.rd HW.out)
      have HY := Lib.hid (show RdB wx (.slice a2 p.1.length c2) p.1 from RdB.fr hgp.1.rd HW.out)
      have hpp : (p.2 == p.2) = true := by simp
      have hi1 : (i : Int) < (n : Int) := by omega
      have HPL := Lib.hid hpl
      clear hA hB hf hg hp x0 x1 y0 y1 hfp hgp hpl hia hib hil
      go_upto_region 6 with fail
      refine wp_region_after (by kernel_rfl) (by kernel_rfl) ?_
      repeat (go_big_quiet_step ((first
        | (go_at_call 16; exact Calls.after_of (sameSelf _ _ _ _ (HX.out.fr (After.h _)) (HY.out.fr (After.h _)) (by have := HPL.out; omega)))
        | fail)))
      refine wpQuiet_nil ?_
      rintro w2 ⟨⟨_, hb⟩, rfl⟩
      have HW2 := Lib.hid (HW.out.trans (hb.mono HW.out.size))
      clear hb cx0 cx1 cy0 cy1
      go_wp2_with fail
      go_roundg (n - (i + 1))
      case measure => omega
      case rel => exact ⟨i + 1, by omega, by go_num, rfl, HW2⟩
    · obtain rfl : i = n := by omega
      have hdl : decide ((i : Int) < (i : Int)) = false := by simp
      go_wp2_with fail
      go_ret
      exact ⟨rfl, HW.out⟩
end Go.Proofs.Yteihpaikdpdglaa
