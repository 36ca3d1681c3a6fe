/-
  Layer 18: the back in a law; awake, room.
-/
import Derived.Test.YtlpkjnafmknddaaBak2
import Derived.Test.YtlpkjnafmknddaaRdn
namespace Go.Proofs.Ytlpkjnafmknddaa
open Go.RowKit
set_option linter.unusedVariables false


/-- A back that a law has made, behind w0; and rows of bytes that the law has got, apart from it. -/
def BkX (w0 w : World) (vs : List (Value × List Int)) (b : Nat) (most : Int) (out : Nat) (bs : List (List Int)) : Prop :=
  ∃ F, BkA w F b most out bs ∧ (∀ x, F x → w0.heap.size ≤ x) ∧ Below w0.heap.size w0 w ∧ ∀ p ∈ vs, OwnB 0 w p.1 p.2 ∧ ∀ g, p.1.ownBlock = some g → ¬ F g

section
variable {w0 w w' : World} {vs : List (Value × List Int)} {b : Nat} {most : Int} {out : Nat} {bs : List (List Int)}
theorem BkX.bel (h : BkX w0 w vs b most out bs) : Below w0.heap.size w0 w := by obtain ⟨F, _, _, h, _⟩ := h; exact h
theorem BkX.rd (h : BkX w0 w vs b most out bs) {v : Value} {x : List Int} (hv : (v, x) ∈ vs) : RdB w v x := by obtain ⟨F, _, _, _, h⟩ := h; exact (h _ hv).1.rd
theorem BkX.own (h : BkX w0 w vs b most out bs) {v : Value} {x : List Int} (hv : (v, x) ∈ vs) : OwnB 0 w v x := by obtain ⟨F, _, _, _, h⟩ := h; exact (h _ hv).1
theorem BkX.forget (h : BkX w0 w vs b most out bs) : BkX w0 w [] b most out bs := by obtain ⟨F, h1, h2, h3, _⟩ := h; exact ⟨F, h1, h2, h3, fun p hp => by simp at hp⟩
theorem BkX.below (h : BkX w0 w vs b most out bs) (hb : Below w.heap.size w w') : BkX w0 w' vs b most out bs := by
  obtain ⟨F, h1, h2, h3, h4⟩ := h
  exact ⟨F, h1.below hb, h2, h3.trans (hb.mono h3.size), fun p hp => ⟨(h4 p hp).1.fr (Fr.of_below hb no) (fun _ _ e => e), (h4 p hp).2⟩⟩
theorem BkX.step {b' : Nat} {most' : Int} {out' : Nat} {bs' : List (List Int)} {F F' : Nat → Prop} (h2 : ∀ x, F x → w0.heap.size ≤ x) (h3 : Below w0.heap.size w0 w) (h4 : ∀ p ∈ vs, OwnB 0 w p.1 p.2 ∧ ∀ g, p.1.ownBlock = some g → ¬ F g) (h : BkA w' F' b' most' out' bs') (s : Stp F F' w w') : BkX w0 w' vs b' most' out' bs' :=
  ⟨F', h, s.ge h3.size h2, h3.trans (s.below h3.size h2), fun p hp => ⟨(h4 p hp).1.fr s.fr (fun g hg e => (h4 p hp).2 g hg e), fun g hg e => (s.new g e).elim ((h4 p hp).2 g hg) (fun e => by have := ((h4 p hp).1.lt g hg).2; omega)⟩⟩
theorem BkX.le (h : BkX w0 w vs b most out bs) : out ≤ bs.length ∧ (bs.length : Int) ≤ most := by obtain ⟨F, h, _⟩ := h; exact h.le
end

theorem xNew {w0 w : World} (h0 : Below w0.heap.size w0 w) (most : Int) (hm : most ≤ 9223372036854775807) : Calls Try.prog 9 #[.int .i64 most] w fun e w' => ∃ b, e = .returned (.pointer (some ⟨b, 0, none⟩)) ∧ BkX w0 w' [] b (max most 0) 0 [] :=
  (bNew most hm w).mono fun e w' ⟨b, F, he, h1, h2, h3⟩ => ⟨b, he, F, h1, fun x e => Nat.le_trans h0.size (h3 x e), h0.trans (h2.mono h0.size), fun p hp => by simp at hp⟩
theorem xLen {w0 w : World} {vs : List (Value × List Int)} {b : Nat} {most : Int} {out : Nat} {bs : List (List Int)} (h : BkX w0 w vs b most out bs) : Calls Try.prog 16 #[.pointer (some ⟨b, 0, none⟩)] w fun e w' => e = .returned (.int .i64 bs.length) ∧ w' = w := by
  obtain ⟨F, h, _⟩ := h
  exact bLen h
theorem xOut {w0 w : World} {vs : List (Value × List Int)} {b : Nat} {most : Int} {out : Nat} {bs : List (List Int)} (h : BkX w0 w vs b most out bs) : Calls Try.prog 13 #[.pointer (some ⟨b, 0, none⟩)] w fun e w' => e = .returned (.int .i64 out) ∧ w' = w := by
  obtain ⟨F, h, _⟩ := h
  exact bOutA h
theorem xWaits {w0 w : World} {vs : List (Value × List Int)} {b : Nat} {most : Int} {out : Nat} {bs : List (List Int)} (h : BkX w0 w vs b most out bs) (hl : bs.length ≤ 100000) : Calls Try.prog 14 #[.pointer (some ⟨b, 0, none⟩)] w fun e w' => e = .returned (.int .i64 ((bs.length : Int) - out)) ∧ w' = w := by
  obtain ⟨F, h, _⟩ := h
  exact bWaits h hl
theorem xPut {w0 w : World} {vs : List (Value × List Int)} {b : Nat} {most : Int} {out : Nat} {bs : List (List Int)} (h : BkX w0 w vs b most out bs) {bv : Value} {x : List Int} (hx : RdB w bv x) (hxl : x.length ≤ 1000000) (hl : bs.length ≤ 100000) :
    Calls Try.prog 10 #[.pointer (some ⟨b, 0, none⟩), bv] w fun e w' => e = .returned (.bool (decide ((bs.length : Int) < most))) ∧ BkX w0 w' vs b most out (putB most bs x) := by
  obtain ⟨F, h1, h2, h3, hv⟩ := h
  exact (bPut h1 hx hxl hl).mono fun e w' ⟨he, F', h4, s⟩ => ⟨he, BkX.step h2 h3 hv h4 s⟩
theorem xPutYes {w0 w : World} {vs : List (Value × List Int)} {b : Nat} {most : Int} {out : Nat} {bs : List (List Int)} (h : BkX w0 w vs b most out bs) {bv : Value} {x : List Int} (hx : RdB w bv x) (hxl : x.length ≤ 1000000) (hl : bs.length ≤ 100000) (hf : (bs.length : Int) < most) :
    Calls Try.prog 10 #[.pointer (some ⟨b, 0, none⟩), bv] w fun e w' => e = .returned (.bool true) ∧ BkX w0 w' vs b most out (bs ++ [x]) :=
  (xPut h hx hxl hl).mono fun e w' ⟨he, h⟩ => ⟨by rw [he, decide_eq_true hf], by rw [show putB most bs x = bs ++ [x] from if_pos hf] at h; exact h⟩
theorem xPutNo {w0 w : World} {vs : List (Value × List Int)} {b : Nat} {most : Int} {out : Nat} {bs : List (List Int)} (h : BkX w0 w vs b most out bs) {bv : Value} {x : List Int} (hx : RdB w bv x) (hxl : x.length ≤ 1000000) (hl : bs.length ≤ 100000) (hf : most ≤ (bs.length : Int)) :
    Calls Try.prog 10 #[.pointer (some ⟨b, 0, none⟩), bv] w fun e w' => e = .returned (.bool false) ∧ BkX w0 w' vs b most out bs :=
  (xPut h hx hxl hl).mono fun e w' ⟨he, h⟩ => ⟨by rw [he, decide_eq_false (by omega)], by rw [show putB most bs x = bs from if_neg (by omega)] at h; exact h⟩
theorem xNextYes {w0 w : World} {vs : List (Value × List Int)} {b : Nat} {most : Int} {out : Nat} {bs : List (List Int)} (h : BkX w0 w vs b most out bs) (hlt : out < bs.length) (hl : bs.length ≤ 100000) (hx : bs[out].length ≤ 1000000) :
    Calls Try.prog 11 #[.pointer (some ⟨b, 0, none⟩)] w fun e w' => ∃ v, e = .returned (.tuple #[v, .bool true]) ∧ BkX w0 w' ((v, bs[out]) :: vs) b most (out + 1) bs := by
  obtain ⟨F, h1, h2, h3, hv⟩ := h
  refine (bNextYes h1 hlt hl hx).mono fun e w' ⟨v, he, o, h4, s⟩ => ⟨v, he, F, h4, h2, h3.trans (s.below h3.size h2), fun p hp => ?_⟩
  rcases List.mem_cons.1 hp with rfl | hp
  · exact ⟨own_zero o, fun g hg e => by have := (o.lt g hg).1; have := h1.lt g e; omega⟩
  · exact ⟨(hv p hp).1.fr s.fr (fun g hg e => (hv p hp).2 g hg e), (hv p hp).2⟩
theorem xNextNo {w0 w : World} {vs : List (Value × List Int)} {b : Nat} {most : Int} {out : Nat} {bs : List (List Int)} (h : BkX w0 w vs b most out bs) (hlt : bs.length ≤ out) (hl : bs.length ≤ 100000) :
    Calls Try.prog 11 #[.pointer (some ⟨b, 0, none⟩)] w fun e w' => ∃ v, e = .returned (.tuple #[v, .bool false]) ∧ BkX w0 w' ((v, []) :: vs) b most out bs := by
  obtain ⟨F, h1, h2, h3, hv⟩ := h
  refine (bNextNo h1 hlt hl).mono fun e w' ⟨v, he, o, s⟩ => ⟨v, he, F, h1.below s, h2, h3.trans (s.mono h3.size), fun p hp => ?_⟩
  rcases List.mem_cons.1 hp with rfl | hp
  · exact ⟨own_zero o, fun g hg e => by have := (o.lt g hg).1; have := h1.lt g e; omega⟩
  · exact ⟨(hv p hp).1.fr (Fr.of_below s no) (fun _ _ e => e), (hv p hp).2⟩
theorem xAcked {w0 w : World} {vs : List (Value × List Int)} {b : Nat} {most : Int} {out : Nat} {bs : List (List Int)} (h : BkX w0 w vs b most out bs) (n : Int) (hl : bs.length ≤ 100000) :
    Calls Try.prog 12 #[.pointer (some ⟨b, 0, none⟩), .int .i64 n] w fun e w' => e = .returned (.int .i64 (ackN n out)) ∧ BkX w0 w' vs b most (out - ackN n out) (bs.drop (ackN n out)) := by
  obtain ⟨F, h1, h2, h3, hv⟩ := h
  exact (bAcked h1 n hl).mono fun e w' ⟨he, F', h4, s⟩ => ⟨he, BkX.step h2 h3 hv h4 s⟩
theorem xAgain {w0 w : World} {vs : List (Value × List Int)} {b : Nat} {most : Int} {out : Nat} {bs : List (List Int)} (h : BkX w0 w vs b most out bs) :
    Calls Try.prog 15 #[.pointer (some ⟨b, 0, none⟩)] w fun e w' => e = .returned (.int .i64 out) ∧ BkX w0 w' vs b most 0 bs := by
  obtain ⟨F, h1, h2, h3, hv⟩ := h
  exact (bAgain h1).mono fun e w' ⟨he, h4, s⟩ => ⟨he, BkX.step h2 h3 hv h4 s⟩
theorem xClear {w0 w : World} {vs : List (Value × List Int)} {b : Nat} {most : Int} {out : Nat} {bs : List (List Int)} (h : BkX w0 w vs b most out bs) (hl : bs.length ≤ 100000) :
    Calls Try.prog 23 #[.pointer (some ⟨b, 0, none⟩)] w fun e w' => e = .returned (.int .i64 bs.length) ∧ BkX w0 w' vs b most 0 [] := by
  obtain ⟨F, h1, h2, h3, hv⟩ := h
  exact (bClear h1 hl).mono fun e w' ⟨he, F', h4, s⟩ => ⟨he, BkX.step h2 h3 hv h4 s⟩

set_option maxHeartbeats 4000000 in
theorem awake (w : World) : Calls Try.prog 8 #[] w fun x w' => x = .returned (.bool true) ∧ Below w.heap.size w w' := by
  go_enter Try.func8, Try.ntmps8
  go_wp2_with fail
  refine (xNew (Below.refl _ w) 3 (by decide)).mono ?_
  rintro x w1 ⟨b, rfl, h1⟩
  rw [show max (3 : Int) 0 = 3 from rfl] at h1
  have H1 := Lib.hid h1
  clear h1
  go_wp2_with fail
  refine (xPutYes (H1.out.below ((Below.refl _ w1).alloc (Nat.le_refl _) _)) (rdB_new (l := [5]) rfl rfl rfl) (by decide) (by decide) (by decide)).mono ?_
  rintro x w2 ⟨rfl, h2⟩
  have H2 := Lib.hid h2
  clear h2
  go_wp2_with fail
  refine (xNextYes H2.out (by decide) (by decide) (by decide)).mono ?_
  rintro x w3 ⟨v, rfl, h3⟩
  have H3 := Lib.hid h3
  have O3 := Lib.hid (h3.own (List.mem_cons_self ..))
  obtain ⟨va, vk, rfl, _⟩ := own_shape O3.out
  clear h3
  go_wp2_with fail
  refine (sameRows _ _ [5] [5] _ (O3.out.rd.fr (Fr.of_below ((Below.refl _ w3).alloc (Nat.le_refl _) _) no) (fun _ _ e => e)) (rdB_new rfl rfl rfl) (by decide)).mono ?_
  rintro x w4 ⟨rfl, hb⟩
  rw [sameB_self]
  have H4 := Lib.hid ((H3.out.below ((Below.refl _ w3).alloc (Nat.le_refl _) _)).below hb)
  clear hb
  go_wp2_with fail
  refine (xOut H4.out).mono ?_
  rintro x w5 ⟨rfl, rfl⟩
  go_wp2_with fail
  refine (xWaits H4.out (by decide)).mono ?_
  rintro x w6 ⟨rfl, rfl⟩
  go_wp2_with fail
  go_ret
  exact ⟨rfl, H4.out.bel⟩
end Go.Proofs.Ytlpkjnafmknddaa
