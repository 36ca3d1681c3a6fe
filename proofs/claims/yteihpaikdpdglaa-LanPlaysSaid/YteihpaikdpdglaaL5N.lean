/-
  Layer 5: the program's line and the reference's side by side, and what a law keeps.
-/
import Derived.Test.YteihpaikdpdglaaL5M
namespace Go.Proofs.Yteihpaikdpdglaa
open Go.RowKit
set_option linter.unusedVariables false


structure DX (w0 w : World) (kb : List (Nat × Obj)) (t r st : Nat) (life most : Int) (S T : LS) : Prop where
  ex : ∃ F G, LG w F t st life S.2 most S.1 ∧ RG w G r st life T.2 most T.1 ∧ (∀ b, F b → w0.heap.size ≤ b) ∧ (∀ b, G b → w0.heap.size ≤ b) ∧ (∀ b, F b → G b → False) ∧ Kept w F kb ∧ Kept w G kb
  bel : Below w0.heap.size w0 w
section
variable {w0 w w' : World} {kb : List (Nat × Obj)} {t r st : Nat} {life most : Int} {S T : LS}
theorem DX.below (h : DX w0 w kb t r st life most S T) (hb : Below w.heap.size w w') : DX w0 w' kb t r st life most S T := by
  obtain ⟨F, G, h1, h2, h3, h4, h5, h6, h7⟩ := h.ex
  exact ⟨⟨F, G, h1.below hb, h2.below hb, h3, h4, h5, h6.below hb, h7.below hb⟩, h.bel.trans (hb.mono h.bel.size)⟩
theorem DX.stepL {S' : LS} {F F' G : Nat → Prop} (hb : Below w0.heap.size w0 w) (h2 : RG w G r st life T.2 most T.1) (h3 : ∀ b, F b → w0.heap.size ≤ b) (h4 : ∀ b, G b → w0.heap.size ≤ b) (h5 : ∀ b, F b → G b → False) (h6 : Kept w F kb) (h7 : Kept w G kb)
    (hL : LG w' F' t st life S'.2 most S'.1) (s : Stp F F' w w') : DX w0 w' kb t r st life most S' T := by
  obtain ⟨o1, o2⟩ := s.other h2.lt h5
  refine ⟨⟨F', G, hL, h2.keep s.size o1, s.ge hb.size h3, h4, o2, h6.stp s, fun q hq => ⟨(h6.stp s q hq).1, (h7 q hq).2⟩⟩, hb.trans (s.below hb.size h3)⟩
theorem LG.keepF {F : Nat → Prop} {lost : Int} {qs : List FlA} (h : LG w F t st life lost most qs) (s : w.heap.size ≤ w'.heap.size) (hk : ∀ b, F b → w'.heap[b]? = w.heap[b]?) : LG w' F t st life lost most qs := by
  obtain ⟨rv, ps, Fs, h⟩ := h
  exact ⟨rv, ps, Fs, h.keep s hk⟩
theorem DX.stepR {T' : LS} {F G G' : Nat → Prop} (hb : Below w0.heap.size w0 w) (h1 : LG w F t st life S.2 most S.1) (h3 : ∀ b, F b → w0.heap.size ≤ b) (h4 : ∀ b, G b → w0.heap.size ≤ b) (h5 : ∀ b, F b → G b → False) (h6 : Kept w F kb) (h7 : Kept w G kb)
    (hR : RG w' G' r st life T'.2 most T'.1) (s : Stp G G' w w') : DX w0 w' kb t r st life most S T' := by
  obtain ⟨o1, o2⟩ := s.other h1.lt (fun b e f => h5 b f e)
  refine ⟨⟨F, G', h1.keepF s.size o1, hR, h3, s.ge hb.size h4, fun b e f => o2 b f e, fun q hq => ⟨(h7.stp s q hq).1, (h6 q hq).2⟩, h7.stp s⟩, hb.trans (s.below hb.size h4)⟩
theorem DX.kept (h : DX w0 w kb t r st life most S T) {b : Nat} {o : Obj} (hm : (b, o) ∈ kb) : w.heap[b]? = some o := by
  obtain ⟨F, G, h1, h2, h3, h4, h5, h6, h7⟩ := h.ex
  exact (h6 _ hm).1
theorem DX.sub {kb' : List (Nat × Obj)} (h : DX w0 w kb t r st life most S T) (hs : ∀ q ∈ kb', q ∈ kb) : DX w0 w kb' t r st life most S T := by
  obtain ⟨F, G, h1, h2, h3, h4, h5, h6, h7⟩ := h.ex
  exact ⟨⟨F, G, h1, h2, h3, h4, h5, h6.sub hs, h7.sub hs⟩, h.bel⟩
theorem DX.keepNew {w1 : World} (h : DX w0 w kb t r st life most S T) (hb : Below w.heap.size w w1) {b : Nat} {o : Obj} (hn : w1.heap[b]? = some o) (hge : w.heap.size ≤ b) : DX w0 w1 ((b, o) :: kb) t r st life most S T := by
  obtain ⟨F, G, h1, h2, h3, h4, h5, h6, h7⟩ := h.ex
  exact ⟨⟨F, G, h1.below hb, h2.below hb, h3, h4, h5, (h6.below hb).cons hn (fun e => by have := h1.lt b e; omega), (h7.below hb).cons hn (fun e => by have := h2.lt b e; omega)⟩, h.bel.trans (hb.mono h.bel.size)⟩
theorem DX.sts (h : DX w0 w kb t r st life most S T) : 1 ≤ st ∧ st ≤ 16 := by
  obtain ⟨F, G, h1, _⟩ := h.ex
  exact h1.sts
theorem DX.qlen (h : DX w0 w kb t r st life most S T) : S.1.length = st * st := by
  obtain ⟨F, G, h1, _⟩ := h.ex
  exact h1.qlen
theorem DX.okr (h : DX w0 w kb t r st life most S T) : (∀ l ∈ S.1, ∀ p ∈ l, OkFr life p) ∧ (1 ≤ life ∧ life ≤ 10000) ∧ (0 ≤ most ∧ most ≤ 10000) := by
  obtain ⟨F, G, h1, _⟩ := h.ex
  exact h1.ok
theorem DX.rlen (h : DX w0 w kb t r st life most S T) : ∀ l ∈ T.1, (l.length : Int) ≤ 10000 := by
  obtain ⟨F, G, _, h2, _⟩ := h.ex
  obtain ⟨lv, vs, h2⟩ := h2
  intro l hl
  obtain ⟨i, hi, rfl⟩ := List.mem_iff_getElem.1 hl
  have := (h2.q i (by rw [h2.len, ← h2.qlen]; exact hi) hi).len
  omega
theorem DX.lostR (h : DX w0 w kb t r st life most S T) : w.cell? ⟨r, 3, none⟩ = some (.int .i64 T.2) := by
  obtain ⟨F, G, _, h2, _⟩ := h.ex
  obtain ⟨lv, vs, h2⟩ := h2
  exact blk_cell h2.blk 3
theorem dsend (h : DX w0 w kb t r st life most S T) (v : Value) (b : List Int) (hv : RdB w v b) (hb : b.length ≤ 1000) (hby : ∀ x ∈ b, 0 ≤ x ∧ x ≤ 255) (hlo : 0 ≤ S.2 ∧ S.2 ≤ 1000000000) (a c : Int) :
    Calls Try.prog 13 #[.pointer (some ⟨t, 0, none⟩), .int .i64 a, .int .i64 c, v] w fun e w' => e = .returned (.bool (sendP st most a c b S).1) ∧ DX w0 w' kb t r st life most (sendP st most a c b S).2 T := by
  obtain ⟨F, G, h1, h2, h3, h4, h5, h6, h7⟩ := h.ex
  refine (sendG h1 v b hv hb hby hlo a c).mono ?_
  rintro e w' ⟨k1, F', k2, k3⟩
  exact ⟨k1, DX.stepL h.bel h2 h3 h4 h5 h6 h7 k2 k3⟩
theorem esend (h : DX w0 w kb t r st life most S T) (v : Value) (b : List Int) (hv : RdB w v b) (hb : b.length ≤ 1000) (hby : ∀ x ∈ b, 0 ≤ x ∧ x ≤ 255) (hlo : 0 ≤ T.2 ∧ T.2 ≤ 1000000000) (a c : Int) :
    Calls Try.prog 46 #[.pointer (some ⟨r, 0, none⟩), .int .i64 a, .int .i64 c, v] w fun e w' => e = .returned (.bool (sendP st most a c b T).1) ∧ DX w0 w' kb t r st life most S (sendP st most a c b T).2 := by
  obtain ⟨F, G, h1, h2, h3, h4, h5, h6, h7⟩ := h.ex
  refine (rsend h2 v b hv ⟨hb, hby⟩ hlo a c).mono ?_
  rintro e w' ⟨k1, F', k2, k3⟩
  exact ⟨k1, DX.stepR h.bel h1 h3 h4 h5 h6 h7 k2 k3⟩
theorem ddrop (h : DX w0 w kb t r st life most S T) (hlo : 0 ≤ S.2 ∧ S.2 ≤ 1000000000) (a c : Int) :
    Calls Try.prog 24 #[.pointer (some ⟨t, 0, none⟩), .int .i64 a, .int .i64 c] w fun e w' => e = .returned (.bool (dropP st a c S).1) ∧ DX w0 w' kb t r st life most (dropP st a c S).2 T := by
  obtain ⟨F, G, h1, h2, h3, h4, h5, h6, h7⟩ := h.ex
  refine (dropG h1 hlo a c).mono ?_
  rintro e w' ⟨k1, F', k2, k3⟩
  exact ⟨k1, DX.stepL h.bel h2 h3 h4 h5 h6 h7 k2 k3⟩
theorem edrop (h : DX w0 w kb t r st life most S T) (hlo : 0 ≤ T.2 ∧ T.2 ≤ 1000000000) (a c : Int) :
    Calls Try.prog 49 #[.pointer (some ⟨r, 0, none⟩), .int .i64 a, .int .i64 c] w fun e w' => e = .returned (.bool (dropP st a c T).1) ∧ DX w0 w' kb t r st life most S (dropP st a c T).2 := by
  obtain ⟨F, G, h1, h2, h3, h4, h5, h6, h7⟩ := h.ex
  refine (rdrop h2 hlo a c).mono ?_
  rintro e w' ⟨k1, F', k2, k3⟩
  exact ⟨k1, DX.stepR h.bel h1 h3 h4 h5 h6 h7 k2 k3⟩
theorem dtwice (h : DX w0 w kb t r st life most S T) (a c : Int) :
    Calls Try.prog 14 #[.pointer (some ⟨t, 0, none⟩), .int .i64 a, .int .i64 c] w fun e w' => e = .returned (.bool (twiceP st most a c S).1) ∧ DX w0 w' kb t r st life most (twiceP st most a c S).2 T := by
  obtain ⟨F, G, h1, h2, h3, h4, h5, h6, h7⟩ := h.ex
  refine (twiceG h1 a c).mono ?_
  rintro e w' ⟨k1, F', k2, k3⟩
  exact ⟨k1, DX.stepL h.bel h2 h3 h4 h5 h6 h7 (by rw [show (twiceP st most a c S).2.2 = S.2 from lost_twice st most a c S]; exact k2) k3⟩
theorem etwice (h : DX w0 w kb t r st life most S T) (a c : Int) :
    Calls Try.prog 50 #[.pointer (some ⟨r, 0, none⟩), .int .i64 a, .int .i64 c] w fun e w' => e = .returned (.bool (twiceP st most a c T).1) ∧ DX w0 w' kb t r st life most S (twiceP st most a c T).2 := by
  obtain ⟨F, G, h1, h2, h3, h4, h5, h6, h7⟩ := h.ex
  refine (rtwice h2 a c).mono ?_
  rintro e w' ⟨k1, F', k2, k3⟩
  exact ⟨k1, DX.stepR h.bel h1 h3 h4 h5 h6 h7 (by rw [show (twiceP st most a c T).2.2 = T.2 from lost_twice st most a c T]; exact k2) k3⟩
theorem dspoil (h : DX w0 w kb t r st life most S T) (a c bit : Int) :
    Calls Try.prog 18 #[.pointer (some ⟨t, 0, none⟩), .int .i64 a, .int .i64 c, .int .i64 bit] w fun e w' => e = .returned (.bool (spoilP st a c bit S).1) ∧ DX w0 w' kb t r st life most (spoilP st a c bit S).2 T := by
  obtain ⟨F, G, h1, h2, h3, h4, h5, h6, h7⟩ := h.ex
  refine (spoilG h1 a c bit).mono ?_
  rintro e w' ⟨k1, F', k2, k3⟩
  exact ⟨k1, DX.stepL h.bel h2 h3 h4 h5 h6 h7 (by rw [show (spoilP st a c bit S).2.2 = S.2 from lost_spoil st a c bit S]; exact k2) k3⟩
theorem espoil (h : DX w0 w kb t r st life most S T) (a c bit : Int) :
    Calls Try.prog 51 #[.pointer (some ⟨r, 0, none⟩), .int .i64 a, .int .i64 c, .int .i64 bit] w fun e w' => e = .returned (.bool (spoilP st a c bit T).1) ∧ DX w0 w' kb t r st life most S (spoilP st a c bit T).2 := by
  obtain ⟨F, G, h1, h2, h3, h4, h5, h6, h7⟩ := h.ex
  refine (rspoil h2 a c bit).mono ?_
  rintro e w' ⟨k1, F', k2, k3⟩
  exact ⟨k1, DX.stepR h.bel h1 h3 h4 h5 h6 h7 (by rw [show (spoilP st a c bit T).2.2 = T.2 from lost_spoil st a c bit T]; exact k2) k3⟩
theorem dage (h : DX w0 w kb t r st life most S T) (hlo : 0 ≤ S.2 ∧ S.2 ≤ 1000000000) :
    Calls Try.prog 22 #[.pointer (some ⟨t, 0, none⟩)] w fun e w' => e = .returned (.int .i64 (oldP life S).1) ∧ DX w0 w' kb t r st life most (oldP life S).2 T := by
  obtain ⟨F, G, h1, h2, h3, h4, h5, h6, h7⟩ := h.ex
  refine (ageG h1 hlo).mono ?_
  rintro e w' ⟨k1, F', k2, k3⟩
  exact ⟨k1, DX.stepL h.bel h2 h3 h4 h5 h6 h7 k2 k3⟩
theorem eage (h : DX w0 w kb t r st life most S T) (hlo : 0 ≤ T.2 ∧ T.2 ≤ 1000000000) :
    Calls Try.prog 52 #[.pointer (some ⟨r, 0, none⟩)] w fun e w' => e = .returned (.int .i64 (oldP life T).1) ∧ DX w0 w' kb t r st life most S (oldP life T).2 := by
  obtain ⟨F, G, h1, h2, h3, h4, h5, h6, h7⟩ := h.ex
  refine (rold h2 hlo h.rlen).mono ?_
  rintro e w' ⟨k1, F', k2, k3⟩
  exact ⟨k1, DX.stepR h.bel h1 h3 h4 h5 h6 h7 k2 k3⟩
theorem dcut (h : DX w0 w kb t r st life most S T) (hlo : 0 ≤ S.2 ∧ S.2 ≤ 1000000000) (s : Int) :
    Calls Try.prog 25 #[.pointer (some ⟨t, 0, none⟩), .int .i64 s] w fun e w' => e = .returned (.int .i64 (cutP st s S).1) ∧ DX w0 w' kb t r st life most (cutP st s S).2 T := by
  obtain ⟨F, G, h1, h2, h3, h4, h5, h6, h7⟩ := h.ex
  refine (lcutG h1 hlo s).mono ?_
  rintro e w' ⟨k1, F', k2, k3⟩
  exact ⟨k1, DX.stepL h.bel h2 h3 h4 h5 h6 h7 k2 k3⟩
theorem ecut (h : DX w0 w kb t r st life most S T) (hlo : 0 ≤ T.2 ∧ T.2 ≤ 1000000000) (s : Int) :
    Calls Try.prog 53 #[.pointer (some ⟨r, 0, none⟩), .int .i64 s] w fun e w' => e = .returned (.int .i64 (cutP st s T).1) ∧ DX w0 w' kb t r st life most S (cutP st s T).2 := by
  obtain ⟨F, G, h1, h2, h3, h4, h5, h6, h7⟩ := h.ex
  refine (rcut h2 hlo s).mono ?_
  rintro e w' ⟨k1, F', k2, k3⟩
  exact ⟨k1, DX.stepR h.bel h1 h3 h4 h5 h6 h7 k2 k3⟩
theorem dput (h : DX w0 w kb t r st life most S T) (v : Value) (x : List Int) (hv : RdB w v x) (hvF : 6 ≤ x.length → ∀ a n c, v = .slice (some a) n c → a.block < w0.heap.size) (hcp : ∀ a n c, v = .slice a n c → n ≤ c ∧ c ≤ maxLen) (hb : x.length ≤ 1000) (hby : ∀ y ∈ x, 0 ≤ y ∧ y ≤ 255) (hlo : 0 ≤ S.2 ∧ S.2 ≤ 900000000) (s : Int) :
    Calls Try.prog 20 #[.pointer (some ⟨t, 0, none⟩), .int .i64 s, v] w fun e w' => e = .returned (.int .i64 (putP st most s x S).1) ∧ DX w0 w' kb t r st life most (putP st most s x S).2 T := by
  obtain ⟨F, G, h1, h2, h3, h4, h5, h6, h7⟩ := h.ex
  refine (lputG h1 v x hv (fun h9 a n c e hF => by have := h3 _ hF; have := hvF h9 a n c e; omega) hcp hb hby hlo s).mono ?_
  rintro e w' ⟨k1, F', k2, k3⟩
  exact ⟨k1, DX.stepL h.bel h2 h3 h4 h5 h6 h7 k2 k3⟩
theorem eput (h : DX w0 w kb t r st life most S T) (v : Value) (x : List Int) (hv : RdB w v x) (hvF : 6 ≤ x.length → ∀ a n c, v = .slice (some a) n c → a.block < w0.heap.size) (hcp : ∀ a n c, v = .slice a n c → n ≤ c ∧ c ≤ maxLen) (hb : x.length ≤ 1000) (hby : ∀ y ∈ x, 0 ≤ y ∧ y ≤ 255) (hlo : 0 ≤ T.2 ∧ T.2 ≤ 900000000) (s : Int) :
    Calls Try.prog 47 #[.pointer (some ⟨r, 0, none⟩), .int .i64 s, v] w fun e w' => e = .returned (.int .i64 (putP st most s x T).1) ∧ DX w0 w' kb t r st life most S (putP st most s x T).2 := by
  obtain ⟨F, G, h1, h2, h3, h4, h5, h6, h7⟩ := h.ex
  refine (rput h2 v x hv (fun h9 a n c e hF => by have := h4 _ hF; have := hvF h9 a n c e; omega) ⟨hb, hby⟩ hlo s).mono ?_
  rintro e w' ⟨k1, F', k2, k3⟩
  exact ⟨k1, DX.stepR h.bel h1 h3 h4 h5 h6 h7 k2 k3⟩
/-- As DX, with a row of bytes that the reference does not hold. -/
structure DXP (w0 w : World) (kb : List (Nat × Obj)) (t r st : Nat) (life most : Int) (S T : LS) (v : Value) (b : List Int) : Prop where
  ex : ∃ F G, LG w F t st life S.2 most S.1 ∧ RG w G r st life T.2 most T.1 ∧ (∀ b, F b → w0.heap.size ≤ b) ∧ (∀ b, G b → w0.heap.size ≤ b) ∧ (∀ b, F b → G b → False) ∧ Kept w F kb ∧ Kept w G kb ∧ (∀ g, v.ownBlock = some g → ¬ G g)
  bel : Below w0.heap.size w0 w
  rd : RdB w v b
theorem DXP.dx {v : Value} {b : List Int} (h : DXP w0 w kb t r st life most S T v b) : DX w0 w kb t r st life most S T := by
  obtain ⟨F, G, h1, h2, h3, h4, h5, h6, h7, h8⟩ := h.ex
  exact ⟨⟨F, G, h1, h2, h3, h4, h5, h6, h7⟩, h.bel⟩
theorem dpass (h : DX w0 w kb t r st life most S T) (a c : Int) :
    Calls Try.prog 15 #[.pointer (some ⟨t, 0, none⟩), .int .i64 a, .int .i64 c] w fun e w' => ∃ va vn vk, e = .returned (.tuple #[.slice va vn vk, .bool (passP st a c S).1.isSome]) ∧ DXP w0 w' kb t r st life most (passP st a c S).2 T (.slice va vn vk) ((passP st a c S).1.getD []) := by
  obtain ⟨F, G, h1, h2, h3, h4, h5, h6, h7⟩ := h.ex
  refine (passG h1 a c).mono ?_
  rintro e w' ⟨va, vn, vk, k1, k2, k3, F', k4, s⟩
  obtain ⟨o1, o2⟩ := s.other h2.lt h5
  refine ⟨va, vn, vk, k1, ⟨⟨F', G, by rw [show (passP st a c S).2.2 = S.2 from lost_pass st a c S]; exact k4, h2.keep s.size o1, s.ge h.bel.size h3, h4, o2, h6.stp s, fun q hq => ⟨(h6.stp s q hq).1, (h7 q hq).2⟩, fun g hg hG => h5 g (k3 g hg) hG⟩, h.bel.trans (s.below h.bel.size h3), k2⟩⟩
theorem epass {v : Value} {b : List Int} (h : DXP w0 w kb t r st life most S T v b) (a c : Int) :
    Calls Try.prog 48 #[.pointer (some ⟨r, 0, none⟩), .int .i64 a, .int .i64 c] w fun e w' => ∃ va vn vk, e = .returned (.tuple #[.slice va vn vk, .bool (passP st a c T).1.isSome]) ∧ RdB w' (.slice va vn vk) ((passP st a c T).1.getD []) ∧ RdB w' v b ∧ DX w0 w' kb t r st life most S (passP st a c T).2 := by
  obtain ⟨F, G, h1, h2, h3, h4, h5, h6, h7, h8⟩ := h.ex
  refine (rpass h2 a c).mono ?_
  rintro e w' ⟨va, vn, vk, k1, k2, F', k4, s⟩
  exact ⟨va, vn, vk, k1, k2, Rd.fr h.rd s.fr h8, DX.stepR h.bel h1 h3 h4 h5 h6 h7 (by rw [show (passP st a c T).2.2 = T.2 from lost_pass st a c T]; exact k4) s⟩
theorem drow (h : DX w0 w kb t r st life most S T) (a c : Int) :
    Calls Try.prog 19 #[.pointer (some ⟨t, 0, none⟩), .int .i64 a, .int .i64 c] w fun e w' => ∃ ov fo, e = .returned ov ∧ Own enF 39 2 w.heap.size w' ov fo ∧ All2 (FlB w') fo (rowP st a c S) ∧ Below w.heap.size w w' := by
  obtain ⟨F, G, h1, h2, h3, h4, h5, h6, h7⟩ := h.ex
  refine (rowG h1 a c).mono ?_
  rintro e w' ⟨ov, fo, k1, k2, k3, k4, _⟩
  exact ⟨ov, fo, k1, k2, k3, k4⟩
theorem drline (h : DX w0 w kb t r st life most S T) (a c : Int) :
    Calls Try.prog 29 #[.pointer (some ⟨r, 0, none⟩), .int .i64 a, .int .i64 c] w fun e w' => ∃ v fl, e = .returned v ∧ Own enF 85 2 0 w' v fl ∧ All2 (FlB w') fl (rowP st a c T) ∧ Below w.heap.size w w' := by
  obtain ⟨F, G, h1, h2, h3, h4, h5, h6, h7⟩ := h.ex
  refine (rline h2 a c).mono ?_
  rintro e w' ⟨v, fl, k1, k2, k3, n, k4⟩
  exact ⟨v, fl, k1, k2, k3, by rw [k4]; exact below_drewN (Below.refl _ w) n⟩
theorem dlost (h : DX w0 w kb t r st life most S T) :
    Calls Try.prog 17 #[.pointer (some ⟨t, 0, none⟩)] w fun e w' => e = .returned (.int .i64 S.2) ∧ w' = w := by
  obtain ⟨F, G, h1, h2, h3, h4, h5, h6, h7⟩ := h.ex
  exact lostG h1
theorem DX.rowOk (h : DX w0 w kb t r st life most S T) (a c : Int) : (rowP st a c S).length ≤ 10000 ∧ ∀ p ∈ rowP st a c S, p.1.length ≤ 1000 := by
  obtain ⟨F, G, h1, h2, h3, h4, h5, h6, h7⟩ := h.ex
  unfold rowP
  cases hk : rix st a c with
  | none => exact ⟨by simp, fun p hp => by cases hp⟩
  | some k =>
    obtain ⟨A, B, _, _, _, _, _, _, hlt⟩ := rix_lt hk
    have hq : k < S.1.length := by rw [h1.qlen]; exact hlt
    dsimp only [rowAt]
    rw [getD_get hq]
    exact ⟨(h1.le hq).2, fun p hp => (h1.ok.1 _ (List.getElem_mem hq) p hp).len⟩
end
end Go.Proofs.Yteihpaikdpdglaa
