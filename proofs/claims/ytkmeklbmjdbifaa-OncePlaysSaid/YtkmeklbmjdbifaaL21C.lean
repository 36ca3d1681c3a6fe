/-
  Layer 21: OnceOver: the walk.
-/
import Derived.Test.YtkmeklbmjdbifaaL21A
import Derived.Test.YtkmeklbmjdbifaaOnX
import Derived.Deep.LoopGhost
import Derived.Deep.RegionHeld3
import Derived.Test.YtkmeklbmjdbifaaOnr2
import Derived.Deep.DeepCutAuto
import Derived.Deep.CutBlock
namespace Go.Proofs.Ytkmeklbmjdbifaa
open Go.RowKit
set_option linter.unusedVariables false


theorem w64 {n : Int} (h : -9223372036854775808 ≤ n ∧ n ≤ 9223372036854775807) : wrap64 n = n := by unfold wrap64; omega
theorem u16_mask (x : Int) (m : Nat) (hm : m < 15) : bits .and .u16 x ((2 ^ m - 1 : Nat) : Int) = x % (2 ^ m : Nat) := by
  have h2 : (2 : Nat) ^ m ≤ 2 ^ 14 := Nat.pow_le_pow_right (by decide) (by omega)
  have h0 : 0 < (2 : Nat) ^ m := Nat.pow_pos (by decide)
  have e1 : (BitVec.ofInt 16 x &&& BitVec.ofInt 16 ((2 ^ m - 1 : Nat) : Int)).toNat = (x % 65536).toNat % 2 ^ m := by
    rw [BitVec.toNat_and, BitVec.toNat_ofInt, BitVec.toNat_ofInt]
    have : (((2 ^ m - 1 : Nat) : Int) % ((2 ^ 16 : Nat) : Int)).toNat = 2 ^ m - 1 := by
      rw [Int.emod_eq_of_lt (by omega) (by omega)]
      simp
    rw [this, Nat.and_two_pow_sub_one_eq_mod]
    rfl
  have e2 : (((x % 65536).toNat % 2 ^ m : Nat) : Int) = x % ((2 ^ m : Nat) : Int) := by
    rw [Int.natCast_emod, Int.toNat_of_nonneg (Int.emod_nonneg _ (by decide))]
    refine Int.emod_emod_of_dvd x ?_
    have : (65536 : Int) = ((2 ^ 16 : Nat) : Int) := by decide
    rw [this]
    exact Int.natCast_dvd_natCast.2 (Nat.pow_dvd_pow 2 (by omega))
  show IntKind.u16.wrap (((BitVec.ofInt 16 x &&& BitVec.ofInt 16 ((2 ^ m - 1 : Nat) : Int)).toNat : Nat) : Int) = _
  rw [e1, e2]
  have h3 := Int.emod_nonneg x (show ((2 ^ m : Nat) : Int) ≠ 0 by omega)
  have h4 := Int.emod_lt_of_pos x (show (0 : Int) < ((2 ^ m : Nat) : Int) by omega)
  generalize x % ((2 ^ m : Nat) : Int) = y at *
  simp [IntKind.wrap, IntKind.bits, IntKind.signed]
  omega
theorem u16_and3 (x : Int) : bits .and .u16 x 3 = x % 4 := u16_mask x 2 (by decide)
theorem u16_and7 (x : Int) : bits .and .u16 x 7 = x % 8 := u16_mask x 3 (by decide)
theorem i64_and2 (x : Int) : bits .and .i64 x 2 = 0 ∨ bits .and .i64 x 2 = 2 := by
  have key : ∀ b : BitVec 64, (b &&& 2#64).toNat = 0 ∨ (b &&& 2#64).toNat = 2 := by
    intro b
    rw [BitVec.toNat_and, show (2#64).toNat = 2 from rfl]
    have h1 : b.toNat &&& 2 ≤ 2 := Nat.and_le_right
    have h2 : ¬ ((b.toNat &&& 2) % 2 = 1) := by rw [Nat.and_mod_two_eq_one]; omega
    omega
  show IntKind.i64.wrap (((BitVec.ofInt 64 x &&& BitVec.ofInt 64 2).toNat : Nat) : Int) = 0 ∨ IntKind.i64.wrap (((BitVec.ofInt 64 x &&& BitVec.ofInt 64 2).toNat : Nat) : Int) = 2
  rcases key (BitVec.ofInt 64 x) with h | h
  · exact .inl (by rw [show (BitVec.ofInt 64 2) = 2#64 from rfl, h]; rfl)
  · exact .inr (by rw [show (BitVec.ofInt 64 2) = 2#64 from rfl, h]; rfl)

theorem rdB2 (W : World) (x y : Int) (b : Nat) (hb : b = W.heap.size) : RdB (W.alloc (.cells #[.int .u8 x, .int .u8 y] 5)).drew (.slice (some ⟨b, 0, none⟩) 2 2) [x, y] := Rd.drew (rdB_newF hb rfl rfl)
/-- How many were asked, how many are over, how long it has asked. -/
structure Ov (c : Cf) (T : Int) (L k : Nat) (asked over ticks : Int) (s : Sk) : Prop where
  live : s.live
  a : 0 ≤ over ∧ over ≤ asked ∧ asked ≤ k
  t : 0 ≤ ticks ∧ ticks ≤ k
  d : asked - over = if s.asks = true then 1 else 0
  u : s.asks = true → 1 ≤ s.sent ∧ s.sent ≤ c.tries ∧ s.left ≤ c.ack ∧ ticks = s.sent * c.ack - s.left
  r : s.asks = true → L < k → (k : Int) - L ≤ ticks
def Ow (c : Cf) (T : Int) (L k : Nat) (asked over ticks : Int) (s : Sk) (ov : Bool) : Prop := Ov c T L (k + 1) asked (over + (if ov = true then 1 else 0)) ticks s ∧ (ov = true → ticks ≤ T)

section
variable {c : Cf} {T : Int} {L k : Nat} {asked over ticks : Int} {s s' : Sk} {P : Pd}
theorem ov_start (c : Cf) (T : Int) (L : Nat) : Ov c T L 0 0 0 0 sk0 := ⟨(by intro e; cases e), by decide, by decide, rfl, (by intro e; cases e), (by intro e; cases e)⟩
theorem ov_ask (hc : c.ok) (h : Ov c T L k asked over ticks s) (hk : k < L) {b : List Int} {poll : Bool} {E : Int} (hr : askR c 4 8 s b poll = (P, E, s')) (hE : E = 0) : Ow c T L k (asked + 1) over 0 s' false := by
  obtain ⟨h1, h2, h3, h4, h5, h6⟩ := h
  unfold askR at hr
  split at hr
  · rename_i he
    have ha : s.asks = false := by
      cases hx : s.asks with
      | false => rfl
      | true => unfold askE at he; rw [if_pos hx] at he; omega
    simp only [Prod.mk.injEq] at hr
    obtain ⟨rfl, rfl, rfl⟩ := hr
    rw [if_neg (by simp [ha])] at h4
    have hc1 := hc.1
    have hc2 := hc.2.1
    refine ⟨⟨fun _ => ?_, ?_, ?_, ?_, fun _ => ⟨?_, ?_, ?_, ?_⟩, fun _ hh => ?_⟩, fun e => by cases e⟩
    · show 1 ≤ c.ack; omega
    · simp; omega
    · omega
    · show _ = if true = true then 1 else 0
      simp; omega
    · show (1 : Int) ≤ 1; omega
    · show (1 : Int) ≤ c.tries; omega
    · show c.ack ≤ c.ack; omega
    · show (0 : Int) = 1 * c.ack - c.ack; omega
    · omega
  · rename_i he
    simp only [Prod.mk.injEq] at hr
    obtain ⟨rfl, rfl, rfl⟩ := hr
    exact absurd hE he
theorem ov_stay (h : Ov c T L k asked over ticks s) (hk : k < L) : Ow c T L k asked over ticks s false := by
  obtain ⟨h1, h2, h3, h4, h5, h6⟩ := h
  exact ⟨⟨h1, by simp; omega, by omega, by simpa using h4, h5, fun _ hh => by omega⟩, fun e => by cases e⟩
theorem ov_askNo (h : Ov c T L k asked over ticks s) (hk : k < L) {b : List Int} {poll : Bool} {E : Int} (hr : askR c 4 8 s b poll = (P, E, s')) (hE : E ≠ 0) : Ow c T L k asked over ticks s' false := by
  unfold askR at hr
  split at hr
  · simp only [Prod.mk.injEq] at hr
    obtain ⟨rfl, rfl, rfl⟩ := hr
    exact absurd rfl hE
  · simp only [Prod.mk.injEq] at hr
    obtain ⟨rfl, rfl, rfl⟩ := hr
    exact ov_stay h hk
theorem ov_le (hc : c.ok) (hT : T = c.tries * c.ack) (h : Ov c T L k asked over ticks s) (ha : s.asks = true) : s.sent * c.ack ≤ T := by
  obtain ⟨h1, h2, h3, h4, h5, h6⟩ := h
  rw [hT]
  exact Int.mul_le_mul_of_nonneg_right (h5 ha).2.1 (by have := hc.2.1; omega)
theorem ov_hear (hc : c.ok) (hT : T = c.tries * c.ack) (h : Ov c T L k asked over ticks s) (hk : k < L) {p : Pd} {ov : Bool} {st : Int} {B : List Int} (hr : hearR 4 8 s p = ((ov, st, B), s')) : Ow c T L k asked over ticks s' ov := by
  have hs := ov_stay h hk
  unfold hearR at hr
  split at hr
  · rename_i hk2
    have ha : s.asks = true := by unfold hearOk at hk2; simp only [Bool.and_eq_true] at hk2; exact hk2.1.1.1.1.1.1.1
    split at hr
    · simp only [Prod.mk.injEq] at hr
      obtain ⟨⟨rfl, rfl, rfl⟩, rfl⟩ := hr
      exact hs
    · simp only [Prod.mk.injEq] at hr
      obtain ⟨⟨rfl, rfl, rfl⟩, rfl⟩ := hr
      have hle := ov_le hc hT h ha
      obtain ⟨h1, h2, h3, h4, h5, h6⟩ := h
      rw [if_pos ha] at h4
      have := h1 ha
      have h5 := h5 ha
      refine ⟨⟨fun e => (by cases e), ?_, ?_, ?_, fun e => (by cases e), fun e => (by cases e)⟩, fun _ => ?_⟩
      · simp; omega
      · omega
      · show _ = if false = true then (1 : Int) else 0
        simp; omega
      · omega
  · simp only [Prod.mk.injEq] at hr
    obtain ⟨⟨rfl, rfl, rfl⟩, rfl⟩ := hr
    exact hs
theorem ov_tick (hc : c.ok) (hT : T = c.tries * c.ack) (h : Ov c T L k asked over ticks s) {sent ov : Bool} {st : Int} (hr : tickR c 4 8 s = (P, sent, (ov, st), s')) : Ow c T L k asked over (ticks + 1) s' ov := by
  have hle := ov_le hc hT h
  obtain ⟨h1, h2, h3, h4, h5, h6⟩ := h
  unfold tickR at hr
  split at hr
  · rename_i ha
    simp only [Prod.mk.injEq] at hr
    obtain ⟨rfl, rfl, ⟨rfl, rfl⟩, rfl⟩ := hr
    refine ⟨⟨fun e => ?_, by simp; omega, by omega, by simpa using h4, fun e => ?_, fun e => ?_⟩, fun e => by cases e⟩ <;> (have e' : s.asks = true := e; rw [ha] at e'; cases e')
  · rename_i ha
    have ha : s.asks = true := by simpa using ha
    have hle := hle ha
    have h1a := h1 ha
    obtain ⟨u1, u2, u3, u4⟩ := h5 ha
    rw [if_pos ha] at h4
    split at hr
    · rename_i h2l
      simp only [Prod.mk.injEq] at hr
      obtain ⟨rfl, rfl, ⟨rfl, rfl⟩, rfl⟩ := hr
      refine ⟨⟨fun e => ?_, by simp; omega, by omega, ?_, fun e => ⟨u1, u2, ?_, ?_⟩, fun e hh => ?_⟩, fun e => by cases e⟩
      · show 1 ≤ s.left - 1; omega
      · show _ = if s.asks = true then (1 : Int) else 0
        rw [if_pos ha]; simp; omega
      · show s.left - 1 ≤ c.ack; omega
      · show ticks + 1 = s.sent * c.ack - (s.left - 1); omega
      · by_cases hx : L < k
        · have := h6 ha hx; omega
        · omega
    · rename_i h2l
      split at hr
      · rename_i ht
        simp only [Prod.mk.injEq] at hr
        obtain ⟨rfl, rfl, ⟨rfl, rfl⟩, rfl⟩ := hr
        refine ⟨⟨fun e => (by cases e), by simp; omega, by omega, ?_, fun e => (by cases e), fun e => (by cases e)⟩, fun _ => by omega⟩
        show _ = if false = true then (1 : Int) else 0
        simp; omega
      · rename_i ht
        simp only [Prod.mk.injEq] at hr
        obtain ⟨rfl, rfl, ⟨rfl, rfl⟩, rfl⟩ := hr
        refine ⟨⟨fun e => ?_, by simp; omega, by omega, ?_, fun e => ⟨?_, ?_, ?_, ?_⟩, fun e hh => ?_⟩, fun e => by cases e⟩
        · show 1 ≤ c.ack; exact hc.2.1.1
        · show _ = if s.asks = true then (1 : Int) else 0
          rw [if_pos ha]; simp; omega
        · show 1 ≤ s.sent + 1; omega
        · show s.sent + 1 ≤ c.tries; omega
        · show c.ack ≤ c.ack; omega
        · show ticks + 1 = (s.sent + 1) * c.ack - c.ack
          rw [Int.add_mul]; omega
        · by_cases hx : L < k
          · have := h6 ha hx; omega
          · omega
theorem ov_end (hc : c.ok) (hT : T = c.tries * c.ack) (h : Ov c T L k asked over ticks s) (hT0 : 1 ≤ T) (hk : (k : Int) = L + T) : over = asked := by
  have hle := ov_le hc hT h
  obtain ⟨h1, h2, h3, h4, h5, h6⟩ := h
  cases ha : s.asks with
  | false => rw [if_neg (by simp [ha])] at h4; omega
  | true =>
    have := hle ha
    have := h6 ha (by omega)
    have := h5 ha
    have := h1 ha
    omega
end

set_option maxHeartbeats 16000000 in
set_option maxRecDepth 100000 in
theorem overL (n : Int) (hn : 0 ≤ n ∧ n ≤ 65535) (v : Value) (ds : List Dd) (w : World) (hl : Rd w 13 v ds.length (ds.flatMap encD)) (hok : ∀ d ∈ ds, okD w d) : Calls Try.prog 4 #[.int .u16 n, v] w fun x w' => x = .returned (.bool true) ∧ Below w.heap.size w w' := by
  obtain ⟨la, lc, rfl⟩ := hl.len
  have Hl := Lib.hid hl
  have Hok := Lib.hid hok
  obtain ⟨tr, htr, htr1⟩ : ∃ tr : Int, wrap64 (1 + wrap64 (bits BinOp.and IntKind.u16 n 3)) = tr ∧ (1 ≤ tr ∧ tr ≤ 4) := by
    rw [u16_and3, show wrap64 (n % 4) = n % 4 from w64 (by omega)]
    exact ⟨_, rfl, by rw [show wrap64 (1 + n % 4) = 1 + n % 4 from w64 (by omega)]; omega⟩
  obtain ⟨ak, hak, hak1⟩ : ∃ tr : Int, wrap64 (1 + wrap64 (bits BinOp.and IntKind.u16 (n / 4) 3)) = tr ∧ (1 ≤ tr ∧ tr ≤ 4) := by
    rw [u16_and3, show wrap64 (n / 4 % 4) = n / 4 % 4 from w64 (by omega)]
    exact ⟨_, rfl, by rw [show wrap64 (1 + n / 4 % 4) = 1 + n / 4 % 4 from w64 (by omega)]; omega⟩
  obtain ⟨qu, hqu, hqu1⟩ : ∃ tr : Int, wrap64 (bits BinOp.and IntKind.u16 (n / 16) 3) = tr ∧ (0 ≤ tr ∧ tr ≤ 3) := by
    rw [u16_and3]
    exact ⟨_, rfl, by rw [show wrap64 (n / 16 % 4) = n / 16 % 4 from w64 (by omega)]; omega⟩
  have Hc : Hid ((Cf.mk tr ak qu).ok) := by unfold Hid Cf.ok; simp only; omega
  have hT0 : 1 ≤ tr * ak ∧ tr * ak ≤ 16 := by
    obtain ⟨h1, h2⟩ := htr1
    obtain ⟨h3, h4⟩ := hak1
    have e1 := Int.mul_le_mul_of_nonneg_right h1 (show 0 ≤ ak by omega)
    have e2 := Int.mul_le_mul_of_nonneg_right h2 (show 0 ≤ ak by omega)
    omega
  obtain ⟨T, hT, hT2⟩ : ∃ T : Int, wrap64 (tr * ak) = T ∧ T = tr * ak := ⟨_, rfl, w64 (by omega)⟩
  have HT := Lib.hid hT2
  have hTb : 1 ≤ T ∧ T ≤ 16 := by omega
  obtain ⟨hT1, hT16⟩ := hTb
  obtain ⟨hn0, hn1⟩ := hn
  clear hl hok htr1 hak1 hqu1 hT0 hT2
  go_enter Try.func4, Try.ntmps4
  go_wp2_with fail
  refine (awake w).mono ?_
  rintro x w1 ⟨rfl, b1⟩
  have B1 := Lib.hid b1
  clear b1
  by_cases h150 : 150 < ds.length
  · have hd : decide ((150 : Int) < ds.length) = true := by simp; omega
    go_wp2_with fail
    go_ret
    exact ⟨rfl, B1.out⟩
  have hd : decide ((150 : Int) < ds.length) = false := by simp; omega
  have HR : Hid (ds.length ≤ 150) := by unfold Hid; omega
  clear h150
  go_wp2_with fail
  refine (lcfg ⟨tr, ak, qu⟩ _).mono ?_
  rintro x w2 ⟨rfl, b2⟩
  have C2 := Lib.hid ((b2.block w1.heap.size (by simp)).trans (heap_alloc_new' w1 _))
  have B2 : Hid (Below w.heap.size w w2) := (B1.out.alloc B1.out.size _).trans (b2.mono (by have := B1.out.size; simp; omega))
  clear b2
  go_wp2_with fail
  refine (onewYes ⟨tr, ak, qu⟩ 4 8 Hc.out (by unfold SapI; decide) (by unfold SapI; decide) _).mono ?_
  rintro x w3 ⟨o, rfl, h3, ho, b3⟩
  obtain ⟨cb, hcb⟩ : ∃ cb, cb = w1.heap.size := ⟨_, rfl⟩
  have hcw : w.heap.size ≤ cb := by rw [hcb]; exact B1.out.size
  have HX3 : Hid (OnX w w3 o ⟨tr, ak, qu⟩ sk0 [(cb, .cells #[.int .i64 tr, .int .i64 ak, .int .i64 qu] 30 (0, 0))]) := by
    rw [hcb]
    have hlt := lt_of_block C2.out
    refine ⟨_, h3, fun x e => by rw [e]; exact Nat.le_trans B2.out.size ho, B2.out.trans (b3.mono B2.out.size), fun q hq => ?_⟩
    simp at hq
    subst hq
    exact ⟨(b3.block _ hlt).trans C2.out, fun (e : w1.heap.size = o) => by omega⟩
  have hlen : ds.length ≤ 150 := HR.out
  rw [← hcb]
  clear h3 ho b3 hcb C2
  have k0 : w3.cell? ⟨cb, 0, none⟩ = some (.int .i64 tr) := blk_cell (HX3.out.kept (List.mem_singleton.2 rfl)) 0
  have k1 : w3.cell? ⟨cb, 1, none⟩ = some (.int .i64 ak) := blk_cell (HX3.out.kept (List.mem_singleton.2 rfl)) 1
  go_wp2_with fail
  clear k0 k1
  go_loopg [8, 9, 10, 11] (ds.length + 17) (fun g s8 s9 s10 s11 wx => ∃ (k : Nat) (asked over ticks : Int) (s : Sk), s8 = .int .i64 asked ∧ s9 = .int .i64 over ∧ s10 = .int .i64 ticks ∧ s11 = .int .i64 k ∧ (k : Int) ≤ ds.length + T ∧ g = ds.length + 17 - k ∧ Hid (Ov ⟨tr, ak, qu⟩ T ds.length k asked over ticks s) ∧ OnX w wx o ⟨tr, ak, qu⟩ s [(cb, .cells #[.int .i64 tr, .int .i64 ak, .int .i64 qu] 30 (0, 0))])
  case atStart => exact ⟨0, 0, 0, 0, sk0, rfl, rfl, rfl, rfl, by omega, rfl, ov_start _ _ _, HX3.out⟩
  case round =>
    obtain ⟨k, asked, over, ticks, s, rfl, rfl, rfl, rfl, hk, rfl, HO, hX⟩ := hrel
    have HX := Lib.hid hX
    obtain ⟨a1, a2, a3⟩ := HO.out.a
    obtain ⟨t1, t2⟩ := HO.out.t
    have k0 : wr.cell? ⟨cb, 0, none⟩ = some (.int .i64 tr) := blk_cell (HX.out.kept (List.mem_singleton.2 rfl)) 0
    have k1 : wr.cell? ⟨cb, 1, none⟩ = some (.int .i64 ak) := blk_cell (HX.out.kept (List.mem_singleton.2 rfl)) 1
    clear hX HX3
    by_cases hin : (k : Int) < ds.length + T
    rotate_left
    · have hd1 : decide ((k : Int) < ds.length + T) = false := by simpa using hin
      have hov : over = asked := ov_end Hc.out HT.out HO.out hT1 (by omega)
      subst hov
      clear hin
      go_wp2_with fail
      go_ret
      exact ⟨rfl, HX.out.bel⟩
    have hd1 : decide ((k : Int) < ds.length + T) = true := by simpa using hin
    have hcl : cb < wr.heap.size := lt_of_block (HX.out.kept (List.mem_singleton.2 rfl))
    obtain ⟨db, hdb⟩ : ∃ db, db = wr.heap.size := ⟨_, rfl⟩
    have Hdb := Lib.hid hdb
    have hdw : w.heap.size ≤ db := by rw [hdb]; exact HX.out.bel.size
    have hcd : cb < db := by rw [hdb]; exact hcl
    clear hdb
    go_upto_if 64 with fail
    clear k0 k1 hd1
    go_cut [] (fun wx => ∃ d : Dd, Hid (OnX w wx o ⟨tr, ak, qu⟩ s [(db, .cells #[.int .i64 d.dw, .int .i64 d.n, .bool d.poll, d.bv, .int .i64 d.p.dt, .int .i64 d.p.fr, .bool d.p.resp, .int .i64 d.p.form, .int .i64 d.p.kind, .int .i64 d.p.ns, .int .i64 d.p.nr, .bool d.p.poll, d.pv] 44 (0, 0)), (cb, .cells #[.int .i64 tr, .int .i64 ak, .int .i64 qu] 30 (0, 0))]) ∧ Hid (okD w d) ∧ Hid (k < ds.length ∨ d.dw = 12))
    case first =>
      by_cases hlt : k < ds.length
      · have hd2 : decide ((k : Int) < ds.length) = true := by simpa using hlt
        obtain ⟨lb, lo, lc', hv⟩ := deed_ad Hl.out (by omega)
        simp at hv
        obtain ⟨rfl, rfl⟩ := hv
        have hD := deed_at Hl.out HX.out.bel hlt
        have HA := Lib.hid (Hok.out _ (List.getElem_mem hlt))
        obtain ⟨⟨dw, N, poll, bv, bl, ⟨dt, fr, resp, form, kind, ns, nr, pol, info⟩, pv⟩, hde⟩ : ∃ d, d = ds[k] := ⟨_, rfl⟩
        rw [← hde] at hD HA
        clear hde
        obtain ⟨ba, bc, hbv, hbc, hbm⟩ := HA.out.1.sh
        obtain ⟨pa, pc, hpv, hpc, hpm⟩ := HA.out.2.sh
        dsimp only at hbv hpv hbc hpc
        subst hbv hpv
        have c0 := hD 0 _ rfl
        simp only [Nat.add_zero] at c0
        have c1 := hD 1 _ rfl
        have c2 := hD 2 _ rfl
        have c3 := hD 3 _ rfl
        have c4 := hD 4 _ rfl
        have c5 := hD 5 _ rfl
        have c6 := hD 6 _ rfl
        have c7 := hD 7 _ rfl
        have c8 := hD 8 _ rfl
        have c9 := hD 9 _ rfl
        have c10 := hD 10 _ rfl
        have c11 := hD 11 _ rfl
        have c12 := hD 12 _ rfl
        have Hlt := Lib.hid hlt
        have hlb : lb < wr.heap.size := World.block_lt_of_cell? wr _ c0
        clear hD hlt hbc hbm hpc hpm
        go_wp2_with fail
        go_meet
        rw [Hdb.out]
        exact ⟨⟨dw, N, poll, _, bl, ⟨dt, fr, resp, form, kind, ns, nr, pol, info⟩, _⟩, HX.out.alloc _, HA.out, .inl Hlt.out⟩
      · have hd2 : decide ((k : Int) < ds.length) = false := by simpa using hlt
        go_wp2_with fail
        go_meet
        rw [Hdb.out]
        exact ⟨⟨12, 0, false, .slice none 0 0, [], ⟨0, 0, false, 0, 0, 0, 0, false, []⟩, .slice none 0 0⟩, HX.out.alloc _, ⟨argB_nil w, argB_nil w⟩, .inr rfl⟩
    case rest =>
      obtain ⟨⟨dw, N, poll, bv, bl, ⟨dt, fr, resp, form, kind, ns, nr, pol, info⟩, pv⟩, HXd, HA, Hkd⟩ := hcut
      rename World => wd
      rw [← Hdb.out]
      obtain ⟨ba, bc, hbv, hbc, hbm⟩ := HA.out.1.sh
      obtain ⟨pa, pc, hpv, hpc, hpm⟩ := HA.out.2.sh
      dsimp only at hbv hpv hbc hpc HXd Hkd
      subst hbv hpv
      have Hp := Lib.hid (And.intro hpc hpm)
      clear hbc hbm hpc hpm
      have hdd : db < wd.heap.size := lt_of_block (HXd.out.kept (List.mem_cons_self ..))
      have d0 : wd.cell? ⟨db, 0, none⟩ = some (.int .i64 dw) := blk_cell (HXd.out.kept (List.mem_cons_self ..)) 0
      have d1 : wd.cell? ⟨db, 1, none⟩ = some (.int .i64 N) := blk_cell (HXd.out.kept (List.mem_cons_self ..)) 1
      have d2 : wd.cell? ⟨db, 2, none⟩ = some (.bool poll) := blk_cell (HXd.out.kept (List.mem_cons_self ..)) 2
      have d3 : wd.cell? ⟨db, 3, none⟩ = some (.slice ba bl.length bc) := blk_cell (HXd.out.kept (List.mem_cons_self ..)) 3
      have d4 : wd.cell? ⟨db, 4, none⟩ = some (.int .i64 dt) := blk_cell (HXd.out.kept (List.mem_cons_self ..)) 4
      have d5 : wd.cell? ⟨db, 5, none⟩ = some (.int .i64 fr) := blk_cell (HXd.out.kept (List.mem_cons_self ..)) 5
      have d6 : wd.cell? ⟨db, 6, none⟩ = some (.bool resp) := blk_cell (HXd.out.kept (List.mem_cons_self ..)) 6
      have d7 : wd.cell? ⟨db, 7, none⟩ = some (.int .i64 form) := blk_cell (HXd.out.kept (List.mem_cons_self ..)) 7
      have d8 : wd.cell? ⟨db, 8, none⟩ = some (.int .i64 kind) := blk_cell (HXd.out.kept (List.mem_cons_self ..)) 8
      have d9 : wd.cell? ⟨db, 9, none⟩ = some (.int .i64 ns) := blk_cell (HXd.out.kept (List.mem_cons_self ..)) 9
      have d10 : wd.cell? ⟨db, 10, none⟩ = some (.int .i64 nr) := blk_cell (HXd.out.kept (List.mem_cons_self ..)) 10
      have d11 : wd.cell? ⟨db, 11, none⟩ = some (.bool pol) := blk_cell (HXd.out.kept (List.mem_cons_self ..)) 11
      have d12 : wd.cell? ⟨db, 12, none⟩ = some (.slice pa info.length pc) := blk_cell (HXd.out.kept (List.mem_cons_self ..)) 12
      by_cases h1 : 1024 < bl.length
      · have hd3 : decide ((1024 : Int) < bl.length) = true := by simp; omega
        as_aux_lemma =>
          go_wp2_with fail
          go_ret
          exact ⟨rfl, HXd.out.bel⟩
      have hd3 : decide ((1024 : Int) < bl.length) = false := by simp; omega
      by_cases h2 : 1100 < info.length
      · have hd4 : decide ((1100 : Int) < info.length) = true := by simp; omega
        as_aux_lemma =>
          go_wp2_with fail
          go_ret
          exact ⟨rfl, HXd.out.bel⟩
      have hd4 : decide ((1100 : Int) < info.length) = false := by simp; omega
      clear h1 h2
      go_upto_block 2 with fail
      obtain ⟨W4, hW4⟩ : ∃ W4, W4 = wd.alloc (.cells res0 37) := ⟨_, rfl⟩
      obtain ⟨rb, hrb⟩ : ∃ rb, rb = wd.heap.size := ⟨_, rfl⟩
      have hX4 : OnX w W4 o ⟨tr, ak, qu⟩ s [(rb, .cells res0 37 (0, 0)), (db, .cells #[.int .i64 dw, .int .i64 N, .bool poll, .slice ba bl.length bc, .int .i64 dt, .int .i64 fr, .bool resp, .int .i64 form, .int .i64 kind, .int .i64 ns, .int .i64 nr, .bool pol, .slice pa info.length pc] 44 (0, 0)), (cb, .cells #[.int .i64 tr, .int .i64 ak, .int .i64 qu] 30 (0, 0))] := by rw [hW4, hrb]; exact HXd.out.alloc _
      have HX4 := Lib.hid hX4
      have hrw : w.heap.size ≤ rb := by rw [hrb]; exact HXd.out.bel.size
      have hdr : db < rb := by rw [hrb]; exact hdd
      rw [← hW4, ← hrb]
      clear hX4 hW4 hrb d0 d1 d2 d3 d4 d5 d6 d7 d8 d9 d10 d11 d12 hd3 hd4 hdd
      go_cut [8, 10] (fun v8 v10 wx => ∃ (asked' ticks' : Int) (s' : Sk) (ov : Bool) (u1 u2 : Value), v8 = .int .i64 asked' ∧ v10 = .int .i64 ticks' ∧ Hid (Ow ⟨tr, ak, qu⟩ T ds.length k asked' over ticks' s' ov) ∧ Hid (OnX w wx o ⟨tr, ak, qu⟩ s' [(rb, .cells #[.bool ov, u1, u2] 37 (0, 0)), (cb, .cells #[.int .i64 tr, .int .i64 ak, .int .i64 qu] 30 (0, 0))]))
      case first =>
        have d0 : W4.cell? ⟨db, 0, none⟩ = some (.int .i64 dw) := blk_cell (HX4.out.kept (List.mem_cons_of_mem _ (List.mem_cons_self ..))) 0
        have d1 : W4.cell? ⟨db, 1, none⟩ = some (.int .i64 N) := blk_cell (HX4.out.kept (List.mem_cons_of_mem _ (List.mem_cons_self ..))) 1
        have d2 : W4.cell? ⟨db, 2, none⟩ = some (.bool poll) := blk_cell (HX4.out.kept (List.mem_cons_of_mem _ (List.mem_cons_self ..))) 2
        have d3 : W4.cell? ⟨db, 3, none⟩ = some (.slice ba bl.length bc) := blk_cell (HX4.out.kept (List.mem_cons_of_mem _ (List.mem_cons_self ..))) 3
        have d4 : W4.cell? ⟨db, 4, none⟩ = some (.int .i64 dt) := blk_cell (HX4.out.kept (List.mem_cons_of_mem _ (List.mem_cons_self ..))) 4
        have d5 : W4.cell? ⟨db, 5, none⟩ = some (.int .i64 fr) := blk_cell (HX4.out.kept (List.mem_cons_of_mem _ (List.mem_cons_self ..))) 5
        have d6 : W4.cell? ⟨db, 6, none⟩ = some (.bool resp) := blk_cell (HX4.out.kept (List.mem_cons_of_mem _ (List.mem_cons_self ..))) 6
        have d7 : W4.cell? ⟨db, 7, none⟩ = some (.int .i64 form) := blk_cell (HX4.out.kept (List.mem_cons_of_mem _ (List.mem_cons_self ..))) 7
        have d8 : W4.cell? ⟨db, 8, none⟩ = some (.int .i64 kind) := blk_cell (HX4.out.kept (List.mem_cons_of_mem _ (List.mem_cons_self ..))) 8
        have d9 : W4.cell? ⟨db, 9, none⟩ = some (.int .i64 ns) := blk_cell (HX4.out.kept (List.mem_cons_of_mem _ (List.mem_cons_self ..))) 9
        have d10 : W4.cell? ⟨db, 10, none⟩ = some (.int .i64 nr) := blk_cell (HX4.out.kept (List.mem_cons_of_mem _ (List.mem_cons_self ..))) 10
        have d11 : W4.cell? ⟨db, 11, none⟩ = some (.bool pol) := blk_cell (HX4.out.kept (List.mem_cons_of_mem _ (List.mem_cons_self ..))) 11
        have d12 : W4.cell? ⟨db, 12, none⟩ = some (.slice pa info.length pc) := blk_cell (HX4.out.kept (List.mem_cons_of_mem _ (List.mem_cons_self ..))) 12
        have hdl2 : db < W4.heap.size := lt_of_block (HX4.out.kept (List.mem_cons_of_mem _ (List.mem_cons_self ..)))
        by_cases h2 : dw ≤ 2
        · have hd5 : decide (dw ≤ 2) = true := by simpa using h2
          have Hlt : Hid (k < ds.length) := Hkd.out.elim id (fun e => by omega)
          as_aux_lemma =>
            go_wp2_with fail
            obtain ⟨P, E, s', hr⟩ : ∃ P E s', askR ⟨tr, ak, qu⟩ 4 8 s bl poll = (P, E, s') := ⟨_, _, _, rfl⟩
            have Hr := Lib.hid hr
            refine (xask HX4.out (.slice ba bl.length bc) bl (HA.out.1.thru HX4.out.bel HX4.out.ge) poll hr).mono ?_
            rintro x w5 ⟨a5, k5, ex, rfl, h5, _⟩
            have H5 := Lib.hid h5
            clear h5 hr d0 d1 d2 d3 d4 d5 d6 d7 d8 d9 d10 d11 d12
            by_cases hE : E = 0
            · have hE1 : (E == 0) = true := by simpa using hE
              have HE := Lib.hid hE
              clear hE
              go_wp2_with fail
              go_meet
              exact ⟨asked + 1, 0, s', false, _, _, rfl, rfl, ov_ask Hc.out HO.out Hlt.out Hr.out HE.out, (H5.out.alloc _).sub (sub_xac _ _ _ _ _)⟩
            · have hE1 : (E == 0) = false := by simpa using hE
              have HE := Lib.hid hE
              clear hE
              go_wp2_with fail
              go_meet
              exact ⟨asked, ticks, s', false, _, _, rfl, rfl, ov_askNo HO.out Hlt.out Hr.out HE.out, (H5.out.alloc _).sub (sub_xac _ _ _ _ _)⟩
        have hd5 : decide (dw ≤ 2) = false := by simpa using h2
        by_cases h7 : dw ≤ 7
        · have hd6 : decide (dw ≤ 7) = true := by simpa using h7
          have Hlt : Hid (k < ds.length) := Hkd.out.elim id (fun e => by omega)
          by_cases h55 : 5 ≤ dw
          · have hd7 : decide (5 ≤ dw) = true := by simpa using h55
            have hand := i64_and1 N
            have hw8 : IntKind.i64.wrap (8 + N % 2) = 8 + N % 2 := IntWalk.i64_in _ (by omega)
            obtain ⟨y, hy, hy2⟩ : ∃ y, bits BinOp.and IntKind.i64 N 2 = y ∧ (y = 0 ∨ y = 2) := ⟨_, rfl, i64_and2 N⟩
            obtain ⟨pb, hpb⟩ : ∃ pb, (y == 2) = pb := ⟨_, rfl⟩
            obtain ⟨xx, hxx, hxb⟩ : ∃ x, IntKind.u8.wrap (bits BinOp.and IntKind.i64 (N / 4) 3) = x ∧ (0 ≤ x ∧ x ≤ 255) := ⟨_, rfl, by
              rw [i64_and3]
              have h3 := Int.emod_nonneg (N / 4) (show (4 : Int) ≠ 0 by decide)
              have h4 := Int.emod_lt_of_pos (N / 4) (show (0 : Int) < 4 by decide)
              generalize N / 4 % 4 = y at *
              simp [IntKind.wrap, IntKind.bits, IntKind.signed]
              omega⟩
            have Hxb := Lib.hid hxb
            clear hxb
            go_upto_region 29 with fail
            obtain ⟨W5, hW5⟩ : ∃ W5, W5 = W4.alloc (.cells #[.int .i64 dt, .int .i64 fr, .bool resp, .int .i64 form, .int .i64 kind, .int .i64 ns, .int .i64 nr, .bool pol, .slice pa info.length pc] 33) := ⟨_, rfl⟩
            obtain ⟨pb6, hpb6⟩ : ∃ b, b = W4.heap.size := ⟨_, rfl⟩
            have hX5 : OnX w W5 o ⟨tr, ak, qu⟩ s ((pb6, .cells #[.int .i64 dt, .int .i64 fr, .bool resp, .int .i64 form, .int .i64 kind, .int .i64 ns, .int .i64 nr, .bool pol, .slice pa info.length pc] 33 (0, 0)) :: [(rb, .cells res0 37 (0, 0)), (db, .cells #[.int .i64 dw, .int .i64 N, .bool poll, .slice ba bl.length bc, .int .i64 dt, .int .i64 fr, .bool resp, .int .i64 form, .int .i64 kind, .int .i64 ns, .int .i64 nr, .bool pol, .slice pa info.length pc] 44 (0, 0)), (cb, .cells #[.int .i64 tr, .int .i64 ak, .int .i64 qu] 30 (0, 0))]) := by rw [hW5, hpb6]; exact HX4.out.alloc _
            have HX5 := Lib.hid hX5
            have hpw : w.heap.size ≤ pb6 := by rw [hpb6]; exact HX4.out.bel.size
            have hpd : pb6 ≠ db := by omega
            have hpr : rb < pb6 := by rw [hpb6]; exact lt_of_block (HX4.out.kept (List.mem_cons_self ..))
            rw [← hW5, ← hpb6]
            have n1 : W5.drew.cell? ⟨db, 1, none⟩ = some (.int .i64 N) := blk_cell (hX5.kept (List.mem_cons_of_mem _ (List.mem_cons_of_mem _ (List.mem_cons_self ..)))) 1
            have hdl5 : db < W5.heap.size := lt_of_block (hX5.kept (List.mem_cons_of_mem _ (List.mem_cons_of_mem _ (List.mem_cons_self ..))))
            have ha5 : ∀ x, (W5.alloc x).drew.cell? ⟨db, 1, none⟩ = some (.int .i64 N) := fun x => cellOn' (w := W5) n1 ((Below.refl _ W5).alloc (Nat.le_refl _) x).drew
            have P5 := Lib.hid (hX5.kept (List.mem_cons_self ..))
            clear hX5 hW5 hpb6 d0 d1 d2 d3 d4 d5 d6 d7 d8 d9 d10 d11 d12 hdl2 hd5 hd6 hd7
            go_region_held3 (fun w' => w'.cell? ⟨db, 1, none⟩ = some (.int .i64 N)) (first | with_reducible assumption | with_reducible exact n1 | with_reducible exact ha5 _ | with_reducible exact m1 | with_reducible exact far9 hpd m1 _ _ _ _ _ _ _ _ _) (first
              | (go_at_call 13; refine (copyB _ [_, 7] _ (rdB2 W5 _ 7 _ rfl) (by show 2 ≤ 1000000; decide)).mono ?_; rintro e w3 ⟨v', rfl, o3, b3⟩; obtain ⟨ua, uc, hu, _⟩ := own_shape o3; subst hu; have m1 := cellOn' (ha5 _) b3; have b3' := ((Below.refl _ W5).alloc (Nat.le_refl _) _).drew.trans (b3.mono (by simp)); have p3 := (b3'.block pb6 (lt_of_block P5.out)).trans P5.out; have q0 : w3.cell? ⟨pb6, 0, none⟩ = some (.int .i64 dt) := blk_cell p3 0; have q1 : w3.cell? ⟨pb6, 1, none⟩ = some (.int .i64 fr) := blk_cell p3 1; have q2 : w3.cell? ⟨pb6, 2, none⟩ = some (.bool resp) := blk_cell p3 2; have q3 : w3.cell? ⟨pb6, 3, none⟩ = some (.int .i64 form) := blk_cell p3 3; have q4 : w3.cell? ⟨pb6, 4, none⟩ = some (.int .i64 kind) := blk_cell p3 4; have q5 : w3.cell? ⟨pb6, 5, none⟩ = some (.int .i64 ns) := blk_cell p3 5; have q6 : w3.cell? ⟨pb6, 6, none⟩ = some (.int .i64 nr) := blk_cell p3 6; have q7 : w3.cell? ⟨pb6, 7, none⟩ = some (.bool pol) := blk_cell p3 7; have q8 : w3.cell? ⟨pb6, 8, none⟩ = some (.slice pa info.length pc) := blk_cell p3 8; have qz : ∀ i, w3.frozen? ⟨pb6, i, none⟩ = false := fun i => blk_free p3 i; have B3 := Lib.hid b3'; have O3 := Lib.hid o3; clear b3 b3' o3 p3)
              | fail)
            all_goals
              try simp only [Act.put, List.setIfInBounds_toArray, List.set_cons_zero, List.set_cons_succ]
              obtain ⟨ov, st, B, s', hr⟩ : ∃ ov st B s', hearR 4 8 s ⟨4, 8, true, 2, 8 + N % 2, 0, 0, pb, [xx, 7]⟩ = ((ov, st, B), s') := ⟨_, _, _, _, rfl⟩
              have Hr := Lib.hid hr
              have hX6 := (HX5.out.below B3.out).set9 (.int .i64 4) (.int .i64 8) (.bool true) (.int .i64 2) (.int .i64 (8 + N % 2)) (.int .i64 0) (.int .i64 0) (.bool pb) (.slice ua 2 uc) hpw (by intro q hq; simp at hq; rcases hq with rfl | rfl | rfl <;> simp <;> omega)
              obtain ⟨W6, hW6⟩ : ∃ W6, W6 = ((((((((w3.setCell ⟨pb6, 0, none⟩ (.int .i64 4)).setCell ⟨pb6, 1, none⟩ (.int .i64 8)).setCell ⟨pb6, 2, none⟩ (.bool true)).setCell ⟨pb6, 3, none⟩ (.int .i64 2)).setCell ⟨pb6, 4, none⟩ (.int .i64 (8 + N % 2))).setCell ⟨pb6, 5, none⟩ (.int .i64 0)).setCell ⟨pb6, 6, none⟩ (.int .i64 0)).setCell ⟨pb6, 7, none⟩ (.bool pb)).setCell ⟨pb6, 8, none⟩ (.slice ua 2 uc) := ⟨_, rfl⟩
              have hf6 : Fr (fun b => b = pb6) w3 W6 := by rw [hW6]; exact (((((((((Fr.refl (fun b => b = pb6) w3).setCell (p := ⟨pb6, 0, none⟩) (fun _ => rfl) _).setCell (p := ⟨pb6, 1, none⟩) (fun _ => rfl) _).setCell (p := ⟨pb6, 2, none⟩) (fun _ => rfl) _).setCell (p := ⟨pb6, 3, none⟩) (fun _ => rfl) _).setCell (p := ⟨pb6, 4, none⟩) (fun _ => rfl) _).setCell (p := ⟨pb6, 5, none⟩) (fun _ => rfl) _).setCell (p := ⟨pb6, 6, none⟩) (fun _ => rfl) _).setCell (p := ⟨pb6, 7, none⟩) (fun _ => rfl) _).setCell (p := ⟨pb6, 8, none⟩) (fun _ => rfl) _
              have hO6 : RdB W6 (.slice ua 2 uc) [xx, 7] := (Own.fr O3.out hf6 (fun g hg (e : g = pb6) => by have h1 : W5.heap.size ≤ g := Nat.le_trans (by simp) (O3.out.lt g hg).1; have := lt_of_block P5.out; omega)).rd
              have HO6 := Lib.hid hO6
              obtain ⟨_, _, huc, hle, hmx, _⟩ := own_shape O3.out
              simp only [Value.slice.injEq] at huc
              have Huc : Hid (2 ≤ uc ∧ uc ≤ 9223372036854775807) := by
                obtain ⟨_, _, h3⟩ := huc
                unfold maxLen at hmx
                simp at hle
                exact ⟨by omega, by omega⟩
              rw [← hW6] at hX6 ⊢
              have HX6 := Lib.hid hX6
              have t0 : W6.cell? ⟨pb6, 0, none⟩ = some (.int .i64 4) := blk_cell (hX6.kept (List.mem_cons_self ..)) 0
              have t1 : W6.cell? ⟨pb6, 1, none⟩ = some (.int .i64 8) := blk_cell (hX6.kept (List.mem_cons_self ..)) 1
              have t2 : W6.cell? ⟨pb6, 2, none⟩ = some (.bool true) := blk_cell (hX6.kept (List.mem_cons_self ..)) 2
              have t3 : W6.cell? ⟨pb6, 3, none⟩ = some (.int .i64 2) := blk_cell (hX6.kept (List.mem_cons_self ..)) 3
              have t4 : W6.cell? ⟨pb6, 4, none⟩ = some (.int .i64 (8 + N % 2)) := blk_cell (hX6.kept (List.mem_cons_self ..)) 4
              have t5 : W6.cell? ⟨pb6, 5, none⟩ = some (.int .i64 0) := blk_cell (hX6.kept (List.mem_cons_self ..)) 5
              have t6 : W6.cell? ⟨pb6, 6, none⟩ = some (.int .i64 0) := blk_cell (hX6.kept (List.mem_cons_self ..)) 6
              have t7 : W6.cell? ⟨pb6, 7, none⟩ = some (.bool pb) := blk_cell (hX6.kept (List.mem_cons_self ..)) 7
              have t8 : W6.cell? ⟨pb6, 8, none⟩ = some (.slice ua 2 uc) := blk_cell (hX6.kept (List.mem_cons_self ..)) 8
              have tl : pb6 < W6.heap.size := lt_of_block (hX6.kept (List.mem_cons_self ..))
              clear hX6 hW6 hf6 hO6 huc hle hmx q0 q1 q2 q3 q4 q5 q6 q7 q8 qz m1 n1 ha5
              go_wp2_with fail
              refine (xhear HX6.out ⟨4, 8, true, 2, 8 + N % 2, 0, 0, pb, [xx, 7]⟩ ua uc HO6.out (by intro y hy; simp at hy; rcases hy with rfl | rfl; exact Hxb.out; decide) Huc.out.1 Huc.out.2 hr).mono ?_
              rintro x w7 ⟨a5, k5, ex, rfl, h5, _⟩
              have hs5 := h5.sub (kb' := [(rb, .cells res0 37 (0, 0)), (cb, .cells #[.int .i64 tr, .int .i64 ak, .int .i64 qu] 30 (0, 0))]) (sub_exac _ _ _ _ _)
              have H5 := Lib.hid hs5
              have g0 : w7.cell? ⟨rb, 0, none⟩ = some (.bool false) := blk_cell (hs5.kept (List.mem_cons_self ..)) 0
              have g1 : w7.cell? ⟨rb, 1, none⟩ = some (.int .i64 0) := blk_cell (hs5.kept (List.mem_cons_self ..)) 1
              have g2 : w7.cell? ⟨rb, 2, none⟩ = some (.slice none 0 0) := blk_cell (hs5.kept (List.mem_cons_self ..)) 2
              have gz : ∀ i, w7.frozen? ⟨rb, i, none⟩ = false := fun i => blk_free (hs5.kept (List.mem_cons_self ..)) i
              have gl : rb < w7.heap.size := lt_of_block (hs5.kept (List.mem_cons_self ..))
              clear h5 hs5 hr t0 t1 t2 t3 t4 t5 t6 t7 t8
              go_wp2_with fail
              go_meet
              exact ⟨asked, ticks, s', ov, _, _, rfl, rfl, ov_hear Hc.out HT.out HO.out Hlt.out Hr.out, H5.out.set3 _ _ _ hrw (by intro q hq; simp at hq; subst hq; simp; omega)⟩
          · have hd7 : decide (5 ≤ dw) = false := by simpa using h55
            as_aux_lemma =>
              go_wp2_with fail
              obtain ⟨ov, st, B, s', hr⟩ : ∃ ov st B s', hearR 4 8 s ⟨dt, fr, resp, form, kind, ns, nr, pol, info⟩ = ((ov, st, B), s') := ⟨_, _, _, _, rfl⟩
              have Hr := Lib.hid hr
              refine (xhear (HX4.out.alloc _) ⟨dt, fr, resp, form, kind, ns, nr, pol, info⟩ pa pc (RdB.fr (HA.out.2.rd.fr HX4.out.bel) ((Below.refl _ W4).alloc (Nat.le_refl _) _)) HA.out.2.byt Hp.out.1 Hp.out.2 hr).mono ?_
              rintro x w5 ⟨a5, k5, ex, rfl, h5, _⟩
              have hs5 := h5.sub (kb' := [(rb, .cells res0 37 (0, 0)), (cb, .cells #[.int .i64 tr, .int .i64 ak, .int .i64 qu] 30 (0, 0))]) (sub_exac _ _ _ _ _)
              have H5 := Lib.hid hs5
              have g0 : w5.cell? ⟨rb, 0, none⟩ = some (.bool false) := blk_cell (hs5.kept (List.mem_cons_self ..)) 0
              have g1 : w5.cell? ⟨rb, 1, none⟩ = some (.int .i64 0) := blk_cell (hs5.kept (List.mem_cons_self ..)) 1
              have g2 : w5.cell? ⟨rb, 2, none⟩ = some (.slice none 0 0) := blk_cell (hs5.kept (List.mem_cons_self ..)) 2
              have gz : ∀ i, w5.frozen? ⟨rb, i, none⟩ = false := fun i => blk_free (hs5.kept (List.mem_cons_self ..)) i
              have gl : rb < w5.heap.size := lt_of_block (hs5.kept (List.mem_cons_self ..))
              clear h5 hs5 hr d0 d1 d2 d3 d4 d5 d6 d7 d8 d9 d10 d11 d12
              go_wp2_with fail
              go_meet
              exact ⟨asked, ticks, s', ov, _, _, rfl, rfl, ov_hear Hc.out HT.out HO.out Hlt.out Hr.out, H5.out.set3 _ _ _ hrw (by intro q hq; simp at hq; subst hq; simp; omega)⟩
        · have hd6 : decide (dw ≤ 7) = false := by simpa using h7
          as_aux_lemma =>
            go_wp2_with fail
            obtain ⟨P, sent, ov, st, s', hr⟩ : ∃ P sent ov st s', tickR ⟨tr, ak, qu⟩ 4 8 s = (P, sent, (ov, st), s') := ⟨_, _, _, _, _, rfl⟩
            have Hr := Lib.hid hr
            refine (xtick HX4.out HO.out.live hr).mono ?_
            rintro x w5 ⟨a5, k5, ex, rfl, h5, _⟩
            have hs5 := h5.sub (kb' := [(rb, .cells res0 37 (0, 0)), (cb, .cells #[.int .i64 tr, .int .i64 ak, .int .i64 qu] 30 (0, 0))]) (sub_ac _ _ _ _)
            have H5 := Lib.hid hs5
            have g0 : w5.cell? ⟨rb, 0, none⟩ = some (.bool false) := blk_cell (hs5.kept (List.mem_cons_self ..)) 0
            have g1 : w5.cell? ⟨rb, 1, none⟩ = some (.int .i64 0) := blk_cell (hs5.kept (List.mem_cons_self ..)) 1
            have g2 : w5.cell? ⟨rb, 2, none⟩ = some (.slice none 0 0) := blk_cell (hs5.kept (List.mem_cons_self ..)) 2
            have gz : ∀ i, w5.frozen? ⟨rb, i, none⟩ = false := fun i => blk_free (hs5.kept (List.mem_cons_self ..)) i
            have gl : rb < w5.heap.size := lt_of_block (hs5.kept (List.mem_cons_self ..))
            clear h5 hs5 hr d0 d1 d2 d3 d4 d5 d6 d7 d8 d9 d10 d11 d12
            go_wp2_with fail
            go_meet
            exact ⟨asked, ticks + 1, s', ov, _, _, rfl, rfl, ov_tick Hc.out HT.out HO.out Hr.out, H5.out.set3 _ _ _ hrw (by intro q hq; simp at hq; subst hq; simp; omega)⟩
      case rest =>
        as_aux_lemma =>
          obtain ⟨asked', ticks', s', ov, u1, u2, rfl, rfl, HW, HX5⟩ := hcut
          rename World => wx
          have r0 : wx.cell? ⟨rb, 0, none⟩ = some (.bool ov) := blk_cell (HX5.out.kept (List.mem_cons_self ..)) 0
          have k0 : wx.cell? ⟨cb, 0, none⟩ = some (.int .i64 tr) := blk_cell (HX5.out.kept (List.mem_cons_of_mem _ (List.mem_cons_self ..))) 0
          have k1 : wx.cell? ⟨cb, 1, none⟩ = some (.int .i64 ak) := blk_cell (HX5.out.kept (List.mem_cons_of_mem _ (List.mem_cons_self ..))) 1
          obtain ⟨z, hz⟩ : ∃ z, z = s'.asks := ⟨_, rfl⟩
          have Hz := Lib.hid hz
          have hw1 := HW.out.1.a
          have hw2 := HW.out.1.d
          have hw3 := HW.out.2
          rw [← hz] at hw2
          clear hz
          cases ov
          · simp only [Bool.false_eq_true, if_false, Int.add_zero] at hw1 hw2
            have f1 : decide (asked' < over) = false := by simp; omega
            have f2 : decide (1 < asked' - over) = false := by cases z <;> simp at hw2 ⊢ <;> omega
            have f3 : decide (over < asked') = z := by cases z <;> simp at hw2 ⊢ <;> omega
            have hb1 : 0 ≤ asked' ∧ asked' ≤ 200 := by omega
            obtain ⟨b1, b2⟩ := hb1
            clear hw1 hw2 hw3
            go_wp2_with (go_at_call 15; refine (xbusy HX5.out).mono ?_; rintro x w' ⟨rfl, rfl⟩; rw [← Hz.out])
            go_roundg (ds.length + 17 - (k + 1))
            case measure => have := HR.out; omega
            case rel => exact ⟨k + 1, asked', over, ticks', s', rfl, rfl, rfl, by go_num, by omega, rfl, (by have := HW.out.1; unfold Hid; simpa using this), HX5.out.tail⟩
          · simp only [if_true] at hw1 hw2
            have f0 : decide (T < ticks') = false := by have := hw3 rfl; simp; omega
            have f1 : decide (asked' < over + 1) = false := by simp; omega
            have f2 : decide (1 < asked' - (over + 1)) = false := by cases z <;> simp at hw2 ⊢ <;> omega
            have f3 : decide (over + 1 < asked') = z := by cases z <;> simp at hw2 ⊢ <;> omega
            have hb1 : 0 ≤ asked' ∧ asked' ≤ 200 := by omega
            obtain ⟨b1, b2⟩ := hb1
            clear hw1 hw2 hw3
            go_wp2_with (go_at_call 15; refine (xbusy HX5.out).mono ?_; rintro x w' ⟨rfl, rfl⟩; rw [← Hz.out])
            go_roundg (ds.length + 17 - (k + 1))
            case measure => have := HR.out; omega
            case rel => exact ⟨k + 1, asked', over + 1, ticks', s', rfl, rfl, rfl, by go_num, by omega, rfl, (by have := HW.out.1; unfold Hid; simpa using this), HX5.out.tail⟩
end Go.Proofs.Ytkmeklbmjdbifaa
