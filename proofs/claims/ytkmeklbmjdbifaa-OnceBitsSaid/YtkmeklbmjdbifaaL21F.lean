/-
  Layer 21: OnceBits: the walk.
-/
import Derived.Test.YtkmeklbmjdbifaaL21C
namespace Go.Proofs.Ytkmeklbmjdbifaa
open Go.RowKit
set_option linter.unusedVariables false


theorem rdB1 (W : World) (x : Int) (b : Nat) (hb : b = W.heap.size) : RdB (W.alloc (.cells #[.int .u8 x] 5)) (.slice (some ⟨b, 0, none⟩) 1 1) [x] := rdB_newF hb rfl rfl

/-- While it is not answered. -/
def Tb (c : Cf) (T j : Int) (P : Pd) (s : Sk) : Prop := s.live ∧ ((s.asks = true ∧ onP 4 8 s = P ∧ s.wait = 0 ∧ 1 ≤ s.sent ∧ s.sent ≤ c.tries ∧ s.left ≤ c.ack ∧ j = s.sent * c.ack - s.left) ∨ (s.asks = false ∧ s.wait = c.quiet ∧ s.bit = 0 ∧ j = T))
theorem tb_start {c : Cf} {s s' : Sk} {b : List Int} {P : Pd} {E T : Int} (hc : c.ok) (h0 : s.wait = 0) (hr : askR c 4 8 s b false = (P, E, s')) (hE : E = 0) : Tb c T 0 P s' := by
  unfold askR at hr
  split at hr
  · simp only [Prod.mk.injEq] at hr
    obtain ⟨rfl, rfl, rfl⟩ := hr
    have h1 := hc.1
    have h2 := hc.2.1
    refine ⟨fun _ => ?_, .inl ⟨rfl, rfl, h0, ?_, ?_, ?_, ?_⟩⟩
    · show 1 ≤ c.ack; omega
    · show (1 : Int) ≤ 1; omega
    · show (1 : Int) ≤ c.tries; omega
    · show c.ack ≤ c.ack; omega
    · show (0 : Int) = 1 * c.ack - c.ack; omega
  · rename_i he
    simp only [Prod.mk.injEq] at hr
    obtain ⟨rfl, rfl, rfl⟩ := hr
    exact absurd hE he
theorem tb_tick {c : Cf} {s s' : Sk} {P Q : Pd} {T j : Int} {sent : Bool} {r : Bool × Int} (hc : c.ok) (hT : T = c.tries * c.ack) (h : Tb c T j P s) (hj : j < T) (hr : tickR c 4 8 s = (Q, sent, r, s')) : Tb c T (j + 1) P s' ∧ (sent = true → Q = P) := by
  obtain ⟨hl, h | h⟩ := h
  · obtain ⟨ha, hP, hw, u1, u2, u3, u4⟩ := h
    have h1a := hl ha
    unfold tickR at hr
    rw [if_neg (by simp [ha])] at hr
    split at hr
    · rename_i h2
      simp only [Prod.mk.injEq] at hr
      obtain ⟨rfl, rfl, rfl, rfl⟩ := hr
      refine ⟨⟨fun _ => ?_, .inl ⟨ha, hP, hw, u1, u2, ?_, ?_⟩⟩, fun e => (by cases e)⟩
      · show 1 ≤ s.left - 1; omega
      · show s.left - 1 ≤ c.ack; omega
      · show j + 1 = s.sent * c.ack - (s.left - 1); omega
    · rename_i h2
      split at hr
      · rename_i ht
        simp only [Prod.mk.injEq] at hr
        obtain ⟨rfl, rfl, rfl, rfl⟩ := hr
        refine ⟨⟨fun e => (by cases e), .inr ⟨rfl, rfl, rfl, ?_⟩⟩, fun e => (by cases e)⟩
        have e1 : s.sent = c.tries := by omega
        rw [hT, ← e1]
        omega
      · rename_i ht
        simp only [Prod.mk.injEq] at hr
        obtain ⟨rfl, rfl, rfl, rfl⟩ := hr
        refine ⟨⟨fun _ => ?_, .inl ⟨ha, hP, hw, ?_, ?_, ?_, ?_⟩⟩, fun _ => hP⟩
        · show 1 ≤ c.ack; exact hc.2.1.1
        · show 1 ≤ s.sent + 1; omega
        · show s.sent + 1 ≤ c.tries; omega
        · show c.ack ≤ c.ack; omega
        · show j + 1 = (s.sent + 1) * c.ack - c.ack
          rw [Int.add_mul]; omega
  · obtain ⟨_, _, _, h4⟩ := h
    omega
theorem tb_end {c : Cf} {s : Sk} {P : Pd} {T : Int} (hc : c.ok) (hT : T = c.tries * c.ack) (h : Tb c T T P s) : s.asks = false ∧ s.wait = c.quiet ∧ s.bit = 0 := by
  obtain ⟨hl, h | h⟩ := h
  · obtain ⟨ha, hP, hw, u1, u2, u3, u4⟩ := h
    have h1a := hl ha
    have := Int.mul_le_mul_of_nonneg_right u2 (show 0 ≤ c.ack by have := hc.2.1; omega)
    omega
  · exact ⟨h.1, h.2.1, h.2.2.1⟩
theorem ask_rest {c : Cf} {s : Sk} {b : List Int} (ha : s.asks = false) (hw : s.wait = 0) (hb : b.length ≤ 1024) : askR c 4 8 s b false = (onP 4 8 (askS c s b false), 0, askS c s b false) := by
  unfold askR
  rw [if_pos (by unfold askE; rw [if_neg (by simp [ha]), if_neg (by omega), if_neg (by omega)])]
theorem ask_wait {c : Cf} {s : Sk} {b : List Int} (ha : s.asks = false) (hw : 0 < s.wait) : askR c 4 8 s b false = (zeroPd, 11, s) := by
  have he : askE s b.length = 11 := by unfold askE; rw [if_neg (by simp [ha]), if_pos hw]
  unfold askR
  rw [if_neg (by omega), he]
theorem hear_good (c : Cf) (s : Sk) (b : List Int) (hb : s.bit = 0 ∨ s.bit = 1) : hearR 4 8 (askS c s b false) ⟨4, 8, true, 2, 8 + s.bit, 0, 0, false, [0]⟩ = ((true, 0, []), { askS c s b false with asks := false, bit := 1 - s.bit }) := by
  unfold hearR
  rw [if_pos]
  · rfl
  · unfold hearOk
    rcases hb with h | h <;> simp [askS, mayP, headOk, formOk, kindOk, inR_def', h]

set_option maxHeartbeats 16000000 in
set_option maxRecDepth 100000 in
theorem bitsL (n : Int) (hn : 0 ≤ n ∧ n ≤ 65535) (v : Value) (ls : List Bool) (w : World) (hl : Rd w 1 v ls.length (ls.flatMap fun b => [Value.bool b])) : Calls Try.prog 6 #[.int .u16 n, v] w fun x w' => x = .returned (.bool true) ∧ Below w.heap.size w w' := by
  obtain ⟨la, lc, rfl⟩ := hl.len
  have Hl := Lib.hid hl
  obtain ⟨tr, htr, htr1⟩ : ∃ tr : Int, wrap64 (1 + wrap64 (bits BinOp.and IntKind.u16 n 3)) = tr ∧ (1 ≤ tr ∧ tr ≤ 4) := by
    rw [u16_and3, show wrap64 (n % 4) = n % 4 from w64 (by omega)]
    exact ⟨_, rfl, by rw [show wrap64 (1 + n % 4) = 1 + n % 4 from w64 (by omega)]; omega⟩
  obtain ⟨ak, hak, hak1⟩ : ∃ tr : Int, wrap64 (1 + wrap64 (bits BinOp.and IntKind.u16 (n / 4) 3)) = tr ∧ (1 ≤ tr ∧ tr ≤ 4) := by
    rw [u16_and3, show wrap64 (n / 4 % 4) = n / 4 % 4 from w64 (by omega)]
    exact ⟨_, rfl, by rw [show wrap64 (1 + n / 4 % 4) = 1 + n / 4 % 4 from w64 (by omega)]; omega⟩
  obtain ⟨qu, hqu, hqu1⟩ : ∃ tr : Int, wrap64 (bits BinOp.and IntKind.u16 (n / 16) 7) = tr ∧ (0 ≤ tr ∧ tr ≤ 7) := by
    rw [u16_and7]
    exact ⟨_, rfl, by rw [show wrap64 (n / 16 % 8) = n / 16 % 8 from w64 (by omega)]; omega⟩
  have Hc : Hid ((Cf.mk tr ak qu).ok) := by unfold Hid Cf.ok; simp only; omega
  have hT0 : 1 ≤ tr * ak ∧ tr * ak ≤ 16 := by
    obtain ⟨h1, h2⟩ := htr1
    obtain ⟨h3, h4⟩ := hak1
    have e1 := Int.mul_le_mul_of_nonneg_right h1 (show 0 ≤ ak by omega)
    have e2 := Int.mul_le_mul_of_nonneg_right h2 (show 0 ≤ ak by omega)
    omega
  obtain ⟨T, hT, hT2⟩ : ∃ T : Int, wrap64 (tr * ak) = T ∧ T = tr * ak := ⟨_, rfl, w64 (by omega)⟩
  have HT := Lib.hid hT2
  have hTb : 1 ≤ T ∧ T ≤ 16 := by omega
  obtain ⟨hT1, hT16⟩ := hTb
  obtain ⟨hn0, hn1⟩ := hn
  obtain ⟨hq0, hq7⟩ := hqu1
  clear hl htr1 hak1 hT0 hT2
  go_enter Try.func6, Try.ntmps6
  go_wp2_with fail
  refine (awake w).mono ?_
  rintro x w1 ⟨rfl, b1⟩
  have B1 := Lib.hid b1
  clear b1
  by_cases h60 : 60 < ls.length
  · have hd : decide ((60 : Int) < ls.length) = true := by simp; omega
    go_wp2_with fail
    go_ret
    exact ⟨rfl, B1.out⟩
  have hd : decide ((60 : Int) < ls.length) = false := by simp; omega
  have HR : Hid (ls.length ≤ 60) := by unfold Hid; omega
  clear h60
  go_wp2_with fail
  refine (lcfg ⟨tr, ak, qu⟩ _).mono ?_
  rintro x w2 ⟨rfl, b2⟩
  have C2 := Lib.hid ((b2.block w1.heap.size (by simp)).trans (heap_alloc_new' w1 _))
  have B2 : Hid (Below w.heap.size w w2) := (B1.out.alloc B1.out.size _).trans (b2.mono (by have := B1.out.size; simp; omega))
  clear b2
  go_wp2_with fail
  refine (onewYes ⟨tr, ak, qu⟩ 4 8 Hc.out (by unfold SapI; decide) (by unfold SapI; decide) _).mono ?_
  rintro x w3 ⟨o, rfl, h3, ho, b3⟩
  obtain ⟨cb, hcb⟩ : ∃ cb, cb = w1.heap.size := ⟨_, rfl⟩
  have hcw : w.heap.size ≤ cb := by rw [hcb]; exact B1.out.size
  have HX3 : Hid (OnX w w3 o ⟨tr, ak, qu⟩ sk0 [(cb, .cells #[.int .i64 tr, .int .i64 ak, .int .i64 qu] 30 (0, 0))]) := by
    rw [hcb]
    have hlt := lt_of_block C2.out
    refine ⟨_, h3, fun x e => by rw [e]; exact Nat.le_trans B2.out.size ho, B2.out.trans (b3.mono B2.out.size), fun q hq => ?_⟩
    simp at hq
    subst hq
    exact ⟨(b3.block _ hlt).trans C2.out, fun (e : w1.heap.size = o) => by omega⟩
  have hlen : ls.length ≤ 60 := HR.out
  rw [← hcb]
  clear h3 ho b3 hcb C2
  go_wp2_with fail
  go_loopg [8, 9] ls.length (fun g s8 s9 wx => ∃ (k : Nat) (s : Sk), s8 = .int .i64 s.bit ∧ s9 = .int .i64 k ∧ k ≤ ls.length ∧ g = ls.length - k ∧ (0 ≤ s.bit ∧ s.bit ≤ 1) ∧ Hid (s.asks = false ∧ s.wait = 0 ∧ s.live) ∧ OnX w wx o ⟨tr, ak, qu⟩ s [(cb, .cells #[.int .i64 tr, .int .i64 ak, .int .i64 qu] 30 (0, 0))])
  case atStart => exact ⟨0, sk0, rfl, rfl, Nat.zero_le _, rfl, by decide, ⟨rfl, rfl, (by intro e; cases e)⟩, HX3.out⟩
  case round =>
    obtain ⟨k, s, rfl, rfl, hk, rfl, hbit, HS, hX⟩ := hrel
    have HX := Lib.hid hX
    obtain ⟨hb0, hb1⟩ := hbit
    clear hX HX3
    by_cases hin : k < ls.length
    rotate_left
    · have hd1 : decide ((k : Int) < ls.length) = false := by simp; omega
      go_wp2_with (go_at_call 15; refine (xbusy HX.out).mono ?_; rintro x w' ⟨rfl, rfl⟩; rw [HS.out.1])
      go_ret
      exact ⟨rfl, HX.out.bel⟩
    have hd1 : decide ((k : Int) < ls.length) = true := by simp; omega
    have hwx : IntKind.u8.wrap (k : Int) = (k : Int) := by simp [IntKind.wrap, IntKind.bits, IntKind.signed]; omega
    have hwb : IntKind.i64.wrap (8 + s.bit) = 8 + s.bit := IntWalk.i64_in _ (by omega)
    have hk60 : (k : Int) ≤ 60 := by have := HR.out; omega
    have Hin := Lib.hid hin
    obtain ⟨b, hb⟩ : ∃ b, b = ls[k]'hin := ⟨_, rfl⟩
    obtain ⟨lb, lo, lc', hv, _, hx⟩ := Rd.some Hl.out (by omega) (by decide)
    simp at hv
    obtain ⟨rfl, rfl⟩ := hv
    have HLb : Hid (∀ W, Below w.heap.size w W → W.cell? ⟨lb, lo + k, none⟩ = some (.bool b)) := fun W hW => by
      have h0 := Rd.el (enc := fun b => [Value.bool b]) (fun _ => rfl) hx hin (j := 0) (by decide) rfl
      have h1 := cellOn' h0 hW
      rw [show lo + (k * 1 + 0) = lo + k by omega] at h1
      rw [hb]
      exact h1
    clear hx hin hb
    go_wp2_with fail
    refine (xask (HX.out.alloc _) (.slice (some ⟨wr.heap.size, 0, none⟩) 1 1) [(k : Int)] (rdB_thru (rdB1 wr k _ rfl) (fun g hg => by simp [Value.ownBlock] at hg; have := HX.out.olt; omega)) false (ask_rest HS.out.1 HS.out.2.1 (by simp))).mono ?_
    obtain ⟨P, hP, hPk⟩ : ∃ P, P = onP 4 8 (askS ⟨tr, ak, qu⟩ s [(k : Int)] false) ∧ P.kind = 8 + s.bit := ⟨_, rfl, rfl⟩
    obtain ⟨s1, hs1⟩ : ∃ s1, s1 = askS ⟨tr, ak, qu⟩ s [(k : Int)] false := ⟨_, rfl⟩
    rw [← hP, ← hs1]
    rintro x w5 ⟨a5, k5, ex, rfl, h5, hrow⟩
    have HP := Lib.hid (And.intro hP hs1)
    have hne : (P.kind != 8 + s.bit) = false := by rw [hPk]; simp
    clear hPk
    have hX5 := (h5.alloc (.cells (pdCs P (.slice a5 P.info.length k5)) 33)).sub (kb' := (w5.heap.size, .cells (pdCs P (.slice a5 P.info.length k5)) 33 (0, 0)) :: (ex ++ [(cb, .cells #[.int .i64 tr, .int .i64 ak, .int .i64 qu] 30 (0, 0))])) (by intro q hq; simp at hq ⊢; rcases hq with h | h | h <;> simp [h])
    have HX5 := Lib.hid hX5
    have HRow := Lib.hid hrow
    obtain ⟨pb, hpb⟩ : ∃ pb, pb = w5.heap.size := ⟨_, rfl⟩
    have hlb5 := HLb.out _ hX5.bel
    have hlb5l : lb < w5.heap.size := World.block_lt_of_cell? w5 _ (HLb.out _ h5.bel)
    have hlb5' := HLb.out _ h5.bel
    have Hwp : Hid (w.heap.size ≤ w5.heap.size) := h5.bel.size
    clear hP hs1 hX5 h5 hrow hpb
    cases b with
    | true =>
      -- it is answered
      go_wp2_with fail
      have hh := hear_good ⟨tr, ak, qu⟩ s [(k : Int)] (by omega)
      rw [← HP.out.2] at hh
      refine (xhear (HX5.out.alloc _) ⟨4, 8, true, 2, 8 + s.bit, 0, 0, false, [0]⟩ (some ⟨w5.heap.size + 1, 0, none⟩) 1 (rdB1 _ 0 _ (by simp)) (by simp) (by simp) (by simp) hh).mono ?_
      rintro x w6 ⟨a6, k6, ex6, rfl, h6, _⟩
      rw [show ([] : List Int).length = 0 from rfl]
      have h7 := (h6.alloc (.cells #[.bool true, .int .i64 0, .slice a6 0 k6] 37)).sub (kb' := [(cb, .cells #[.int .i64 tr, .int .i64 ak, .int .i64 qu] 30 (0, 0))]) (by intro q hq; simp at hq; subst hq; simp)
      have H7 := Lib.hid h7
      have hw1 : IntKind.i64.wrap (1 - s.bit) = 1 - s.bit := IntWalk.i64_in _ (by omega)
      have hwt : ({ s1 with asks := false, bit := 1 - s.bit } : Sk).wait = 0 := by rw [HP.out.2]; exact HS.out.2.1
      have Hwt := Lib.hid hwt
      clear h6 h7 hh hwt hlb5 hlb5'
      go_wp2_with (go_at_call 23; refine (xwait H7.out).mono ?_; rintro x w' ⟨rfl, rfl⟩; rw [Hwt.out])
      go_roundg (ls.length - (k + 1))
      case measure => have := Hin.out; omega
      case rel => exact ⟨k + 1, { s1 with asks := false, bit := 1 - s.bit }, rfl, by go_num, (by have := Hin.out; omega), rfl, ⟨by show 0 ≤ 1 - s.bit; omega, by show 1 - s.bit ≤ 1; omega⟩, ⟨rfl, Hwt.out, (by intro e; cases e)⟩, H7.out⟩
    | false =>
      have hTb : Tb ⟨tr, ak, qu⟩ T 0 P s1 := by
        rw [HP.out.1, HP.out.2]
        exact tb_start Hc.out HS.out.2.1 (ask_rest HS.out.1 HS.out.2.1 (by simp)) rfl
      have HTb := Lib.hid hTb
      clear hTb
      go_wp2_with fail
      go_loopg [13] 20 (fun g s13 wx => ∃ (j : Nat) (s2 : Sk), s13 = .int .i64 j ∧ (j : Int) ≤ T ∧ g = 20 - j ∧ Hid (Tb ⟨tr, ak, qu⟩ T j P s2) ∧ OnX w wx o ⟨tr, ak, qu⟩ s2 ((w5.heap.size, .cells (pdCs P (.slice a5 P.info.length k5)) 33 (0, 0)) :: (ex ++ [(cb, .cells #[.int .i64 tr, .int .i64 ak, .int .i64 qu] 30 (0, 0))])))
      case atStart => exact ⟨0, s1, rfl, by omega, rfl, HTb.out, HX5.out⟩
      case round =>
        obtain ⟨j, s2, rfl, hj, rfl, HT2, hX2⟩ := hrel
        have HX2 := Lib.hid hX2
        have hcb2 := hX2.kept (List.mem_cons_of_mem _ (List.mem_append_right _ (List.mem_singleton.2 rfl)))
        have k0 : wr.cell? ⟨cb, 0, none⟩ = some (.int .i64 tr) := blk_cell hcb2 0
        have k1 : wr.cell? ⟨cb, 1, none⟩ = some (.int .i64 ak) := blk_cell hcb2 1
        have k2 : wr.cell? ⟨cb, 2, none⟩ = some (.int .i64 qu) := blk_cell hcb2 2
        clear hcb2 hX2
        by_cases hjT : (j : Int) < T
        · have hd2 : decide ((j : Int) < T) = true := by simpa using hjT
          obtain ⟨Q, sent, ov, st, s3, hr⟩ : ∃ Q sent ov st s3, tickR ⟨tr, ak, qu⟩ 4 8 s2 = (Q, sent, (ov, st), s3) := ⟨_, _, _, _, _, rfl⟩
          have Hr := Lib.hid hr
          have HjT := Lib.hid hjT
          have hjs : (j : Int) ≤ 16 := by omega
          clear hr hjT
          go_wp2_with fail
          refine (xtick HX2.out HT2.out.1 Hr.out).mono ?_
          rintro x w6 ⟨a6, k6, ex6, rfl, h6, hrow6⟩
          have hTb3 := tb_tick Hc.out HT.out HT2.out HjT.out Hr.out
          have HTb3 := Lib.hid hTb3
          have H6 := Lib.hid h6
          have HRow6 := Lib.hid hrow6
          have hpb := h6.kept (b := w5.heap.size) (List.mem_append_right _ (List.mem_cons_self ..))
          have hpl := lt_of_block hpb
          have u0 : w6.cell? ⟨w5.heap.size, 0, none⟩ = some (.int .i64 P.dt) := blk_cell hpb 0
          have u1 : w6.cell? ⟨w5.heap.size, 1, none⟩ = some (.int .i64 P.fr) := blk_cell hpb 1
          have u2 : w6.cell? ⟨w5.heap.size, 2, none⟩ = some (.bool P.resp) := blk_cell hpb 2
          have u3 : w6.cell? ⟨w5.heap.size, 3, none⟩ = some (.int .i64 P.form) := blk_cell hpb 3
          have u4 : w6.cell? ⟨w5.heap.size, 4, none⟩ = some (.int .i64 P.kind) := blk_cell hpb 4
          have u5 : w6.cell? ⟨w5.heap.size, 5, none⟩ = some (.int .i64 P.ns) := blk_cell hpb 5
          have u6 : w6.cell? ⟨w5.heap.size, 6, none⟩ = some (.int .i64 P.nr) := blk_cell hpb 6
          have u7 : w6.cell? ⟨w5.heap.size, 7, none⟩ = some (.bool P.poll) := blk_cell hpb 7
          have u8 : w6.cell? ⟨w5.heap.size, 8, none⟩ = some (.slice a5 P.info.length k5) := blk_cell hpb 8
          clear h6 hrow6 hTb3 hpb k0 k1 k2 hd2
          cases sent with
          | false =>
            go_wp2_with fail
            go_roundg (20 - (j + 1))
            case measure => omega
            case rel => exact ⟨j + 1, s3, by go_num, (by have := HjT.out; omega), rfl, (by have := HTb3.out.1; unfold Hid; simpa using this), ((H6.out.alloc _).alloc _).sub (fun q hq => List.mem_cons_of_mem _ (List.mem_cons_of_mem _ (List.mem_append_right _ hq)))⟩
          | true =>
            have hQ : Q = P := HTb3.out.2 rfl
            subst hQ
            have hPl : Q.info.length ≤ 1000000 := by rw [HP.out.1]; show 1 ≤ 1000000; decide
            have HPl := Lib.hid hPl
            clear hPl
            go_wp2_with fail
            obtain ⟨W7, hW7⟩ : ∃ W7, W7 = (w6.alloc (.cells (pdCs Q (.slice a6 Q.info.length k6)) 33)).alloc (.cells #[.bool ov, .int .i64 st, .slice none 0 0] 37) := ⟨_, rfl⟩
            have h7 := (H6.out.alloc (.cells (pdCs Q (.slice a6 Q.info.length k6)) 33)).alloc (.cells #[.bool ov, .int .i64 st, .slice none 0 0] 37)
            rw [← hW7] at h7 ⊢
            have H7 := Lib.hid h7
            clear h7 hW7
            refine (rsameP Q a5 a6 k5 k6 W7 (HRow.out W7 (fun q hq => H7.out.kept (List.mem_cons_of_mem _ (List.mem_cons_of_mem _ (List.mem_append_right _ (List.mem_cons_of_mem _ (List.mem_append_left _ hq))))))).rd (HRow6.out W7 (fun q hq => H7.out.kept (List.mem_cons_of_mem _ (List.mem_cons_of_mem _ (List.mem_append_left _ hq))))).rd HPl.out).mono ?_
            rintro x w8 ⟨rfl, b8⟩
            have H8 := Lib.hid (H7.out.below b8)
            clear b8
            go_wp2_with fail
            go_roundg (20 - (j + 1))
            case measure => omega
            case rel => exact ⟨j + 1, s3, by go_num, (by have := HjT.out; omega), rfl, (by have := HTb3.out.1; unfold Hid; simpa using this), H8.out.sub (fun q hq => List.mem_cons_of_mem _ (List.mem_cons_of_mem _ (List.mem_append_right _ hq)))⟩
        · have hd2 : decide ((j : Int) < T) = false := by simpa using hjT
          have hjT2 : (j : Int) = T := by omega
          have hend := tb_end Hc.out HT.out (by have := HT2.out; rw [hjT2] at this; exact this)
          have hX4 : OnX w wr o ⟨tr, ak, qu⟩ s2 [(cb, .cells #[.int .i64 tr, .int .i64 ak, .int .i64 qu] 30 (0, 0))] := HX2.out.sub (by intro q hq; simp at hq; subst hq; simp)
          have HX4 := Lib.hid hX4
          have HE := Lib.hid (And.intro hend HT2.out.1)
          clear hend hX4 hjT hjT2
          go_wp2_with fail
          go_loopg [17] qu.toNat (fun g s17 wx => ∃ (q : Int) (s3 : Sk), s17 = .int .i64 q ∧ 0 ≤ q ∧ q ≤ 7 ∧ g = q.toNat ∧ Hid (s3.asks = false ∧ s3.wait = q ∧ s3.bit = 0 ∧ s3.live) ∧ OnX w wx o ⟨tr, ak, qu⟩ s3 [(cb, .cells #[.int .i64 tr, .int .i64 ak, .int .i64 qu] 30 (0, 0))])
          case atStart => exact ⟨qu, s2, rfl, hq0, hq7, rfl, ⟨HE.out.1.1, HE.out.1.2.1, HE.out.1.2.2, HE.out.2⟩, HX4.out⟩
          case round =>
            obtain ⟨q, s3, rfl, hqa, hqb, rfl, HS3, hX5⟩ := hrel
            have HX6 := Lib.hid hX5
            clear hX5
            by_cases hq : 0 < q
            · have hd3 : decide (0 < q) = true := by simpa using hq
              have Hq := Lib.hid hq
              clear hq
              go_wp2_with fail
              refine (xask HX6.out (.slice none 0 0) [] (fun W' _ => (argB_nil W').rd) false (ask_wait HS3.out.1 (by rw [HS3.out.2.1]; exact Hq.out))).mono ?_
              rintro x w6 ⟨a6, k6, ex6, rfl, h6, _⟩
              rw [show zeroPd.info.length = 0 from rfl]
              have h7 := (h6.alloc (.cells (pdCs zeroPd (.slice a6 0 k6)) 33)).sub (kb' := [(cb, .cells #[.int .i64 tr, .int .i64 ak, .int .i64 qu] 30 (0, 0))]) (by intro q hq; simp at hq; subst hq; simp)
              have H7 := Lib.hid h7
              clear h6 h7
              have hqq : (q != q) = false := by simp
              go_wp2_with (go_at_call 23; refine (xwait H7.out).mono ?_; rintro x w' ⟨rfl, rfl⟩; rw [HS3.out.2.1])
              obtain ⟨s4, hr, hs4⟩ : ∃ s4, tickR ⟨tr, ak, qu⟩ 4 8 s3 = (zeroPd, false, (false, 0), s4) ∧ s4 = { s3 with wait := max (s3.wait - 1) 0 } := ⟨_, by unfold tickR; rw [if_pos HS3.out.1], rfl⟩
              have Hs4 := Lib.hid hs4
              clear hs4
              refine (xtick H7.out HS3.out.2.2.2 hr).mono ?_
              rintro x w8 ⟨a8, k8, ex8, rfl, h8, _⟩
              have H8 := Lib.hid (h8.sub (kb' := [(cb, .cells #[.int .i64 tr, .int .i64 ak, .int .i64 qu] 30 (0, 0))]) (fun q hq => List.mem_append_right _ hq))
              clear h8 hr
              go_wp2_with fail
              go_roundg (q - 1).toNat
              case measure => have := Hq.out; omega
              case rel => exact ⟨q - 1, s4, rfl, (by have := Hq.out; omega), (by omega), rfl, (by rw [Hs4.out]; have h2 := HS3.out.2.1; have := Hq.out; exact ⟨HS3.out.1, (by show max (s3.wait - 1) 0 = q - 1; omega), HS3.out.2.2.1, HS3.out.2.2.2⟩), H8.out⟩
            · have hd3 : decide (0 < q) = false := by simpa using hq
              have hq00 : q = 0 := by omega
              have HQ0 := Lib.hid hq00
              clear hq00 hq
              go_wp2_with fail
              go_roundg (ls.length - (k + 1))
              case measure => have := Hin.out; omega
              case rel => exact ⟨k + 1, s3, (by rw [HS3.out.2.2.1]), by go_num, (by have := Hin.out; omega), rfl, (by rw [HS3.out.2.2.1]; decide), ⟨HS3.out.1, (by rw [HS3.out.2.1]; exact HQ0.out), HS3.out.2.2.2⟩, HX6.out⟩
end Go.Proofs.Ytkmeklbmjdbifaa
