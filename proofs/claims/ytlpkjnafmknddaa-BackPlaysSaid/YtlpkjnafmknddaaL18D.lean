/-
  Layer 18: room, and BackOrder's walk.
-/
import Derived.Test.YtlpkjnafmknddaaL18B
import Derived.Test.YtlpkjnafmknddaaR18R
namespace Go.Proofs.Ytlpkjnafmknddaa
open Go.RowKit
set_option linter.unusedVariables false


/-- Are deeds few and small? -/
def roomB (ds : List Dd) : Bool := decide (ds.length ≤ 300) && ds.all fun d => decide (d.2.2.2.length ≤ 200)
theorem roomB_few {ds : List Dd} (h : roomB ds = true) : ds.length ≤ 300 := by unfold roomB at h; simp at h; exact h.1
theorem roomB_small {ds : List Dd} (h : roomB ds = true) {i : Nat} (hi : i < ds.length) : ds[i].2.2.2.length ≤ 200 := by
  unfold roomB at h; simp at h; exact h.2 _ _ _ _ (List.getElem_mem hi)

/-- The cells of a deed. -/
theorem deed_at {w w' : World} {lb lo n lc : Nat} {ds : List Dd} (hl : Rd w 3 (.slice (some ⟨lb, lo, none⟩) n lc) ds.length (ds.flatMap encD)) (hb : Below w.heap.size w w') {i : Nat} (hi : i < ds.length) :
    w'.cell? ⟨lb, lo + i * 3, none⟩ = some (.int .i64 ds[i].1) ∧ w'.cell? ⟨lb, lo + i * 3 + 1, none⟩ = some (.int .i64 ds[i].2.1) ∧ w'.cell? ⟨lb, lo + i * 3 + 2, none⟩ = some ds[i].2.2.1 := by
  obtain ⟨b', o', c', hv, _, hx⟩ := Rd.some (Rd.fr hl (Fr.of_below hb no) (fun _ _ e => e)) (by omega) (by decide)
  simp at hv
  obtain ⟨⟨rfl, rfl⟩, _, _⟩ := hv
  have h0 := Rd.el encD_len hx hi (j := 0) (by decide) rfl
  have h1 := Rd.el encD_len hx hi (j := 1) (by decide) rfl
  have h2 := Rd.el encD_len hx hi (j := 2) (by decide) rfl
  simp only [Nat.add_zero, ← Nat.add_assoc] at h0 h1 h2
  exact ⟨h0, h1, h2⟩
theorem deed_ad {w : World} {v : Value} {ds : List Dd} (hl : Rd w 3 v ds.length (ds.flatMap encD)) (hn : 0 < ds.length) : ∃ lb lo lc, v = .slice (some ⟨lb, lo, none⟩) ds.length lc := by
  obtain ⟨b', o', c', hv, _, hx⟩ := Rd.some hl hn (by decide)
  exact ⟨b', o', c', hv⟩

set_option maxHeartbeats 4000000 in
theorem room (v : Value) (ds : List Dd) (w : World) (hl : Rd w 3 v ds.length (ds.flatMap encD)) (hok : ∀ d ∈ ds, okD w d) : Calls Try.prog 17 #[v] w fun x w' => x = .returned (.bool (roomB ds)) ∧ w' = w := by
  obtain ⟨la, lc, rfl⟩ := hl.len
  have Hl := Lib.hid hl
  have Hok := Lib.hid hok
  clear hl hok
  by_cases h300 : ds.length ≤ 300
  · have hd : decide ((300 : Int) < ds.length) = false := by simp; omega
    go_enter Try.func17, Try.ntmps17
    go_wp2_with fail
    go_loopg [3] ds.length (fun g s3 wx => ∃ i : Nat, s3 = .int .i64 i ∧ i ≤ ds.length ∧ g = ds.length - i ∧ wx = w ∧ Hid (∀ j (h : j < ds.length), j < i → ds[j].2.2.2.length ≤ 200))
    case atStart => exact ⟨0, rfl, Nat.zero_le _, rfl, rfl, fun j h hj => by omega⟩
    case round =>
      obtain ⟨i, rfl, hi, rfl, rfl, hall⟩ := hrel
      by_cases hin : i < ds.length
      · have hd1 : decide ((i : Int) < ds.length) = true := by simp; omega
        obtain ⟨lb, lo, lc', hv⟩ := deed_ad Hl.out (by omega)
        simp at hv
        obtain ⟨rfl, rfl⟩ := hv
        have h2 := (deed_at Hl.out (Below.refl _ _) hin).2.2
        obtain ⟨ba, bc, hbv⟩ := (Hok.out _ (List.getElem_mem hin)).2.2.len
        rw [hbv] at h2
        clear hbv
        by_cases hs : ds[i].2.2.2.length ≤ 200
        · have hd2 : decide ((200 : Int) < ds[i].2.2.2.length) = false := by simp; omega
          have Hs := Lib.hid hs
          clear hs
          go_wp2_with fail
          go_roundg (ds.length - (i + 1))
          case measure => omega
          case rel => exact ⟨i + 1, by go_num, by omega, rfl, rfl, fun j h hj => by
            by_cases e : j = i
            · subst e; exact Hs.out
            · exact hall.out j h (by omega)⟩
        · have hd2 : decide ((200 : Int) < ds[i].2.2.2.length) = true := by simp; omega
          have hf : Hid (roomB ds = false) := by
            unfold Hid roomB
            simp only [Bool.and_eq_false_iff]
            right
            rw [List.all_eq_false]
            exact ⟨_, List.getElem_mem hin, by simpa using hs⟩
          clear hs
          go_wp2_with fail
          go_ret
          exact ⟨by rw [hf.out]; rfl, rfl⟩
      · have hd1 : decide ((i : Int) < ds.length) = false := by simp; omega
        have hf : Hid (roomB ds = true) := by
          unfold Hid roomB
          simp only [Bool.and_eq_true, decide_eq_true_eq]
          refine ⟨h300, ?_⟩
          rw [List.all_eq_true]
          intro d hd
          obtain ⟨j, hj, rfl⟩ := List.getElem_of_mem hd
          simpa using hall.out j hj (by omega)
        go_wp2_with fail
        go_ret
        exact ⟨by rw [hf.out]; rfl, rfl⟩
  · have hd : decide ((300 : Int) < ds.length) = true := by simp; omega
    have hf : Hid (roomB ds = false) := by unfold Hid roomB; simp [h300]
    clear h300
    go_enter Try.func17, Try.ntmps17
    go_wp2_with fail
    go_ret
    exact ⟨by rw [hf.out]; rfl, rfl⟩

/-- The two bytes of a number. -/
def two (k : Nat) : List Int := [((k : Nat) : Int) / 256, (k : Int) % 256]
theorem two_or : ∀ k : Nat, k ≤ 300 → bits .or .i64 (IntKind.i64.wrap ((k : Int) / 256 * 256)) ((k : Int) % 256) = k := by
  have h : ∀ k : Fin 301, bits .or .i64 (IntKind.i64.wrap (((k.val : Nat) : Int) / 256 * 256)) (((k.val : Nat) : Int) % 256) = (k.val : Int) := by decide +kernel
  exact fun k hk => h ⟨k, by omega⟩
theorem two_or' : ∀ k : Nat, k ≤ 300 → bits .or .i64 ((k : Int) / 256 * 256) ((k : Int) % 256) = k := by
  have h : ∀ k : Fin 301, bits .or .i64 (((k.val : Nat) : Int) / 256 * 256) (((k.val : Nat) : Int) % 256) = (k.val : Int) := by decide +kernel
  exact fun k hk => h ⟨k, by omega⟩

/-- What the law knows of its back. -/
structure OrdI (put gone next out : Nat) (bs : List (List Int)) (i : Nat) : Prop where
  h1 : gone ≤ next
  h2 : next ≤ put
  h3 : put ≤ i
  h4 : bs.length = put - gone
  h5 : out = next - gone
  h6 : ∀ j x, bs[j]? = some x → x = two (gone + j)

set_option maxHeartbeats 16000000 in
set_option maxRecDepth 100000 in
theorem orderL (v : Value) (ds : List Dd) (w : World) (hl : Rd w 3 v ds.length (ds.flatMap encD)) (hok : ∀ d ∈ ds, okD w d) : Calls Try.prog 5 #[v] w fun x w' => x = .returned (.bool true) ∧ Below w.heap.size w w' := by
  obtain ⟨la, lc, rfl⟩ := hl.len
  have Hl := Lib.hid hl
  have Hok := Lib.hid hok
  clear hl hok
  go_enter Try.func5, Try.ntmps5
  go_wp2_with fail
  refine (awake w).mono ?_
  rintro x w1 ⟨rfl, b1⟩
  have B1 := Lib.hid b1
  clear b1
  go_wp2_with fail
  refine (room _ ds w1 (Hl.out.fr (Fr.of_below B1.out no) (fun _ _ e => e)) (fun d hd => ⟨(Hok.out d hd).1, (Hok.out d hd).2.1, (Hok.out d hd).2.2.fr B1.out⟩)).mono ?_
  rintro x w2 ⟨rfl, rfl⟩
  cases hr : roomB ds with
  | false =>
    clear hr
    go_wp2_with fail
    go_ret
    exact ⟨rfl, B1.out⟩
  | true =>
    have HR : Hid (ds.length ≤ 300) := roomB_few hr
    clear hr
    go_wp2_with fail
    refine (xNew B1.out 20 (by decide)).mono ?_
    rintro x w3 ⟨b, rfl, h⟩
    rw [show max (20 : Int) 0 = 20 from rfl] at h
    have H3 := Lib.hid h
    clear h
    go_wp2_with fail
    go_loopg [4, 5, 6, 7] ds.length (fun g s4 s5 s6 s7 wx => ∃ (put gone next out i : Nat) (bs : List (List Int)), s4 = .int .i64 put ∧ s5 = .int .i64 gone ∧ s6 = .int .i64 next ∧ s7 = .int .i64 i ∧ i ≤ ds.length ∧ g = ds.length - i ∧ OrdI put gone next out bs i ∧ BkX w wx [] b 20 out bs)
    case atStart => exact ⟨0, 0, 0, 0, 0, [], rfl, rfl, rfl, rfl, Nat.zero_le _, rfl, ⟨Nat.le_refl _, Nat.le_refl _, Nat.le_refl _, rfl, rfl, fun j x hx => by simp at hx⟩, H3.out⟩
    case round =>
      obtain ⟨put, gone, next, out, i, bs, rfl, rfl, rfl, rfl, hi, rfl, hI, hX⟩ := hrel
      have HI := Lib.hid hI
      have HX := Lib.hid hX
      clear hI hX H3
      by_cases hin : i < ds.length
      · have hd1 : decide ((i : Int) < ds.length) = true := by simp; omega
        obtain ⟨lb, lo, lc', hv⟩ := deed_ad Hl.out (by omega)
        simp at hv
        obtain ⟨rfl, rfl⟩ := hv
        obtain ⟨c0, c1, _⟩ := deed_at Hl.out HX.out.bel hin
        generalize ds[i].1 = do' at c0
        generalize ds[i].2.1 = n' at c1
        obtain ⟨q1, q2, q3, q4, q5, q6⟩ := HI.out
        have hr := HR.out
        have J1 : Hid ((put : Int) ≤ 300 ∧ (gone : Int) ≤ next ∧ (next : Int) ≤ put ∧ (i : Int) ≤ 300 ∧ (bs.length : Int) = put - gone) := by unfold Hid; omega
        clear q1 q2 q3 q4 q5 q6 hr
        by_cases h3 : do' ≤ 3
        · have hd3 : decide (do' ≤ 3) = true := by simpa using h3
          obtain ⟨j1, j2, j3, j4, j5⟩ := J1.out
          clear h3 j5
          go_wp2_with fail
          refine (xPut (HX.out.below ((Below.refl _ wr).alloc (Nat.le_refl _) _)) (rdB_new (l := two put) rfl rfl rfl) (by simp [two]) (by have := J1.out; omega)).mono ?_
          rintro x w4 ⟨rfl, h⟩
          by_cases hlt : (bs.length : Int) < 20
          · have hdl : decide ((bs.length : Int) < 20) = true := by simpa using hlt
            rw [hdl, show putB 20 bs (two put) = bs ++ [two put] from if_pos hlt] at *
            have H4 := Lib.hid h
            have J6 : Hid ((((bs ++ [two put]).length : Nat) : Int) = (put : Int) + 1 - gone) := by unfold Hid; have := J1.out; simp; omega
            clear h hdl
            go_wp2_with fail
            refine (xLen H4.out).mono ?_
            rintro x w5 ⟨rfl, rfl⟩
            rw [J6.out]
            go_wp2_with fail
            go_roundg (ds.length - (i + 1))
            case measure => omega
            case rel =>
              have q := HI.out
              refine ⟨put + 1, gone, next, out, i + 1, bs ++ [two put], by go_num, rfl, rfl, by go_num, by omega, rfl, ⟨q.h1, by have := q.h2; omega, by have := q.h3; omega, by simp; have := q.h4; have := q.h1; have := q.h2; omega, q.h5, fun j x hx => ?_⟩, H4.out⟩
              by_cases hj : j < bs.length
              · rw [List.getElem?_append_left hj] at hx
                exact q.h6 j x hx
              · rw [List.getElem?_append_right (by omega)] at hx
                obtain ⟨e1, e2⟩ := List.getElem?_eq_some_iff.1 hx
                simp at e1 e2
                subst e2
                congr 1
                have := q.h4; have := q.h1; have := q.h2; omega
          · have hdl : decide ((bs.length : Int) < 20) = false := by simpa using hlt
            rw [hdl, show putB 20 bs (two put) = bs from if_neg hlt] at *
            have H4 := Lib.hid h
            clear h hdl hlt
            go_wp2_with fail
            refine (xLen H4.out).mono ?_
            rintro x w5 ⟨rfl, rfl⟩
            have j5 := J1.out.2.2.2.2
            go_wp2_with fail
            clear j5
            go_roundg (ds.length - (i + 1))
            case measure => omega
            case rel =>
              have q := HI.out
              exact ⟨put, gone, next, out, i + 1, bs, rfl, rfl, rfl, by go_num, by omega, rfl, ⟨q.h1, q.h2, by have := q.h3; omega, q.h4, q.h5, q.h6⟩, H4.out⟩
        · have hd3 : decide (do' ≤ 3) = false := by simpa using h3
          clear h3
          by_cases h6 : do' ≤ 6
          · have hd6 : decide (do' ≤ 6) = true := by simpa using h6
            obtain ⟨j1, j2, j3, j4, j5⟩ := J1.out
            clear h6 j5
            go_wp2_with fail
            by_cases hlt : out < bs.length
            · have q := HI.out
              have hx2 : bs[out] = two next := by
                have := q.h6 out bs[out] (List.getElem?_eq_getElem hlt)
                rw [this]; congr 1; have := q.h5; have := q.h1; omega
              refine (xNextYes HX.out hlt (by have := J1.out; omega) (by rw [hx2]; simp [two])).mono ?_
              rintro x w4 ⟨vv, rfl, h⟩
              rw [hx2] at h
              have H4 := Lib.hid h.forget
              have hrd := h.rd (List.mem_cons_self ..)
              obtain ⟨pb, po, pc, rfl, _, hpx⟩ := Rd.some hrd (by simp [two]) (by decide)
              have y0 : w4.cell? ⟨pb, po, none⟩ = some (.int .u8 ((next : Int) / 256)) := hpx 0 _ rfl
              have y1 : w4.cell? ⟨pb, po + 1, none⟩ = some (.int .u8 ((next : Int) % 256)) := hpx 1 _ rfl
              rw [show (two next).length = 2 from rfl]
              have hnp : decide (next < put) = true := by simp; have := q.h5; have := q.h4; omega
              have ho1 := two_or' next (by omega)
              have ho2 := two_or next (by omega)
              clear hpx hrd h hx2 q
              go_wp2_with fail
              go_quiet (fail)
              clear y0 y1 ho1 ho2
              have H5 : Hid (∀ m, BkX w (w4.drewN m) [] b 20 (out + 1) bs) := fun m => H4.out.below (below_drewN (Below.refl _ _) m)
              go_wp2_with fail
              refine (xLen (H5.out _)).mono ?_
              rintro x w5 ⟨rfl, rfl⟩
              have j5 := J1.out.2.2.2.2
              go_wp2_with fail
              clear j5
              go_roundg (ds.length - (i + 1))
              case measure => omega
              case rel =>
                have q := HI.out
                exact ⟨put, gone, next + 1, out + 1, i + 1, bs, rfl, rfl, by go_num, by go_num, by omega, rfl, ⟨by have := q.h1; omega, by have := q.h5; have := q.h4; have := q.h1; omega, by have := q.h3; omega, q.h4, by have := q.h5; have := q.h1; omega, q.h6⟩, H5.out _⟩
            · refine (xNextNo HX.out (by omega) (by have := J1.out; omega)).mono ?_
              rintro x w4 ⟨vv, rfl, h⟩
              have H4 := Lib.hid h.forget
              obtain ⟨va, vk, rfl, _⟩ := own_shape (h.own (List.mem_cons_self ..))
              have hnp : decide (next < put) = false := by simp; have := HI.out.h5; have := HI.out.h4; have := HI.out.h2; have := HI.out.h1; omega
              clear h
              go_wp2_with fail
              go_quiet (fail)
              have H5 : Hid (∀ m, BkX w (w4.drewN m) [] b 20 out bs) := fun m => H4.out.below (below_drewN (Below.refl _ _) m)
              go_wp2_with fail
              refine (xLen (H5.out _)).mono ?_
              rintro x w5 ⟨rfl, rfl⟩
              have j5 := J1.out.2.2.2.2
              go_wp2_with fail
              clear j5
              go_roundg (ds.length - (i + 1))
              case measure => omega
              case rel =>
                have q := HI.out
                exact ⟨put, gone, next, out, i + 1, bs, rfl, rfl, rfl, by go_num, by omega, rfl, ⟨q.h1, q.h2, by have := q.h3; omega, q.h4, q.h5, q.h6⟩, H5.out _⟩
          · have hd6 : decide (do' ≤ 6) = false := by simpa using h6
            clear h6
            by_cases h7 : do' = 7
            · have hd7 : (do' == 7) = true := by simpa using h7
              clear h7
              obtain ⟨j1, j2, j3, j4, j5⟩ := J1.out
              clear j5
              go_wp2_with fail
              refine (xAcked HX.out n' (by have := J1.out; omega)).mono ?_
              rintro x w4 ⟨rfl, h⟩
              have hk := ackN_le n' out
              obtain ⟨k, hkk⟩ : ∃ k, k = ackN n' out := ⟨_, rfl⟩
              rw [← hkk] at h hk ⊢
              have H4 := Lib.hid h
              have J6 : Hid ((((bs.drop k).length : Nat) : Int) = (put : Int) - (gone + k)) := by unfold Hid; have := J1.out; have h5 := HI.out.h5; have h4 := HI.out.h4; rw [List.length_drop]; omega
              have hk1 : (k : Int) ≤ (next : Int) - gone := by have := HI.out.h5; omega
              have HK := Lib.hid hk
              clear h hkk hk
              go_wp2_with fail
              refine (xLen H4.out).mono ?_
              rintro x w5 ⟨rfl, rfl⟩
              rw [J6.out]
              go_wp2_with fail
              go_roundg (ds.length - (i + 1))
              case measure => omega
              case rel =>
                have q := HI.out
                have hk := HK.out
                refine ⟨put, gone + k, next, out - k, i + 1, bs.drop k, rfl, by go_num, rfl, by go_num, by omega, rfl, ⟨by have := q.h5; have := q.h1; omega, q.h2, by have := q.h3; omega, by rw [List.length_drop]; have := q.h4; omega, by have := q.h5; omega, fun j x hx => ?_⟩, H4.out⟩
                rw [List.getElem?_drop] at hx
                rw [q.h6 _ x hx]
                congr 1
                omega
            · have hd7 : (do' == 7) = false := by simpa using h7
              clear h7
              obtain ⟨j1, j2, j3, j4, j5⟩ := J1.out
              clear j5
              go_wp2_with fail
              refine (xAgain HX.out).mono ?_
              rintro x w4 ⟨rfl, h⟩
              have H4 := Lib.hid h
              have e5 : (out : Int) = (next : Int) - gone := by have := HI.out.h5; have := HI.out.h1; omega
              rw [e5]
              clear h e5
              go_wp2_with fail
              refine (xLen H4.out).mono ?_
              rintro x w5 ⟨rfl, rfl⟩
              have j5 := J1.out.2.2.2.2
              go_wp2_with fail
              clear j5
              go_roundg (ds.length - (i + 1))
              case measure => omega
              case rel =>
                have q := HI.out
                exact ⟨put, gone, gone, 0, i + 1, bs, rfl, rfl, rfl, by go_num, by omega, rfl, ⟨Nat.le_refl _, by have := q.h1; have := q.h2; omega, by have := q.h3; omega, q.h4, by omega, q.h6⟩, H4.out⟩
      · have hd1 : decide ((i : Int) < ds.length) = false := by simp; omega
        go_wp2_with fail
        go_ret
        exact ⟨rfl, HX.out.bel⟩
end Go.Proofs.Ytlpkjnafmknddaa
