/-
  Layer 12: TiesPlays: the walk up to a deed.
-/
import Derived.Test.YtjjfminpaoooaaaL12Q
namespace Go.Proofs.Ytjjfminpaoooaaa
open Go.RowKit
set_option linter.unusedVariables false


set_option maxHeartbeats 32000000 in
set_option maxRecDepth 100000 in
theorem playsL (most : Int) (v : Value) (ds : List Dd) (hok : ∀ d ∈ ds, d.k.ok) (w : World) (hl : Rd w 10 v ds.length (ds.flatMap encD)) : Calls Try.prog 6 #[.int .i64 most, v] w fun x w' => x = .returned (.bool true) ∧ Below w.heap.size w w' := by
  obtain ⟨i0, hi0, hz0, hz1, hz2⟩ := info_parts infoRow
  obtain ⟨la, lc, rfl⟩ := hl.len
  have Hl := Lib.hid hl
  have HOK := Lib.hid hok
  clear hl hok
  go_enter Try.func6, Try.ntmps6
  go_wp2_with fail
  refine (awake w).mono ?_
  rintro x w1 ⟨rfl, b1⟩
  have B1 := Lib.hid b1
  clear b1
  by_cases h200 : 150 < ds.length
  · have hd : decide ((150 : Int) < ds.length) = true := by simp; omega
    go_wp2_with fail
    go_ret
    exact ⟨rfl, B1.out⟩
  have hd : decide ((150 : Int) < ds.length) = false := by simp; omega
  by_cases h1000 : 1000 < most
  · have hd2 : decide ((1000 : Int) < most) = true := by simpa using h1000
    go_wp2_with fail
    go_ret
    exact ⟨rfl, B1.out⟩
  have hd2 : decide ((1000 : Int) < most) = false := by simpa using h1000
  have HR : Hid (ds.length ≤ 150) := by unfold Hid; omega
  have HM : Hid (most ≤ 1000) := by unfold Hid; omega
  obtain ⟨mx, hmx⟩ : ∃ mx, max most 0 = mx := ⟨_, rfl⟩
  have HX1 : Hid (mx ≤ 1000) := by unfold Hid; omega
  clear h200 h1000
  have HMX := Lib.hid hmx
  go_wp2_with fail
  refine (xnewI (w0 := w) (kb := []) most mx hmx (by have := HX1.out; omega) B1.out (fun q hq => by cases hq)).mono ?_
  rintro e w2 ⟨t, rfl, h2⟩
  have ini : Hid ((∃ F, TbAI w2 F t mx [] ∧ ∀ x, F x → w.heap.size ≤ x) ∧ Below w.heap.size w w2 ∧ Own enTI 48 9 w.heap.size w2 (.slice none 0 0) []) := by
    obtain ⟨F, h1, h2, h3, _⟩ := h2.ex
    exact ⟨⟨F, h1, h2⟩, h3, Own.nil _ _ _ _ _⟩
  clear h2
  go_wp2_with fail
  go_loopg [6, 7] ds.length (fun g s6 s7 wx => ∃ (i : Nat) (l : List ItI), s7 = .int .i64 i ∧ i ≤ ds.length ∧ g = ds.length - i ∧ Hid ((∃ F, TbAI wx F t mx l ∧ ∀ x, F x → w.heap.size ≤ x) ∧ Below w.heap.size w wx ∧ Own enTI 48 9 w.heap.size wx s6 l))
  case atStart => exact ⟨0, [], rfl, Nat.zero_le _, rfl, ini⟩
  case round =>
    obtain ⟨i, l, rfl, hi, rfl, HX⟩ := hrel
    by_cases hin : i < ds.length
    · have hd1 : decide ((i : Int) < ds.length) = true := by simp; omega
      have hi150 : (i : Int) ≤ 150 := by have := HR.out; omega
      obtain ⟨lb, lo, lc', hv, _, _⟩ := Hl.out.some (by omega) (by decide)
      simp at hv
      obtain ⟨rfl, rfl⟩ := hv
      obtain ⟨hF, hbel, hown⟩ := HX.out
      obtain ⟨d, hdd, hdz⟩ := deed_ex Hl.out hin
      have HDK : Hid d.k.ok := HOK.out d (by rw [hdd]; exact List.getElem_mem hin)
      have y := hdz wr hbel
      have y0 : wr.cell? ⟨lb, lo + i * 10, none⟩ = some (.int .i64 d.dw) := y 0 _ rfl
      have y1 : wr.cell? ⟨lb, lo + i * 10 + 1, none⟩ = some (.int .i64 d.x) := y 1 _ rfl
      have y2 : wr.cell? ⟨lb, lo + i * 10 + 2, none⟩ = some (.int .u8 d.k.f0) := y 2 _ rfl
      have y3 : wr.cell? ⟨lb, lo + i * 10 + 3, none⟩ = some (.int .u8 d.k.f1) := y 3 _ rfl
      have y4 : wr.cell? ⟨lb, lo + i * 10 + 4, none⟩ = some (.int .u8 d.k.f2) := y 4 _ rfl
      have y5 : wr.cell? ⟨lb, lo + i * 10 + 5, none⟩ = some (.int .u8 d.k.f3) := y 5 _ rfl
      have y6 : wr.cell? ⟨lb, lo + i * 10 + 6, none⟩ = some (.int .u8 d.k.f4) := y 6 _ rfl
      have y7 : wr.cell? ⟨lb, lo + i * 10 + 7, none⟩ = some (.int .u8 d.k.f5) := y 7 _ rfl
      have y8 : wr.cell? ⟨lb, lo + i * 10 + 8, none⟩ = some (.int .i64 d.k.near) := y 8 _ rfl
      have y9 : wr.cell? ⟨lb, lo + i * 10 + 9, none⟩ = some (.int .i64 d.k.there) := y 9 _ rfl
      have HIN := Lib.hid hin
      obtain ⟨xa, xc, hxv, hxc, hxm, hxa⟩ := own_shape hown
      subst hxv
      have HXA := Lib.hid hxa
      have HXC := Lib.hid (And.intro hxc hxm)
      have hp : PlT w (wr.alloc (.cells (encD d).toArray 46)) t mx (.slice xa l.length xc) l l wr.heap.size d := by
        have hal := (Below.refl wr.heap.size wr).alloc (Nat.le_refl _) (.cells (encD d).toArray 46)
        obtain ⟨F, h1, h2⟩ := hF
        exact ⟨⟨F, h1.below hal, h2⟩, hbel.trans (hal.mono hbel.size), hown.keep (fun g hg => hal.block g (own_lt hown hg)), heap_alloc_new' wr _⟩
      have HP := Lib.hid hp
      have HLE : Hid ((l.length : Int) ≤ mx) := hp.le
      clear y hdd hdz hF hbel hown hxa hxc hxm hp HX hin
      go_upto_region 15 with fail
      obtain ⟨wd, hwd⟩ : ∃ wd, wd = wr.alloc (.cells (encD d).toArray 46) := ⟨_, rfl⟩
      obtain ⟨db, hdb⟩ : ∃ db, db = wr.heap.size := ⟨_, rfl⟩
      rw [← hwd, ← hdb] at HP
      rw [show wr.alloc (.cells #[.int .i64 d.dw, .int .i64 d.x, .int .u8 d.k.f0, .int .u8 d.k.f1, .int .u8 d.k.f2, .int .u8 d.k.f3, .int .u8 d.k.f4, .int .u8 d.k.f5, .int .i64 d.k.near, .int .i64 d.k.there] 46) = wd from hwd.symm, ← hdb]
      clear hwd hdb y0 y1 y2 y3 y4 y5 y6 y7 y8 y9
      have HS := Lib.hid HP.out.srt
      have hl1000 : (l.length : Int) ≤ 1000 := by have := HLE.out; have := HX1.out; omega
      go_loopg [9, 10, 11] l.length (fun g s9 s10 s11 wx => ∃ j : Nat, s9 = .int .i64 (atJ l d.k j) ∧ s10 = .int .i64 ((min j (pos l d.k) : Nat) : Int) ∧ s11 = .int .i64 j ∧ j ≤ l.length ∧ g = l.length - j ∧ Hid (Below wd.heap.size wd wx))
      case atStart => exact ⟨0, by rw [atJ_zero], by simp, rfl, Nat.zero_le _, by omega, Below.refl _ _⟩
      case round =>
        obtain ⟨j, rfl, rfl, rfl, hj, rfl, Hw⟩ := hrel
        by_cases hlt : j < l.length
        · obtain ⟨g, rfl, hg⟩ := HXA.out (by omega)
          have hdj : decide ((j : Int) < (l.length : Int)) = true := by simpa using hlt
          obtain ⟨p, hp⟩ : ∃ p, p = (l[j]'hlt).1 := ⟨_, rfl⟩
          have PC := Lib.hid (show ∀ W, Below wd.heap.size wd W → ∀ (m : Nat) (v : Value), (kyCs p)[m]? = some v → m < 8 → W.cell? ⟨g, j * 9 + m, none⟩ = some v from fun W hW m v hv hm => by
            rw [(HP.out.below hW).own.cell enTI_len j m hlt (by omega)]
            rw [hp] at hv
            rcases m with _ | _ | _ | _ | _ | _ | _ | _ | m <;> first | exact hv | omega)
          have QC := Lib.hid (show ∀ W, Below wd.heap.size wd W → ∀ (m : Nat) (v : Value), (encD d)[m]? = some v → W.cell? ⟨db, m, none⟩ = some v from fun W hW m v hv => blk_cell (HP.out.below hW).dz m |>.trans (by simpa using hv))
          obtain ⟨oo, hoo⟩ : ∃ oo, oo = ordK p d.k := ⟨_, rfl⟩
          have HOO := Lib.hid hoo
          have HPP := Lib.hid hp
          clear hoo hp
          by_cases hlt0 : oo < 0
          · have HE := Lib.hid (show false = decide (p = d.k) by
              have h := hlt0
              rw [HOO.out] at h
              have : ¬ p = d.k := fun e => by rw [e, ordK_self] at h; omega
              simp [this])
            have HL := Lib.hid (show decide (ordK p d.k < 0) = true by rw [← HOO.out]; exact decide_eq_true hlt0)
            have HJ := Lib.hid (atJ_lt (k := d.k) HS.out hlt (by rw [← HPP.out, ← HOO.out]; exact hlt0))
            clear hlt0
            as_aux_lemma =>
              have p0 : ∀ u : After wr, u.w'.cell? ⟨g, j * 9, none⟩ = some (.int .u8 p.f0) := fun u => u.cell (PC.out wr Hw.out 0 _ rfl (by decide))
              have p1 : ∀ u : After wr, u.w'.cell? ⟨g, j * 9 + 1, none⟩ = some (.int .u8 p.f1) := fun u => u.cell (PC.out wr Hw.out 1 _ rfl (by decide))
              have p2 : ∀ u : After wr, u.w'.cell? ⟨g, j * 9 + 2, none⟩ = some (.int .u8 p.f2) := fun u => u.cell (PC.out wr Hw.out 2 _ rfl (by decide))
              have p3 : ∀ u : After wr, u.w'.cell? ⟨g, j * 9 + 3, none⟩ = some (.int .u8 p.f3) := fun u => u.cell (PC.out wr Hw.out 3 _ rfl (by decide))
              have p4 : ∀ u : After wr, u.w'.cell? ⟨g, j * 9 + 4, none⟩ = some (.int .u8 p.f4) := fun u => u.cell (PC.out wr Hw.out 4 _ rfl (by decide))
              have p5 : ∀ u : After wr, u.w'.cell? ⟨g, j * 9 + 5, none⟩ = some (.int .u8 p.f5) := fun u => u.cell (PC.out wr Hw.out 5 _ rfl (by decide))
              have p6 : ∀ u : After wr, u.w'.cell? ⟨g, j * 9 + 6, none⟩ = some (.int .i64 p.near) := fun u => u.cell (PC.out wr Hw.out 6 _ rfl (by decide))
              have p7 : ∀ u : After wr, u.w'.cell? ⟨g, j * 9 + 7, none⟩ = some (.int .i64 p.there) := fun u => u.cell (PC.out wr Hw.out 7 _ rfl (by decide))
              have q0 : ∀ u : After wr, u.w'.cell? ⟨db, 2, none⟩ = some (.int .u8 d.k.f0) := fun u => u.cell (QC.out wr Hw.out 2 _ rfl)
              have q1 : ∀ u : After wr, u.w'.cell? ⟨db, 3, none⟩ = some (.int .u8 d.k.f1) := fun u => u.cell (QC.out wr Hw.out 3 _ rfl)
              have q2 : ∀ u : After wr, u.w'.cell? ⟨db, 4, none⟩ = some (.int .u8 d.k.f2) := fun u => u.cell (QC.out wr Hw.out 4 _ rfl)
              have q3 : ∀ u : After wr, u.w'.cell? ⟨db, 5, none⟩ = some (.int .u8 d.k.f3) := fun u => u.cell (QC.out wr Hw.out 5 _ rfl)
              have q4 : ∀ u : After wr, u.w'.cell? ⟨db, 6, none⟩ = some (.int .u8 d.k.f4) := fun u => u.cell (QC.out wr Hw.out 6 _ rfl)
              have q5 : ∀ u : After wr, u.w'.cell? ⟨db, 7, none⟩ = some (.int .u8 d.k.f5) := fun u => u.cell (QC.out wr Hw.out 7 _ rfl)
              have q6 : ∀ u : After wr, u.w'.cell? ⟨db, 8, none⟩ = some (.int .i64 d.k.near) := fun u => u.cell (QC.out wr Hw.out 8 _ rfl)
              have q7 : ∀ u : After wr, u.w'.cell? ⟨db, 9, none⟩ = some (.int .i64 d.k.there) := fun u => u.cell (QC.out wr Hw.out 9 _ rfl)
              go_upto_region 17 with fail
              refine wp_region_after (by kernel_rfl) (by kernel_rfl) ?_
              go_big_quiet_step (fail)
              go_big_quiet_step (fail)
              go_big_quiet_step (fail)
              go_big_quiet_step (fail)
              go_big_quiet_step (fail)
              go_big_quiet_step (fail)
              go_big_quiet_step (fail)
              go_big_quiet_step ((rw [cmpKy p d.k false HE.out]; exact ⟨rfl, rfl⟩))
              refine wpQuiet_nil ?_
              rintro w3 ⟨⟨_, hb3⟩, rfl⟩
              have Hw3 := Lib.hid (Hw.out.trans (hb3.mono Hw.out.size))
              clear hb3
              clear p0 q0 p1 q1 p2 q2 p3 q3 p4 q4 p5 q5 p6 q6 p7 q7
              have p0 : ∀ u : After w3, u.w'.cell? ⟨g, j * 9, none⟩ = some (.int .u8 p.f0) := fun u => u.cell (PC.out w3 Hw3.out 0 _ rfl (by decide))
              have p1 : ∀ u : After w3, u.w'.cell? ⟨g, j * 9 + 1, none⟩ = some (.int .u8 p.f1) := fun u => u.cell (PC.out w3 Hw3.out 1 _ rfl (by decide))
              have p2 : ∀ u : After w3, u.w'.cell? ⟨g, j * 9 + 2, none⟩ = some (.int .u8 p.f2) := fun u => u.cell (PC.out w3 Hw3.out 2 _ rfl (by decide))
              have p3 : ∀ u : After w3, u.w'.cell? ⟨g, j * 9 + 3, none⟩ = some (.int .u8 p.f3) := fun u => u.cell (PC.out w3 Hw3.out 3 _ rfl (by decide))
              have p4 : ∀ u : After w3, u.w'.cell? ⟨g, j * 9 + 4, none⟩ = some (.int .u8 p.f4) := fun u => u.cell (PC.out w3 Hw3.out 4 _ rfl (by decide))
              have p5 : ∀ u : After w3, u.w'.cell? ⟨g, j * 9 + 5, none⟩ = some (.int .u8 p.f5) := fun u => u.cell (PC.out w3 Hw3.out 5 _ rfl (by decide))
              have p6 : ∀ u : After w3, u.w'.cell? ⟨g, j * 9 + 6, none⟩ = some (.int .i64 p.near) := fun u => u.cell (PC.out w3 Hw3.out 6 _ rfl (by decide))
              have p7 : ∀ u : After w3, u.w'.cell? ⟨g, j * 9 + 7, none⟩ = some (.int .i64 p.there) := fun u => u.cell (PC.out w3 Hw3.out 7 _ rfl (by decide))
              have q0 : ∀ u : After w3, u.w'.cell? ⟨db, 2, none⟩ = some (.int .u8 d.k.f0) := fun u => u.cell (QC.out w3 Hw3.out 2 _ rfl)
              have q1 : ∀ u : After w3, u.w'.cell? ⟨db, 3, none⟩ = some (.int .u8 d.k.f1) := fun u => u.cell (QC.out w3 Hw3.out 3 _ rfl)
              have q2 : ∀ u : After w3, u.w'.cell? ⟨db, 4, none⟩ = some (.int .u8 d.k.f2) := fun u => u.cell (QC.out w3 Hw3.out 4 _ rfl)
              have q3 : ∀ u : After w3, u.w'.cell? ⟨db, 5, none⟩ = some (.int .u8 d.k.f3) := fun u => u.cell (QC.out w3 Hw3.out 5 _ rfl)
              have q4 : ∀ u : After w3, u.w'.cell? ⟨db, 6, none⟩ = some (.int .u8 d.k.f4) := fun u => u.cell (QC.out w3 Hw3.out 6 _ rfl)
              have q5 : ∀ u : After w3, u.w'.cell? ⟨db, 7, none⟩ = some (.int .u8 d.k.f5) := fun u => u.cell (QC.out w3 Hw3.out 7 _ rfl)
              have q6 : ∀ u : After w3, u.w'.cell? ⟨db, 8, none⟩ = some (.int .i64 d.k.near) := fun u => u.cell (QC.out w3 Hw3.out 8 _ rfl)
              have q7 : ∀ u : After w3, u.w'.cell? ⟨db, 9, none⟩ = some (.int .i64 d.k.there) := fun u => u.cell (QC.out w3 Hw3.out 9 _ rfl)
              go_upto_region 19 with fail
              refine wp_region_after (by kernel_rfl) (by kernel_rfl) ?_
              go_big_quiet_step (fail)
              go_big_quiet_step (fail)
              go_big_quiet_step (fail)
              go_big_quiet_step (fail)
              go_big_quiet_step (fail)
              go_big_quiet_step (fail)
              go_big_quiet_step (fail)
              go_big_quiet_step ((go_at_call 11; exact Calls.after_of (kref p d.k true HL.out _)))
              refine wpQuiet_nil ?_
              rintro w4 ⟨⟨_, hb4⟩, rfl⟩
              have Hw4 := Lib.hid (Hw3.out.trans (hb4.mono Hw3.out.size))
              clear hb4
              clear p0 q0 p1 q1 p2 q2 p3 q3 p4 q4 p5 q5 p6 q6 p7 q7
              go_wp2_with fail
              go_roundg (l.length - (j + 1))
              case measure => omega
              case rel => exact ⟨j + 1, by rw [HJ.out.1], by rw [HJ.out.2]; go_num, by go_num, by omega, rfl, Hw4.out⟩
          · by_cases heq0 : oo = 0
            · have HE := Lib.hid (show true = decide (p = d.k) by
                have : p = d.k := ordK_eq (by rw [← HOO.out]; exact heq0)
                simp [this])
              have HL := Lib.hid (show decide (ordK p d.k < 0) = false by rw [← HOO.out]; exact decide_eq_false hlt0)
              have HJ := Lib.hid (atJ_eq (k := d.k) HS.out hlt (by rw [← HPP.out, ← HOO.out]; exact heq0))
              clear hlt0 heq0
              as_aux_lemma =>
                have p0 : ∀ u : After wr, u.w'.cell? ⟨g, j * 9, none⟩ = some (.int .u8 p.f0) := fun u => u.cell (PC.out wr Hw.out 0 _ rfl (by decide))
                have p1 : ∀ u : After wr, u.w'.cell? ⟨g, j * 9 + 1, none⟩ = some (.int .u8 p.f1) := fun u => u.cell (PC.out wr Hw.out 1 _ rfl (by decide))
                have p2 : ∀ u : After wr, u.w'.cell? ⟨g, j * 9 + 2, none⟩ = some (.int .u8 p.f2) := fun u => u.cell (PC.out wr Hw.out 2 _ rfl (by decide))
                have p3 : ∀ u : After wr, u.w'.cell? ⟨g, j * 9 + 3, none⟩ = some (.int .u8 p.f3) := fun u => u.cell (PC.out wr Hw.out 3 _ rfl (by decide))
                have p4 : ∀ u : After wr, u.w'.cell? ⟨g, j * 9 + 4, none⟩ = some (.int .u8 p.f4) := fun u => u.cell (PC.out wr Hw.out 4 _ rfl (by decide))
                have p5 : ∀ u : After wr, u.w'.cell? ⟨g, j * 9 + 5, none⟩ = some (.int .u8 p.f5) := fun u => u.cell (PC.out wr Hw.out 5 _ rfl (by decide))
                have p6 : ∀ u : After wr, u.w'.cell? ⟨g, j * 9 + 6, none⟩ = some (.int .i64 p.near) := fun u => u.cell (PC.out wr Hw.out 6 _ rfl (by decide))
                have p7 : ∀ u : After wr, u.w'.cell? ⟨g, j * 9 + 7, none⟩ = some (.int .i64 p.there) := fun u => u.cell (PC.out wr Hw.out 7 _ rfl (by decide))
                have q0 : ∀ u : After wr, u.w'.cell? ⟨db, 2, none⟩ = some (.int .u8 d.k.f0) := fun u => u.cell (QC.out wr Hw.out 2 _ rfl)
                have q1 : ∀ u : After wr, u.w'.cell? ⟨db, 3, none⟩ = some (.int .u8 d.k.f1) := fun u => u.cell (QC.out wr Hw.out 3 _ rfl)
                have q2 : ∀ u : After wr, u.w'.cell? ⟨db, 4, none⟩ = some (.int .u8 d.k.f2) := fun u => u.cell (QC.out wr Hw.out 4 _ rfl)
                have q3 : ∀ u : After wr, u.w'.cell? ⟨db, 5, none⟩ = some (.int .u8 d.k.f3) := fun u => u.cell (QC.out wr Hw.out 5 _ rfl)
                have q4 : ∀ u : After wr, u.w'.cell? ⟨db, 6, none⟩ = some (.int .u8 d.k.f4) := fun u => u.cell (QC.out wr Hw.out 6 _ rfl)
                have q5 : ∀ u : After wr, u.w'.cell? ⟨db, 7, none⟩ = some (.int .u8 d.k.f5) := fun u => u.cell (QC.out wr Hw.out 7 _ rfl)
                have q6 : ∀ u : After wr, u.w'.cell? ⟨db, 8, none⟩ = some (.int .i64 d.k.near) := fun u => u.cell (QC.out wr Hw.out 8 _ rfl)
                have q7 : ∀ u : After wr, u.w'.cell? ⟨db, 9, none⟩ = some (.int .i64 d.k.there) := fun u => u.cell (QC.out wr Hw.out 9 _ rfl)
                go_upto_region 17 with fail
                refine wp_region_after (by kernel_rfl) (by kernel_rfl) ?_
                go_big_quiet_step (fail)
                go_big_quiet_step (fail)
                go_big_quiet_step (fail)
                go_big_quiet_step (fail)
                go_big_quiet_step (fail)
                go_big_quiet_step (fail)
                go_big_quiet_step (fail)
                go_big_quiet_step ((rw [cmpKy p d.k true HE.out]; exact ⟨rfl, rfl⟩))
                refine wpQuiet_nil ?_
                rintro w3 ⟨⟨_, hb3⟩, rfl⟩
                have Hw3 := Lib.hid (Hw.out.trans (hb3.mono Hw.out.size))
                clear hb3
                clear p0 q0 p1 q1 p2 q2 p3 q3 p4 q4 p5 q5 p6 q6 p7 q7
                have p0 : ∀ u : After w3, u.w'.cell? ⟨g, j * 9, none⟩ = some (.int .u8 p.f0) := fun u => u.cell (PC.out w3 Hw3.out 0 _ rfl (by decide))
                have p1 : ∀ u : After w3, u.w'.cell? ⟨g, j * 9 + 1, none⟩ = some (.int .u8 p.f1) := fun u => u.cell (PC.out w3 Hw3.out 1 _ rfl (by decide))
                have p2 : ∀ u : After w3, u.w'.cell? ⟨g, j * 9 + 2, none⟩ = some (.int .u8 p.f2) := fun u => u.cell (PC.out w3 Hw3.out 2 _ rfl (by decide))
                have p3 : ∀ u : After w3, u.w'.cell? ⟨g, j * 9 + 3, none⟩ = some (.int .u8 p.f3) := fun u => u.cell (PC.out w3 Hw3.out 3 _ rfl (by decide))
                have p4 : ∀ u : After w3, u.w'.cell? ⟨g, j * 9 + 4, none⟩ = some (.int .u8 p.f4) := fun u => u.cell (PC.out w3 Hw3.out 4 _ rfl (by decide))
                have p5 : ∀ u : After w3, u.w'.cell? ⟨g, j * 9 + 5, none⟩ = some (.int .u8 p.f5) := fun u => u.cell (PC.out w3 Hw3.out 5 _ rfl (by decide))
                have p6 : ∀ u : After w3, u.w'.cell? ⟨g, j * 9 + 6, none⟩ = some (.int .i64 p.near) := fun u => u.cell (PC.out w3 Hw3.out 6 _ rfl (by decide))
                have p7 : ∀ u : After w3, u.w'.cell? ⟨g, j * 9 + 7, none⟩ = some (.int .i64 p.there) := fun u => u.cell (PC.out w3 Hw3.out 7 _ rfl (by decide))
                have q0 : ∀ u : After w3, u.w'.cell? ⟨db, 2, none⟩ = some (.int .u8 d.k.f0) := fun u => u.cell (QC.out w3 Hw3.out 2 _ rfl)
                have q1 : ∀ u : After w3, u.w'.cell? ⟨db, 3, none⟩ = some (.int .u8 d.k.f1) := fun u => u.cell (QC.out w3 Hw3.out 3 _ rfl)
                have q2 : ∀ u : After w3, u.w'.cell? ⟨db, 4, none⟩ = some (.int .u8 d.k.f2) := fun u => u.cell (QC.out w3 Hw3.out 4 _ rfl)
                have q3 : ∀ u : After w3, u.w'.cell? ⟨db, 5, none⟩ = some (.int .u8 d.k.f3) := fun u => u.cell (QC.out w3 Hw3.out 5 _ rfl)
                have q4 : ∀ u : After w3, u.w'.cell? ⟨db, 6, none⟩ = some (.int .u8 d.k.f4) := fun u => u.cell (QC.out w3 Hw3.out 6 _ rfl)
                have q5 : ∀ u : After w3, u.w'.cell? ⟨db, 7, none⟩ = some (.int .u8 d.k.f5) := fun u => u.cell (QC.out w3 Hw3.out 7 _ rfl)
                have q6 : ∀ u : After w3, u.w'.cell? ⟨db, 8, none⟩ = some (.int .i64 d.k.near) := fun u => u.cell (QC.out w3 Hw3.out 8 _ rfl)
                have q7 : ∀ u : After w3, u.w'.cell? ⟨db, 9, none⟩ = some (.int .i64 d.k.there) := fun u => u.cell (QC.out w3 Hw3.out 9 _ rfl)
                go_upto_region 19 with fail
                refine wp_region_after (by kernel_rfl) (by kernel_rfl) ?_
                go_big_quiet_step (fail)
                go_big_quiet_step (fail)
                go_big_quiet_step (fail)
                go_big_quiet_step (fail)
                go_big_quiet_step (fail)
                go_big_quiet_step (fail)
                go_big_quiet_step (fail)
                go_big_quiet_step ((go_at_call 11; exact Calls.after_of (kref p d.k false HL.out _)))
                refine wpQuiet_nil ?_
                rintro w4 ⟨⟨_, hb4⟩, rfl⟩
                have Hw4 := Lib.hid (Hw3.out.trans (hb4.mono Hw3.out.size))
                clear hb4
                clear p0 q0 p1 q1 p2 q2 p3 q3 p4 q4 p5 q5 p6 q6 p7 q7
                go_wp2_with fail
                go_roundg (l.length - (j + 1))
                case measure => omega
                case rel => exact ⟨j + 1, by rw [HJ.out.1], by rw [HJ.out.2], by go_num, by omega, rfl, Hw4.out⟩
            · have HE := Lib.hid (show false = decide (p = d.k) by
                have : ¬ p = d.k := fun e => heq0 (by rw [HOO.out, e, ordK_self])
                simp [this])
              have HL := Lib.hid (show decide (ordK p d.k < 0) = false by rw [← HOO.out]; exact decide_eq_false hlt0)
              have HJ := Lib.hid (atJ_gt (k := d.k) HS.out hlt (by rw [← HPP.out, ← HOO.out]; omega))
              clear hlt0 heq0
              as_aux_lemma =>
                have p0 : ∀ u : After wr, u.w'.cell? ⟨g, j * 9, none⟩ = some (.int .u8 p.f0) := fun u => u.cell (PC.out wr Hw.out 0 _ rfl (by decide))
                have p1 : ∀ u : After wr, u.w'.cell? ⟨g, j * 9 + 1, none⟩ = some (.int .u8 p.f1) := fun u => u.cell (PC.out wr Hw.out 1 _ rfl (by decide))
                have p2 : ∀ u : After wr, u.w'.cell? ⟨g, j * 9 + 2, none⟩ = some (.int .u8 p.f2) := fun u => u.cell (PC.out wr Hw.out 2 _ rfl (by decide))
                have p3 : ∀ u : After wr, u.w'.cell? ⟨g, j * 9 + 3, none⟩ = some (.int .u8 p.f3) := fun u => u.cell (PC.out wr Hw.out 3 _ rfl (by decide))
                have p4 : ∀ u : After wr, u.w'.cell? ⟨g, j * 9 + 4, none⟩ = some (.int .u8 p.f4) := fun u => u.cell (PC.out wr Hw.out 4 _ rfl (by decide))
                have p5 : ∀ u : After wr, u.w'.cell? ⟨g, j * 9 + 5, none⟩ = some (.int .u8 p.f5) := fun u => u.cell (PC.out wr Hw.out 5 _ rfl (by decide))
                have p6 : ∀ u : After wr, u.w'.cell? ⟨g, j * 9 + 6, none⟩ = some (.int .i64 p.near) := fun u => u.cell (PC.out wr Hw.out 6 _ rfl (by decide))
                have p7 : ∀ u : After wr, u.w'.cell? ⟨g, j * 9 + 7, none⟩ = some (.int .i64 p.there) := fun u => u.cell (PC.out wr Hw.out 7 _ rfl (by decide))
                have q0 : ∀ u : After wr, u.w'.cell? ⟨db, 2, none⟩ = some (.int .u8 d.k.f0) := fun u => u.cell (QC.out wr Hw.out 2 _ rfl)
                have q1 : ∀ u : After wr, u.w'.cell? ⟨db, 3, none⟩ = some (.int .u8 d.k.f1) := fun u => u.cell (QC.out wr Hw.out 3 _ rfl)
                have q2 : ∀ u : After wr, u.w'.cell? ⟨db, 4, none⟩ = some (.int .u8 d.k.f2) := fun u => u.cell (QC.out wr Hw.out 4 _ rfl)
                have q3 : ∀ u : After wr, u.w'.cell? ⟨db, 5, none⟩ = some (.int .u8 d.k.f3) := fun u => u.cell (QC.out wr Hw.out 5 _ rfl)
                have q4 : ∀ u : After wr, u.w'.cell? ⟨db, 6, none⟩ = some (.int .u8 d.k.f4) := fun u => u.cell (QC.out wr Hw.out 6 _ rfl)
                have q5 : ∀ u : After wr, u.w'.cell? ⟨db, 7, none⟩ = some (.int .u8 d.k.f5) := fun u => u.cell (QC.out wr Hw.out 7 _ rfl)
                have q6 : ∀ u : After wr, u.w'.cell? ⟨db, 8, none⟩ = some (.int .i64 d.k.near) := fun u => u.cell (QC.out wr Hw.out 8 _ rfl)
                have q7 : ∀ u : After wr, u.w'.cell? ⟨db, 9, none⟩ = some (.int .i64 d.k.there) := fun u => u.cell (QC.out wr Hw.out 9 _ rfl)
                go_upto_region 17 with fail
                refine wp_region_after (by kernel_rfl) (by kernel_rfl) ?_
                go_big_quiet_step (fail)
                go_big_quiet_step (fail)
                go_big_quiet_step (fail)
                go_big_quiet_step (fail)
                go_big_quiet_step (fail)
                go_big_quiet_step (fail)
                go_big_quiet_step (fail)
                go_big_quiet_step ((rw [cmpKy p d.k false HE.out]; exact ⟨rfl, rfl⟩))
                refine wpQuiet_nil ?_
                rintro w3 ⟨⟨_, hb3⟩, rfl⟩
                have Hw3 := Lib.hid (Hw.out.trans (hb3.mono Hw.out.size))
                clear hb3
                clear p0 q0 p1 q1 p2 q2 p3 q3 p4 q4 p5 q5 p6 q6 p7 q7
                have p0 : ∀ u : After w3, u.w'.cell? ⟨g, j * 9, none⟩ = some (.int .u8 p.f0) := fun u => u.cell (PC.out w3 Hw3.out 0 _ rfl (by decide))
                have p1 : ∀ u : After w3, u.w'.cell? ⟨g, j * 9 + 1, none⟩ = some (.int .u8 p.f1) := fun u => u.cell (PC.out w3 Hw3.out 1 _ rfl (by decide))
                have p2 : ∀ u : After w3, u.w'.cell? ⟨g, j * 9 + 2, none⟩ = some (.int .u8 p.f2) := fun u => u.cell (PC.out w3 Hw3.out 2 _ rfl (by decide))
                have p3 : ∀ u : After w3, u.w'.cell? ⟨g, j * 9 + 3, none⟩ = some (.int .u8 p.f3) := fun u => u.cell (PC.out w3 Hw3.out 3 _ rfl (by decide))
                have p4 : ∀ u : After w3, u.w'.cell? ⟨g, j * 9 + 4, none⟩ = some (.int .u8 p.f4) := fun u => u.cell (PC.out w3 Hw3.out 4 _ rfl (by decide))
                have p5 : ∀ u : After w3, u.w'.cell? ⟨g, j * 9 + 5, none⟩ = some (.int .u8 p.f5) := fun u => u.cell (PC.out w3 Hw3.out 5 _ rfl (by decide))
                have p6 : ∀ u : After w3, u.w'.cell? ⟨g, j * 9 + 6, none⟩ = some (.int .i64 p.near) := fun u => u.cell (PC.out w3 Hw3.out 6 _ rfl (by decide))
                have p7 : ∀ u : After w3, u.w'.cell? ⟨g, j * 9 + 7, none⟩ = some (.int .i64 p.there) := fun u => u.cell (PC.out w3 Hw3.out 7 _ rfl (by decide))
                have q0 : ∀ u : After w3, u.w'.cell? ⟨db, 2, none⟩ = some (.int .u8 d.k.f0) := fun u => u.cell (QC.out w3 Hw3.out 2 _ rfl)
                have q1 : ∀ u : After w3, u.w'.cell? ⟨db, 3, none⟩ = some (.int .u8 d.k.f1) := fun u => u.cell (QC.out w3 Hw3.out 3 _ rfl)
                have q2 : ∀ u : After w3, u.w'.cell? ⟨db, 4, none⟩ = some (.int .u8 d.k.f2) := fun u => u.cell (QC.out w3 Hw3.out 4 _ rfl)
                have q3 : ∀ u : After w3, u.w'.cell? ⟨db, 5, none⟩ = some (.int .u8 d.k.f3) := fun u => u.cell (QC.out w3 Hw3.out 5 _ rfl)
                have q4 : ∀ u : After w3, u.w'.cell? ⟨db, 6, none⟩ = some (.int .u8 d.k.f4) := fun u => u.cell (QC.out w3 Hw3.out 6 _ rfl)
                have q5 : ∀ u : After w3, u.w'.cell? ⟨db, 7, none⟩ = some (.int .u8 d.k.f5) := fun u => u.cell (QC.out w3 Hw3.out 7 _ rfl)
                have q6 : ∀ u : After w3, u.w'.cell? ⟨db, 8, none⟩ = some (.int .i64 d.k.near) := fun u => u.cell (QC.out w3 Hw3.out 8 _ rfl)
                have q7 : ∀ u : After w3, u.w'.cell? ⟨db, 9, none⟩ = some (.int .i64 d.k.there) := fun u => u.cell (QC.out w3 Hw3.out 9 _ rfl)
                go_upto_region 19 with fail
                refine wp_region_after (by kernel_rfl) (by kernel_rfl) ?_
                go_big_quiet_step (fail)
                go_big_quiet_step (fail)
                go_big_quiet_step (fail)
                go_big_quiet_step (fail)
                go_big_quiet_step (fail)
                go_big_quiet_step (fail)
                go_big_quiet_step (fail)
                go_big_quiet_step ((go_at_call 11; exact Calls.after_of (kref p d.k false HL.out _)))
                refine wpQuiet_nil ?_
                rintro w4 ⟨⟨_, hb4⟩, rfl⟩
                have Hw4 := Lib.hid (Hw3.out.trans (hb4.mono Hw3.out.size))
                clear hb4
                clear p0 q0 p1 q1 p2 q2 p3 q3 p4 q4 p5 q5 p6 q6 p7 q7
                go_wp2_with fail
                go_roundg (l.length - (j + 1))
                case measure => omega
                case rel => exact ⟨j + 1, by rw [HJ.out.1], by rw [HJ.out.2], by go_num, by omega, rfl, Hw4.out⟩
        · have hjl : j = l.length := by omega
          subst hjl
          have hdj : decide ((l.length : Int) < (l.length : Int)) = false := by simp
          have HQ := Lib.hid (HP.out.below Hw.out)
          clear hlt Hw
          rw [show min l.length (pos l d.k) = pos l d.k by have := pos_le l d.k; omega]
          obtain ⟨A, hA⟩ : ∃ A, A = atJ l d.k l.length := ⟨_, rfl⟩
          obtain ⟨P, hP⟩ : ∃ P, P = pos l d.k := ⟨_, rfl⟩
          rw [← hA, ← hP]
          rw [atJ_end] at hA
          have HA := Lib.hid hA
          have HPP := Lib.hid hP
          clear hA hP
          go_upto_block 4 with fail
          go_cut [6] (fun v6 wx => ∃ l' : List ItI, Hid (PlT w wx t mx v6 l' l' db d))
          case first =>
            obtain ⟨k0, k1, k2, k3, k4, k5, k6, k7, k8, k9⟩ := HQ.out.dc
            by_cases h3 : d.dw ≤ 3
            · have hd3 : decide (d.dw ≤ 3) = true := by simpa using h3
              clear h3
              cases hf : fnd l d.k with
              | true =>
                obtain ⟨hpl, hpk⟩ := pos_atI hf
                have hAP : A = (P : Int) := by rw [HA.out, if_pos hf, HPP.out]
                subst hAP
                have hda : decide ((P : Int) < 0) = false := decide_eq_false (by omega)
                have hda2 : decide (0 ≤ (P : Int)) = true := decide_eq_true (by omega)
                have hPl : P < l.length := by rw [HPP.out]; exact hpl
                have HPE := Lib.hid (show putEI l mx d.k = 0 by unfold putEI; rw [if_pos hf])
                have HPL := Lib.hid (show putLI l mx d.k d.x = l.set P (d.k, d.x) by unfold putLI; rw [if_pos hf, HPP.out])
                have HPk := Lib.hid (show (l[P]'hPl).1 = d.k by simp only [HPP.out]; exact hpk)
                have HF := Lib.hid hf
                clear hf hpl hpk
                obtain ⟨g, rfl, hg⟩ := HXA.out (by omega)
                clear hg
                as_aux_lemma =>
                  go_upto_region 27 with fail
                  have HQd := Lib.hid (HQ.out.below (Below.refl _ wr).drew)
                  clear k0 k1 k2 k3 k4 k5 k6 k7 k8 k9
                  go_region_held3 (fun w' => w'.cell? ⟨db, 0, none⟩ = some (.int .i64 d.dw) ∧ w'.cell? ⟨db, 1, none⟩ = some (.int .i64 d.x) ∧ w'.cell? ⟨db, 2, none⟩ = some (.int .u8 d.k.f0) ∧ w'.cell? ⟨db, 3, none⟩ = some (.int .u8 d.k.f1) ∧ w'.cell? ⟨db, 4, none⟩ = some (.int .u8 d.k.f2) ∧ w'.cell? ⟨db, 5, none⟩ = some (.int .u8 d.k.f3) ∧ w'.cell? ⟨db, 6, none⟩ = some (.int .u8 d.k.f4) ∧ w'.cell? ⟨db, 7, none⟩ = some (.int .u8 d.k.f5) ∧ w'.cell? ⟨db, 8, none⟩ = some (.int .i64 d.k.near) ∧ w'.cell? ⟨db, 9, none⟩ = some (.int .i64 d.k.there))
                    (first | exact HQd.out.dc | exact H3.out.dc | exact H4.out.dc | assumption)
                    (first
                      | (go_at_call 10; (with_reducible refine (kkey d.k _).mono ?_); rintro e w3 ⟨rfl, b3⟩; have H3 := Lib.hid (HQd.out.below b3); clear b3)
                      | (go_at_call 18; (with_reducible refine (plPut H3.out d.k HDK.out d.x (E := 0) (l' := l.set P (d.k, d.x)) HPE.out HPL.out).mono ?_); rintro e w4 ⟨rfl, h4⟩; have H4 := Lib.hid h4; clear h4)
                      | fail)
                  all_goals
                    try simp only [Act.put, List.setIfInBounds_toArray, List.set_cons_zero, List.set_cons_succ]
                    obtain ⟨k0, k1, k2, k3, k4, k5, k6, k7, k8, k9⟩ := H4.out.dc
                    have x4 : w4.cell? ⟨g, P * 9 + 8, none⟩ = some (.int .i64 (l[P]'hPl).2) := by rw [H4.out.own.cell enTI_len P 8 hPl (by decide)]; rfl
                    have z4 : w4.frozen? ⟨g, P * 9 + 8, none⟩ = false := own_free H4.out.own _
                    have h9 : Hid (PlT w (w4.setCell ⟨g, P * 9 + 8, none⟩ (.int .i64 d.x)) t mx (.slice (some ⟨g, 0, none⟩) l.length xc) (l.set P (d.k, d.x)) (l.set P (d.k, d.x)) db d) := by
                      have o := own_setR H4.out.own P hPl d.x
                      rw [HPk.out] at o
                      exact H4.out.turnM (w' := w4.setCell ⟨g, P * 9 + 8, none⟩ (.int .i64 d.x)) ((Fr.refl (fun b => (Value.slice (some ⟨g, 0, none⟩) l.length xc).ownBlock = some b) w4).setCell (p := ⟨g, P * 9 + 8, none⟩) (fun _ => rfl) _) (by simpa using o)
                    go_wp2_with fail
                    go_meet
                    exact ⟨_, h9⟩

              | false =>
                have hAP : A = -1 := by rw [HA.out, if_neg (by rw [hf]; decide)]
                subst hAP
                by_cases hm : mx ≤ (l.length : Int)
                · have hdm : decide (mx ≤ (l.length : Int)) = true := by simpa using hm
                  have HPE := Lib.hid (show putEI l mx d.k = 6 by unfold putEI; rw [if_neg (by rw [hf]; decide), if_pos hm])
                  have HPL := Lib.hid (show putLI l mx d.k d.x = l by unfold putLI; rw [if_neg (by rw [hf]; decide), if_pos hm])
                  clear hf hm
                  as_aux_lemma =>
                    go_upto_region 27 with fail
                    have HQd := Lib.hid (HQ.out.below (Below.refl _ wr).drew)
                    clear k0 k1 k2 k3 k4 k5 k6 k7 k8 k9
                    go_region_held3 (fun w' => w'.cell? ⟨db, 0, none⟩ = some (.int .i64 d.dw) ∧ w'.cell? ⟨db, 1, none⟩ = some (.int .i64 d.x) ∧ w'.cell? ⟨db, 2, none⟩ = some (.int .u8 d.k.f0) ∧ w'.cell? ⟨db, 3, none⟩ = some (.int .u8 d.k.f1) ∧ w'.cell? ⟨db, 4, none⟩ = some (.int .u8 d.k.f2) ∧ w'.cell? ⟨db, 5, none⟩ = some (.int .u8 d.k.f3) ∧ w'.cell? ⟨db, 6, none⟩ = some (.int .u8 d.k.f4) ∧ w'.cell? ⟨db, 7, none⟩ = some (.int .u8 d.k.f5) ∧ w'.cell? ⟨db, 8, none⟩ = some (.int .i64 d.k.near) ∧ w'.cell? ⟨db, 9, none⟩ = some (.int .i64 d.k.there))
                      (first | exact HQd.out.dc | exact H3.out.dc | exact H4.out.dc | assumption)
                      (first
                        | (go_at_call 10; (with_reducible refine (kkey d.k _).mono ?_); rintro e w3 ⟨rfl, b3⟩; have H3 := Lib.hid (HQd.out.below b3); clear b3)
                        | (go_at_call 18; (with_reducible refine (plPut H3.out d.k HDK.out d.x (E := 6) (l' := l) HPE.out HPL.out).mono ?_); rintro e w4 ⟨rfl, h4⟩; have H4 := Lib.hid h4; clear h4)
                        | fail)
                    all_goals
                      try simp only [Act.put, List.setIfInBounds_toArray, List.set_cons_zero, List.set_cons_succ]
                      have H5 := H4
                      obtain ⟨k0, k1, k2, k3, k4, k5, k6, k7, k8, k9⟩ := H4.out.dc
                      go_wp2_with fail
                      go_meet
                      exact ⟨_, H5⟩

                · have hdm : decide (mx ≤ (l.length : Int)) = false := by simpa using hm
                  have HPE := Lib.hid (show putEI l mx d.k = 0 by unfold putEI; rw [if_neg (by rw [hf]; decide), if_neg hm])
                  have HPL := Lib.hid (show putLI l mx d.k d.x = l.take P ++ (d.k, d.x) :: l.drop P by unfold putLI; rw [if_neg (by rw [hf]; decide), if_neg hm, HPP.out])
                  clear hf hm
                  go_upto_region 27 with fail
                  have HQd := Lib.hid (HQ.out.below (Below.refl _ wr).drew)
                  clear k0 k1 k2 k3 k4 k5 k6 k7 k8 k9
                  go_region_held3 (fun w' => w'.cell? ⟨db, 0, none⟩ = some (.int .i64 d.dw) ∧ w'.cell? ⟨db, 1, none⟩ = some (.int .i64 d.x) ∧ w'.cell? ⟨db, 2, none⟩ = some (.int .u8 d.k.f0) ∧ w'.cell? ⟨db, 3, none⟩ = some (.int .u8 d.k.f1) ∧ w'.cell? ⟨db, 4, none⟩ = some (.int .u8 d.k.f2) ∧ w'.cell? ⟨db, 5, none⟩ = some (.int .u8 d.k.f3) ∧ w'.cell? ⟨db, 6, none⟩ = some (.int .u8 d.k.f4) ∧ w'.cell? ⟨db, 7, none⟩ = some (.int .u8 d.k.f5) ∧ w'.cell? ⟨db, 8, none⟩ = some (.int .i64 d.k.near) ∧ w'.cell? ⟨db, 9, none⟩ = some (.int .i64 d.k.there))
                    (first | exact HQd.out.dc | exact H3.out.dc | exact H4.out.dc | assumption)
                    (first
                      | (go_at_call 10; (with_reducible refine (kkey d.k _).mono ?_); rintro e w3 ⟨rfl, b3⟩; have H3 := Lib.hid (HQd.out.below b3); clear b3)
                      | (go_at_call 18; (with_reducible refine (plPut H3.out d.k HDK.out d.x (E := 0) (l' := l.take P ++ (d.k, d.x) :: l.drop P) HPE.out HPL.out).mono ?_); rintro e w4 ⟨rfl, h4⟩; have H4 := Lib.hid h4; clear h4)
                      | fail)
                  all_goals
                    try simp only [Act.put, List.setIfInBounds_toArray, List.set_cons_zero, List.set_cons_succ]
                    obtain ⟨k0, k1, k2, k3, k4, k5, k6, k7, k8, k9⟩ := H4.out.dc
                    have hdb4 : db < w4.heap.size := World.block_lt_of_cell? w4 _ k0
                    rcases own_cases H4.out.own with ⟨hn, hz, _⟩ | ⟨g, cap, hxe, _⟩
                    · obtain rfl : l = [] := List.eq_nil_of_length_eq_zero hz
                      simp at hn
                      obtain ⟨rfl, rfl⟩ := hn
                      have hP0 : P = 0 := by have := HPP.out; rw [this]; rfl
                      subst hP0
                      have HTk : Hid (RdT w4 (.slice none 0 0) (([] : List ItI).take 0)) := H4.out.own.rd
                      have HD : Hid (RdT w4 (.slice none 0 0) (([] : List ItI).drop 0)) := H4.out.own.rd
                      have onesT := flat_onesI (([] : List ItI).take 0)
                      have onesD := flat_onesI (([] : List ItI).drop 0)
                      go_upto_region 33 with fail
                      go_region_held3 (fun w' => w'.cell? ⟨db, 1, none⟩ = some (.int .i64 d.x) ∧ w'.cell? ⟨db, 2, none⟩ = some (.int .u8 d.k.f0) ∧ w'.cell? ⟨db, 3, none⟩ = some (.int .u8 d.k.f1) ∧ w'.cell? ⟨db, 4, none⟩ = some (.int .u8 d.k.f2) ∧ w'.cell? ⟨db, 5, none⟩ = some (.int .u8 d.k.f3) ∧ w'.cell? ⟨db, 6, none⟩ = some (.int .u8 d.k.f4) ∧ w'.cell? ⟨db, 7, none⟩ = some (.int .u8 d.k.f5) ∧ w'.cell? ⟨db, 8, none⟩ = some (.int .i64 d.k.near) ∧ w'.cell? ⟨db, 9, none⟩ = some (.int .i64 d.k.there) ∧ Below w4.heap.size w4 w')
                        (first | exact ⟨k1, k2, k3, k4, k5, k6, k7, k8, k9, (Below.refl _ w4).drew⟩ | exact pC | exact pB | exact pA | exact s33_alloc (d := d) (by assumption) hdb4 _ | assumption)
                        (first
                          | (refine step_app (B := w4.heap.size) (n := 0) (v := .slice (some ⟨w4.heap.size, 0, none⟩) 0 0) rfl (.tmp 126) (.tmp 129) 44 rfl 48 i0 _ 9 _ Try.underlying44 hi0 hz0 hz1 hz2 rfl (by decide) (by simp <;> omega) rfl rfl (own_empty_at (by first | exact hnew (by simp) | exact hold (hnew (by simp))) (by simp <;> omega)) (HTk.out.fr (Fr.of_below (s33_bel (by assumption)) no) (fun _ _ e => e)) onesT (by unfold maxLen; simp <;> omega) (by simp <;> omega) ?_; intro v1 w1' o1 f1 m1 n1 z1; have pA := s33_fr (wd := w4) (d := d) (by assumption) hdb4 f1 (fun b e => by simp [Value.ownBlock] at e; omega); (try simp only [Act.put, List.setIfInBounds_toArray, List.set_cons_zero, List.set_cons_succ]))
                          | (refine step_app (B := w4.heap.size) (n := 0) (v := .slice (some ⟨w4.heap.size + 1, 0, none⟩) 0 0) rfl (.tmp 126) (.tmp 129) 44 rfl 48 i0 _ 9 _ Try.underlying44 hi0 hz0 hz1 hz2 rfl (by decide) (by simp <;> omega) rfl rfl (own_empty_at (by first | exact hnew (by simp) | exact hold (hnew (by simp))) (by simp <;> omega)) (HTk.out.fr (Fr.of_below (s33_bel (by assumption)) no) (fun _ _ e => e)) onesT (by unfold maxLen; simp <;> omega) (by simp <;> omega) ?_; intro v1 w1' o1 f1 m1 n1 z1; have pA := s33_fr (wd := w4) (d := d) (by assumption) hdb4 f1 (fun b e => by simp [Value.ownBlock] at e; omega); (try simp only [Act.put, List.setIfInBounds_toArray, List.set_cons_zero, List.set_cons_succ]))
                          | (refine step_app (B := w4.heap.size) (v := v1) rfl (.tmp 130) (.tmp 136) 44 rfl 48 i0 _ 9 _ Try.underlying44 hi0 hz0 hz1 hz2 rfl (by decide) (Below.size (s33_bel (by assumption))) rfl rfl (by first | exact o1 | exact own_fr o1 ((Fr.refl no _).alloc _) (fun _ _ e => e)) (rd_one (x := (d.k, d.x)) (by first | exact hnew (by simp) | exact f1.heap (hnew (by simp)) (by simp [Value.ownBlock]) | exact f1.heap (hold (hnew (by simp))) (by simp [Value.ownBlock]))) (enTI_one (d.k, d.x)) (by unfold maxLen; simp <;> omega) (by simp <;> omega) ?_; intro v2 w2' o2 f2 m2 n2 z2; have pB := s33_fr (wd := w4) (d := d) (by assumption) hdb4 f2 (fun b e => (o1.lt b e).1); (try simp only [Act.put, List.setIfInBounds_toArray, List.set_cons_zero, List.set_cons_succ]))
                          | (refine step_app (B := w4.heap.size) (v := v2) rfl (.tmp 137) (.tmp 140) 44 rfl 48 i0 _ 9 _ Try.underlying44 hi0 hz0 hz1 hz2 rfl (by decide) (Below.size (s33_bel (by assumption))) rfl rfl o2 (Rd.fr HD.out (Fr.of_below (s33_bel (by assumption)) no) (fun _ _ e => e)) onesD (by unfold maxLen; simp <;> omega) (by simp <;> omega) ?_; intro v3 w3' o3 f3 m3 n3 z3; have pC := s33_fr (wd := w4) (d := d) (by assumption) hdb4 f3 (fun b e => (o2.lt b e).1); (try simp only [Act.put, List.setIfInBounds_toArray, List.set_cons_zero, List.set_cons_succ]))
                          | fail)
                      all_goals
                        have h9 : Hid (PlT w w3' t mx v3 (([] : List ItI).take 0 ++ (d.k, d.x) :: ([] : List ItI).drop 0) (([] : List ItI).take 0 ++ (d.k, d.x) :: ([] : List ItI).drop 0) db d) := by
                          refine H4.out.newM (s33_bel pC) (Own.baseT (B := w4.heap.size) ?_ (fun g hg => Nat.le_trans H4.out.bel.size (o3.lt g hg).1))
                          have e2 : (([] : List ItI).take 0 ++ (d.k, d.x) :: ([] : List ItI).drop 0).length = 0 + (([] : List ItI).take 0).length + 1 + (([] : List ItI).drop 0).length := by rw [List.length_append, List.length_cons]; omega
                          unfold Own
                          rw [e2, List.flatMap_append, List.flatMap_cons]
                          simpa using o3
                        obtain ⟨a3, c3, hv3, _⟩ := own_shape o3
                        obtain ⟨nn, hnn⟩ : ∃ nn, nn = 0 + (([] : List ItI).take 0).length + 1 + (([] : List ItI).drop 0).length := ⟨_, rfl⟩
                        rw [← hnn] at hv3
                        subst hv3
                        clear pA pB pC o1 o2 o3 f1 f2 f3 m1 m2 m3 n1 n2 n3 z1 z2 z3 hnn k0 k1 k2 k3 k4 k5 k6 k7 k8 k9
                        try simp only [Act.put, List.setIfInBounds_toArray, List.set_cons_zero, List.set_cons_succ]
                        go_wp2_with fail
                        go_meet
                        exact ⟨_, h9⟩
                    · simp at hxe
                      obtain ⟨rfl, rfl⟩ := hxe
                      have hpl : P ≤ l.length := by rw [HPP.out]; exact pos_le l d.k
                      have x4 := H4.out.own
                      have hxc1 := HXC.out.1
                      have hxc2 : xc ≤ 9223372036854775807 := by have := HXC.out.2; unfold maxLen at this; omega
                      have HTk : Hid (RdT w4 (.slice (some ⟨g, 0, none⟩) P xc) (l.take P)) := rdt_take x4.rd P (by omega)
                      have onesT := flat_onesI (l.take P)
                      have onesD := flat_onesI (l.drop P)
                      have htl : (l.take P).length = P := by rw [List.length_take]; omega
                      have hzd : (l.drop P).length = l.length - P := by rw [List.length_drop]
                      have HD : Hid (∀ (off nn cc : Nat), off = P * 9 → nn = l.length - P → RdT w4 (.slice (some ⟨g, off, none⟩) nn cc) (l.drop P)) := fun off nn cc h1 h2 => rdt_drop x4.rd P (by omega) off nn cc (by omega) h2
                      have hk3 : (P : Int) ≤ (l.length : Int) := by omega
                      have hk0 : (0 : Int) ≤ (P : Int) := by omega
                      clear x4
                      by_cases hm1 : xc = P
                      · have HD0 : Hid (∀ (ad : Addr) (m cc : Nat), m = 0 → RdT w4 (.slice (some ad) m cc) (l.drop P)) := fun ad m cc hm => by
                          subst hm
                          have hdn : l.drop P = [] := List.drop_eq_nil_of_le (by omega)
                          rw [hdn]
                          exact ⟨rfl, some ad, cc, rfl, fun e => (by cases e), fun _ _ j u hu => by simp at hu⟩
                        subst hm1
                        go_upto_region 33 with fail
                        go_region_held3 (fun w' => w'.cell? ⟨db, 1, none⟩ = some (.int .i64 d.x) ∧ w'.cell? ⟨db, 2, none⟩ = some (.int .u8 d.k.f0) ∧ w'.cell? ⟨db, 3, none⟩ = some (.int .u8 d.k.f1) ∧ w'.cell? ⟨db, 4, none⟩ = some (.int .u8 d.k.f2) ∧ w'.cell? ⟨db, 5, none⟩ = some (.int .u8 d.k.f3) ∧ w'.cell? ⟨db, 6, none⟩ = some (.int .u8 d.k.f4) ∧ w'.cell? ⟨db, 7, none⟩ = some (.int .u8 d.k.f5) ∧ w'.cell? ⟨db, 8, none⟩ = some (.int .i64 d.k.near) ∧ w'.cell? ⟨db, 9, none⟩ = some (.int .i64 d.k.there) ∧ Below w4.heap.size w4 w')
                          (first | exact ⟨k1, k2, k3, k4, k5, k6, k7, k8, k9, (Below.refl _ w4).drew⟩ | exact pC | exact pB | exact pA | exact s33_alloc (d := d) (by assumption) hdb4 _ | assumption)
                          (first
                            | (refine step_app (B := w4.heap.size) (n := 0) (v := .slice (some ⟨w4.heap.size, 0, none⟩) 0 0) rfl (.tmp 126) (.tmp 129) 44 rfl 48 i0 _ 9 _ Try.underlying44 hi0 hz0 hz1 hz2 rfl (by decide) (by simp <;> omega) rfl rfl (own_empty_at (by first | exact hnew (by simp) | exact hold (hnew (by simp))) (by simp <;> omega)) (HTk.out.fr (Fr.of_below (s33_bel (by assumption)) no) (fun _ _ e => e)) onesT (by unfold maxLen; simp <;> omega) (by simp <;> omega) ?_; intro v1 w1' o1 f1 m1 n1 z1; have pA := s33_fr (wd := w4) (d := d) (by assumption) hdb4 f1 (fun b e => by simp [Value.ownBlock] at e; omega); (try simp only [Act.put, List.setIfInBounds_toArray, List.set_cons_zero, List.set_cons_succ]))
                            | (refine step_app (B := w4.heap.size) (n := 0) (v := .slice (some ⟨w4.heap.size + 1, 0, none⟩) 0 0) rfl (.tmp 126) (.tmp 129) 44 rfl 48 i0 _ 9 _ Try.underlying44 hi0 hz0 hz1 hz2 rfl (by decide) (by simp <;> omega) rfl rfl (own_empty_at (by first | exact hnew (by simp) | exact hold (hnew (by simp))) (by simp <;> omega)) (HTk.out.fr (Fr.of_below (s33_bel (by assumption)) no) (fun _ _ e => e)) onesT (by unfold maxLen; simp <;> omega) (by simp <;> omega) ?_; intro v1 w1' o1 f1 m1 n1 z1; have pA := s33_fr (wd := w4) (d := d) (by assumption) hdb4 f1 (fun b e => by simp [Value.ownBlock] at e; omega); (try simp only [Act.put, List.setIfInBounds_toArray, List.set_cons_zero, List.set_cons_succ]))
                            | (refine step_app (B := w4.heap.size) (v := v1) rfl (.tmp 130) (.tmp 136) 44 rfl 48 i0 _ 9 _ Try.underlying44 hi0 hz0 hz1 hz2 rfl (by decide) (Below.size (s33_bel (by assumption))) rfl rfl (by first | exact o1 | exact own_fr o1 ((Fr.refl no _).alloc _) (fun _ _ e => e)) (rd_one (x := (d.k, d.x)) (by first | exact hnew (by simp) | exact f1.heap (hnew (by simp)) (by simp [Value.ownBlock]) | exact f1.heap (hold (hnew (by simp))) (by simp [Value.ownBlock]))) (enTI_one (d.k, d.x)) (by unfold maxLen; simp <;> omega) (by simp <;> omega) ?_; intro v2 w2' o2 f2 m2 n2 z2; have pB := s33_fr (wd := w4) (d := d) (by assumption) hdb4 f2 (fun b e => (o1.lt b e).1); (try simp only [Act.put, List.setIfInBounds_toArray, List.set_cons_zero, List.set_cons_succ]))
                            | (refine step_app (B := w4.heap.size) (v := v2) rfl (.tmp 137) (.tmp 140) 44 rfl 48 i0 _ 9 _ Try.underlying44 hi0 hz0 hz1 hz2 rfl (by decide) (Below.size (s33_bel (by assumption))) rfl rfl o2 (Rd.fr (HD0.out _ _ _ (by first | rfl | omega)) (Fr.of_below (s33_bel (by assumption)) no) (fun _ _ e => e)) onesD (by unfold maxLen; simp <;> omega) (by simp <;> omega) ?_; intro v3 w3' o3 f3 m3 n3 z3; have pC := s33_fr (wd := w4) (d := d) (by assumption) hdb4 f3 (fun b e => (o2.lt b e).1); (try simp only [Act.put, List.setIfInBounds_toArray, List.set_cons_zero, List.set_cons_succ]))
                            | fail)
                        all_goals
                          have h9 : Hid (PlT w w3' t mx v3 (l.take xc ++ (d.k, d.x) :: l.drop xc) (l.take xc ++ (d.k, d.x) :: l.drop xc) db d) := by
                            refine H4.out.newM (s33_bel pC) (Own.baseT (B := w4.heap.size) ?_ (fun g hg => Nat.le_trans H4.out.bel.size (o3.lt g hg).1))
                            have e2 : (l.take xc ++ (d.k, d.x) :: l.drop xc).length = 0 + (l.take xc).length + 1 + (l.drop xc).length := by rw [List.length_append, List.length_cons]; omega
                            unfold Own
                            rw [e2, List.flatMap_append, List.flatMap_cons]
                            simpa using o3
                          obtain ⟨a3, c3, hv3, _⟩ := own_shape o3
                          obtain ⟨nn, hnn⟩ : ∃ nn, nn = 0 + (l.take xc).length + 1 + (l.drop xc).length := ⟨_, rfl⟩
                          rw [← hnn] at hv3
                          subst hv3
                          clear pA pB pC o1 o2 o3 f1 f2 f3 m1 m2 m3 n1 n2 n3 z1 z2 z3 hnn k0 k1 k2 k3 k4 k5 k6 k7 k8 k9
                          try simp only [Act.put, List.setIfInBounds_toArray, List.set_cons_zero, List.set_cons_succ]
                          go_wp2_with fail
                          go_meet
                          exact ⟨_, h9⟩
                      · have hm2 : ¬ (P = xc) := fun e => hm1 e.symm
                        have hk1 : (P : Int) ≤ (xc : Int) := by omega
                        have hk2 : P ≤ xc := by omega
                        go_upto_region 33 with fail
                        go_region_held3 (fun w' => w'.cell? ⟨db, 1, none⟩ = some (.int .i64 d.x) ∧ w'.cell? ⟨db, 2, none⟩ = some (.int .u8 d.k.f0) ∧ w'.cell? ⟨db, 3, none⟩ = some (.int .u8 d.k.f1) ∧ w'.cell? ⟨db, 4, none⟩ = some (.int .u8 d.k.f2) ∧ w'.cell? ⟨db, 5, none⟩ = some (.int .u8 d.k.f3) ∧ w'.cell? ⟨db, 6, none⟩ = some (.int .u8 d.k.f4) ∧ w'.cell? ⟨db, 7, none⟩ = some (.int .u8 d.k.f5) ∧ w'.cell? ⟨db, 8, none⟩ = some (.int .i64 d.k.near) ∧ w'.cell? ⟨db, 9, none⟩ = some (.int .i64 d.k.there) ∧ Below w4.heap.size w4 w')
                          (first | exact ⟨k1, k2, k3, k4, k5, k6, k7, k8, k9, (Below.refl _ w4).drew⟩ | exact pC | exact pB | exact pA | exact s33_alloc (d := d) (by assumption) hdb4 _ | assumption)
                          (first
                            | (refine step_app (B := w4.heap.size) (n := 0) (v := .slice (some ⟨w4.heap.size, 0, none⟩) 0 0) rfl (.tmp 126) (.tmp 129) 44 rfl 48 i0 _ 9 _ Try.underlying44 hi0 hz0 hz1 hz2 rfl (by decide) (by simp <;> omega) rfl rfl (own_empty_at (by first | exact hnew (by simp) | exact hold (hnew (by simp))) (by simp <;> omega)) (HTk.out.fr (Fr.of_below (s33_bel (by assumption)) no) (fun _ _ e => e)) onesT (by unfold maxLen; simp <;> omega) (by simp <;> omega) ?_; intro v1 w1' o1 f1 m1 n1 z1; have pA := s33_fr (wd := w4) (d := d) (by assumption) hdb4 f1 (fun b e => by simp [Value.ownBlock] at e; omega); (try simp only [Act.put, List.setIfInBounds_toArray, List.set_cons_zero, List.set_cons_succ]))
                            | (refine step_app (B := w4.heap.size) (n := 0) (v := .slice (some ⟨w4.heap.size + 1, 0, none⟩) 0 0) rfl (.tmp 126) (.tmp 129) 44 rfl 48 i0 _ 9 _ Try.underlying44 hi0 hz0 hz1 hz2 rfl (by decide) (by simp <;> omega) rfl rfl (own_empty_at (by first | exact hnew (by simp) | exact hold (hnew (by simp))) (by simp <;> omega)) (HTk.out.fr (Fr.of_below (s33_bel (by assumption)) no) (fun _ _ e => e)) onesT (by unfold maxLen; simp <;> omega) (by simp <;> omega) ?_; intro v1 w1' o1 f1 m1 n1 z1; have pA := s33_fr (wd := w4) (d := d) (by assumption) hdb4 f1 (fun b e => by simp [Value.ownBlock] at e; omega); (try simp only [Act.put, List.setIfInBounds_toArray, List.set_cons_zero, List.set_cons_succ]))
                            | (refine step_app (B := w4.heap.size) (v := v1) rfl (.tmp 130) (.tmp 136) 44 rfl 48 i0 _ 9 _ Try.underlying44 hi0 hz0 hz1 hz2 rfl (by decide) (Below.size (s33_bel (by assumption))) rfl rfl (by first | exact o1 | exact own_fr o1 ((Fr.refl no _).alloc _) (fun _ _ e => e)) (rd_one (x := (d.k, d.x)) (by first | exact hnew (by simp) | exact f1.heap (hnew (by simp)) (by simp [Value.ownBlock]) | exact f1.heap (hold (hnew (by simp))) (by simp [Value.ownBlock]))) (enTI_one (d.k, d.x)) (by unfold maxLen; simp <;> omega) (by simp <;> omega) ?_; intro v2 w2' o2 f2 m2 n2 z2; have pB := s33_fr (wd := w4) (d := d) (by assumption) hdb4 f2 (fun b e => (o1.lt b e).1); (try simp only [Act.put, List.setIfInBounds_toArray, List.set_cons_zero, List.set_cons_succ]))
                            | (refine step_app (B := w4.heap.size) (v := v2) rfl (.tmp 137) (.tmp 140) 44 rfl 48 i0 _ 9 _ Try.underlying44 hi0 hz0 hz1 hz2 rfl (by decide) (Below.size (s33_bel (by assumption))) rfl rfl o2 (Rd.fr (HD.out _ _ _ (by first | rfl | omega) (by first | rfl | omega)) (Fr.of_below (s33_bel (by assumption)) no) (fun _ _ e => e)) onesD (by unfold maxLen; simp <;> omega) (by simp <;> omega) ?_; intro v3 w3' o3 f3 m3 n3 z3; have pC := s33_fr (wd := w4) (d := d) (by assumption) hdb4 f3 (fun b e => (o2.lt b e).1); (try simp only [Act.put, List.setIfInBounds_toArray, List.set_cons_zero, List.set_cons_succ]))
                            | fail)
                        all_goals
                          have h9 : Hid (PlT w w3' t mx v3 (l.take P ++ (d.k, d.x) :: l.drop P) (l.take P ++ (d.k, d.x) :: l.drop P) db d) := by
                            refine H4.out.newM (s33_bel pC) (Own.baseT (B := w4.heap.size) ?_ (fun g hg => Nat.le_trans H4.out.bel.size (o3.lt g hg).1))
                            have e2 : (l.take P ++ (d.k, d.x) :: l.drop P).length = 0 + (l.take P).length + 1 + (l.drop P).length := by rw [List.length_append, List.length_cons]; omega
                            unfold Own
                            rw [e2, List.flatMap_append, List.flatMap_cons]
                            simpa using o3
                          obtain ⟨a3, c3, hv3, _⟩ := own_shape o3
                          obtain ⟨nn, hnn⟩ : ∃ nn, nn = 0 + (l.take P).length + 1 + (l.drop P).length := ⟨_, rfl⟩
                          rw [← hnn] at hv3
                          subst hv3
                          clear pA pB pC o1 o2 o3 f1 f2 f3 m1 m2 m3 n1 n2 n3 z1 z2 z3 hnn k0 k1 k2 k3 k4 k5 k6 k7 k8 k9
                          try simp only [Act.put, List.setIfInBounds_toArray, List.set_cons_zero, List.set_cons_succ]
                          go_wp2_with fail
                          go_meet
                          exact ⟨_, h9⟩

            · have hd3 : decide (d.dw ≤ 3) = false := by simpa using h3
              clear h3
              by_cases h4 : d.dw = 4
              · have hd4 : (d.dw == 4) = true := by simpa using h4
                clear h4
                cases hf : fnd l d.k with
                | true =>
                  obtain ⟨hpl, hpk⟩ := pos_atI hf
                  have hAP : A = (P : Int) := by rw [HA.out, if_pos hf, HPP.out]
                  subst hAP
                  have hda2 : decide (0 ≤ (P : Int)) = true := decide_eq_true (by omega)
                  have hPl : P < l.length := by rw [HPP.out]; exact hpl
                  have HV := Lib.hid (show getVI l d.k = .int .i64 (l[P]'hPl).2 by unfold getVI; rw [if_pos hf, ← HPP.out, List.getElem?_eq_getElem hPl])
                  have HF := Lib.hid hf
                  clear hf hpl hpk
                  obtain ⟨g, rfl, hg⟩ := HXA.out (by omega)
                  clear hg
                  obtain ⟨lx, hlx⟩ : ∃ lx, lx = (l[P]'hPl).2 := ⟨_, rfl⟩
                  rw [← hlx] at HV
                  have HLX := Lib.hid hlx
                  clear hlx
                  as_aux_lemma =>
                    go_wp2_with fail
                    refine (kkey d.k _).mono ?_
                    rintro e w3 ⟨rfl, b3⟩
                    have H3 := Lib.hid (HQ.out.below b3)
                    clear b3
                    go_wp2_with fail
                    refine (plGet H3.out d.k HDK.out HV.out HF.out).mono ?_
                    rintro e w4 ⟨rfl, h4⟩
                    have H4 := Lib.hid h4
                    have x4 : w4.cell? ⟨g, P * 9 + 8, none⟩ = some (.int .i64 lx) := by rw [H4.out.own.cell enTI_len P 8 hPl (by decide), HLX.out]; rfl
                    clear h4
                    go_wp2_with fail
                    go_meet
                    exact ⟨_, H4⟩

                | false =>
                  have hAP : A = -1 := by rw [HA.out, if_neg (by rw [hf]; decide)]
                  subst hAP
                  have HV := Lib.hid (show getVI l d.k = .int .i64 0 by unfold getVI; rw [if_neg (by rw [hf]; decide)])
                  have HF := Lib.hid hf
                  clear hf
                  as_aux_lemma =>
                    go_wp2_with fail
                    refine (kkey d.k _).mono ?_
                    rintro e w3 ⟨rfl, b3⟩
                    have H3 := Lib.hid (HQ.out.below b3)
                    clear b3
                    go_wp2_with fail
                    refine (plGet H3.out d.k HDK.out HV.out HF.out).mono ?_
                    rintro e w4 ⟨rfl, h4⟩
                    have H4 := Lib.hid h4
                    clear h4
                    go_wp2_with fail
                    go_meet
                    exact ⟨_, H4⟩

              · have hd4 : (d.dw == 4) = false := by simpa using h4
                clear h4
                cases hf : fnd l d.k with
                | true =>
                  obtain ⟨hpl, hpk⟩ := pos_atI hf
                  have hAP : A = (P : Int) := by rw [HA.out, if_pos hf, HPP.out]
                  subst hAP
                  have hda2 : decide (0 ≤ (P : Int)) = true := decide_eq_true (by omega)
                  have hPl : P < l.length := by rw [HPP.out]; exact hpl
                  have HDL := Lib.hid (show delLI l d.k = l.eraseIdx P by unfold delLI; rw [if_pos hf, HPP.out])
                  have HF := Lib.hid hf
                  clear hf hpl hpk
                  obtain ⟨g, rfl, hg⟩ := HXA.out (by omega)
                  clear hg
                  as_aux_lemma =>
                    go_wp2_with fail
                    refine (kkey d.k _).mono ?_
                    rintro e w3 ⟨rfl, b3⟩
                    have H3 := Lib.hid (HQ.out.below b3)
                    clear b3
                    go_wp2_with fail
                    refine (plDel H3.out d.k HDK.out HDL.out HF.out).mono ?_
                    rintro e w4 ⟨rfl, h4⟩
                    have H4 := Lib.hid h4
                    clear h4
                    have x4 := H4.out.own
                    have hxc1 := HXC.out.1
                    have hxc2 : xc ≤ 9223372036854775807 := by have := HXC.out.2; unfold maxLen at this; omega
                    have HTk : Hid (RdT w4 (.slice (some ⟨g, 0, none⟩) P xc) (l.take P)) := rdt_take x4.rd P (by omega)
                    have onesT := flat_onesI (l.take P)
                    have onesD := flat_onesI (l.drop (P + 1))
                    have htl : (l.take P).length = P := by rw [List.length_take]; omega
                    have hzd : (l.drop (P + 1)).length = l.length - (P + 1) := by rw [List.length_drop]
                    have HD : Hid (∀ (off nn cc : Nat), off = (P + 1) * 9 → nn = l.length - (P + 1) → RdT w4 (.slice (some ⟨g, off, none⟩) nn cc) (l.drop (P + 1))) := fun off nn cc h1 h2 => rdt_drop x4.rd (P + 1) (by omega) off nn cc (by omega) h2
                    have hk1 : (P : Int) ≤ (xc : Int) := by omega
                    have hk2 : P ≤ xc := by omega
                    have hk3 : (P : Int) + 1 ≤ (l.length : Int) := by omega
                    have hk4 : P + 1 ≤ xc := by omega
                    have ht1 : ((P : Int) + 1).toNat = P + 1 := by omega
                    have hwr1 : IntKind.i64.wrap ((P : Int) + 1) = (P : Int) + 1 := IntWalk.i64_in _ (by omega)
                    have hk5 : (P : Int) + 1 ≤ (xc : Int) := by omega
                    have hk6 : P + 1 ≤ l.length := by omega
                    have hk7 : (0 : Int) ≤ (P : Int) + 1 := by omega
                    clear x4
                    by_cases hm1 : xc = P + 1
                    · have HD0 : Hid (∀ (ad : Addr) (m cc : Nat), m = 0 → RdT w4 (.slice (some ad) m cc) (l.drop (P + 1))) := fun ad m cc hm => by
                        subst hm
                        have hdn : l.drop (P + 1) = [] := List.drop_eq_nil_of_le (by omega)
                        rw [hdn]
                        exact ⟨rfl, some ad, cc, rfl, fun e => (by cases e), fun _ _ j u hu => by simp at hu⟩
                      subst hm1
                      have hkA : (P : Int) ≤ (P : Int) + 1 := by omega
                      have hkB : P ≤ P + 1 := by omega
                      clear hk1 hk2 hk4 hk5
                      go_upto_region 24 with fail
                      go_region_held3 (fun w' => Below w4.heap.size w4 w')
                        (first | exact (Below.refl _ w4).drew | exact pB | exact pA | exact belAlloc (by assumption) _ | assumption)
                        (first
                          | (refine step_app (B := w4.heap.size) (n := 0) (v := .slice (some ⟨w4.heap.size, 0, none⟩) 0 0) rfl (.tmp 74) (.tmp 77) 44 rfl 48 i0 _ 9 _ Try.underlying44 hi0 hz0 hz1 hz2 rfl (by decide) (by simp <;> omega) rfl rfl (own_empty_at (by first | exact hnew (by simp) | exact hold (hnew (by simp))) (by simp <;> omega)) (HTk.out.fr (Fr.of_below (by assumption) no) (fun _ _ e => e)) onesT (by unfold maxLen; simp <;> omega) (by simp <;> omega) ?_; intro v1 w1' o1 f1 m1 n1 z1; have pA := belFr (a := w4) (by assumption) f1 (fun b e => by simp [Value.ownBlock] at e; omega); (try simp only [Act.put, List.setIfInBounds_toArray, List.set_cons_zero, List.set_cons_succ]))
                          | (refine step_app (B := w4.heap.size) (v := v1) rfl (.tmp 78) (.tmp 82) 44 rfl 48 i0 _ 9 _ Try.underlying44 hi0 hz0 hz1 hz2 rfl (by decide) (Below.size (by assumption)) rfl rfl o1 (Rd.fr (HD0.out _ _ _ (by first | rfl | omega)) (Fr.of_below (by assumption) no) (fun _ _ e => e)) onesD (by unfold maxLen; simp <;> omega) (by simp <;> omega) ?_; intro v2 w2' o2 f2 m2 n2 z2; have pB := belFr (a := w4) (by assumption) f2 (fun b e => (o1.lt b e).1); (try simp only [Act.put, List.setIfInBounds_toArray, List.set_cons_zero, List.set_cons_succ]))
                          | fail)
                      all_goals
                        have h9 : Hid (PlT w w2' t mx v2 (l.eraseIdx P) (l.eraseIdx P) db d) := by
                          refine H4.out.newM pB (Own.baseT (B := w4.heap.size) ?_ (fun g hg => Nat.le_trans H4.out.bel.size (o2.lt g hg).1))
                          have e1 : l.eraseIdx P = l.take P ++ l.drop (P + 1) := List.eraseIdx_eq_take_drop_succ ..
                          have e2 : (l.eraseIdx P).length = 0 + (l.take P).length + (l.drop (P + 1)).length := by rw [e1, List.length_append]; omega
                          unfold Own
                          rw [e2, e1, List.flatMap_append]
                          simpa using o2
                        obtain ⟨a3, c3, hv3, _⟩ := own_shape o2
                        obtain ⟨nn, hnn⟩ : ∃ nn, nn = 0 + (l.take P).length + (l.drop (P + 1)).length := ⟨_, rfl⟩
                        rw [← hnn] at hv3
                        subst hv3
                        clear pA pB o1 o2 f1 f2 m1 m2 n1 n2 z1 z2 hnn
                        try simp only [Act.put, List.setIfInBounds_toArray, List.set_cons_zero, List.set_cons_succ]
                        go_wp2_with fail
                        go_meet
                        exact ⟨_, h9⟩
                    · have hm2 : ¬ (P + 1 = xc) := fun e => hm1 e.symm
                      go_upto_region 24 with fail
                      go_region_held3 (fun w' => Below w4.heap.size w4 w')
                        (first | exact (Below.refl _ w4).drew | exact pB | exact pA | exact belAlloc (by assumption) _ | assumption)
                        (first
                          | (refine step_app (B := w4.heap.size) (n := 0) (v := .slice (some ⟨w4.heap.size, 0, none⟩) 0 0) rfl (.tmp 74) (.tmp 77) 44 rfl 48 i0 _ 9 _ Try.underlying44 hi0 hz0 hz1 hz2 rfl (by decide) (by simp <;> omega) rfl rfl (own_empty_at (by first | exact hnew (by simp) | exact hold (hnew (by simp))) (by simp <;> omega)) (HTk.out.fr (Fr.of_below (by assumption) no) (fun _ _ e => e)) onesT (by unfold maxLen; simp <;> omega) (by simp <;> omega) ?_; intro v1 w1' o1 f1 m1 n1 z1; have pA := belFr (a := w4) (by assumption) f1 (fun b e => by simp [Value.ownBlock] at e; omega); (try simp only [Act.put, List.setIfInBounds_toArray, List.set_cons_zero, List.set_cons_succ]))
                          | (refine step_app (B := w4.heap.size) (v := v1) rfl (.tmp 78) (.tmp 82) 44 rfl 48 i0 _ 9 _ Try.underlying44 hi0 hz0 hz1 hz2 rfl (by decide) (Below.size (by assumption)) rfl rfl o1 (Rd.fr (HD.out _ _ _ (by first | rfl | omega) (by first | rfl | omega)) (Fr.of_below (by assumption) no) (fun _ _ e => e)) onesD (by unfold maxLen; simp <;> omega) (by simp <;> omega) ?_; intro v2 w2' o2 f2 m2 n2 z2; have pB := belFr (a := w4) (by assumption) f2 (fun b e => (o1.lt b e).1); (try simp only [Act.put, List.setIfInBounds_toArray, List.set_cons_zero, List.set_cons_succ]))
                          | fail)
                      all_goals
                        have h9 : Hid (PlT w w2' t mx v2 (l.eraseIdx P) (l.eraseIdx P) db d) := by
                          refine H4.out.newM pB (Own.baseT (B := w4.heap.size) ?_ (fun g hg => Nat.le_trans H4.out.bel.size (o2.lt g hg).1))
                          have e1 : l.eraseIdx P = l.take P ++ l.drop (P + 1) := List.eraseIdx_eq_take_drop_succ ..
                          have e2 : (l.eraseIdx P).length = 0 + (l.take P).length + (l.drop (P + 1)).length := by rw [e1, List.length_append]; omega
                          unfold Own
                          rw [e2, e1, List.flatMap_append]
                          simpa using o2
                        obtain ⟨a3, c3, hv3, _⟩ := own_shape o2
                        obtain ⟨nn, hnn⟩ : ∃ nn, nn = 0 + (l.take P).length + (l.drop (P + 1)).length := ⟨_, rfl⟩
                        rw [← hnn] at hv3
                        subst hv3
                        clear pA pB o1 o2 f1 f2 m1 m2 n1 n2 z1 z2 hnn
                        try simp only [Act.put, List.setIfInBounds_toArray, List.set_cons_zero, List.set_cons_succ]
                        go_wp2_with fail
                        go_meet
                        exact ⟨_, h9⟩

                | false =>
                  have hAP : A = -1 := by rw [HA.out, if_neg (by rw [hf]; decide)]
                  subst hAP
                  have HDL := Lib.hid (show delLI l d.k = l by unfold delLI; rw [if_neg (by rw [hf]; decide)])
                  have HF := Lib.hid hf
                  clear hf
                  as_aux_lemma =>
                    go_wp2_with fail
                    refine (kkey d.k _).mono ?_
                    rintro e w3 ⟨rfl, b3⟩
                    have H3 := Lib.hid (HQ.out.below b3)
                    clear b3
                    go_wp2_with fail
                    refine (plDel H3.out d.k HDK.out HDL.out HF.out).mono ?_
                    rintro e w4 ⟨rfl, h4⟩
                    have H4 := Lib.hid h4
                    clear h4
                    go_wp2_with fail
                    go_meet
                    exact ⟨_, H4⟩
          case rest =>
            obtain ⟨zt, HT⟩ := hcut
            rename World => wE
            obtain ⟨ta, tc, htv, htc, htm, _⟩ := own_shape HT.out.own
            subst htv
            have hztl : zt.length ≤ 1000 := by have := HT.out.le; have := HX1.out; omega
            have htm2 : tc ≤ 9223372036854775807 := by unfold maxLen at htm; omega
            obtain ⟨mm, hmm⟩ : ∃ mm : Nat, min 1 (zt.length : Int) = mm := ⟨(min 1 (zt.length : Int)).toNat, by omega⟩
            have hm1 : mm ≤ zt.length := by omega
            have hm2 : mm ≤ tc := by omega
            have hm3 : (mm : Int) ≤ (tc : Int) := by omega
            obtain ⟨z2, hz2⟩ : ∃ z2, firstN 1 zt = z2 := ⟨_, rfl⟩
            have hz3 : zt.take mm = z2 := by
              rw [← hz2]
              unfold firstN
              rw [if_neg (by decide)]
              by_cases h2 : zt.length ≤ 1
              · rw [List.take_of_length_le (by omega), List.take_of_length_le (by show zt.length ≤ 1; omega)]
              · rw [show mm = 1 by omega]; rfl
            have hz4 : z2.length = mm := by rw [← hz3, List.length_take]; omega
            have HZ1 : Hid (RdT wE (.slice ta zt.length tc) zt) := HT.out.own.rd
            have HZ2 : Hid (RdT wE (.slice ta mm tc) z2) := by have := rdt_take HZ1.out mm hm1; rw [hz3] at this; exact this
            have Hz2 := Lib.hid hz2
            have Hz4 := Lib.hid hz4
            have Hm1 := Lib.hid hm1
            clear hz2 hz3 hz4 htc htm hm1
            as_aux_lemma =>
              go_upto_region 38 with fail
              go_region_held3 (fun w' => Below wE.heap.size wE w') (first | exact (Below.refl _ wE).drew | exact belStep (by assumption) hbb | assumption) (first
                | (go_at_call 21; refine (plLen (HT.out.below (by assumption))).mono ?_; rintro e w2 ⟨rfl, rfl⟩)
                | (go_at_call_of 23 (Value.int .i64 1); refine (plWalk (HT.out.below (by assumption)) 1 z2 Hz2.out).mono ?_; rintro e w2 ⟨a2, k2, rfl, r2, hbb⟩)
                | (go_at_call 23; refine (plWalk (HT.out.below (by assumption)) (-1) zt rfl).mono ?_; rintro e w2 ⟨a1, k1, rfl, r1, hbb⟩)
                | (go_at_call 22; refine (sameL _ _ z2 z2 _ r2 (Rd.fr HZ2.out (Fr.of_below (by assumption) no) (fun _ _ e => e)) (by have := Hz4.out; have := Hm1.out; omega)).mono ?_; rw [sameZ_self]; rintro e w2 ⟨rfl, hbb⟩)
                | (go_at_call 22; refine (sameL _ _ zt zt _ r1 (Rd.fr HZ1.out (Fr.of_below (by assumption) no) (fun _ _ e => e)) (by omega)).mono ?_; rw [sameZ_self]; rintro e w2 ⟨rfl, hbb⟩)
                | fail)
              all_goals
                try simp only [Act.put, List.setIfInBounds_toArray, List.set_cons_zero, List.set_cons_succ]
                go_wp2_with fail
                go_roundg (ds.length - (i + 1))
                case measure => have := HIN.out; omega
                case rel =>
                  refine ⟨i + 1, zt, by go_num, (by have := HIN.out; omega), rfl, ?_⟩
                  have hh := HT.out.below (by assumption)
                  exact ⟨hh.ex, hh.bel, hh.own⟩
    · obtain rfl : i = ds.length := by omega
      have HBL := Lib.hid HX.out.2.1
      have hd1 : decide ((ds.length : Int) < (ds.length : Int)) = false := by simp
      go_wp2_with fail
      go_ret
      exact ⟨rfl, HBL.out⟩
end Go.Proofs.Ytjjfminpaoooaaa
