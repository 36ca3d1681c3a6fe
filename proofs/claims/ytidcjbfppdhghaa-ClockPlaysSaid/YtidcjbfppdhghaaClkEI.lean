/-
  Package clock at one key type: Each, and the iterator that it hands back.
-/
import Derived.Test.YtidcjbfppdhghaaClkTI
import Derived.Test.YtidcjbfppdhghaaCloneI
import Derived.Test.YtidcjbfppdhghaaRng
namespace Go.Proofs.Ytidcjbfppdhghaa
open Go.RowKit
attribute [local go_sem] Oper.semAt_some

theorem eachI (c : Nat) (most now : Int) (sv : Value) (l : List TmI) (w : World) (B : Nat) (h : IsClkI w B c most now sv l) :
    Calls Try.prog 33 #[.pointer (some ⟨c, 0, none⟩)] w fun e w' => e = .returned (.func (.func 39) #[] #[.pointer (some ⟨w.heap.size, 0, none⟩)]) ∧
      ∃ cv, w'.heap[w.heap.size]? = some (.cells #[cv] 63 (0, 0)) ∧ Own encI 67 2 w.heap.size w' cv l ∧ Below w.heap.size w w' := by
  have hc := lt_of_block h.blk
  have c2 := blk_cell h.blk 2
  simp at c2
  have hsm : l.length ≤ 1000000 := by have := h.small; have := h.mx; omega
  have H := Lib.hid h
  clear h
  go_enter Try.func33, Try.ntmps33
  go_wp2_with fail
  refine (clone38 encI encI_one _ B sv l (H.out.own.fr ((Fr.refl no w).alloc _) (fun _ _ e => e)) hsm).mono ?_
  rintro e w1 ⟨cv, rfl, ho, hb⟩
  have b1 : w1.heap[w.heap.size]? = some (.cells #[.slice none 0 0] 63 (0, 0)) := (hb.block _ (by simp)).trans (heap_alloc_new' w _)
  have k1 := cell_of_one b1
  have z1 := free_of_one b1
  have hs1 : w.heap.size < w1.heap.size := lt_of_block b1
  obtain ⟨ca, cc, rfl, _⟩ := own_shape ho
  have B1 := Lib.hid b1
  have Ho := Lib.hid ho
  have Hb := Lib.hid hb
  clear b1 ho hb
  go_wp2_with fail
  go_ret
  refine ⟨rfl, .slice ca l.length cc, one_setCell B1.out, ?_, (((Below.refl _ w).alloc (Nat.le_refl _) _).trans (Hb.out.mono (by simp))).setCell (p := ⟨w.heap.size, 0, none⟩) (Nat.le_refl _) _⟩
  have h2 : Own encI 67 2 (w.alloc (.cells #[.slice none 0 0] 63)).heap.size (w1.setCell ⟨w.heap.size, 0, none⟩ (.slice ca l.length cc)) (.slice ca l.length cc) l :=
    Ho.out.fr ((Fr.refl (fun b => b = w.heap.size) w1).setCell (fun _ => rfl) _) (fun g hg (e' : g = w.heap.size) => by have := (Ho.out.lt g hg).1; simp at this; omega)
  exact own_base (own_zero h2) (fun g hg => by have := (h2.lt g hg).1; simp at this; omega)

/-- What has come when j rounds are over. -/
def encsTI (x : TmI) : Array Value := #[.int .i64 x.1, .int .i64 x.2]

set_option maxRecDepth 100000 in
set_option maxHeartbeats 2000000 in
theorem each1I (b : Nat) (cv : Value) (l : List TmI) (w : World) (B : Nat) (hb : w.heap[b]? = some (.cells #[cv] 63 (0, 0))) (ho : Own encI 67 2 B w cv l) :
    SeqStopsK Fence.wide 1 Try.prog 39 #[.pointer (some ⟨b, 0, none⟩)] encsTI (Same (fun k => k = b ∨ cv.ownBlock = some k)) (fun xs => xs = l) (fun pre => ∃ j, 0 < j ∧ j ≤ l.length ∧ pre = l.take j) l.length w := by
  intro lp J Jx W hW hJ hJx hY h0
  obtain ⟨a, cap, rfl, hcap, hmax, ha⟩ := own_shape ho
  have hlen : l.length ≤ 9223372036854775807 := by unfold maxLen at hmax; omega
  have hbW : W.heap[b]? = some (.cells #[.slice a l.length cap] 63 (0, 0)) := (hW.block b (lt_of_block hb)).trans hb
  have hoW : Own encI 67 2 B W (.slice a l.length cap) l := ho.fr (Fr.of_below hW no) (fun _ _ e => e)
  have kb := cell_of_one hbW
  have hbl := lt_of_block hbW
  have haW : 0 < l.length → ∃ g, a = some ⟨g, 0, none⟩ ∧ g < W.heap.size := fun h => by
    obtain ⟨g, rfl, hg⟩ := ha h
    exact ⟨g, rfl, by have := hW.size; omega⟩
  have Ha := Lib.hid haW
  have Ho := Lib.hid hoW
  have HJ := Lib.hid hJ
  have HY := Lib.hid hY
  clear hbW hoW haW ha ho hb hW hJ hJx hY hcap hmax
  refine callsIn_of_wp Try.func39 rfl trivial ?_ rfl
  simp only [Try.ntmps39, List.size_toArray, List.length_cons, List.length_nil, Nat.reduceAdd, Nat.reduceSub, Array.replicate_succ, Array.replicate_zero, List.push_toArray, List.append_toArray, List.nil_append, List.cons_append]
  gi_wp2
  gi_loopw [7] (fun i wr => ∃ j : Nat, j ≤ l.length ∧ i = .int .i64 j ∧ J (l.take j) wr ∧ Hid (Own encI 67 2 B wr (.slice a l.length cap) l)) (fun i _ => l.length - (intOf i).toNat)
  case atStart => exact ⟨0, Nat.zero_le _, rfl, by simpa using h0, Ho⟩
  case round =>
    obtain ⟨j, hj, rfl, hJs, hor⟩ := hrel
    by_cases hlt : j < l.length
    · obtain ⟨g, rfl, hg⟩ := Ha.out (by omega)
      have x0 : wr.cell? ⟨g, j * 2, none⟩ = some (.int .i64 l[j].1) := hor.out.cell' encI_len (Below.refl _ _) j 0 hlt (by omega)
      have x1 : wr.cell? ⟨g, j * 2 + 1, none⟩ = some (.int .i64 l[j].2) := hor.out.cell' encI_len (Below.refl _ _) j 1 hlt (by omega)
      have hgr : g < wr.heap.size := own_lt hor.out rfl
      have hJ1 : J (l.take j) (wr.alloc (.cells #[.int .i64 l[j].1, .int .i64 l[j].2] 67)) := HJ.out _ _ _ none hJs (World.grownBy_alloc _ _ none) (fun r e => by cases e)
      have hor1 : Own encI 67 2 B (wr.alloc (.cells #[.int .i64 l[j].1, .int .i64 l[j].2] 67)) (.slice (some ⟨g, 0, none⟩) l.length cap) l := hor.out.fr ((Fr.refl no wr).alloc _) (fun _ _ e => e)
      obtain ⟨fn, tmps, assign, body, hy, hR⟩ := HY.out _ l[j] _ hJ1 (by rw [List.length_take]; omega)
      have Hy := Lib.hid hy
      dsimp only [encsTI] at hy
      have hto : l.take (j + 1) = l.take j ++ [l[j]] := List.take_succ_eq_append_getElem hlt
      have Ht := Lib.hid hto
      have Hor1 := Lib.hid hor1
      clear hto hor1 hJ1 Hy
      gi_wp2
      refine hR.mono ?_
      rintro e W3 (⟨rfl, hJ3, hk3⟩ | ⟨rfl, hJx3⟩)
      · have hg3 := hk3 g (.inr rfl)
        have hor3 : Own encI 67 2 B W3 (.slice (some ⟨g, 0, none⟩) l.length cap) l := by
          refine own_of_block Hor1.out (fun g' e => hk3 g' (.inr e))
        have Hor3 := Lib.hid hor3
        have Hj3 := Lib.hid hJ3
        clear hor3 hg3 hk3 hJ3
        gi_wp2
        go_roundw
        case rel => exact ⟨j + 1, by omega, by go_num, by rw [Ht.out]; exact Hj3.out, Hor3⟩
        case measure => simp [intOf]; omega
      · gi_wp2
        refine bodyPost_ret (results_none rfl _ _ _) rfl ?_
        exact ⟨⟨_, rfl⟩, .inr ⟨_, ⟨j + 1, by omega, by omega, Ht.out.symm⟩, hJx3⟩⟩
    · obtain rfl : j = l.length := by omega
      gi_wp2
      go_end0
      exact ⟨⟨_, rfl⟩, .inl ⟨_, rfl, by simpa using hJs⟩⟩
end Go.Proofs.Ytidcjbfppdhghaa
