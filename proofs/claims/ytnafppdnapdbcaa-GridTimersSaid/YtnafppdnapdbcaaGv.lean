/-
  What a row's function gives.
-/
import Derived.Test.YtnafppdnapdbcaaGrd3
namespace Go.Proofs.Ytnafppdnapdbcaa
open Go.RowKit


/-- What a row's function gives. -/
def Gives (x : List Int × Int × Bool) (w : World) (e : Ending) (w' : World) : Prop := ∃ v, e = .returned (.agg #[v, .int .i64 x.2.1, .bool x.2.2]) ∧ RdN w.heap.size w' v x.1 ∧ Below w.heap.size w w'
theorem Gives.mk {x y : List Int × Int × Bool} {w w' : World} {v : Value} (he : y = x) (hr : RdN w.heap.size w' v x.1) (hb : Below w.heap.size w w') : Gives y w (.returned (.agg #[v, .int .i64 x.2.1, .bool x.2.2])) w' := by subst he; exact ⟨v, rfl, hr, hb⟩

theorem Gives.lit {y : List Int × Int × Bool} {w : World} {o1 o2 : Obj} {cs : Array Value} {t n : Nat} {d : List Int} {nx : Int} (he : y = (d, nx, true)) (hn : n = d.length) (hc : cs.toList = d.flatMap enI) :
    Gives y w (.returned (.agg #[.slice (some ⟨w.heap.size + 1, 0, none⟩) n n, .int .i64 nx, .bool true])) (((w.alloc o1).alloc (.cells cs t)).alloc o2) := by
  subst he
  refine ⟨_, rfl, RdN.later (RdN.new (w := w.alloc o1) (by simp) (by simp) hn hc) o2, (((Below.refl _ w).alloc (Nat.le_refl _) _).alloc (by simp) _).alloc (by first | (simp; done) | (simp; omega)) _⟩

theorem refRow (n : Int) (a : Option Addr) (l c : Nat) (w : World) : Calls Try.prog 45 #[.int .i64 n, .slice a l c] w fun e w' => e = .returned (.agg #[.slice a l c, .int .i64 n, .bool true]) ∧ w' = w.alloc (.cells #[.slice a l c, .int .i64 n, .bool true] 30) := by
  go_enter Try.func45, Try.ntmps45
  go_wp2_with fail
  refine bodyPost_ret (v := .agg #[.slice a l c, .int .i64 n, .bool true]) (by simp [results, Try.results45, go_sem]) rfl ⟨rfl, rfl⟩
end Go.Proofs.Ytnafppdnapdbcaa
