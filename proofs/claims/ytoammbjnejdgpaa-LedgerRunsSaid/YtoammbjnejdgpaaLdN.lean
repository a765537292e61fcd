/- The law's move; Copy of a ledger that is not there. -/
import Derived.Test.YtoammbjnejdgpaaLdM
namespace Go.Proofs.Ytoammbjnejdgpaa
open Go.RowKit
/-- A posting with two lines comes back; what was there is as it was. -/
def RetMv (w : World) (id tm : Int) (ls : List Ln) (e : Ending) (w' : World) : Prop := ∃ A c, e = .returned (.agg #[.int .i64 id, .int .i64 tm, .slice A 2 c]) ∧ RIn w' (fun j => w.heap.size ≤ j) 2 A 2 (cellsLn ls) ∧ Below w.heap.size w w'
theorem copy_nil (w : World) : Calls Try.prog 23 #[.pointer none] w fun e w' => e = .returned (.pointer none) ∧ w = w' := by
  go_enter Try.func23, Try.ntmps23
  go_wp2_with fail
  go_ret
  exact ⟨rfl, rfl⟩
theorem move_any (id tm a b x : Int) (w : World) (h0 : 0 ≤ x) (h1 : x ≤ 1000000000000) : Calls Try.prog 27 #[.int .i64 id, .int .i64 tm, .int .i64 a, .int .i64 b, .int .i64 x] w (RetMv w id tm [(a, -x), (b, x)]) := by
  go_enter Try.func27, Try.ntmps27
  go_wp2_with fail
  have e0 := Blk.new w 45 #[.int .i64 id, .int .i64 tm, .slice (some ⟨w.heap.size + 1, 0, none⟩) 2 2]
  have e1 := e0.alloc (.cells #[.int .i64 a, .int .i64 (-x), .int .i64 b, .int .i64 x] 54)
  have q0 := (e1.cell 0).trans rfl; have q1 := (e1.cell 1).trans rfl; have q2 := (e1.cell 2).trans rfl
  refine bodyPost_ret (v := .agg #[.int .i64 id, .int .i64 tm, .slice (some ⟨w.heap.size + 1, 0, none⟩) 2 2]) (by simp [results, Try.results27, go_sem, q0, q1, q2]) rfl ⟨_, _, rfl, ?_, ((Below.refl _ _).alloc (Nat.le_refl _) _).alloc (by simp) _⟩
  have r := RIn.fresh (w.alloc (.cells #[.int .i64 id, .int .i64 tm, .slice (some ⟨w.heap.size + 1, 0, none⟩) 2 2] 45)) 54 #[.int .i64 a, .int .i64 (-x), .int .i64 b, .int .i64 x] 2 2 rfl
  have r2 := r.mono (G' := fun j => w.heap.size ≤ j) fun j _ hj => by simp at hj; omega
  simpa [cellsLn, encLn] using r2
end Go.Proofs.Ytoammbjnejdgpaa
