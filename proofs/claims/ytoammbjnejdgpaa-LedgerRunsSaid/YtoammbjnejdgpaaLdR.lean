/- The walk of Copy. -/
import Derived.Test.YtoammbjnejdgpaaLdQ
namespace Go.Proofs.Ytoammbjnejdgpaa
open Go.RowKit
set_option maxHeartbeats 4000000 in
set_option maxRecDepth 10000 in
theorem copy_any (F R : Nat → Prop) (g : Nat) (acc : Int) (d : List Dt) (w : World) (h : LdF w F R g acc d) (hf : Fine acc d) : Calls Try.prog 23 #[.pointer (some ⟨g, 0, none⟩)] w fun e w' => Below w.heap.size w w' ∧ ∃ (g' : Nat) (F' : Nat → Prop), e = .returned (.pointer (some ⟨g', 0, none⟩)) ∧ (∀ k, F' k → w.heap.size ≤ k) ∧ LdF w' F' R g' acc d := by
  obtain ⟨l, A, n, c, hd, hB⟩ := h
  have HB := Lib.hid hB; have HD := Lib.hid hd
  have hn : n ≤ 1000 := by have h1 := hf.len; rw [← hd, List.length_map] at h1; have := hB.len; omega
  have g0 := (hB.blk.cell 0).trans rfl; have g1 := (hB.blk.cell 1).trans rfl
  clear hB hd hf
  have G0 : ∀ z : DFam (DB w), z.val.cell? ⟨g, 0, none⟩ = some (.int .i64 acc) := fun z => DB.some_ z g0
  have G1 : ∀ z : DFam (DB w), z.val.cell? ⟨g, 1, none⟩ = some (.slice A n c) := fun z => DB.some_ z g1
  go_enter Try.func23, Try.ntmps23
  go_wp2_with fail
  refine wp_region_pb 3 ([0, 1, 2, 3, 4, 5, 6, 7], [(8, ([], [(9, ([], [(10, [])]))]))]) [11] (by kernel_rfl) (by kernel_rfl) ?_
  simp only [wpT, List.map_cons, List.map_nil, List.getD_cons_succ, List.getD_cons_zero, List.forall_mem_cons, List.not_mem_nil, false_implies, implies_true, and_true]
  repeat (go_big_quiet_step (fail))
  refine wpQuiet_nil ?_
  clear G0 G1 g0 g1
  go_wp2_with fail
  refine (cloneE_any A n c l w.drew (Reads.of_own HB.out.own) hn).mono ?_
  rintro e u1 ⟨A2, c2, rfl, ho1, hb1⟩
  have HU1 : Hid (Below w.heap.size w u1) := Lib.hid (below_next (Below.refl _ _).drew (Nat.le_refl _) hb1)
  have HO1 := Lib.hid ho1
  clear ho1 hb1
  go_wp2_with fail
  refine QN_normal ⟨HU1.out, wpQuiet_nil ?_⟩
  go_wp2_with fail
  refine QN_normal ⟨HU1.out, wpQuiet_nil ?_⟩
  go_wp2_with fail
  refine QN_normal ⟨HU1.out.alloc HU1.out.size _, wpQuiet_nil ?_⟩
  go_wp2_with fail
  go_ret
  have hs := HU1.out.size
  have hbf : Below w.heap.size w (u1.alloc (.cells #[.int .i64 acc, .slice A2 n c2] 62)) := HU1.out.alloc hs _
  have hsz : (u1.alloc (.cells #[.int .i64 acc, .slice A2 n c2] 62)).heap.size = u1.heap.size + 1 := by simp
  have hR := HB.out.2.2.1
  refine ⟨hbf, u1.heap.size, fun k => w.heap.size ≤ k ∧ k < u1.heap.size + 1, rfl, fun k hk => hk.1, l, A2, n, c2, HD.out, ⟨hs, by omega⟩, fun k hk => by rw [hsz]; exact hk.2, fun k hk => ⟨by have := (hR k hk).1; omega, fun e => by have := (hR k hk).1; omega⟩, Blk.new _ _ _, own_mono (own_below HO1.out ((Below.refl _ _).alloc (Nat.le_refl _) _)) (Nat.zero_le _), fun k hk => ?_, fun e he => ⟨(HB.out.lines e he).1.below hbf, (HB.out.lines e he).2⟩⟩
  have h1 := HO1.out.lt k hk
  have h2 : w.heap.size ≤ k := h1.1
  exact ⟨⟨h2, by omega⟩, by omega⟩
end Go.Proofs.Ytoammbjnejdgpaa
