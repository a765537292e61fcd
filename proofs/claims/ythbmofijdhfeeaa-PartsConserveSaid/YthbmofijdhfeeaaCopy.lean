/- Copies of a store: the walks of slices.Clone, maps.Clone, Copy. -/
import Derived.Test.YthbmofijdhfeeaaLawsB
import Derived.Test.YthbmofijdhfeeaaMix
import Derived.Shelf.SlMaps.Clone
namespace Go.Proofs.Ythbmofijdhfeeaa
open Go.RowKit Go.Maps Go.WideMaps Go.Shelf
set_option maxHeartbeats 2000000 in
theorem cloneMap_any (b : Nat) (es : Array MapEntry) (clock : Nat) (w : World) (hb : w.heap[b]? = some (.map es clock)) :
    Calls Try.prog 37 #[.map (some b)] w fun e w' => e = .returned (.map (some w.heap.size)) ∧ w' = w.alloc (.map es clock) := by
  have hq := fun w => run_eql_map_nil_sl (P := Try.prog) w 69 _ _ (some b) Try.underlying69
  go_enter Try.func37, Try.ntmps37
  go_wp2_with fail
  rw [run_callFunc_extern Try.func39 (by kernel_rfl) (by kernel_rfl) (by kernel_rfl) (e := Extern.MapsClone.clone) (by kernel_rfl), run_maps_clone_sl w 69 hb]
  simp only [Result.andThen]
  rw [Oper.upon_value]
  go_wp2_with fail
  rw [run_typeAssert_map_sl _ 69 20 _ _ _ Try.underlying69]
  simp only [Result.andThen]
  rw [Oper.upon_value]
  go_wp2_with fail
  go_ret
  exact ⟨rfl, rfl⟩
theorem cloneI_any (m n : Nat) (f : Lit → Option Int) (w : World) (h : MapI Try.prog 3 3 w m n f) :
    Calls Try.prog 37 #[.map (some m)] w fun e w' => e = .returned (.map (some w.heap.size)) ∧ MapI Try.prog 3 3 w' w.heap.size n f ∧ Below w.heap.size w w' := by
  obtain ⟨D, ⟨es, clock, hb, F, hs, hD⟩, h2⟩ := h
  refine (cloneMap_any m es clock w hb).mono fun e w' ⟨he, hw⟩ => ?_
  subst hw
  exact ⟨he, ⟨D, ⟨es, clock, (MapKept.heap_alloc w _).1, F, hs, hD⟩, h2⟩, (Below.refl _ w).alloc (Nat.le_refl _) _⟩
theorem own_zero (w : World) (base g : Nat) (hg : w.heap.size = g) (hb : base ≤ g) : (w.alloc (.cells #[] 78)).ownsRow base 78 5 (.slice (some ⟨g, 0, none⟩) 0 0) 0 (cellsX []) := by
  subst hg
  exact ⟨rfl, .inr ⟨w.heap.size, 0, #[], rfl, hb, by show (w.heap.push _)[w.heap.size]? = _; simp, Nat.le_refl _, by decide, rfl, rfl⟩⟩
theorem eqIn_nil (d : Nat) (A : Option Addr) (n c : Nat) (w : World) : (Op.equalIn (d + 1) 70 (.slice A n c) (.slice none 0 0)).run Try.prog w = .ok A.isNone w := by
  cases A <;> simp [Op.equalIn, run_underlying Try.underlying70]
theorem eql_nil (A : Option Addr) (n c : Nat) (w : World) : (binOp .eql 70 (.slice A n c) (.slice none 0 0)).run Try.prog w = .ok (.bool A.isNone) w := by
  simp only [binOp]
  simp [show Op.equal 70 (.slice A n c) (.slice none 0 0) = Op.equalIn (9999 + 1) 70 (.slice A n c) (.slice none 0 0) from rfl, eqIn_nil 9999 A n c w]
set_option maxHeartbeats 2000000 in
theorem cloneSlice_any (A : Option Addr) (n c : Nat) (l : List Lt) (w : World) (h : w.ownsRow 0 78 5 (.slice A n c) n (cellsX l)) (hn : l.length ≤ 512) :
    Calls Try.prog 36 #[.slice A n c] w fun e w' => ∃ A2 c2, e = .returned (.slice A2 n c2) ∧ w'.ownsRow w.heap.size 78 5 (.slice A2 n c2) n (cellsX l) ∧ Below w.heap.size w w' := by
  have hr := Reads.of_own h
  have hl := recs_len hr encX_len (by omega)
  obtain ⟨i0, hi0, hz0, hz1, hz2⟩ := info_parts Try.info78
  rcases A with _ | ad
  · have h0 : n = 0 := by
      rcases Nat.eq_zero_or_pos n with h0 | h0
      · exact h0
      · obtain ⟨ad, e, _⟩ := hr.2 h0; cases e
    subst h0
    obtain rfl : l = [] := List.eq_nil_of_length_eq_zero hl
    clear h hr hl
    have hq := fun w => eql_nil none 0 c w
    go_enter Try.func36, Try.ntmps36
    go_wp2_with fail
    go_ret
    exact ⟨none, 0, rfl, World.ownsRow_nil _ _ _ _, Below.refl _ _⟩
  · have HR := Lib.hid hr
    have hn5 : n ≤ 512 := by omega
    clear h hr hl
    have hq := fun w => eql_nil (some ad) n c w
    go_enter Try.func36, Try.ntmps36
    go_wp2_with (at_builtin; go_loud (refine wpList_append_any _ rfl (.tmp 5) (.tmp 6) _ rfl w.heap.size 78 i0 _ 5 40 Try.underlying70 hi0 hz0 hz1 hz2 rfl (by omega) (.slice (some ⟨w.heap.size, 0, none⟩) 0 0) 0 (cellsX []) rfl (own_zero w _ _ rfl (Nat.le_refl _)) w.heap.size (some ad) n c (cellsX l) rfl (HR.out.alloc (Nat.le_refl _) _) (one_cellsX _) (by simp only [maxLen]; omega) (by omega) (by simp) ?_; intro v3 w3 hown3 hg3 hat3))
    obtain ⟨A3, c3, rfl, hr3⟩ := own_reads hown3
    have HO : Hid (w3.ownsRow w.heap.size 78 5 (.slice A3 (0 + n) c3) (0 + n) (cellsX l)) := Lib.hid hown3
    have HB : Hid (Below w.heap.size w w3) := Lib.hid (below_own ((Below.refl w.heap.size w).alloc (Nat.le_refl _) _) (own_zero w _ _ rfl (Nat.le_refl _)) hg3 (by simp) (Nat.le_refl _))
    rw [Nat.zero_add] at HO ⊢
    clear hown3 hg3 hat3 hr3
    go_wp2_with fail
    go_ret
    exact ⟨A3, c3, rfl, HO.out, HB.out⟩
set_option maxHeartbeats 2000000 in
set_option maxRecDepth 10000 in
theorem copy_any (F : Nat → Prop) (g : Nat) (l : List Lt) (w : World) (h : StoreF w F g l) (hn : l.length ≤ 512) :
    Calls Try.prog 27 #[.pointer (some ⟨g, 0, none⟩)] w (RetStore w l) := by
  obtain ⟨h1, h0, A, n, c, m, h2, h3, h4, h5, h6⟩ := h
  have HB := Lib.hid h2; have HO := Lib.hid h4; have HM := Lib.hid h5
  have G0 : ∀ z : DFam (DB w), z.val.cell? ⟨g, 0, none⟩ = some (.slice A n c) := fun z => DB.some_ z ((h2.cell 0).trans rfl)
  have G1 : ∀ z : DFam (DB w), z.val.cell? ⟨g, 1, none⟩ = some (.map (some m)) := fun z => DB.some_ z ((h2.cell 1).trans rfl)
  clear h1 h0 h2 h3 h4 h5 h6
  go_enter Try.func27, Try.ntmps27
  go_wp2_with fail
  refine wp_region_pb 4 ([0, 1, 2, 3, 5, 6, 7, 8], [(4, ([], [(9, ([], [(10, ([], [(11, [])]))]))]))]) [12] (by kernel_rfl) (by kernel_rfl) ?_
  simp only [wpT, List.map_cons, List.map_nil, List.getD_cons_succ, List.getD_cons_zero, List.forall_mem_cons, List.not_mem_nil, false_implies, implies_true, and_true]
  repeat (go_big_quiet_step (fail))
  refine wpQuiet_nil ?_
  clear G0 G1
  go_wp2_with fail
  refine (cloneSlice_any A n c l w.drew HO.out hn).mono ?_
  rintro e u1 ⟨A2, c2, rfl, ho1, hb1⟩
  have HU1 : Hid (Below w.heap.size w u1) := Lib.hid (below_next (Below.refl _ _).drew (Nat.le_refl _) hb1)
  have HO1 : Hid (u1.ownsRow w.heap.size 78 5 (.slice A2 n c2) n (cellsX l)) := Lib.hid ho1
  clear ho1 hb1
  go_wp2_with fail
  refine QN_normal ⟨HU1.out, wpQuiet_nil ?_⟩
  go_wp2_with fail
  refine (cloneI_any m n (placeR l) u1 (HM.out.below HU1.out HM.out.lt)).mono ?_
  rintro e u2 ⟨rfl, hm2, hb2⟩
  have HU2 : Hid (Below w.heap.size w u2) := Lib.hid (below_next HU1.out (Nat.le_refl _) hb2)
  have HO2 : Hid (u2.ownsRow w.heap.size 78 5 (.slice A2 n c2) n (cellsX l)) := Lib.hid (own_below HO1.out hb2)
  have HM2 := Lib.hid hm2
  have HS1 : Hid (w.heap.size ≤ u1.heap.size) := Lib.hid HU1.out.size
  clear hm2 hb2
  obtain ⟨m2, hm2⟩ : ∃ x, u1.heap.size = x := ⟨_, rfl⟩
  rw [hm2] at HM2 HS1 ⊢
  clear hm2
  go_wp2_with fail
  refine QN_normal ⟨HU2.out, wpQuiet_nil ?_⟩
  go_wp2_with fail
  refine QN_normal ⟨HU2.out, wpQuiet_nil ?_⟩
  go_wp2_with fail
  refine QN_normal ⟨HU2.out.alloc HU2.out.size _, wpQuiet_nil ?_⟩
  go_wp2_with fail
  go_ret
  refine ⟨fun k => w.heap.size ≤ k ∧ k < (u2.alloc (.cells #[.slice A2 n c2, .map (some m2)] 72)).heap.size, u2.heap.size, rfl, ⟨⟨HU2.out.size, by simp⟩, fun k hk => hk.2, A2, n, c2, m2, Blk.new _ _ _, ⟨HS1.out, by have := HM2.out.lt; simp; omega⟩, own_mono (HO2.out.alloc _) (Nat.zero_le _), HM2.out.alloc _, fun k hk => ⟨(HO2.out.lt k hk).1, by have := (HO2.out.lt k hk).2; simp; omega⟩⟩, fun k hk => hk.1, HU2.out.alloc HU2.out.size _⟩
end Go.Proofs.Ythbmofijdhfeeaa
