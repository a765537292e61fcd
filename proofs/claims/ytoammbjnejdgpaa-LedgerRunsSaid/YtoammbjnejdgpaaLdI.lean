/- The walk of Reverse. -/
import Derived.Test.YtoammbjnejdgpaaLdH
namespace Go.Proofs.Ytoammbjnejdgpaa
open Go.RowKit
theorem getD_dt {l : List En} {d : List Dt} (h : l.map En.dt = d) {k : Nat} (hk : k < l.length) : d.getD k ⟨0, 0, [], false⟩ = (l[k]).dt := by
  subst h; rw [List.getD_eq_getElem?_getD, List.getElem?_map, List.getElem?_eq_getElem hk]; rfl
set_option maxHeartbeats 4000000 in
set_option maxRecDepth 10000 in
theorem reverse_no (F R : Nat → Prop) (g : Nat) (acc : Int) (d : List Dt) (id by_ tm x : Int) (w : World) (h : LdF w F R g acc d) (hf : Fine acc d) (hx : revE acc d id by_ tm = x) (hno : idx d id = none ∨ ∃ i, idx d id = some i ∧ (d.getD i ⟨0, 0, [], false⟩).used = true) : Calls Try.prog 22 #[.pointer (some ⟨g, 0, none⟩), .int .i64 id, .int .i64 by_, .int .i64 tm] w (PostL w F R g acc x d) := by
  have HLF := Lib.hid h
  obtain ⟨l, A, n, c, hd, hB⟩ := h
  have HBA := Lib.hid hB; have HD := Lib.hid hd
  have HDL : Hid (d.length = n) := Lib.hid (by rw [← hd, List.length_map]; exact hB.len)
  have hn512 : n ≤ 512 := by have := hf.len; have := HDL.out; omega
  have hg := HBA.out.blk.lt
  have HX := Lib.hid hx
  clear hB hd hf hx
  rcases hno with hn | ⟨i, hi, hu⟩
  · have HX2 : Hid (7 = x) := Lib.hid (by rw [← HX.out, revE_none hn])
    have HI : Hid (idxI (l.map En.dt) id = -1) := Lib.hid (by rw [HD.out, idxI_none hn])
    clear hn
    obtain ⟨B0, B1, hbx⟩ := box2 w 22 23 #[.pointer (some ⟨g, 0, none⟩)] #[.int .i64 0]
    have HB0 := Lib.hid B0; have HB1 := Lib.hid B1; have HBX := Lib.hid hbx
    have hmf := mf_
    clear B0 B1 hbx
    go_enter_defers Try.func22, Try.ntmps22
    go_wp2_with fail
    refine (find_any F R g acc l _ _ _ id (-1) _ (HBA.out.below HBX.out) (by omega) HI.out).mono ?_
    rintro e w2 ⟨rfl, hb2⟩
    have HP0 := Lib.hid ((ofB HB0.out hb2).alloc (.cells #[.int .i64 (-1)] 3))
    have HP1 := Lib.hid ((ofB HB1.out hb2).alloc (.cells #[.int .i64 (-1)] 3))
    have HP2 := Lib.hid (Blk.new w2 3 #[.int .i64 (-1)])
    have HB2 := Lib.hid (below_next (below_next HBX.out (Nat.le_refl _) hb2) (Nat.le_refl _) ((Below.refl w2.heap.size w2).alloc (Nat.le_refl _) (.cells #[.int .i64 (-1)] 3)))
    have HS2 : Hid (w.heap.size + 2 ≤ w2.heap.size) := Lib.hid (by have := hb2.size; simp at this; omega)
    clear hb2
    have a0 := (HP0.out.cell 0).trans rfl; have a1 := (HP1.out.cell 0).trans rfl; have a2 := (HP2.out.cell 0).trans rfl
    have a3 := HP1.out.frozen 0
    go_wp2_with fail
    refine rev_end rfl (((HP1.out.set_ 0 _).cell 0).trans rfl) ?_
    exact postL_no HX2.out rfl HLF.out (HB2.out.setCell (p := ⟨w.heap.size + 1, 0, none⟩) (by simp) _)
  · have HX2 : Hid (20 = x) := Lib.hid (by rw [← HX.out, revE_used hi hu])
    have HI : Hid (idxI (l.map En.dt) id = (i : Int)) := Lib.hid (by rw [HD.out, idxI_some hi])
    have hid := idx_lt hi
    have hil : i < l.length := by have := HBA.out.len; have := HDL.out; omega
    have hin : i < n := by have := HBA.out.len; omega
    have hiI : (i : Int) < (n : Int) := by omega
    have hi0 : (0 : Int) ≤ i := by omega
    obtain ⟨b, rfl, hbb, hFb, hne, hc⟩ := HBA.out.cells (by omega)
    have HU := Lib.hid (hc i hil).2.2.2
    rw [getD_dt HD.out hil] at hu
    have hu2 : l[i].used = true := hu
    rw [hu2] at HU
    clear hc hu hu2 hi hid
    obtain ⟨B0, B1, hbx⟩ := box2 w 22 23 #[.pointer (some ⟨g, 0, none⟩)] #[.int .i64 0]
    have HB0 := Lib.hid B0; have HB1 := Lib.hid B1; have HBX := Lib.hid hbx
    have hmf := mf_
    clear B0 B1 hbx
    go_enter_defers Try.func22, Try.ntmps22
    go_wp2_with fail
    refine (find_any F R g acc l _ _ _ id (i : Int) _ (HBA.out.below HBX.out) (by omega) HI.out).mono ?_
    rintro e w2 ⟨rfl, hb2⟩
    have HP0 := Lib.hid ((ofB HB0.out hb2).alloc (.cells #[.int .i64 (i : Int)] 3))
    have HP1 := Lib.hid ((ofB HB1.out hb2).alloc (.cells #[.int .i64 (i : Int)] 3))
    have HP2 := Lib.hid (Blk.new w2 3 #[.int .i64 (i : Int)])
    have HB2 := Lib.hid (below_next (below_next HBX.out (Nat.le_refl _) hb2) (Nat.le_refl _) ((Below.refl w2.heap.size w2).alloc (Nat.le_refl _) (.cells #[.int .i64 (i : Int)] 3)))
    have HS2 : Hid (w.heap.size + 2 ≤ w2.heap.size) := Lib.hid (by have := hb2.size; simp at this; omega)
    clear hb2
    have a0 := (HP0.out.cell 0).trans rfl; have a1 := (HP1.out.cell 0).trans rfl; have a2 := (HP2.out.cell 0).trans rfl
    have a3 := HP1.out.frozen 0
    go_wp2_with fail
    obtain ⟨w3, hw3⟩ : ∃ u, w2.alloc (.cells #[.int .i64 (i : Int)] 3) = u := ⟨_, rfl⟩
    rw [hw3] at HP0 HP1 HP2 HB2 a0 a1 a2 a3
    have h3s : w3.heap.size = w2.heap.size + 1 := by rw [← hw3]; simp
    have H3S := Lib.hid h3s
    clear h3s
    rw [hw3]
    have g1 := ((ofB HBA.out.blk HB2.out).cell 1).trans rfl
    have F0 : ∀ z' : Fam w3, z'.val.cell? ⟨w.heap.size, 0, none⟩ = some (.pointer (some ⟨g, 0, none⟩)) := fun z' => z'.some_ a0
    have F1 : ∀ z' : Fam w3, z'.val.cell? ⟨g, 1, none⟩ = some (.slice (some ⟨b, 0, none⟩) n c) := fun z' => z'.some_ g1
    have F2 : ∀ z' : Fam w3, z'.val.cell? ⟨b, i * 4 + 3, none⟩ = some (.bool (true)) := fun z' => z'.some_ ((HB2.out.cell (p := ⟨b, i * 4 + 3, none⟩) hbb).trans HU.out)
    have F3 : ∀ z' : Fam w3, z'.val.cell? ⟨w2.heap.size, 0, none⟩ = some (.int .i64 (i : Int)) := fun z' => z'.some_ a2
    clear a0 a1 a2 a3 g1 hw3
    go_wp2_with fail
    refine wp_region_fam (by kernel_rfl) (by kernel_rfl) ?_
    repeat (go_big_quiet_step (fail))
    refine wpQuiet_nil ?_
    rintro _ ⟨z1, rfl⟩
    obtain ⟨v, hv⟩ : ∃ v, z1.val = v := ⟨_, rfl⟩
    have hbv := z1.prop
    rw [hv] at hbv ⊢
    have HV := Lib.hid hbv
    have HVB := Lib.hid (below_next HB2.out (by have := HB2.out.size; omega) hbv)
    have HQ0 := Lib.hid (ofB HP0.out hbv); have HQ1 := Lib.hid (ofB HP1.out hbv); have HQ2 := Lib.hid (ofB HP2.out hbv)
    clear F0 F1 F2 F3 hbv hv
    have a1 := (HQ1.out.cell 0).trans rfl; have a3 := HQ1.out.frozen 0
    go_wp2_with fail
    refine rev_end rfl (((HQ1.out.set_ 0 _).cell 0).trans rfl) ?_
    exact postL_no HX2.out rfl HLF.out (HVB.out.setCell (p := ⟨w.heap.size + 1, 0, none⟩) (by simp) _)
end Go.Proofs.Ytoammbjnejdgpaa
