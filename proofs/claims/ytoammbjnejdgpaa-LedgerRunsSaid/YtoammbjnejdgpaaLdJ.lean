/- The walk of Reverse: the posting. -/
import Derived.Test.YtoammbjnejdgpaaLdI
namespace Go.Proofs.Ytoammbjnejdgpaa
open Go.RowKit
theorem markD_len (d : List Dt) (i : Nat) (b : Bool) : (markD d i b).length = d.length := by simp [markD]
theorem markD_at {d : List Dt} {i k : Nat} {b : Bool} (h : k < (markD d i b).length) : (markD d i b)[k].id = (d[k]'(by rwa [markD_len] at h)).id ∧ (markD d i b)[k].tm = (d[k]'(by rwa [markD_len] at h)).tm ∧ (markD d i b)[k].ls = (d[k]'(by rwa [markD_len] at h)).ls := by
  simp only [markD, List.getElem_modify]
  split <;> exact ⟨rfl, rfl, rfl⟩
theorem markD_idx (r : Int) (b : Bool) : ∀ (d : List Dt) (i : Nat), idx (markD d i b) r = idx d r
  | [], i => by simp [markD]
  | x :: d, 0 => by simp [markD, idx, List.findIdx?_cons]
  | x :: d, i + 1 => by
    have := markD_idx r b d i
    unfold markD idx at this ⊢
    rw [List.modify_succ_cons, List.findIdx?_cons, List.findIdx?_cons, this]
theorem markD_last (d : List Dt) (i : Nat) (b : Bool) : lastTm (markD d i b) = lastTm d := by
  by_cases h : d.length - 1 < d.length
  · have h2 : (markD d i b).length - 1 < (markD d i b).length := by rw [markD_len]; exact h
    rw [lastTm_at h2, lastTm_at h, (markD_at h2).2.1]
    simp only [markD_len]
  · have : d = [] := List.eq_nil_of_length_eq_zero (by omega)
    subst this
    simp [markD]
theorem markD_postE (acc : Int) (d : List Dt) (i : Nat) (b : Bool) (id tm : Int) (ls : List Ln) : postE acc (markD d i b) id tm ls = postE acc d id tm ls := by
  have h : (markD d i b ≠ []) ↔ d ≠ [] := by
    rw [← List.length_pos_iff, ← List.length_pos_iff, markD_len]
  unfold postE
  rw [markD_len, markD_idx, markD_last]
  simp only [h]
theorem Fine.mark {acc : Int} {d : List Dt} (h : Fine acc d) (i : Nat) (b : Bool) : Fine acc (markD d i b) := by
  refine ⟨by rw [markD_len]; exact h.len, fun j k hk hj => ?_, fun j k hk hj => ?_, fun x hx => ?_, fun x hx => ?_⟩
  · rw [(markD_at hk).2.1, (markD_at (Nat.lt_trans hj hk)).2.1]; exact h.ord j k (by rwa [markD_len] at hk) hj
  · rw [(markD_at hk).1, (markD_at (Nat.lt_trans hj hk)).1]; exact h.dis j k (by rwa [markD_len] at hk) hj
  · obtain ⟨j, hj, rfl⟩ := List.getElem_of_mem hx
    rw [(markD_at hj).1, (markD_at hj).2.1]; exact h.rng _ (List.getElem_mem _)
  · obtain ⟨j, hj, rfl⟩ := List.getElem_of_mem hx
    rw [(markD_at hj).2.2]; exact h.lns _ (List.getElem_mem _)
theorem markD_back : ∀ (d : List Dt) (i : Nat), (d.getD i ⟨0, 0, [], false⟩).used = false → markD (markD d i true) i false = d
  | [], i, _ => by simp [markD]
  | x :: d, 0, h => by
    have : x.used = false := h
    simp only [markD, List.modify_zero_cons]
    rw [← this]
  | x :: d, i + 1, h => by
    have := markD_back d i (by simpa using h)
    unfold markD at this ⊢
    rw [List.modify_succ_cons, List.modify_succ_cons, this]
theorem markD_snoc (x : Dt) (b : Bool) : ∀ (d : List Dt), markD (d ++ [x]) d.length b = d ++ [{ x with used := b }]
  | [] => by simp [markD]
  | y :: d => by
    have := markD_snoc x b d
    unfold markD at this ⊢
    rw [List.cons_append, List.length_cons, List.modify_succ_cons, this]; rfl
theorem negL_take (l : List Ln) (k : Nat) (h : k < l.length) : negL (l.take (k + 1)) = negL (l.take k) ++ [(l[k].1, -l[k].2)] := by
  unfold negL; rw [List.take_succ_eq_append_getElem h, List.map_append]; rfl
theorem snocLn (l : List Ln) (x : Ln) : cellsLn (l ++ [x]) = cellsLn l ++ encLn x := by simp [cellsLn]
theorem frLn2 (u : World) (o : Obj) (a b : Int) : Reads ((u.alloc o).alloc (.cells #[.int .i64 a, .int .i64 b] 54)) (u.heap.size + 1 + 1) 2 (some ⟨u.heap.size + 1, 0, none⟩) 1 (encLn (a, b)) := by simpa [encLn] using Reads.fresh2 u o 54 #[.int .i64 a, .int .i64 b] 2 rfl
theorem oneLn (x : Ln) : ∀ u ∈ encLn x, u.oneCell' = true := by
  intro u hu
  simp only [encLn, List.mem_cons, List.not_mem_nil, or_false] at hu
  rcases hu with rfl | rfl <;> rfl
theorem Only.step {F : Nat → Prop} {a b c : World} (h : Only F a b) (hb : Below b.heap.size b c) : Only F a c := h.trans (Only.of_new hb F) fun _ _ e => e
theorem Only.drew {F : Nat → Prop} {a b : World} (h : Only F a b) : Only F a b.drew := ⟨h.os, h.tape, h.output, h.size, h.block⟩
theorem LdB.row_cell {w : World} {F R : Nat → Prop} {g n c b : Nat} {acc : Int} {l : List En} (h : LdB w F R g acc l (some ⟨b, 0, none⟩) n c) (k : Nat) : w.frozen? ⟨b, k, none⟩ = false := by
  obtain ⟨_, _, cur, hB, _⟩ := own_blk h.own
  exact hB.frozen _
set_option maxHeartbeats 8000000 in
set_option maxRecDepth 10000 in
theorem reverse_yes (F R : Nat → Prop) (g : Nat) (acc : Int) (d d' : List Dt) (id by_ tm x : Int) (i : Nat) (w : World) (h : LdF w F R g acc d) (hf : Fine acc d) (hx : revE acc d id by_ tm = x) (hd' : revD acc d id by_ tm = d') (hi : idx d id = some i) (hu : (d.getD i ⟨0, 0, [], false⟩).used = false) : Calls Try.prog 22 #[.pointer (some ⟨g, 0, none⟩), .int .i64 id, .int .i64 by_, .int .i64 tm] w (PostL w F R g acc x d') := by
  have HLF := Lib.hid h; have HF := Lib.hid hf
  obtain ⟨l, A, n, c, hd, hB⟩ := h
  have HBA := Lib.hid hB; have HD := Lib.hid hd
  have HDL : Hid (d.length = n) := Lib.hid (by rw [← hd, List.length_map]; exact hB.len)
  have hn512 : n ≤ 512 := by have := hf.len; have := HDL.out; omega
  have hg := HBA.out.blk.lt
  have HBACK := Lib.hid (markD_back d i hu)
  have HX := Lib.hid (hx.symm.trans (revE_post hi hu)); have HD' := Lib.hid hd'
  have HRE := Lib.hid hx; have HIX := Lib.hid hi
  have HI : Hid (idxI (l.map En.dt) id = (i : Int)) := Lib.hid (by rw [HD.out, idxI_some hi])
  have hid := idx_lt hi
  have hil : i < l.length := by have := HBA.out.len; have := HDL.out; omega
  have hin : i < n := by have := HBA.out.len; omega
  have hiI : (i : Int) < (n : Int) := by omega
  have hi0 : (0 : Int) ≤ i := by omega
  obtain ⟨b, rfl, hbb, hFb, hne, hc⟩ := HBA.out.cells (by omega)
  obtain ⟨hu0, hu1⟩ := (hc i hil).2.2
  have HU := Lib.hid hu1; have HLS := Lib.hid hu0
  have HGD := Lib.hid (getD_dt HD.out hil)
  rw [HGD.out] at hu
  have hu2 : l[i].used = false := hu
  rw [hu2] at HU
  clear hB hd hf hx hd' hc hu hu0 hu1 hu2 hi hid
  obtain ⟨B0, B1, hbx⟩ := box2 w 22 23 #[.pointer (some ⟨g, 0, none⟩)] #[.int .i64 0]
  have HB0 := Lib.hid B0; have HB1 := Lib.hid B1; have HBX := Lib.hid hbx
  have hmf := mf_
  clear B0 B1 hbx
  go_enter_defers Try.func22, Try.ntmps22
  go_wp2_with fail
  refine (find_any F R g acc l _ _ _ id (i : Int) _ (HBA.out.below HBX.out) (by omega) HI.out).mono ?_
  rintro e w2 ⟨rfl, hb2⟩
  have HP0 := Lib.hid ((ofB HB0.out hb2).alloc (.cells #[.int .i64 (i : Int)] 3))
  have HP1 := Lib.hid ((ofB HB1.out hb2).alloc (.cells #[.int .i64 (i : Int)] 3))
  have HP2 := Lib.hid (Blk.new w2 3 #[.int .i64 (i : Int)])
  have HB2 := Lib.hid (below_next (below_next HBX.out (Nat.le_refl _) hb2) (Nat.le_refl _) ((Below.refl w2.heap.size w2).alloc (Nat.le_refl _) (.cells #[.int .i64 (i : Int)] 3)))
  have HS2 : Hid (w.heap.size + 2 ≤ w2.heap.size) := Lib.hid (by have := hb2.size; simp at this; omega)
  clear hb2
  have a0 := (HP0.out.cell 0).trans rfl; have a1 := (HP1.out.cell 0).trans rfl; have a2 := (HP2.out.cell 0).trans rfl
  have a3 := HP1.out.frozen 0
  go_wp2_with fail
  obtain ⟨w3, hw3⟩ : ∃ u, w2.alloc (.cells #[.int .i64 (i : Int)] 3) = u := ⟨_, rfl⟩
  rw [hw3] at HP0 HP1 HP2 HB2 a0 a1 a2 a3
  have h3s : w3.heap.size = w2.heap.size + 1 := by rw [← hw3]; simp
  have H3S := Lib.hid h3s
  clear h3s
  rw [hw3]
  have g1 := ((ofB HBA.out.blk HB2.out).cell 1).trans rfl
  have F0 : ∀ z' : Fam w3, z'.val.cell? ⟨w.heap.size, 0, none⟩ = some (.pointer (some ⟨g, 0, none⟩)) := fun z' => z'.some_ a0
  have F1 : ∀ z' : Fam w3, z'.val.cell? ⟨g, 1, none⟩ = some (.slice (some ⟨b, 0, none⟩) n c) := fun z' => z'.some_ g1
  have F2 : ∀ z' : Fam w3, z'.val.cell? ⟨b, i * 4 + 3, none⟩ = some (.bool (false)) := fun z' => z'.some_ ((HB2.out.cell (p := ⟨b, i * 4 + 3, none⟩) hbb).trans HU.out)
  have F3 : ∀ z' : Fam w3, z'.val.cell? ⟨w2.heap.size, 0, none⟩ = some (.int .i64 (i : Int)) := fun z' => z'.some_ a2
  clear a0 a1 a2 a3 g1 hw3
  go_wp2_with fail
  refine wp_region_fam (by kernel_rfl) (by kernel_rfl) ?_
  repeat (go_big_quiet_step (fail))
  refine wpQuiet_nil ?_
  rintro _ ⟨z1, rfl⟩
  obtain ⟨v, hv⟩ : ∃ v, z1.val = v := ⟨_, rfl⟩
  have hbv := z1.prop
  rw [hv] at hbv ⊢
  have HV := Lib.hid hbv
  have HVB := Lib.hid (below_next HB2.out (by have := HB2.out.size; omega) hbv)
  have HQ0 := Lib.hid (ofB HP0.out hbv); have HQ1 := Lib.hid (ofB HP1.out hbv); have HQ2 := Lib.hid (ofB HP2.out hbv)
  clear F0 F1 F2 F3 hbv hv
  -- the mark
  have HV0 := Lib.hid (HBA.out.below HVB.out)
  have a0 := (HQ0.out.cell 0).trans rfl; have a2 := (HQ2.out.cell 0).trans rfl
  have g1 := (HV0.out.blk.cell 1).trans rfl
  have f3 := (HVB.out.cell (p := ⟨b, i * 4 + 3, none⟩) hbb).trans HU.out
  have f4 := HV0.out.row_cell (i * 4 + 3)
  go_upto_region 8 with fail
  refine wp_region_still_tail 7 (by kernel_rfl) (by kernel_rfl) ?_
  simp only [List.take_succ_cons, List.take_zero, List.drop_succ_cons, List.drop_zero]
  change wpStill _ _ (World.drew v) _ _ _
  repeat still_step
  refine wpStill_nil ?_
  change wpList _ _ _ _ _ (World.drew v)
  obtain ⟨w8, hw8⟩ : ∃ u, (v.setCell ⟨b, i * 4 + 3, none⟩ (.bool true)).drew = u := ⟨_, rfl⟩
  have HL8 : Hid (LdB w8 F R g acc (setE l i true) (some ⟨b, 0, none⟩) n c) := Lib.hid (by
    rw [← hw8]
    exact (HV0.out.mark i hil true).1.keep (F0 := fun _ => False) (Only.refl _ _).drew fun _ _ e => e)
  have HO8 : Hid (Only F w w8) := Lib.hid (by rw [← hw8]; exact ((Only.of_new HVB.out F).setCell (p := ⟨b, i * 4 + 3, none⟩) (fun _ => hFb) _).drew)
  have hne2 : w2.heap.size ≠ b := by have := HS2.out; omega
  have HR0 : Hid (Blk w8 w.heap.size 22 #[.pointer (some ⟨g, 0, none⟩)]) := Lib.hid (by rw [← hw8]; exact HQ0.out.far (p := ⟨b, i * 4 + 3, none⟩) (by simp; omega) _)
  have HR1 : Hid (Blk w8 (w.heap.size + 1) 23 #[.int .i64 0]) := Lib.hid (by rw [← hw8]; exact HQ1.out.far (p := ⟨b, i * 4 + 3, none⟩) (by simp; omega) _)
  have HR2 : Hid (Blk w8 w2.heap.size 3 #[.int .i64 (i : Int)]) := Lib.hid (by rw [← hw8]; exact HQ2.out.far (p := ⟨b, i * 4 + 3, none⟩) (by simpa using hne2) _)
  have HW8 := Lib.hid hw8
  clear hw8 hne2
  go_upto_region 9 with fail
  rw [HW8.out]
  clear a0 a2 g1 f3 f4 HW8 HQ0 HQ1 HQ2 HV0
  go_upto_region 11 with fail
  -- the posting's box; the lines
  have hP := Blk.new w8 45 #[.int .i64 by_, .int .i64 tm, .slice none 0 0]
  have hS8 := HO8.out.size
  obtain ⟨w10, hw10⟩ : ∃ u, w8.alloc (.cells #[.int .i64 by_, .int .i64 tm, .slice none 0 0] 45) = u := ⟨_, rfl⟩
  rw [hw10] at hP ⊢
  have HP := Lib.hid hP
  have HS0 : Hid (Blk w10 w.heap.size 22 #[.pointer (some ⟨g, 0, none⟩)]) := Lib.hid (by rw [← hw10]; exact HR0.out.alloc _)
  have HS1 : Hid (Blk w10 (w.heap.size + 1) 23 #[.int .i64 0]) := Lib.hid (by rw [← hw10]; exact HR1.out.alloc _)
  have HSI : Hid (Blk w10 w2.heap.size 3 #[.int .i64 (i : Int)]) := Lib.hid (by rw [← hw10]; exact HR2.out.alloc _)
  have HL10 : Hid (LdB w10 F R g acc (setE l i true) (some ⟨b, 0, none⟩) n c) := Lib.hid (by rw [← hw10]; exact HL8.out.below ((Below.refl _ _).alloc (Nat.le_refl _) _))
  have HO10 : Hid (Only F w w10) := Lib.hid (by rw [← hw10]; exact HO8.out.alloc _)
  have HN8 : Hid (w2.heap.size < w8.heap.size) := Lib.hid HR2.out.lt
  have hls : w10.cell? ⟨b, i * 4 + 2, none⟩ = some (.slice l[i].A l[i].n l[i].c) := by
    obtain ⟨b', hb', _, _, _, hc'⟩ := HL10.out.cells (by omega)
    injection hb' with hb'
    injection hb' with hb'
    subst hb'
    have := (hc' i (by simpa [setE] using hil)).2.2.1
    simpa [setE] using this
  have a0 := (HS0.out.cell 0).trans rfl; have a2 := (HSI.out.cell 0).trans rfl
  have g1 := (HL10.out.blk.cell 1).trans rfl
  obtain ⟨LA, hLA⟩ : ∃ y, l[i].A = y := ⟨_, rfl⟩
  obtain ⟨ln, hln⟩ : ∃ y, l[i].n = y := ⟨_, rfl⟩
  obtain ⟨lc, hlc⟩ : ∃ y, l[i].c = y := ⟨_, rfl⟩
  obtain ⟨ls, hlls⟩ : ∃ y, l[i].ls = y := ⟨_, rfl⟩
  have hRL := HBA.out.lines l[i] (List.getElem_mem _)
  rw [hLA, hln, hlls] at hRL
  have hdt : l[i].dt.ls = ls := hlls
  have HGL : Hid ((d.getD i ⟨0, 0, [], false⟩).ls = ls) := Lib.hid (by rw [HGD.out, hdt])
  rw [hLA, hln, hlc] at hls
  have hln16 : ln ≤ 16 := hRL.2
  have HLR := Lib.hid ((hRL.1.keep HO10.out fun k _ hk => (HBA.out.2.2.1 k hk).2))
  have F0 : ∀ z' : Fam w10, z'.val.cell? ⟨w.heap.size, 0, none⟩ = some (.pointer (some ⟨g, 0, none⟩)) := fun z' => z'.some_ a0
  have F1 : ∀ z' : Fam w10, z'.val.cell? ⟨g, 1, none⟩ = some (.slice (some ⟨b, 0, none⟩) n c) := fun z' => z'.some_ g1
  have F2 : ∀ z' : Fam w10, z'.val.cell? ⟨b, i * 4 + 2, none⟩ = some (.slice LA ln lc) := fun z' => z'.some_ hls
  have F3 : ∀ z' : Fam w10, z'.val.cell? ⟨w2.heap.size, 0, none⟩ = some (.int .i64 (i : Int)) := fun z' => z'.some_ a2
  clear a0 a2 g1 hls hRL hLA hln hlc hlls hdt hw10 hP HR0 HR1 HR2 HL8
  refine wp_region_fam (by kernel_rfl) (by kernel_rfl) ?_
  repeat (go_big_quiet_step (fail))
  refine wpQuiet_nil ?_
  rintro _ ⟨z1, rfl⟩
  obtain ⟨v1, hv⟩ : ∃ v, z1.val = v := ⟨_, rfl⟩
  have hbv := z1.prop
  rw [hv] at hbv ⊢
  have HQ0 := Lib.hid (ofB HS0.out hbv); have HQ1 := Lib.hid (ofB HS1.out hbv); have HQI := Lib.hid (ofB HSI.out hbv); have HQP := Lib.hid (ofB HP.out hbv)
  have HLV := Lib.hid (HL10.out.below hbv)
  have HOV := Lib.hid (HO10.out.step hbv)
  have HLRV := Lib.hid (HLR.out.keep (Only.of_new hbv fun _ => False) fun _ _ _ e => e)
  have HZ : Hid (w8.heap.size < v1.heap.size) := Lib.hid HQP.out.lt
  clear F0 F1 F2 F3 hbv hv HS0 HS1 HSI HP HL10 HO10 HLR HV HVB HO8 HB2 HP0 HP1 HP2 HB0 HB1 HBX
  obtain ⟨i0, hi0', hz0, hz1, hz2⟩ := info_parts infoLn
  have HLEN : Hid (ls.length = ln) := Lib.hid (recs_len HLRV.out.reads encLn_len (by omega))
  go_wp2_with fail
  go_loopw [52] (fun s wr => ∃ (k : Nat) (A2 : Option Addr) (c2 : Nat), k ≤ ln ∧ s = .int .i64 k ∧ Hid (Blk wr w8.heap.size 45 #[.int .i64 by_, .int .i64 tm, .slice A2 k c2]) ∧ Hid (wr.ownsRow v1.heap.size 54 2 (.slice A2 k c2) k (cellsLn (negL (ls.take k)))) ∧ Hid (Only (fun j => j = w8.heap.size) v1 wr)) (fun s _ => ln - (intOf s).toNat)
  case atStart => exact ⟨0, none, 0, Nat.zero_le _, rfl, HQP, Lib.hid (World.ownsRow_nil _ _ _ _), Lib.hid (Only.refl _ _)⟩
  case round =>
    obtain ⟨k, A2, c2, hk, rfl, HPB, HOW, HON⟩ := hrel
    have HLRr := Lib.hid (HLRV.out.keep HON.out fun j hj hRj e => by
      have h1 := (HLV.out.2.2.1 j hRj)
      have h2 := (HBA.out.2.2.1 j hRj).1
      have := hS8
      omega)
    by_cases hlt : k < ln
    · have hkl : k < ls.length := by have := HLEN.out; omega
      obtain ⟨lb, off, rfl, hlb, hc⟩ := ln_cells HLRr.out.reads (by omega)
      obtain ⟨d0, d1⟩ := hc k hkl
      have hk1 : (k : Int) < ln := by omega
      have hk0 : (0 : Int) ≤ k := by omega
      have HTK := Lib.hid (negL_take ls k hkl)
      obtain ⟨n0, n1⟩ : -1000000000000 ≤ ls[k].2 ∧ ls[k].2 ≤ 1000000000000 := by
        have h1 := HF.out.lns (d.getD i ⟨0, 0, [], false⟩) (by
          have hid := idx_lt HIX.out
          rw [List.getD_eq_getElem?_getD, List.getElem?_eq_getElem hid]
          exact List.getElem_mem _)
        rw [HGL.out] at h1
        have := lnErr_inv (lnsErr_inv (linesE_inv h1).2.2.1 _ (List.getElem_mem hkl))
        omega
      obtain ⟨y, hz⟩ : ∃ y, ls[k] = y := ⟨_, rfl⟩
      rw [hz] at d0 d1 HTK n0 n1
      clear hc hz
      obtain ⟨B0, hbb2⟩ := box1 wr 54 #[.int .i64 y.1, .int .i64 y.2]
      have e0 := (B0.cell 0).trans rfl; have e1 := (B0.cell 1).trans rfl
      have p2 := ((HPB.out.alloc (.cells #[.int .i64 y.1, .int .i64 y.2] 54)).cell 2).trans rfl
      have HNR : Hid (∀ j, (Value.slice A2 k c2).ownBlock = some j → v1.heap.size ≤ j) := Lib.hid fun j hj => (HOW.out.lt j hj).1
      have HSZ : Hid (v1.heap.size ≤ wr.heap.size) := Lib.hid HON.out.size
      clear B0 hbb2
      have HOWA := Lib.hid (Only.refl (fun _ => False) wr)
      go_wp2_with (at_builtin; refine wpList_append_any _ rfl (.tmp 57) (.tmp 64) _ rfl _ 54 i0 _ 2 16 Try.underlying43 hi0' hz0 hz1 hz2 rfl (by omega) (.slice A2 k c2) k _ rfl (((HOWA.out.alloc (.cells #[.int .i64 y.1, .int .i64 y.2] 54)).alloc (.cells #[.int .i64 y.1, .int .i64 (-y.2)] 54)).own HOW.out fun _ _ e => e) _ _ 1 1 (encLn (y.1, -y.2)) (by rfl) (frLn2 _ _ _ _) (oneLn _) (by simp only [maxLen]; omega) (by omega) (Nat.le_trans HSZ.out (by simp; omega)) ?_; intro v7 w7 hown7 hg7 hat7; obtain ⟨A7, c7, rfl, hr7⟩ := own_reads hown7; rw [← snocLn, ← HTK.out] at hown7; have HG7 := Lib.hid (((HPB.out.alloc (.cells #[.int .i64 y.1, .int .i64 y.2] 54)).alloc (.cells #[.int .i64 y.1, .int .i64 (-y.2)] 54)).grown hg7 (fun e => absurd (HNR.out _ e.symm) (Nat.not_le_of_lt HZ.out))); have HON7 := Lib.hid (((HON.out.alloc (.cells #[.int .i64 y.1, .int .i64 y.2] 54)).alloc (.cells #[.int .i64 y.1, .int .i64 (-y.2)] 54)).grown hg7 (fun j hj hlt => absurd (HNR.out j hj) (Nat.not_le_of_lt hlt))); have HOW7 := Lib.hid hown7; have x7 := (HG7.out.cell 2).trans rfl; have z7 := HG7.out.frozen 2; clear hown7 hg7 hat7 hr7)
      go_roundw
      case rel =>
        refine ⟨k + 1, A7, c7, by omega, by go_num, Lib.hid (HG7.out.set_ 2 _), Lib.hid ?_, Lib.hid (HON7.out.setCell (p := ⟨w8.heap.size, 2, none⟩) (fun _ => rfl) _)⟩
        exact ((Only.refl (fun j => j = w8.heap.size) w7).setCell (p := ⟨w8.heap.size, 2, none⟩) (fun _ => rfl) _).own HOW7.out fun j hj e => by
          have h1 := (HOW7.out.lt j hj).1
          have h2 := HZ.out
          omega
      case measure => simp [intOf]; omega
    · have hkn : k = ln := by omega
      subst hkn
      have hle : ls.take k = ls := List.take_of_length_le (by have := HLEN.out; omega)
      rw [hle] at HOW
      have hZ := HZ.out; have hN8 := HN8.out; have hS2 := HS2.out; have hSr := HON.out.size
      have HFw := Lib.hid HBA.out.2.1
      have HRw : Hid (∀ j, R j → j < w.heap.size) := Lib.hid fun j hj => (HBA.out.2.2.1 j hj).1
      have HLW : Hid (LdF wr F R g acc (markD d i true)) := Lib.hid ⟨setE l i true, _, n, c, by rw [setE_dt, HD.out], HLV.out.keep HON.out fun j hj e => by
        rcases hj with hj | hj
        · have := HFw.out j hj; omega
        · have := HRw.out j hj; omega⟩
      have HPX : Hid (postE acc (markD d i true) by_ tm (negL ls) = x) := Lib.hid (by rw [markD_postE, HX.out, HGL.out])
      have HRd : Hid (Reads wr wr.heap.size 2 A2 k (cellsLn (negL ls))) := Lib.hid (Reads.of_own HOW.out)
      have HOr : Hid (Only F w wr) := Lib.hid (HOV.out.trans HON.out fun j hj e => by omega)
      have HT0 : Hid (Blk wr w.heap.size 22 #[.pointer (some ⟨g, 0, none⟩)]) := Lib.hid (HON.out.blk HQ0.out (by omega))
      have HT1 : Hid (Blk wr (w.heap.size + 1) 23 #[.int .i64 0]) := Lib.hid (HON.out.blk HQ1.out (by omega))
      have HTI : Hid (Blk wr w2.heap.size 3 #[.int .i64 (i : Int)]) := Lib.hid (HON.out.blk HQI.out (by omega))
      have HWR : Hid (w.heap.size ≤ wr.heap.size) := Lib.hid (by omega)
      have a0 := (HT0.out.cell 0).trans rfl
      have p0 := (HPB.out.cell 0).trans rfl; have p1 := (HPB.out.cell 1).trans rfl; have p2 := (HPB.out.cell 2).trans rfl
      have hZr : w8.heap.size < wr.heap.size := by omega
      have hnF : ∀ j, w.heap.size ≤ j → ¬ F j := fun j hj hF => by have := HFw.out j hF; omega
      have HNF := Lib.hid hnF
      clear hnF hle hZ hSr HQ0 HQ1 HQI HQP HLV HOV HLRV HLRr HOW
      by_cases h0 : x = 0
      · subst h0
        have HDD : Hid (postD acc (markD d i true) by_ tm (negL ls) false = markD d i true ++ [⟨by_, tm, negL ls, false⟩]) := Lib.hid (by unfold postD; rw [if_pos HPX.out])
        have HDE : Hid (d' = markD d i true ++ [⟨by_, tm, negL ls, true⟩]) := Lib.hid (by rw [← HD'.out, revD_ok HRE.out HIX.out, HGL.out])
        go_wp2_with fail
        refine (post_any F R g acc (markD d i true) _ by_ tm A2 k c2 (negL ls) 0 _ HLW.out (HF.out.mark i true) HRd.out HPX.out HDD.out).mono ?_
        rintro e w6 ⟨rfl, hO6, F', R', hF', hR', hL6⟩
        obtain ⟨l6, A6, n6, c6, hd6, hB6⟩ := hL6
        have hn6 : l6.length = n + 1 := by
          have h1 := congrArg List.length hd6
          rw [List.length_map, List.length_append, markD_len, HDL.out, List.length_singleton] at h1
          exact h1
        obtain rfl : n6 = n + 1 := by rw [← hB6.len, hn6]
        obtain ⟨b6, rfl, hb6, hF6, hne6, hc6⟩ := hB6.cells (by omega)
        obtain ⟨y6, f3⟩ : ∃ y : Bool, w6.cell? ⟨b6, n * 4 + 3, none⟩ = some (.bool y) := ⟨_, (hc6 n (by omega)).2.2.2⟩
        have f4 := hB6.row_cell (n * 4 + 3)
        have HU0 := Lib.hid (hO6.blk HT0.out (HNF.out _ (Nat.le_refl _)))
        have HU1 := Lib.hid (hO6.blk HT1.out (HNF.out _ (by omega)))
        have HUI := Lib.hid (hO6.blk HTI.out (HNF.out _ (by omega)))
        have HB6 := Lib.hid hB6; have HD6 := Lib.hid hd6; have HO6 := Lib.hid hO6; have HF' := Lib.hid hF'; have HR' := Lib.hid hR'
        have HL6 := Lib.hid hn6
        have HF6 := Lib.hid hF6
        clear a0 p0 p1 p2 hc6 hd6 hB6 hO6 hF' hR' hn6 hF6
        have a0 := (HU0.out.cell 0).trans rfl
        have g1 := (HB6.out.blk.cell 1).trans rfl
        have q7 : (n : Int) < ((n + 1 : Nat) : Int) := by omega
        have q8 : (n : Int) < (n : Int) + 1 := by omega
        have q9 : (0 : Int) ≤ n := by omega
        have hlt6 : n < n + 1 := by omega
        have hwn : IntKind.i64.wrap (n : Int) = (n : Int) := IntWalk.i64_in _ (by omega)
        go_upto_region 19 with fail
        refine wp_region_still_tail 12 (by kernel_rfl) (by kernel_rfl) ?_
        simp only [List.take_succ_cons, List.take_zero, List.drop_succ_cons, List.drop_zero]
        change wpStill _ _ (World.drew w6) _ _ _
        repeat still_step
        refine wpStill_nil ?_
        change wpList _ _ _ _ _ (World.drew w6)
        have h9 : ∃ u, (w6.setCell ⟨b6, n * 4 + 3, none⟩ (.bool true)).drew = u := ⟨_, rfl⟩
        obtain ⟨w9, hw9⟩ := h9
        have HM := HB6.out.mark n (by rw [HL6.out]; omega) true
        have HL9 : Hid (LdB w9 F' R' g acc (setE l6 n true) (some ⟨b6, 0, none⟩) (n + 1) c6) := Lib.hid (by
          rw [← hw9]
          exact HM.1.keep (F0 := fun _ => False) (Only.refl _ _).drew fun _ _ e => e)
        have HO9 : Hid (Only F' w6 w9) := Lib.hid (by rw [← hw9]; exact HM.2.drew)
        have hnF' : ∀ j, w.heap.size ≤ j → j < wr.heap.size → ¬ F' j := fun j h1 h2 e => by
          rcases HF'.out j e with h3 | h3
          · exact HNF.out j h1 h3
          · omega
        have HU9 := Lib.hid (HO9.out.blk HU1.out (hnF' _ (by omega) (by omega)))
        have a1 := (HU9.out.cell 0).trans rfl; have a3 := HU9.out.frozen 0
        clear HM a0 g1
        have HW9 := Lib.hid hw9
        have HUZ := Lib.hid ((HU9.out.set_ 0 (.int .i64 0)).cell 0)
        have HFIN : Hid (PostL w F R g acc 0 d' (.returned (.int .i64 0)) (w9.setCell ⟨w.heap.size + 1, 0, none⟩ (.int .i64 0))) := Lib.hid (by
          refine ⟨rfl, ?_, F', R', fun j hj => (HF'.out j hj).imp (fun e => e) (fun e => by omega), fun j hj => (HR'.out j hj).imp (fun e => e) (fun e => by omega), setE l6 n true, _, n + 1, c6, ?_, HL9.out.keep (F0 := fun j => j = w.heap.size + 1) ((Only.refl (fun j => j = w.heap.size + 1) w9).setCell (p := ⟨w.heap.size + 1, 0, none⟩) (fun _ => rfl) _) fun j hj e => ?_⟩
          · refine (((HOr.out.trans HO6.out fun _ _ e => e).trans HO9.out fun j hj e => ?_)).setCell (p := ⟨w.heap.size + 1, 0, none⟩) (fun e => absurd e (by simp)) _
            rcases HF'.out j e with h3 | h3
            · exact h3
            · omega
          · rw [setE_dt, HD6.out, HDE.out]
            have := markD_snoc ⟨by_, tm, negL ls, false⟩ true (markD d i true)
            rw [markD_len, HDL.out] at this
            exact this
          · subst e
            rcases hj with hj | hj
            · exact hnF' _ (by omega) (by omega) hj
            · rcases HR'.out _ hj with h3 | h3
              · have := HRw.out _ h3; omega
              · omega)
        clear hw9 hnF'
        go_upto_region 20 with fail
        rw [HW9.out]
        clear f3 f4
        go_wp2_with fail
        refine leaves_cons (f := 31) (args := #[.pointer (some ⟨w.heap.size + 1, 0, none⟩), .pointer (some ⟨w.heap.size, 0, none⟩), .pointer (some ⟨w2.heap.size, 0, none⟩)]) (by simp) (by simp [go_sem]) ?_
        refine (undo_idle (w.heap.size + 1) w2.heap.size w.heap.size _ (HUZ.out.trans rfl)).mono ?_
        rintro e u' w'' ⟨rfl, rfl, rfl⟩
        exact rev_end rfl (HUZ.out.trans rfl) HFIN.out
      · have HDD : Hid (postD acc (markD d i true) by_ tm (negL ls) false = markD d i true) := Lib.hid (by unfold postD; rw [if_neg (by rw [HPX.out]; exact h0)])
        have HDE : Hid (d' = d) := Lib.hid (by rw [← HD'.out, revD_not (by rw [HRE.out]; exact h0)])
        have t0 := ne0_t h0
        have HT := Lib.hid t0
        go_wp2_with fail
        refine (post_any F R g acc (markD d i true) _ by_ tm A2 k c2 (negL ls) x _ HLW.out (HF.out.mark i true) HRd.out HPX.out HDD.out).mono ?_
        rintro e w6 ⟨rfl, hO6, F', R', hF', hR', hL6⟩
        obtain ⟨l6, A6, n6, c6, hd6, hB6⟩ := hL6
        have hn6 : l6.length = n := by
          have h1 := congrArg List.length hd6
          rw [List.length_map, markD_len, HDL.out] at h1
          exact h1
        obtain rfl : n6 = n := by rw [← hB6.len, hn6]
        obtain ⟨b6, rfl, hb6, hF6, hne6, hc6⟩ := hB6.cells (by omega)
        have HU0 := Lib.hid (hO6.blk HT0.out (HNF.out _ (Nat.le_refl _)))
        have HU1 := Lib.hid (hO6.blk HT1.out (HNF.out _ (by omega)))
        have HUI := Lib.hid (hO6.blk HTI.out (HNF.out _ (by omega)))
        have HB6 := Lib.hid hB6; have HD6 := Lib.hid hd6; have HO6 := Lib.hid hO6; have HF' := Lib.hid hF'; have HR' := Lib.hid hR'
        have HL6 := Lib.hid hn6
        clear a0 p0 p1 p2 hc6 hd6 hB6 hO6 hF' hR' hn6
        have a1 := (HU1.out.cell 0).trans rfl; have a3 := HU1.out.frozen 0
        have hOs : Only (fun j => j = w.heap.size + 1) w6 (w6.setCell ⟨w.heap.size + 1, 0, none⟩ (.int .i64 x)) := (Only.refl (fun j => j = w.heap.size + 1) w6).setCell (p := ⟨w.heap.size + 1, 0, none⟩) (fun _ => rfl) _
        have hnF' : ∀ j, w.heap.size ≤ j → j < wr.heap.size → ¬ (F' j ∨ R' j) := fun j h1 h2 e => by
          rcases e with e | e
          · rcases HF'.out j e with h3 | h3
            · exact HNF.out j h1 h3
            · omega
          · rcases HR'.out j e with h3 | h3
            · have := HRw.out _ h3; omega
            · omega
        have HLs := Lib.hid (HB6.out.keep hOs fun j hj e => hnF' j (by omega) (by omega) hj)
        have HS0 := Lib.hid (hOs.blk HU0.out (by omega)); have HSI := Lib.hid (hOs.blk HUI.out (by omega))
        have HS1 := Lib.hid (HU1.out.set_ 0 (.int .i64 x))
        have hil6 : i < l6.length := by rw [HL6.out]; exact hin
        have HM := HLs.out.mark i hil6 false
        have hb6w : b6 ≠ w.heap.size + 1 := fun e => hnF' (w.heap.size + 1) (by omega) (by omega) (.inl (e ▸ hF6))
        have HFIN : Hid (PostL w F R g acc x d' (.returned (.int .i64 x)) ((w6.setCell ⟨w.heap.size + 1, 0, none⟩ (.int .i64 x)).setCell ⟨b6, i * 4 + 3, none⟩ (.bool false)).drew) := Lib.hid (by
          refine ⟨rfl, ?_, F', R', fun j hj => (HF'.out j hj).imp (fun e => e) (fun e => by omega), fun j hj => (HR'.out j hj).imp (fun e => e) (fun e => by omega), setE l6 i false, _, n6, c6, ?_, HM.1.keep (F0 := fun _ => False) (Only.refl _ _).drew fun _ _ e => e⟩
          · refine ((((HOr.out.trans HO6.out fun _ _ e => e).setCell (p := ⟨w.heap.size + 1, 0, none⟩) (fun e => absurd e (by simp)) _).setCell (p := ⟨b6, i * 4 + 3, none⟩) (fun e => ?_) _)).drew
            rcases HF'.out b6 hF6 with h3 | h3
            · exact h3
            · exact absurd e (by simp only; omega)
          · rw [setE_dt, HD6.out, HDE.out]; exact HBACK.out)
        have HLL := Lib.hid hil6
        have HEND := Lib.hid (((HS1.out.far (p := ⟨b6, i * 4 + 3, none⟩) (Ne.symm hb6w) (.bool false)).cell 0))
        clear HM hnF' hOs hil6
        go_wp2_with fail
        refine leaves_cons (f := 31) (args := #[.pointer (some ⟨w.heap.size + 1, 0, none⟩), .pointer (some ⟨w.heap.size, 0, none⟩), .pointer (some ⟨w2.heap.size, 0, none⟩)]) (by simp) (by simp [go_sem]) ?_
        refine (undo_any (w.heap.size + 1) w2.heap.size w.heap.size F' R' g acc l6 b6 n6 c6 i x _ HLs.out ((HS1.out.cell 0).trans rfl) HT.out ((HS0.out.cell 0).trans rfl) ((HSI.out.cell 0).trans rfl) HLL.out).mono ?_
        rintro e u' w'' ⟨rfl, rfl, rfl⟩
        exact rev_end rfl (HEND.out.trans rfl) HFIN.out
end Go.Proofs.Ytoammbjnejdgpaa
