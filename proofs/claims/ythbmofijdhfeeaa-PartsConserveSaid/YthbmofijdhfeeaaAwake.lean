/- The walks of parts.New and of the statements' awake. -/
import Derived.Test.YthbmofijdhfeeaaAdd
namespace Go.Proofs.Ythbmofijdhfeeaa
open Go.RowKit Go.Maps Go.WideMaps
/-- A store that lots are added to, till one fails. -/
def newR : List Lt → List L4 → Int × List Lt
  | s, [] => (0, s)
  | s, x :: l => if addE s x = 0 then newR (addL s x) l else (addE s x, s)
theorem newR_ok {s : List Lt} {l : List L4} {k : Nat} (hk : k < l.length) (h : addE s l[k] = 0) : newR s (l.drop k) = newR (addL s l[k]) (l.drop (k + 1)) := by
  rw [List.drop_eq_getElem_cons hk, newR, if_pos h]
theorem newR_no {s : List Lt} {l : List L4} {k : Nat} (hk : k < l.length) (h : addE s l[k] ≠ 0) : newR s (l.drop k) = (addE s l[k], s) := by
  rw [List.drop_eq_getElem_cons hk, newR, if_neg h]
theorem newR_end {s : List Lt} {l : List L4} {k : Nat} (hk : l.length ≤ k) : newR s (l.drop k) = (0, s) := by
  rw [List.drop_eq_nil_of_le hk]; rfl
def RetNew (w : World) (x : Int) (s : List Lt) (e : Ending) (w' : World) : Prop :=
  Below w.heap.size w w' ∧ ((x = 0 ∧ ∃ F g, e = .returned (.tuple #[.pointer (some ⟨g, 0, none⟩), .int .i64 0]) ∧ StoreF w' F g s ∧ ∀ k, F k → w.heap.size ≤ k) ∨ (x ≠ 0 ∧ e = .returned (.tuple #[.pointer none, .int .i64 x])))
set_option maxHeartbeats 2000000 in
set_option maxRecDepth 10000 in
theorem new_any (A : Option Addr) (n c : Nat) (l : List L4) (x : Int) (s : List Lt) (w : World) (hr : Reads w w.heap.size 4 A n (cellsL l)) (hn : n ≤ 100000) (h : newR [] l = (x, s)) :
    Calls Try.prog 11 #[.slice A n c] w (RetNew w x s) := by
  have HL := Lib.hid (recs_len hr encL_len (by omega))
  have HN := Lib.hid h
  clear h
  have hmm := @run_makeMap Try.prog
  have hb0 : Below w.heap.size w ((w.alloc (.map #[] 0)).alloc (.cells #[.slice none 0 0, .map (some w.heap.size)] 72)) := ((Below.refl _ _).alloc (Nat.le_refl _) _).alloc (by simp) _
  have hst : StoreF ((w.alloc (.map #[] 0)).alloc (.cells #[.slice none 0 0, .map (some w.heap.size)] 72)) (fun k => w.heap.size ≤ k ∧ k < w.heap.size + 2) (w.heap.size + 1) [] := by
    refine ⟨⟨by omega, by omega⟩, fun k hk => by simp; omega, none, 0, 0, w.heap.size, ?_, ⟨Nat.le_refl _, by omega⟩, World.ownsRow_nil _ _ _ _, ?_, fun k hk => by simp [Value.ownBlock] at hk⟩
    · have := Blk.new (w.alloc (.map #[] 0)) 72 #[.slice none 0 0, .map (some w.heap.size)]
      simpa using this
    · have : placeR [] = fun _ => none := by funext kl; unfold placeR; split <;> rfl
      rw [this]
      exact (MapI.made w Try.prog 3 3).alloc _
  have HB0 := Lib.hid hb0
  have HST := Lib.hid hst
  clear hb0 hst
  go_enter Try.func11, Try.ntmps11
  go_wp2_with fail
  go_loopw [13] (fun i wr => ∃ (k : Nat) (F : Nat → Prop) (t : List Lt), k ≤ n ∧ i = .int .i64 k ∧ Hid (newR t (l.drop k) = (x, s)) ∧ StoreF wr F (w.heap.size + 1) t ∧ fine t ∧ (∀ j, F j → w.heap.size ≤ j) ∧ Below w.heap.size w wr) (fun i _ => n - (intOf i).toNat)
  case atStart => exact ⟨0, _, [], Nat.zero_le _, rfl, HN, HST.out, fine_nil, fun j hj => hj.1, HB0.out⟩
  case round =>
    obtain ⟨k, F, t, hk, rfl, HR, hst, hfi, hF, hbw⟩ := hrel
    have HS := Lib.hid hst; have HFI := Lib.hid hfi; have HF := Lib.hid hF; have HBW := Lib.hid hbw
    clear hst hfi hF hbw
    by_cases hlt : k < n
    · have hkl : k < l.length := by have := HL.out; omega
      obtain ⟨b, off, rfl, hb2, hcc⟩ := (hr.below HBW.out).recs encL_len (by omega) (by omega)
      have d0 : wr.cell? ⟨b, off + k * 4, none⟩ = some (.int .i64 l[k].1) := hcc k hkl 0 _ rfl
      have d1 : wr.cell? ⟨b, off + k * 4 + 1, none⟩ = some (.int .i64 l[k].2.1) := hcc k hkl 1 _ rfl
      have d2 : wr.cell? ⟨b, off + k * 4 + 2, none⟩ = some (.int .i64 l[k].2.2.1) := hcc k hkl 2 _ rfl
      have d3 : wr.cell? ⟨b, off + k * 4 + 3, none⟩ = some (.int .i64 l[k].2.2.2) := hcc k hkl 3 _ rfl
      have hk0 : (0 : Int) ≤ k := by omega
      have hk1 : (k : Int) < n := by omega
      have hba := below_alloc (Below.refl wr.heap.size wr) (Nat.le_refl _) (.cells #[.int .i64 l[k].1, .int .i64 l[k].2.1, .int .i64 l[k].2.2.1, .int .i64 l[k].2.2.2] 47)
      have HSA := Lib.hid (HS.out.below hba)
      have HBA := Lib.hid (HBW.out.trans (hba.mono HBW.out.size))
      clear hcc hba
      obtain ⟨y, hy⟩ : ∃ y, addE t l[k] = y := ⟨_, rfl⟩
      have HY := Lib.hid hy
      clear hy
      go_wp2_with fail
      refine (add_any F _ t _ l[k].1 l[k].2.1 l[k].2.2.1 l[k].2.2.2 y _ HSA.out HY.out rfl HFI.out.1).mono ?_
      rintro e w2 ⟨rfl, hs2, ho2⟩
      have HB2 := Lib.hid (HBA.out.trans (ho2.below (fun j _ hj => HF.out j hj) HBA.out.size))
      have HF2 := Lib.hid (With.ge (w' := w2) HF.out HBA.out.size)
      have HS2 := Lib.hid hs2
      clear hs2 ho2
      by_cases h0 : y = 0
      · subst h0
        have HR2 : Hid (newR (addL t l[k]) (l.drop (k + 1)) = (x, s)) := Lib.hid ((newR_ok hkl HY.out).symm.trans HR.out)
        go_wp2_with fail
        go_roundw
        case rel => exact ⟨k + 1, _, _, by omega, by go_num, HR2, HS2.out, fine_add HFI.out, HF2.out, HB2.out⟩
        case measure => simp [intOf]; omega
      · have h1 := ne0_t h0
        have HX : Hid (y = x ∧ t = s) := Lib.hid (by
          have := (newR_no hkl (by rw [HY.out]; exact h0)).symm.trans HR.out
          rw [HY.out] at this
          injection this with e1 e2
          exact ⟨e1, e2⟩)
        have H0 := Lib.hid h0
        clear h0
        go_wp2_with fail
        go_ret2
        exact ⟨HB2.out, .inr ⟨by rw [← HX.out.1]; exact H0.out, by rw [HX.out.1]; rfl⟩⟩
    · have HX : Hid (0 = x ∧ t = s) := Lib.hid (by
        have := (newR_end (s := t) (by have := HL.out; omega)).symm.trans HR.out
        injection this with e1 e2
        exact ⟨e1, e2⟩)
      go_wp2_with fail
      go_ret2
      exact ⟨HBW.out, .inl ⟨HX.out.1.symm, F, _, rfl, by rw [← HX.out.2]; exact HS.out, HF.out⟩⟩

def AwakePost (w : World) (e : Ending) (w' : World) : Prop := e = .returned (.bool true) ∧ Below w.heap.size w w'
theorem below_next {B : Nat} {a b c : World} (h : Below B a b) (hB : B ≤ a.heap.size) (h2 : Below b.heap.size b c) : Below B a c := h.trans (h2.mono (Nat.le_trans hB h.size))
theorem below_drew_ {B : Nat} {a b : World} (h : Below B a b) : Below B a b.drew := ⟨h.os, h.tape, h.output, h.size, h.block⟩
abbrev s0 : List Lt := [((4, 0, 3, 10), 3), ((9, 0, 5, 20), 5), ((2, 1, 7, 20), 7)]
abbrev s1 : List Lt := [((4, 0, 3, 10), 0), ((9, 0, 5, 20), 3), ((2, 1, 7, 20), 7)]
abbrev s2 : List Lt := [((4, 0, 3, 10), 2), ((9, 0, 5, 20), 3), ((2, 1, 7, 20), 7)]
abbrev s3 : List Lt := [((4, 0, 3, 10), 0), ((9, 0, 5, 20), 2), ((2, 1, 7, 20), 7)]
theorem k0 : newR [] [(4, 0, 3, 10), (9, 0, 5, 20), (2, 1, 7, 20)] = (0, s0) := by decide +kernel
theorem k1 : countN s0 0 = 8 := by decide +kernel
theorem k2 : takeE s0 0 9 = 29 ∧ tookX s0 0 9 = s0 ∧ tookO s0 0 9 = [] := by decide +kernel
theorem k3 : takeE s0 0 5 = 0 ∧ tookX s0 0 5 = s1 ∧ tookO s0 0 5 = [(4, 3), (9, 2)] := by decide +kernel
theorem k4 : leftN s1 9 = 3 ∧ leftE s1 9 = 0 := by decide +kernel
theorem k5 : backE s1 4 4 = 27 ∧ backL s1 4 4 = s1 := by decide +kernel
theorem k6 : backE s1 4 2 = 0 ∧ backL s1 4 2 = s2 := by decide +kernel
theorem k7 : takeE s2 0 3 = 0 ∧ tookX s2 0 3 = s3 ∧ tookO s2 0 3 = [(4, 2), (9, 1)] := by decide +kernel
theorem k8 : addE s3 (4, 0, 1, 30) = 6 ∧ addL s3 (4, 0, 1, 30) = s3 := by decide +kernel
theorem fine_of {l : List Lt} (h : (decide (l.length ≤ 512) && l.all fun x => okL x.1 && kindB x.1.2.1 && decide (0 ≤ x.2) && decide (x.2 ≤ x.1.2.2.1)) = true) : fine l := by
  simp only [Bool.and_eq_true, decide_eq_true_eq, List.all_eq_true] at h
  exact ⟨h.1, fun x hx => ⟨(h.2 x hx).1.1.1, (h.2 x hx).1.1.2, (h.2 x hx).1.2, (h.2 x hx).2⟩⟩
set_option maxHeartbeats 4000000 in
set_option maxRecDepth 10000 in
theorem awake_any (w : World) : Calls Try.prog 10 #[] w (AwakePost w) := by
  have f0 : fine s0 := fine_of (by decide +kernel)
  have f1 : fine s1 := fine_of (by decide +kernel)
  have f2 : fine s2 := fine_of (by decide +kernel)
  have f3 : fine s3 := fine_of (by decide +kernel)
  have HF0 := Lib.hid f0; have HF1 := Lib.hid f1; have HF2 := Lib.hid f2; have HF3 := Lib.hid f3
  clear f0 f1 f2 f3
  have HAL := Lib.hid (below_alloc (Below.refl w.heap.size w) (Nat.le_refl _) (.cells #[.int .i64 4, .int .i64 0, .int .i64 3, .int .i64 10, .int .i64 9, .int .i64 0, .int .i64 5, .int .i64 20, .int .i64 2, .int .i64 1, .int .i64 7, .int .i64 20] 47))
  have HR := Lib.hid ((Reads.fresh w 47 #[.int .i64 4, .int .i64 0, .int .i64 3, .int .i64 10, .int .i64 9, .int .i64 0, .int .i64 5, .int .i64 20, .int .i64 2, .int .i64 1, .int .i64 7, .int .i64 20] 3 4 rfl).more (B' := (w.alloc (.cells #[.int .i64 4, .int .i64 0, .int .i64 3, .int .i64 10, .int .i64 9, .int .i64 0, .int .i64 5, .int .i64 20, .int .i64 2, .int .i64 1, .int .i64 7, .int .i64 20] 47)).heap.size) (by simp))
  go_enter Try.func10, Try.ntmps10
  go_wp2_with fail
  refine (new_any _ 3 _ [(4, 0, 3, 10), (9, 0, 5, 20), (2, 1, 7, 20)] 0 s0 _ HR.out (by decide) k0).mono ?_
  rintro e w1 ⟨hb1, ⟨_, F1, g, rfl, hs1, hF1⟩ | ⟨h, _⟩⟩
  case inr => exact absurd rfl h
  have HB1 := Lib.hid (HAL.out.trans (hb1.mono HAL.out.size))
  have hF1' : ∀ k, F1 k → w.heap.size ≤ k := fun k hk => Nat.le_trans HAL.out.size (hF1 k hk)
  have HF1' := Lib.hid hF1'
  have HS1 := Lib.hid hs1
  clear hb1 hF1 hF1' hs1
  go_wp2_with fail
  refine (count_any F1 g s0 0 8 _ HS1.out HF0.out k1).mono ?_
  rintro e w2 ⟨rfl, hb2⟩
  have HS2 := Lib.hid (HS1.out.below hb2)
  have HB2 := Lib.hid (below_next HB1.out (Nat.le_refl _) hb2)
  clear hb2
  go_wp2_with fail
  refine (take_any F1 g s0 s0 0 9 29 [] _ HS2.out HF0.out k2.1 k2.2.1 k2.2.2).mono ?_
  rintro e w3 ⟨A3, n3, c3, rfl, _, hs3, _, ho3⟩
  have HS3 := Lib.hid hs3
  have HB3 := Lib.hid (HB2.out.trans (ho3.below (fun k _ hk => HF1'.out k hk) HB2.out.size))
  clear hs3 ho3
  go_wp2_with fail
  refine (take_any F1 g s0 s1 0 5 0 _ _ HS3.out HF0.out k3.1 k3.2.1 k3.2.2).mono ?_
  rintro e w4 ⟨A4, n4, c4, rfl, ho4, hs4, hx4, hon4⟩
  obtain rfl : n4 = 2 := (recs_len (Reads.of_own ho4) encT_len (by omega)).symm
  have HS4 := Lib.hid hs4
  have HB4 := Lib.hid (HB3.out.trans (hon4.below (fun k _ hk => HF1'.out k hk) HB3.out.size))
  have HX4 := Lib.hid hx4
  have HO4 := Lib.hid ho4
  clear ho4 hs4 hx4 hon4
  go_wp2_with fail
  refine (left_any F1 g s1 9 3 0 _ HS4.out (by decide) k4.1 k4.2).mono ?_
  rintro e w5 ⟨rfl, rfl⟩
  go_wp2_with fail
  refine (back_any F1 g s1 s1 4 4 27 _ HS4.out (by decide) HF1.out k5.1 k5.2).mono ?_
  rintro e w5 ⟨rfl, hs5, hon5⟩
  have HO5 := Lib.hid (hon5.own HO4.out HX4.out)
  have HX5 : Hid (∀ k, (Value.slice A4 2 c4).ownBlock = some k → ¬ With F1 w4 w5 k) := Lib.hid fun k hk e => e.elim (HX4.out k hk) fun e => by have := (HO4.out.lt k hk).2; omega
  have HF5 := Lib.hid (With.ge (w' := w5) HF1'.out HB4.out.size)
  have HB5 := Lib.hid (HB4.out.trans (hon5.below (fun k _ hk => HF1'.out k hk) HB4.out.size))
  have HS5 := Lib.hid hs5
  clear hs5 hon5 HO4 HX4 HS4
  go_wp2_with fail
  refine (back_any _ g s1 s2 4 2 0 _ HS5.out (by decide) HF1.out k6.1 k6.2).mono ?_
  rintro e w6 ⟨rfl, hs6, hon6⟩
  have HO6 := Lib.hid (hon6.own HO5.out HX5.out)
  have HX6 : Hid (∀ k, (Value.slice A4 2 c4).ownBlock = some k → ¬ With (With F1 w4 w5) w5 w6 k) := Lib.hid fun k hk e => e.elim (HX5.out k hk) fun e => by have := (HO5.out.lt k hk).2; omega
  have HF6 := Lib.hid (With.ge (w' := w6) HF5.out HB5.out.size)
  have HB6 := Lib.hid (HB5.out.trans (hon6.below (fun k _ hk => HF5.out k hk) HB5.out.size))
  have HS6 := Lib.hid hs6
  clear hs6 hon6 HO5 HX5 HS5
  go_wp2_with fail
  refine (take_any _ g s2 s3 0 3 0 _ _ HS6.out HF2.out k7.1 k7.2.1 k7.2.2).mono ?_
  rintro e w7 ⟨A7, n7, c7, rfl, ho7, hs7, hx7, hon7⟩
  obtain rfl : n7 = 2 := (recs_len (Reads.of_own ho7) encT_len (by omega)).symm
  have HO47 := Lib.hid (hon7.own HO6.out HX6.out)
  have HB7 := Lib.hid (HB6.out.trans (hon7.below (fun k _ hk => HF6.out k hk) HB6.out.size))
  have HX7 := Lib.hid hx7
  have HO7 := Lib.hid ho7
  have HS7 := Lib.hid hs7
  clear hs7 hon7 ho7 hx7 HO6 HS6
  go_wp2_with fail
  refine (add_any _ g s3 s3 4 0 1 30 6 _ HS7.out k8.1 k8.2 HF3.out.1).mono ?_
  rintro e w8 ⟨rfl, hs8, hon8⟩
  have HR4 := Lib.hid (Reads.of_own (hon8.own HO47.out HX6.out))
  have HR7 := Lib.hid (Reads.of_own (hon8.own HO7.out HX7.out))
  have HB8 := Lib.hid (HB7.out.trans (hon8.below (fun k _ hk => HF6.out k hk) HB7.out.size))
  clear hs8 hon8 HO47 HO7 HX7 HX6 HS7
  go_wp2_with fail
  refine (sameT_any A4 _ 2 c4 2 _ [(4, 3), (9, 2)] [(4, 3), (9, 2)] true _ _ _ (HR4.out.alloc (Nat.le_refl _) _) (Reads.fresh w8 58 #[.int .i64 4, .int .i64 3, .int .i64 9, .int .i64 2] 2 2 rfl) (by decide) (by decide)).mono ?_
  rintro e w9 ⟨rfl, q, rfl⟩
  go_wp2_with fail
  refine (sameT_any A7 _ 2 c7 2 _ [(4, 2), (9, 1)] [(4, 2), (9, 1)] true _ _ _ (((HR7.out.alloc (Nat.le_refl _) (.cells #[.int .i64 4, .int .i64 3, .int .i64 9, .int .i64 2] 58)).drewN q).alloc (by simp) _) (by simpa [cellsT, encT] using Reads.fresh ((w8.alloc (.cells #[.int .i64 4, .int .i64 3, .int .i64 9, .int .i64 2] 58)).drewN q) 58 #[.int .i64 4, .int .i64 2, .int .i64 9, .int .i64 1] 2 2 rfl) (by decide) (by decide)).mono ?_
  rintro e w10 ⟨rfl, q2, rfl⟩
  go_wp2_with fail
  go_ret
  exact ⟨rfl, below_drewN (below_alloc (below_drewN (below_alloc HB8.out (Nat.le_refl _) _) q) (Nat.le_refl _) _) q2⟩
end Go.Proofs.Ythbmofijdhfeeaa
