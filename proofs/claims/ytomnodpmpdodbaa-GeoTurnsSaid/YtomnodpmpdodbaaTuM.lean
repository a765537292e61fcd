/- The walk of the law's function turned. -/
import Derived.Test.YtomnodpmpdodbaaTuL
import Derived.Test.YtomnodpmpdodbaaTenAwake
import Derived.Test.YtomnodpmpdodbaaTwo
namespace Go.Proofs.Ytomnodpmpdodbaa
open Go.RowKit
theorem infoPt : (Try.prog.info? 23).map (fun i => (i.zero, i.size, i.bytes)) = some (some (.agg #[.int .i64 0, .int .i64 0]), 2, 16) := by kernel_rfl
theorem frPt (u : World) (b : Nat) (hb : u.heap.size = b) (q : Pt) : Reads (u.alloc (.cells #[.int .i64 q.1, .int .i64 q.2] 23)) (b + 1) 2 (some ⟨b, 0, none⟩) 1 (encPt q) := by
  subst hb
  simpa [encPt] using Reads.fresh1 u 23 #[.int .i64 q.1, .int .i64 q.2] 2 rfl
theorem snocPt (l : List Pt) (q : Pt) : cellsPt (l ++ [q]) = cellsPt l ++ encPt q := by simp [cellsPt]
theorem onePt {q : Pt} : ∀ u ∈ encPt q, u.oneCell' = true := by
  intro u hu
  simp only [encPt, List.mem_cons, List.not_mem_nil, or_false] at hu
  rcases hu with rfl | rfl <;> rfl
theorem turned_take (p : List Pt) (k : Nat) (t : Bool) {i : Nat} (h : i < p.length) : (turnedL p k t).take (i + 1) = (turnedL p k t).take i ++ [tn t (pAt p ((i + k) % p.length))] := by
  rw [List.take_succ_eq_append_getElem (by rw [turned_len]; exact h)]
  simp [turnedL]
set_option maxHeartbeats 2000000 in
set_option maxRecDepth 10000 in
theorem turned_any (A : Option Addr) (n c : Nat) (p : List Pt) (s : Nat) (t : Bool) (w : World) (h : Reads w w.heap.size 2 A n (cellsPt p)) (hn : n ≤ 1000) (hs : s ≤ 1000) : Calls Try.prog 24 #[.slice A n c, .int .i64 s, .bool t] w (RetOwn w 23 2 (cellsPt (turnedL p s t))) := by
  obtain ⟨i0, hi0, hz0, hz1, hz2⟩ := info_parts infoPt
  have HH := Lib.hid h
  have HL := Lib.hid (recs_len h encPt_len (by omega))
  clear h
  go_enter Try.func24, Try.ntmps24
  go_wp2_with fail
  go_loopw [7, 8, 9] (fun out i _ wr => ∃ (k : Nat) (A1 : Option Addr) (c1 : Nat), k ≤ n ∧ i = .int .i64 k ∧ out = .slice A1 k c1 ∧ wr.ownsRow w.heap.size 23 2 (.slice A1 k c1) k (cellsPt ((turnedL p s t).take k)) ∧ Below w.heap.size w wr) (fun _ i _ _ => n - (intOf i).toNat)
  case atStart => exact ⟨0, none, 0, Nat.zero_le _, rfl, rfl, World.ownsRow_nil _ _ _ _, Below.refl _ _⟩
  case round =>
    obtain ⟨k, A1, c1, hk, rfl, rfl, hown, hbw⟩ := hrel
    have HO := Lib.hid hown
    have HR := Lib.hid (HH.out.below hbw)
    have HBW := Lib.hid hbw
    have hsw : w.heap.size ≤ wr.heap.size := hbw.size
    clear hown hbw
    by_cases hlt : k < n
    · obtain ⟨b, off, rfl, hb, hc⟩ := pts_cells HR.out (by omega)
      have hjn : (k + s) % n < n := Nat.mod_lt _ (by omega)
      obtain ⟨j, hj⟩ : ∃ j, (k + s) % n = j := ⟨_, rfl⟩
      rw [hj] at hjn
      obtain ⟨e0, e1⟩ := hc j hjn
      have hbr : b < wr.heap.size := by omega
      have HT := Lib.hid (turned_take p s t (i := k) (by have := HL.out; omega))
      have HT2 : Hid ((turnedL p s t).take (k + 1) = (turnedL p s t).take k ++ [tn t (pAt p j)]) := Lib.hid (by rw [HT.out, HL.out, hj])
      have hw1 : IntKind.i64.wrap ((k : Int) + s) = (k : Int) + s := wr_ (by omega)
      have hm : ((k : Int) + s).tmod (n : Int) = (j : Int) := by rw [← hj]; rfl
      have hm2 : ((k : Int) + s) % (n : Int) = (j : Int) := by rw [← hj]; rfl
      have hj0 : (0 : Int) ≤ j := by omega
      have hj1 : (j : Int) < n := by omega
      have hk0 : (0 : Int) ≤ k := by omega
      have hk1 : (k : Int) < n := by omega
      have hn0 : ((n : Int) == 0) = false := by simp; omega
      have hnn : n ≠ 0 := by omega
      clear hc hj
      rcases t with _ | _
      · go_wp2_with (at_builtin; go_loud (refine wpList_append_any _ rfl (.tmp 32) (.tmp 34) _ rfl w.heap.size 23 i0 _ 2 16 Try.underlying28 hi0 hz0 hz1 hz2 rfl (by omega) (.slice A1 k c1) k _ rfl ((HO.out.alloc _).alloc _) _ _ 1 1 (encPt (pAt p j)) (by rfl) (frPt _ (wr.heap.size + 1) (by simp) (pAt p j)) onePt (by simp only [maxLen]; omega) (by omega) (by simp; omega) ?_; intro v7 w7 hown7 hg7 hat7; obtain ⟨A7, c7, rfl, hr7⟩ := own_reads hown7; have HB7 := Lib.hid (below_own (below_alloc (below_alloc HBW.out (Nat.le_refl _) _) (Nat.le_refl _) _) ((HO.out.alloc _).alloc _) hg7 (by simp; omega) (Nat.le_refl _)); have HO7 : Hid (w7.ownsRow w.heap.size 23 2 (.slice A7 (k + 1) c7) (k + 1) (cellsPt ((turnedL p s false).take (k + 1)))) := Lib.hid (by rw [HT2.out, snocPt]; exact hown7); clear hown7 hg7 hat7 hr7))
        go_roundw
        case rel => exact ⟨k + 1, A7, c7, by omega, by go_num, rfl, HO7.out, HB7.out⟩
        case measure => simp [intOf]; omega
      · have B0 := Blk.new wr 23 #[.int .i64 (pAt p j).1, .int .i64 (pAt p j).2]
        have g0 := (B0.cell 0).trans rfl; have g1 := (B0.cell 1).trans rfl
        have HBx := Lib.hid (Below.refl (wr.alloc (.cells #[.int .i64 (pAt p j).1, .int .i64 (pAt p j).2] 23)).heap.size (wr.alloc (.cells #[.int .i64 (pAt p j).1, .int .i64 (pAt p j).2] 23)))
        have HWG : Hid (tn true (pAt p j) = (wrap64 (-(pAt p j).2), (pAt p j).1)) := Lib.hid (by show (IntKind.i64.wrap (-(pAt p j).2), (pAt p j).1) = _; rw [IntWalk.i64_left])
        go_wp2_with (at_builtin; fail)
        refine (at_any _ _ _).mono ?_
        rintro e w1 ⟨rfl, hb1⟩
        have B1 := B0.ofBelow hb1
        have x0 := (B1.cell 0).trans rfl; have x1 := (B1.cell 1).trans rfl
        have y0 := B1.frozen 0; have y1 := B1.frozen 1
        have O1 : Only (fun _ => False) wr w1 := ((Only.refl _ _).alloc _).trans (Only.of_new hb1 (fun _ => False)) (fun _ _ e => e)
        have OX : Hid (Only (fun _ => False) wr ((w1.setCell ⟨wr.heap.size, 0, none⟩ (.int .i64 (wrap64 (-(pAt p j).2)))).setCell ⟨wr.heap.size, 1, none⟩ (.int .i64 (pAt p j).1))) := Lib.hid ((O1.setCell (fun e => Nat.lt_irrefl _ e) _).setCell (fun e => Nat.lt_irrefl _ e) _)
        have HBX := Lib.hid (HBW.out.trans (OX.out.below (fun _ _ e => e.elim) hsw))
        clear O1 hb1 B0 B1 g0 g1
        go_wp2_with (at_builtin; go_loud (refine wpList_append_any _ rfl (.tmp 32) (.tmp 34) _ rfl w.heap.size 23 i0 _ 2 16 Try.underlying28 hi0 hz0 hz1 hz2 rfl (by omega) (.slice A1 k c1) k _ rfl ((OX.out.own HO.out (fun _ _ e => e)).alloc _) _ _ 1 1 (encPt (wrap64 (-(pAt p j).2), (pAt p j).1)) (by rfl) (frPt _ w1.heap.size (by simp [World.setCell]) (wrap64 (-(pAt p j).2), (pAt p j).1)) onePt (by simp only [maxLen]; omega) (by omega) (by have := HBX.out.size; simp; simp at this; omega) ?_; intro v7 w7 hown7 hg7 hat7; obtain ⟨A7, c7, rfl, hr7⟩ := own_reads hown7; have HB7 := Lib.hid (below_own (below_alloc HBX.out (Nat.le_refl _) _) ((OX.out.own HO.out (fun _ _ e => e)).alloc _) hg7 (by have := HBX.out.size; simp; simp at this; omega) (Nat.le_refl _)); have HO7 : Hid (w7.ownsRow w.heap.size 23 2 (.slice A7 (k + 1) c7) (k + 1) (cellsPt ((turnedL p s true).take (k + 1)))) := Lib.hid (by rw [HT2.out, snocPt, HWG.out]; exact hown7); clear hown7 hg7 hat7 hr7))
        go_roundw
        case rel => exact ⟨k + 1, A7, c7, by omega, by go_num, rfl, HO7.out, HB7.out⟩
        case measure => simp [intOf]; omega
    · obtain rfl : k = n := by omega
      have HE : Hid ((turnedL p s t).take k = turnedL p s t) := Lib.hid (List.take_of_length_le (by rw [turned_len]; have := HL.out; omega))
      go_wp2_with fail
      go_ret
      exact ⟨A1, k, c1, rfl, by rw [← HE.out]; exact HO.out, HBW.out⟩
end Go.Proofs.Ytomnodpmpdodbaa
