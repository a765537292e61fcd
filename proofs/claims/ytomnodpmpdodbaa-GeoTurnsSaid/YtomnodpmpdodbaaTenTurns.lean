/- The walk of the statement GeoTurns. -/
import Derived.Test.YtomnodpmpdodbaaTuM
import Derived.Test.YtomnodpmpdodbaaTenOpen
namespace Go.Proofs.Ytomnodpmpdodbaa
open Go.ChangeShapes Go.WideShapes Go.ChangeAt Go.RowKit Go.Deep
section
variable {H : Type} {enc : TypeId × Value → H} {W : World} {b0 : Nat} {v : Value} {d : DataW H} {p : List MemPlace}
theorem i64_rg {b a : Int} (h : (Lit.int .i64 b).wf = true) : Rg (a, b) := by
  change (decide (-9223372036854775808 ≤ b) && decide (b ≤ 9223372036854775807)) = true at h
  rw [Bool.and_eq_true] at h
  exact ⟨of_decide_eq_true h.1, of_decide_eq_true h.2⟩
theorem u8_nat {a : Int} (h : (Lit.int .u8 a).wf = true) : ∃ n : Nat, a = (n : Int) ∧ n < 256 := by
  change (decide (0 ≤ a) && decide (a ≤ 255)) = true at h
  rw [Bool.and_eq_true] at h
  have h1 := of_decide_eq_true h.1
  have h2 := of_decide_eq_true h.2
  exact ⟨a.toNat, by omega, by omega⟩
theorem open_pt2 (hv : Value.okWide Try.prog W .any b0 23 v) (h : DataW.Trod enc Try.prog W 0 (fun _ => true) true 23 v d p) : ∃ a : Pt, v = aggP a ∧ Rg a := by
  obtain ⟨cs, rfl, hl, hf⟩ := open_flat (k := 4) (ts := [3, 3]) Try.underlying23 (by kernel_rfl) hv h
  obtain ⟨a, h0, _⟩ := hf.int 0 rfl Try.underlying3
  obtain ⟨b, h1, wb⟩ := hf.int 1 rfl Try.underlying3
  obtain rfl := list2 hl h0 h1
  exact ⟨(a, b), rfl, i64_rg wb⟩
theorem open_poly2 (hv : Value.okWide Try.prog W .any b0 28 v) (h : DataW.Trod enc Try.prog W 0 (fun _ => true) true 28 v d p) :
    ∃ (A : Option Addr) (n c : Nat) (l : List Pt), v = .slice A n c ∧ Reads W W.heap.size 2 A n (cellsPt l) ∧ n ≤ c ∧ c ≤ maxLen ∧ ∀ x ∈ l, Rg x := by
  obtain ⟨A, n, c, row, rfl, h1, h2, h3, h4, h5⟩ := open_flat_recs (k := 4) (ts := [3, 3]) Try.underlying28 (by kernel_rfl) (by kernel_rfl) (by decide) hv h
  obtain ⟨l, _, hl2, hq⟩ := rows_recs (enc := encPt) (Q := fun x => Rg x) (row := row) (n := n) fun i hi => by
    obtain ⟨a, h0, _⟩ := (h5 i hi).int 0 rfl Try.underlying3
    obtain ⟨b, h1, wb⟩ := (h5 i hi).int 1 rfl Try.underlying3
    exact ⟨(a, b), list2 (h4 i) h0 h1, i64_rg wb⟩
  rw [hl2] at h1
  exact ⟨A, n, c, l, rfl, h1, h2, h3, hq⟩
end
theorem rev_take (p : List Pt) {m j : Nat} (h : m + j + 1 = p.length) : p.reverse.take (m + 1) = p.reverse.take m ++ [pAt p j] := by
  rw [List.take_succ_eq_append_getElem (by rw [List.length_reverse]; omega), List.getElem_reverse, pAt_get (by omega)]
  simp only [show p.length - 1 - m = j by omega]
theorem turned_at (A : Option Addr) (n c : Nat) (p : List Pt) (s : Nat) (z : Int) (t : Bool) (w : World) (h : Reads w w.heap.size 2 A n (cellsPt p)) (hn : n ≤ 1000) (hs : s ≤ 1000) (hz : z = (s : Int)) : Calls Try.prog 24 #[.slice A n c, .int .i64 z, .bool t] w (RetOwn w 23 2 (cellsPt (turnedL p s t))) := by
  subst hz
  exact turned_any A n c p s t w h hn hs
set_option maxHeartbeats 8000000 in
set_option maxRecDepth 10000 in
theorem geoTurns_walk (A : Option Addr) (n cc : Nat) (p : List Pt) (a : Pt) (fs : Int) (w : World) (h : Reads w w.heap.size 2 A n (cellsPt p)) (hnc : n ≤ cc) (hc : cc ≤ maxLen) (wfs : (Lit.int .u8 fs).wf = true) (hrg : ∀ x ∈ p, Rg x) (hra : Rg a) : Calls Try.prog 7 #[.slice A n cc, aggP a, .int .u8 fs] w (AwakePost w) := by
  have hn' : n ≤ 9223372036854775807 := Nat.le_trans hnc hc
  clear hnc hc
  obtain ⟨i0, hi0, hz0, hz1, hz2⟩ := info_parts infoPt
  obtain ⟨f, rfl, hf⟩ := u8_nat wfs
  clear wfs
  obtain ⟨kk, hK⟩ := box1K w 23 #[.int .i64 a.1, .int .i64 a.2]
  have HK := Lib.hid hK
  clear hK
  obtain ⟨B0, hbb⟩ := HK.out _ kk
  have c00 := B0.cell 0
  have c01 := B0.cell 1
  have HB := Lib.hid hbb
  clear B0 hbb
  by_cases h60 : n ≤ 60
  · have HL := Lib.hid (recs_len h encPt_len (by omega))
    have HRA : Hid (∀ u, Below w.heap.size w u → Reads u u.heap.size 2 A n (cellsPt p)) := Lib.hid fun u hu => (h.below hu).more hu.size
    clear h
    obtain ⟨x, hx⟩ : ∃ x, areaZ p = x := ⟨_, rfl⟩
    obtain ⟨y, hy⟩ : ∃ x, checkZ p = x := ⟨_, rfl⟩
    obtain ⟨z, hz⟩ : ∃ x, insZ p a = x := ⟨_, rfl⟩
    obtain ⟨v, hv⟩ : ∃ x, insE p a = x := ⟨_, rfl⟩
    obtain ⟨yb, hyb⟩ : ∃ x, checkZ p.reverse = x := ⟨_, rfl⟩
    obtain ⟨k, hk, hkk⟩ : ∃ k : Nat, k ≤ 1000 ∧ ((n ≤ 0 ∧ Hid ((0 : Int) = (k : Int))) ∨ (0 < n ∧ f % n = k)) := by
      by_cases h0 : n = 0
      · exact ⟨0, by omega, .inl ⟨by omega, Lib.hid rfl⟩⟩
      · exact ⟨f % n, by have := Nat.mod_le f n; omega, .inr ⟨by omega, rfl⟩⟩
    have hwa : tn true a = (wrap64 (-a.2), a.1) := by show (IntKind.i64.wrap (-a.2), a.1) = _; rw [IntWalk.i64_left]
    have HX := Lib.hid hx; have HY := Lib.hid hy; have HZ := Lib.hid hz; have HV := Lib.hid hv; have HYB := Lib.hid hyb
    have HXm := Lib.hid ((turned_area hrg k false).trans hx); have HXt := Lib.hid ((turned_area hrg k true).trans hx)
    have HYm := Lib.hid ((turned_check hrg k false).trans hy); have HYt := Lib.hid ((turned_check hrg k true).trans hy)
    have HZm : Hid (insZ (turnedL p k false) a = z) := Lib.hid ((turned_insZ hrg k false hra).trans hz)
    have HVm : Hid (insE (turnedL p k false) a = v) := Lib.hid ((turned_insE hrg k false hra).trans hv)
    have HZt : Hid (insZ (turnedL p k true) (wrap64 (-a.2), a.1) = z) := Lib.hid (by rw [← hwa]; exact (turned_insZ hrg k true hra).trans hz)
    have HVt : Hid (insE (turnedL p k true) (wrap64 (-a.2), a.1) = v) := Lib.hid (by rw [← hwa]; exact (turned_insE hrg k true hra).trans hv)
    have hcs : (y = 0 ∧ yb = 9 ∧ 0 < x) ∨ (y = 9 ∧ yb = 0 ∧ x = 0) ∨ (y ≠ 0 ∧ y ≠ 9 ∧ yb = y ∧ x = 0) := by
      have := rev_law p
      rw [hx, hy, hyb] at this
      omega
    clear hx hy hz hv hyb hrg hra hwa
    have hwn : IntKind.i64.wrap ((n : Int) - 1) = (n : Int) - 1 := wr_ (by omega)
    have hwf : IntKind.i64.wrap (f : Int) = (f : Int) := wr_ (by omega)
    rcases hkk with ⟨n0, hk0⟩ | ⟨n0, hm0⟩
    all_goals rcases hcs with ⟨rfl, rfl, g1⟩ | ⟨rfl, rfl, rfl⟩ | ⟨g1, g2, hyy, rfl⟩
    rotate_left 3
    all_goals
      first | (have hm : (f : Int).tmod (n : Int) = (k : Int) := (by rw [← hm0]; rfl)
               have hm2 : (f : Int) % (n : Int) = (k : Int) := (by rw [← hm0]; rfl)
               have hn0 : ((n : Int) == 0) = false := (by simp; omega)
               have hnn : n ≠ 0 := (by omega)
               clear hm0) | skip
      first | (have q0 := eq0_f g1; have q9 : (y == 9) = false := (by simpa using g2)) | skip
      go_enter Try.func7, Try.ntmps7
      go_wp2_with fail
      refine (turned_at A n cc p k _ false _ (HRA.out _ HB.out) (by omega) hk (by first | rfl | exact hk0.out)).mono ?_
      rintro e u1 ⟨A1, n1, c1, rfl, hw1, hb1⟩
      replace kk := below_next kk (Nat.le_refl _) hb1
      have hr1 := Reads.of_own hw1
      have HN1 : Hid (n1 ≤ 9223372036854775807) := Lib.hid (by have := recs_len hr1 encPt_len (by omega); rw [turned_len, HL.out] at this; omega)
      have HR1 : Hid (∀ u, Below u1.heap.size u1 u → Reads u u.heap.size 2 A1 n1 (cellsPt (turnedL p k false))) := Lib.hid fun u hu => (hr1.below hu).more hu.size
      have k1 := Below.refl u1.heap.size u1
      clear c00 c01 HB hb1 hr1 hw1
      obtain ⟨B0, hbb⟩ := HK.out _ kk
      have c00 := B0.cell 0
      have c01 := B0.cell 1
      have HB := Lib.hid hbb
      clear B0 hbb
      go_wp2_with fail
      refine (turned_at A n cc p k _ true _ (HRA.out _ HB.out) (by omega) hk (by first | rfl | exact hk0.out)).mono ?_
      rintro e u2 ⟨A2, n2, c2, rfl, hw2, hb1⟩
      replace kk := below_next kk (Nat.le_refl _) hb1
      replace k1 := below_next k1 (Nat.le_refl _) hb1
      have hr2 := Reads.of_own hw2
      have HN2 : Hid (n2 ≤ 9223372036854775807) := Lib.hid (by have := recs_len hr2 encPt_len (by omega); rw [turned_len, HL.out] at this; omega)
      have HR2 : Hid (∀ u, Below u2.heap.size u2 u → Reads u u.heap.size 2 A2 n2 (cellsPt (turnedL p k true))) := Lib.hid fun u hu => (hr2.below hu).more hu.size
      have k2 := Below.refl u2.heap.size u2
      clear c00 c01 HB hb1 hr2 hw2
      obtain ⟨B0, hbb⟩ := HK.out _ kk
      have c00 := B0.cell 0
      have c01 := B0.cell 1
      have HB := Lib.hid hbb
      clear B0 hbb
      go_wp2_with fail
      refine (check_any A n cc p _ _ (HRA.out _ HB.out) hn' HY.out).mono ?_
      rintro e u3 ⟨rfl, hb1⟩
      replace kk := below_next kk (Nat.le_refl _) hb1
      replace k1 := below_next k1 (Nat.le_refl _) hb1
      replace k2 := below_next k2 (Nat.le_refl _) hb1
      clear c00 c01 HB hb1
      obtain ⟨B0, hbb⟩ := HK.out _ kk
      have c00 := B0.cell 0
      have c01 := B0.cell 1
      have HB := Lib.hid hbb
      clear B0 hbb
      go_wp2_with fail
      refine (check_any A1 n1 c1 (turnedL p k false) _ _ (HR1.out _ k1) HN1.out HYm.out).mono ?_
      rintro e u4 ⟨rfl, hb1⟩
      replace kk := below_next kk (Nat.le_refl _) hb1
      replace k1 := below_next k1 (Nat.le_refl _) hb1
      replace k2 := below_next k2 (Nat.le_refl _) hb1
      clear c00 c01 HB hb1
      obtain ⟨B0, hbb⟩ := HK.out _ kk
      have c00 := B0.cell 0
      have c01 := B0.cell 1
      have HB := Lib.hid hbb
      clear B0 hbb
      go_wp2_with fail
      refine (check_any A2 n2 c2 (turnedL p k true) _ _ (HR2.out _ k2) HN2.out HYt.out).mono ?_
      rintro e u5 ⟨rfl, hb1⟩
      replace kk := below_next kk (Nat.le_refl _) hb1
      replace k1 := below_next k1 (Nat.le_refl _) hb1
      replace k2 := below_next k2 (Nat.le_refl _) hb1
      clear c00 c01 HB hb1
      obtain ⟨B0, hbb⟩ := HK.out _ kk
      have c00 := B0.cell 0
      have c01 := B0.cell 1
      have HB := Lib.hid hbb
      clear B0 hbb
      go_wp2_with fail
      refine (area_any A n cc p _ _ _ (HRA.out _ HB.out) hn' HX.out HY.out).mono ?_
      rintro e u6 ⟨rfl, hb1⟩
      replace kk := below_next kk (Nat.le_refl _) hb1
      replace k1 := below_next k1 (Nat.le_refl _) hb1
      replace k2 := below_next k2 (Nat.le_refl _) hb1
      clear c00 c01 HB hb1
      obtain ⟨B0, hbb⟩ := HK.out _ kk
      have c00 := B0.cell 0
      have c01 := B0.cell 1
      have HB := Lib.hid hbb
      clear B0 hbb
      go_wp2_with fail
      refine (area_any A1 n1 c1 (turnedL p k false) _ _ _ (HR1.out _ k1) HN1.out HXm.out HYm.out).mono ?_
      rintro e u7 ⟨rfl, hb1⟩
      replace kk := below_next kk (Nat.le_refl _) hb1
      replace k1 := below_next k1 (Nat.le_refl _) hb1
      replace k2 := below_next k2 (Nat.le_refl _) hb1
      clear c00 c01 HB hb1
      obtain ⟨B0, hbb⟩ := HK.out _ kk
      have c00 := B0.cell 0
      have c01 := B0.cell 1
      have HB := Lib.hid hbb
      clear B0 hbb
      go_wp2_with fail
      refine (area_any A2 n2 c2 (turnedL p k true) _ _ _ (HR2.out _ k2) HN2.out HXt.out HYt.out).mono ?_
      rintro e u8 ⟨rfl, hb1⟩
      replace kk := below_next kk (Nat.le_refl _) hb1
      replace k1 := below_next k1 (Nat.le_refl _) hb1
      replace k2 := below_next k2 (Nat.le_refl _) hb1
      clear c00 c01 HB hb1
      obtain ⟨B0, hbb⟩ := HK.out _ kk
      have c00 := B0.cell 0
      have c01 := B0.cell 1
      have HB := Lib.hid hbb
      clear B0 hbb
      go_wp2_with fail
      refine (inside_any A n cc p a z v _ (HRA.out _ HB.out) hn' HZ.out HV.out).mono ?_
      rintro e u9 ⟨rfl, hb1⟩
      replace kk := below_next kk (Nat.le_refl _) hb1
      replace k1 := below_next k1 (Nat.le_refl _) hb1
      replace k2 := below_next k2 (Nat.le_refl _) hb1
      clear c00 c01 HB hb1
      obtain ⟨B0, hbb⟩ := HK.out _ kk
      have c00 := B0.cell 0
      have c01 := B0.cell 1
      have HB := Lib.hid hbb
      clear B0 hbb
      go_wp2_with fail
      refine (inside_any A1 n1 c1 (turnedL p k false) a z v _ (HR1.out _ k1) HN1.out HZm.out HVm.out).mono ?_
      rintro e u10 ⟨rfl, hb1⟩
      replace kk := below_next kk (Nat.le_refl _) hb1
      replace k1 := below_next k1 (Nat.le_refl _) hb1
      replace k2 := below_next k2 (Nat.le_refl _) hb1
      clear c00 c01 HB hb1
      obtain ⟨B0, hbb⟩ := HK.out _ kk
      have c00 := B0.cell 0
      have c01 := B0.cell 1
      have HB := Lib.hid hbb
      clear B0 hbb
      go_wp2_with fail
      refine (at_any _ _ _).mono ?_
      rintro e u11 ⟨rfl, hb1⟩
      replace kk := below_next kk (Nat.le_refl _) hb1
      replace k1 := below_next k1 (Nat.le_refl _) hb1
      replace k2 := below_next k2 (Nat.le_refl _) hb1
      clear c00 c01 HB hb1
      obtain ⟨B0, hbb⟩ := HK.out _ kk
      have c00 := B0.cell 0
      have c01 := B0.cell 1
      have HB := Lib.hid hbb
      clear B0 hbb
      go_wp2_with fail
      refine (inside_any A2 n2 c2 (turnedL p k true) (wrap64 (-a.2), a.1) z v _ (HR2.out _ k2) HN2.out HZt.out HVt.out).mono ?_
      rintro e u12 ⟨rfl, hb1⟩
      replace kk := below_next kk (Nat.le_refl _) hb1
      replace k1 := below_next k1 (Nat.le_refl _) hb1
      replace k2 := below_next k2 (Nat.le_refl _) hb1
      clear c00 c01 HB hb1
      obtain ⟨B0, hbb⟩ := HK.out _ kk
      have c00 := B0.cell 0
      have c01 := B0.cell 1
      have HB := Lib.hid hbb
      clear B0 hbb
      go_wp2_with fail
      have HRu : Hid (∀ u, Below u12.heap.size u12 u → Reads u u.heap.size 2 A n (cellsPt p)) := Lib.hid fun u hu => HRA.out u (below_next HB.out (Nat.le_refl _) hu)
      clear k1 k2 kk c00 c01
      go_loopw [25, 26] (fun out i wr => ∃ (m : Nat) (A3 : Option Addr) (c3 : Nat), m ≤ n ∧ i = .int .i64 ((n : Int) - 1 - m) ∧ out = .slice A3 m c3 ∧ wr.ownsRow u12.heap.size 23 2 (.slice A3 m c3) m (cellsPt (p.reverse.take m)) ∧ Below u12.heap.size u12 wr) (fun _ i _ => (intOf i + 1).toNat)
      case atStart => exact ⟨0, none, 0, Nat.zero_le _, by go_num, rfl, World.ownsRow_nil _ _ _ _, Below.refl _ _⟩
      case round =>
        obtain ⟨m, A3, c3, hm, rfl, rfl, hown, hbw⟩ := hrel
        have HO := Lib.hid hown
        have HBW := Lib.hid hbw
        have hsw : u12.heap.size ≤ wr.heap.size := hbw.size
        have HRw := Lib.hid (HRu.out _ hbw)
        clear hown hbw
        by_cases hlt : m < n
        · try (exfalso; omega)
          all_goals
            obtain ⟨b, off, rfl, hb, hcl⟩ := pts_cells HRw.out (by omega)
            obtain ⟨j, hj⟩ : ∃ j : Nat, n - 1 - m = j := ⟨_, rfl⟩
            have hjn : j < n := by omega
            obtain ⟨e0, e1⟩ := hcl j hjn
            have hji : (n : Int) - 1 - m = (j : Int) := by omega
            have hw1 : IntKind.i64.wrap ((j : Int) - 1) = (j : Int) - 1 := wr_ (by omega)
            have HT := Lib.hid (rev_take p (m := m) (j := j) (by have := HL.out; omega))
            have hj0 : (0 : Int) ≤ j := by omega
            have hj1 : (j : Int) < n := by omega
            have HJ := Lib.hid hj
            rw [hji]
            clear hcl hj
            go_wp2_with (at_builtin; go_loud (refine wpList_append_any _ rfl (.tmp 123) (.tmp 128) _ rfl u12.heap.size 23 i0 _ 2 16 Try.underlying28 hi0 hz0 hz1 hz2 rfl (by omega) (.slice A3 m c3) m _ rfl (HO.out.alloc _) _ _ 1 1 (encPt (pAt p j)) (by rfl) (frPt _ wr.heap.size rfl (pAt p j)) onePt (by simp only [maxLen]; omega) (by omega) (by simp; omega) ?_; intro v7 w7 hown7 hg7 hat7; obtain ⟨A7, c7, rfl, hr7⟩ := own_reads hown7; have HB7 := Lib.hid (below_own (below_alloc HBW.out (Nat.le_refl _) _) (HO.out.alloc _) hg7 (by simp; omega) (Nat.le_refl _)); have HO7 : Hid (w7.ownsRow u12.heap.size 23 2 (.slice A7 (m + 1) c7) (m + 1) (cellsPt (p.reverse.take (m + 1)))) := Lib.hid (by rw [HT.out, snocPt]; exact hown7); clear hown7 hg7 hat7 hr7))
            go_roundw
            case rel => exact ⟨m + 1, A7, c7, by omega, by have := HJ.out; go_num, rfl, HO7.out, HB7.out⟩
            case measure => first | (have := HJ.out; simp [intOf]; omega) | (have := HJ.out; simp [intOf]; done)
        · obtain rfl : m = n := by omega
          have hm1 : (m : Int) - 1 - m = -1 := by omega
          have HE : Hid (p.reverse.take m = p.reverse) := Lib.hid (List.take_of_length_le (by rw [List.length_reverse]; have := HL.out; omega))
          have HRv : Hid (Reads wr wr.heap.size 2 A3 m (cellsPt p.reverse)) := Lib.hid (by rw [← HE.out]; exact Reads.of_own HO.out)
          rw [hm1]
          go_wp2_with fail
          refine (check_any A3 m c3 p.reverse _ _ HRv.out hn' HYB.out).mono ?_
          rintro e v1 ⟨rfl, hb1⟩
          have HBv := Lib.hid (below_next HB.out (Nat.le_refl _) (below_next HBW.out (Nat.le_refl _) hb1))
          clear hb1
          go_wp2_with fail
          refine (awake_any _).mono ?_
          rintro e v2 ⟨rfl, hb1⟩
          have HBv2 := Lib.hid (below_next HBv.out (Nat.le_refl _) hb1)
          clear hb1
          go_wp2_with fail
          go_ret
          exact ⟨rfl, HBv2.out⟩

  · have h61 : 60 < n := by omega
    go_enter Try.func7, Try.ntmps7
    go_wp2_with fail
    refine (awake_any _).mono ?_
    rintro e w9 ⟨rfl, hb9⟩
    go_wp2_with fail
    go_ret
    exact ⟨rfl, below_next HB.out (Nat.le_refl _) hb9⟩
end Go.Proofs.Ytomnodpmpdodbaa
