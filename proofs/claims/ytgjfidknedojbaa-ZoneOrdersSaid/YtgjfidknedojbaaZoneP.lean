/- The walk of the statement ZoneOrders. -/
import Derived.Test.YtgjfidknedojbaaZoneO
namespace Go.Proofs.Ytgjfidknedojbaa
open Go.RowKit
theorem snocZ (l : List Zn) (z : Zn) : cellsZ (l ++ [z]) = cellsZ l ++ encZ z := by simp [cellsZ]
theorem oneZn {z : Zn} : ∀ u ∈ encZ z, u.oneCell' = true := by
  intro u hu
  simp only [encZ, List.mem_cons, List.not_mem_nil, or_false] at hu
  rcases hu with rfl | rfl | rfl <;> simp [Value.oneCell']
theorem infoZn : (Try.prog.info? 45).map (fun i => (i.zero, i.size, i.bytes)) = some (some (.agg #[.string .empty, .slice none 0 0, .int .i64 0]), 3, 48) := by kernel_rfl
theorem fr1Z (u : World) (z : Zn) : Reads (u.alloc (.cells #[.string z.s, .slice z.A z.n z.c, .int .i64 z.r] 45)) (u.heap.size + 1) 3 (some ⟨u.heap.size, 0, none⟩) 1 (encZ z) := by simpa [encZ] using Reads.fresh1 u 45 #[.string z.s, .slice z.A z.n z.c, .int .i64 z.r] 3 rfl
theorem take_rev {l : List Zn} {k j : Nat} (hk : k < l.length) (hj : j + k + 1 = l.length) : l.reverse.take (k + 1) = l.reverse.take k ++ [l[j]'(by omega)] := by
  rw [List.take_succ_eq_append_getElem (by simpa using hk)]
  congr 2
  rw [List.getElem_reverse]
  congr 1
  omega
theorem iAt_rev {l : List Zn} {p : Pt} {r : Int} {t m : Nat} (hm : (possZ l p r).length = m) (ht : t < m) : iAt (ints (possZ l.reverse p r)) (m - 1 - t) = (l.length : Int) - 1 - iAt (ints (possZ l p r)) t := by
  rw [poss_rev, iAt_get (by simp [ints]; omega), iAt_get (by simp [ints]; omega)]
  simp only [ints, List.getElem_map, List.getElem_reverse, List.length_map]
  have e : (possZ l p r).length - 1 - (m - 1 - t) = t := by omega
  simp only [e]
  have := poss_lt (List.getElem_mem (l := possZ l p r) (n := t) (by omega))
  omega
/-- What Sure says of a list and of the opposite one. -/
theorem rev_cases (l : List Zn) (p : Pt) (r : Int) (n : Nat) (hn : l.length = n) : ∃ (i i' : Int) (b : Bool), numO (sureZ l p r) = i ∧ (sureZ l p r).isSome = b ∧ numO (sureZ l.reverse p r) = i' ∧ (sureZ l.reverse p r).isSome = b ∧ (b = false ∨ (b = true ∧ 0 ≤ i ∧ i < n ∧ i' = (n : Int) - 1 - i)) := by
  rw [sure_rev]
  rcases h : sureZ l p r with _ | i
  · exact ⟨0, 0, false, rfl, rfl, rfl, rfl, .inl rfl⟩
  · have := (sure_inv h).2.1
    exact ⟨i, (n : Int) - 1 - i, true, rfl, rfl, by show ((l.length - 1 - i : Nat) : Int) = _; omega, rfl, .inr ⟨rfl, by omega, by omega, rfl⟩⟩
theorem poss_len_rev (l : List Zn) (p : Pt) (r : Int) : (possZ l.reverse p r).length = (possZ l p r).length := by rw [poss_rev]; simp
set_option maxHeartbeats 8000000 in
set_option maxRecDepth 20000 in
theorem zoneOrders_walk (A : Option Addr) (n c : Nat) (l : List Zn) (p : Pt) (r : Int) (w : World) (h : ZR w A n l) (hnc : n ≤ c) (hc : c ≤ maxLen) : Calls Try.prog 9 #[.slice A n c, aggP p, .int .i64 r] w (AwakePost w) := by
  have hn' : n ≤ 9223372036854775807 := Nat.le_trans hnc hc
  have HZA : Hid (∀ u, Below w.heap.size w u → ZR u A n l) := Lib.hid fun u hu => h.below hu
  have HL := Lib.hid h.2.2
  obtain ⟨f, hf⟩ : ∃ f, fewB l = f := ⟨_, rfl⟩
  have HF := Lib.hid hf
  clear h hf hc
  obtain ⟨i0, hi0, hz0, hz1, hz2⟩ := info_parts infoZn
  rcases f with _ | _
  · skip
    obtain ⟨kk, hK⟩ := box1K w 28 #[.int .i64 p.1, .int .i64 p.2]
    have HK := Lib.hid hK
    clear hK
    obtain ⟨B0, hbb⟩ := HK.out _ kk
    have c00 := B0.cell 0
    have c01 := B0.cell 1
    have HB := Lib.hid hbb
    clear B0 hbb
    go_enter Try.func9, Try.ntmps9
    go_wp2_with fail
    refine (few_any A n c l false _ (HZA.out _ HB.out) hn' HF.out).mono ?_
    rintro e w1 ⟨rfl, hb1⟩
    replace kk := below_next kk (Nat.le_refl _) hb1
    clear c00 c01 HB hb1
    obtain ⟨B0, hbb⟩ := HK.out _ kk
    have c00 := B0.cell 0
    have c01 := B0.cell 1
    have HB := Lib.hid hbb
    clear B0 hbb
    go_wp2_with fail
    refine (awake_any _).mono ?_
    rintro e w2 ⟨rfl, hb2⟩
    replace kk := below_next kk (Nat.le_refl _) hb2
    clear c00 c01 HB hb2
    obtain ⟨B0, hbb⟩ := HK.out _ kk
    have c00 := B0.cell 0
    have c01 := B0.cell 1
    have HB := Lib.hid hbb
    clear B0 hbb
    go_wp2_with fail
    go_ret
    exact ⟨rfl, HB.out⟩
  have hn20 : n ≤ 20 := by have := few_len HF.out; have := HL.out; omega
  have f1 := wr_ (n := (n : Int) - 1) (by omega)
  obtain ⟨kk, hK⟩ := box1K w 28 #[.int .i64 p.1, .int .i64 p.2]
  have HK := Lib.hid hK
  clear hK
  obtain ⟨B0, hbb⟩ := HK.out _ kk
  have c00 := B0.cell 0
  have c01 := B0.cell 1
  have HB := Lib.hid hbb
  clear B0 hbb
  go_enter Try.func9, Try.ntmps9
  go_wp2_with fail
  refine (few_any A n c l true _ (HZA.out _ HB.out) hn' HF.out).mono ?_
  rintro e w1 ⟨rfl, hb1⟩
  replace kk := below_next kk (Nat.le_refl _) hb1
  clear c00 c01 HB hb1
  obtain ⟨B0, hbb⟩ := HK.out _ kk
  have c00 := B0.cell 0
  have c01 := B0.cell 1
  have HB := Lib.hid hbb
  clear B0 hbb
  obtain ⟨K, hKK⟩ : ∃ K : World, K = (w.alloc (.cells #[.int .i64 p.1, .int .i64 p.2] 28)) := ⟨_, rfl⟩
  have HKX := Lib.hid HK.out
  rw [← hKK] at kk HKX
  have HKK := Lib.hid kk
  have HT0 : Hid (Two w1.heap.size w1 w1 45 3 (.slice none 0 0) 0 [] 3 1 (.slice none 0 0) 0 []) := Lib.hid ⟨Below.refl _ _, Nat.le_refl _, World.ownsRow_nil _ _ _ _, World.ownsRow_nil _ _ _ _, fun g h => by simp [Value.ownBlock] at h⟩
  clear hKK kk HB c00 c01
  go_wp2_with fail
  go_loopw [7, 8] (fun s7 s8 wr => ∃ (k : Nat) (B : Option Addr) (cc : Nat), k ≤ n ∧ s8 = .int .i64 ((n : Int) - 1 - k) ∧ s7 = .slice B k cc ∧ Two w1.heap.size w1 wr 45 3 (.slice B k cc) k (cellsZ (l.reverse.take k)) 3 1 (.slice none 0 0) 0 []) (fun _ s _ => (intOf s + 1).toNat)
  case atStart => exact ⟨0, none, 0, Nat.zero_le _, by simp, rfl, HT0.out⟩
  case round =>
    obtain ⟨k, B, cc, hk, rfl, rfl, hT⟩ := hrel
    have HTw := Lib.hid hT
    have hbw := hT.below
    have HBW := Lib.hid (below_next HKK.out (Nat.le_refl _) hbw)
    clear hT hbw
    by_cases hlt : k < n
    · obtain ⟨j, hj⟩ : ∃ j : Nat, j + k + 1 = n := ⟨n - 1 - k, by omega⟩
      have hjl : j < l.length := by have := HL.out; omega
      have hji : (n : Int) - 1 - k = j := by omega
      have HZr := Lib.hid (HZA.out _ (HKX.out _ HBW.out).2)
      obtain ⟨b, off, rfl, hb, hc⟩ := HZr.out.cells (by omega)
      obtain ⟨d0, d1, d2⟩ := hc j hjl
      have HTK : Hid (l.reverse.take (k + 1) = l.reverse.take k ++ [l[j]]) := Lib.hid (take_rev (l := l) (k := k) (j := j) (by have := HL.out; omega) (by have := HL.out; omega))
      rw [hji]
      have hj0 : (0 : Int) ≤ j := by omega
      have hj1 : (j : Int) < n := by omega
      have HJI := Lib.hid hji
      have HJ := Lib.hid hj
      have T := HTw.out
      have fj := wr_ (n := (j : Int) - 1) (by omega)
      clear hc hji hj
      go_wp2_with (at_builtin; refine wpList_append_any _ rfl (.tmp 31) (.tmp 36) _ rfl _ 45 i0 _ 3 48 Try.underlying22 hi0 hz0 hz1 hz2 rfl (by omega) (.slice B k cc) k _ rfl (T.alloc _).ownX _ _ 1 1 (encZ l[j]) (by rfl) (fr1Z _ l[j]) oneZn (by simp only [maxLen]; omega) (by omega) (T.alloc _).base ?_; intro v7 w7 hown7 hg7 hat7; obtain ⟨A7, c7, rfl, hr7⟩ := own_reads hown7; rw [← snocZ, ← HTK.out] at hown7; have T := (T.alloc _).left hown7 hg7 hat7; clear hown7 hg7 hat7 hr7)
      go_roundw
      case rel =>
        have h2 : ((j : Int) - 1) = (n : Int) - 1 - ((k + 1 : Nat) : Int) := by have := HJI.out; omega
        exact ⟨k + 1, A7, c7, by omega, by rw [h2], rfl, T⟩
      case measure => first | (simp [intOf]; done) | (simp [intOf]; omega)
    · obtain rfl : k = n := by omega
      have hm1 : (k : Int) - 1 - k = -1 := by omega
      have hle : l.reverse.take k = l.reverse := List.take_of_length_le (by rw [List.length_reverse]; have := HL.out; omega)
      have HZB : Hid (ZR wr B k l.reverse) := Lib.hid (by
        have hr := Reads.of_own HTw.out.ownX
        rw [hle] at hr
        refine ⟨hr, fun z hz => ?_, by rw [List.length_reverse]; exact HL.out⟩
        exact (HZA.out _ (HKX.out _ HBW.out).2).2.1 z (by simpa using hz))
      have hbc : k ≤ cc := own_cap HTw.out.ownX
      rw [hm1]
      clear hm1 hle
      have HKF : Hid (∀ u, Below wr.heap.size wr u → (u.cell? ⟨w.heap.size, 0, none⟩ = some (.int .i64 p.1) ∧ u.cell? ⟨w.heap.size, 1, none⟩ = some (.int .i64 p.2)) ∧ ZR u A k l ∧ ZR u B k l.reverse ∧ Below w.heap.size w u) := Lib.hid fun u hu =>
        have h0 := HKX.out _ (below_next HBW.out (Nat.le_refl _) hu)
        ⟨⟨(h0.1.cell 0).trans rfl, (h0.1.cell 1).trans rfl⟩, HZA.out _ h0.2, HZB.out.below hu, h0.2⟩
      have kk := Below.refl wr.heap.size wr
      obtain ⟨y, hy⟩ : ∃ y, zcheckZ l = y := ⟨_, rfl⟩
      obtain ⟨y2, hy2⟩ : ∃ y, zcheckZ l.reverse = y := ⟨_, rfl⟩
      have hyy : ((y == 0) = true ∧ (y2 == 0) = true) ∨ ((y == 0) = false ∧ (y2 == 0) = false) := by
        by_cases g : y = 0
        · exact .inl ⟨eq0_t g, eq0_t (by rw [← hy2]; exact (zcheck_rev l).2 (by rw [hy]; exact g))⟩
        · exact .inr ⟨eq0_f g, eq0_f fun e => g (by rw [← hy]; exact (zcheck_rev l).1 (by rw [hy2]; exact e))⟩
      have HY := Lib.hid hy; have HY2 := Lib.hid hy2; have HYY := Lib.hid hyy
      obtain ⟨i1, i2, b1, e1, e2, e3, e4, hcs1⟩ := rev_cases l p 0 k HL.out
      obtain ⟨i3, i4, b2, e5, e6, e7, e8, hcs2⟩ := rev_cases l p r k HL.out
      have E1 := Lib.hid e1; have E2 := Lib.hid e2; have E3 := Lib.hid e3; have E4 := Lib.hid e4
      have E5 := Lib.hid e5; have E6 := Lib.hid e6; have E7 := Lib.hid e7; have E8 := Lib.hid e8
      have HC1 := Lib.hid hcs1; have HC2 := Lib.hid hcs2
      clear hy hy2 hyy e1 e2 e3 e4 e5 e6 e7 e8 hcs1 hcs2 HZB
      obtain ⟨⟨c00, c01⟩, hz, hzb, hbb⟩ := HKF.out _ kk
      have HZ := Lib.hid hz; have HZB := Lib.hid hzb; have HBB := Lib.hid hbb
      clear hz hzb hbb
      go_wp2_with fail
      refine (zcheck_any A k c l y _ HZ.out hn' hnc HY.out).mono ?_
      rintro e w21 ⟨rfl, hb21⟩
      replace kk := below_next kk (Nat.le_refl _) hb21
      clear c00 c01 HZ HZB HBB hb21
      obtain ⟨⟨c00, c01⟩, hz, hzb, hbb⟩ := HKF.out _ kk
      have HZ := Lib.hid hz; have HZB := Lib.hid hzb; have HBB := Lib.hid hbb
      clear hz hzb hbb
      go_wp2_with fail
      refine (zcheck_any B k cc l.reverse y2 _ HZB.out hn' hbc HY2.out).mono ?_
      rintro e w22 ⟨rfl, hb22⟩
      replace kk := below_next kk (Nat.le_refl _) hb22
      clear c00 c01 HZ HZB HBB hb22
      obtain ⟨⟨c00, c01⟩, hz, hzb, hbb⟩ := HKF.out _ kk
      have HZ := Lib.hid hz; have HZB := Lib.hid hzb; have HBB := Lib.hid hbb
      clear hz hzb hbb
      rcases HYY.out with ⟨t1, t2⟩ | ⟨t1, t2⟩
      all_goals
        go_wp2_with fail
        refine (find_nb A k c l p i1 b1 _ HZ.out hn' hnc E1.out E2.out).mono ?_
        rintro e w23 ⟨rfl, hb23⟩
        replace kk := below_next kk (Nat.le_refl _) hb23
        clear c00 c01 HZ HZB HBB hb23
        obtain ⟨⟨c00, c01⟩, hz, hzb, hbb⟩ := HKF.out _ kk
        have HZ := Lib.hid hz; have HZB := Lib.hid hzb; have HBB := Lib.hid hbb
        clear hz hzb hbb
        go_wp2_with fail
        refine (find_nb B k cc l.reverse p i2 b1 _ HZB.out hn' hbc E3.out E4.out).mono ?_
        rintro e w24 ⟨rfl, hb24⟩
        replace kk := below_next kk (Nat.le_refl _) hb24
        clear c00 c01 HZ HZB HBB hb24
        obtain ⟨⟨c00, c01⟩, hz, hzb, hbb⟩ := HKF.out _ kk
        have HZ := Lib.hid hz; have HZB := Lib.hid hzb; have HBB := Lib.hid hbb
        clear hz hzb hbb
        go_wp2_with fail
        refine (sure_nb A k c l p r i3 b2 _ HZ.out hn' hnc E5.out E6.out).mono ?_
        rintro e w25 ⟨rfl, hb25⟩
        replace kk := below_next kk (Nat.le_refl _) hb25
        clear c00 c01 HZ HZB HBB hb25
        obtain ⟨⟨c00, c01⟩, hz, hzb, hbb⟩ := HKF.out _ kk
        have HZ := Lib.hid hz; have HZB := Lib.hid hzb; have HBB := Lib.hid hbb
        clear hz hzb hbb
        go_wp2_with fail
        refine (sure_nb B k cc l.reverse p r i4 b2 _ HZB.out hn' hbc E7.out E8.out).mono ?_
        rintro e w26 ⟨rfl, hb26⟩
        replace kk := below_next kk (Nat.le_refl _) hb26
        clear c00 c01 HZ HZB HBB hb26
        obtain ⟨⟨c00, c01⟩, hz, hzb, hbb⟩ := HKF.out _ kk
        have HZ := Lib.hid hz; have HZB := Lib.hid hzb; have HBB := Lib.hid hbb
        clear hz hzb hbb
        obtain ⟨x, hx⟩ : ∃ x, possZ l p r = x := ⟨_, rfl⟩
        obtain ⟨y', hy'⟩ : ∃ x, possZ l.reverse p r = x := ⟨_, rfl⟩
        have HX := Lib.hid hx; have HXR := Lib.hid hy'
        have HLEN : Hid (y'.length = x.length) := Lib.hid (by rw [← hx, ← hy']; exact poss_len_rev l p r)
        clear hx hy' t1 t2
        have g1 : b1 = false ∨ (b1 = true ∧ i2 = (k : Int) - 1 - i1 ∧ IntKind.i64.wrap ((k : Int) - 1 - i1) = (k : Int) - 1 - i1) := by
          rcases HC1.out with h | ⟨h, h1, h2, h3⟩
          · exact .inl h
          · exact .inr ⟨h, h3, wr_ (by omega)⟩
        have g2 : b2 = false ∨ (b2 = true ∧ i4 = (k : Int) - 1 - i3 ∧ IntKind.i64.wrap ((k : Int) - 1 - i3) = (k : Int) - 1 - i3) := by
          rcases HC2.out with h | ⟨h, h1, h2, h3⟩
          · exact .inl h
          · exact .inr ⟨h, h3, wr_ (by omega)⟩
        have G1 := Lib.hid g1; have G2 := Lib.hid g2
        clear g1 g2
        rcases G1.out with rfl | ⟨rfl, rfl, fa⟩ <;> rcases G2.out with rfl | ⟨rfl, rfl, fb⟩
        all_goals
          go_upto_region 16 with fail
          have KS : ∀ {w'}, Below wr.heap.size wr w' → (w'.cell? ⟨w.heap.size, 0, none⟩ = some (.int .i64 p.1) ∧ w'.cell? ⟨w.heap.size, 1, none⟩ = some (.int .i64 p.2)) := fun h => (HKF.out _ h).1
          go_region_held3 (fun w' => w'.cell? ⟨w.heap.size, 0, none⟩ = some (.int .i64 p.1) ∧ w'.cell? ⟨w.heap.size, 1, none⟩ = some (.int .i64 p.2)) (first | exact KS kk | exact KS (below_drew_ kk) | go_keep)
            (first
              | (go_at_call 19; (with_reducible show Calls Try.prog 19 #[.slice A _ _, _, _] _ _); refine (poss_any A k c l p r x _ (HKF.out _ kk).2.1 hn' hnc HX.out).mono ?_; rintro e w5 ⟨hb, P1, n1, c1, rfl, p1, hl, hm1⟩; have HN1 := Lib.hid hl; clear hl; have q1 := ((q1).below hb).more hb.size; have kk := below_next kk (Nat.le_refl _) hb; clear hb)
              | (go_at_call 19; (with_reducible show Calls Try.prog 19 #[.slice B _ _, _, _] _ _); refine (poss_any B k cc l.reverse p r y' _ (HKF.out _ kk).2.2.1 hn' hbc HXR.out).mono ?_; rintro e w6 ⟨hb, Q1, m1, d1, rfl, q1, hl, hm2⟩; have HN2 := Lib.hid hl; clear hl; have p1 := ((p1).below hb).more hb.size; have kk := below_next kk (Nat.le_refl _) hb; clear hb)
              | (go_at_call 19; (with_reducible show Calls Try.prog 19 #[.slice A _ _, _, _] _ _); refine (poss_any A k c l p r x _ (HKF.out _ (below_drew_ kk)).2.1 hn' hnc HX.out).mono ?_; rintro e w5 ⟨hb, P1, n1, c1, rfl, p1, hl, hm1⟩; have HN1 := Lib.hid hl; clear hl; have q1 := ((q1.drew).below hb).more hb.size; have kk := below_next (below_drew_ kk) (Nat.le_refl _) hb; clear hb)
              | (go_at_call 19; (with_reducible show Calls Try.prog 19 #[.slice B _ _, _, _] _ _); refine (poss_any B k cc l.reverse p r y' _ (HKF.out _ (below_drew_ kk)).2.2.1 hn' hbc HXR.out).mono ?_; rintro e w6 ⟨hb, Q1, m1, d1, rfl, q1, hl, hm2⟩; have HN2 := Lib.hid hl; clear hl; have p1 := ((p1.drew).below hb).more hb.size; have kk := below_next (below_drew_ kk) (Nat.le_refl _) hb; clear hb)
              | (go_at_call 19; (with_reducible show Calls Try.prog 19 #[.slice A _ _, _, _] _ _); refine (poss_any A k c l p r x _ (HKF.out _ kk).2.1 hn' hnc HX.out).mono ?_; rintro e w5 ⟨hb, P1, n1, c1, rfl, p1, hl, hm1⟩; have HN1 := Lib.hid hl; clear hl; have kk := below_next kk (Nat.le_refl _) hb; clear hb)
              | (go_at_call 19; (with_reducible show Calls Try.prog 19 #[.slice B _ _, _, _] _ _); refine (poss_any B k cc l.reverse p r y' _ (HKF.out _ kk).2.2.1 hn' hbc HXR.out).mono ?_; rintro e w6 ⟨hb, Q1, m1, d1, rfl, q1, hl, hm2⟩; have HN2 := Lib.hid hl; clear hl; have kk := below_next kk (Nat.le_refl _) hb; clear hb)
              | (go_at_call 19; (with_reducible show Calls Try.prog 19 #[.slice A _ _, _, _] _ _); refine (poss_any A k c l p r x _ (HKF.out _ (below_drew_ kk)).2.1 hn' hnc HX.out).mono ?_; rintro e w5 ⟨hb, P1, n1, c1, rfl, p1, hl, hm1⟩; have HN1 := Lib.hid hl; clear hl; have kk := below_next (below_drew_ kk) (Nat.le_refl _) hb; clear hb)
              | (go_at_call 19; (with_reducible show Calls Try.prog 19 #[.slice B _ _, _, _] _ _); refine (poss_any B k cc l.reverse p r y' _ (HKF.out _ (below_drew_ kk)).2.2.1 hn' hbc HXR.out).mono ?_; rintro e w6 ⟨hb, Q1, m1, d1, rfl, q1, hl, hm2⟩; have HN2 := Lib.hid hl; clear hl; have kk := below_next (below_drew_ kk) (Nat.le_refl _) hb; clear hb))
          all_goals
            have HP := Lib.hid p1; have HQ := Lib.hid q1
            have hmn : m1 = n1 := by have h1 := HN1.out; have h2 := HN2.out; rw [ints_len] at h1 h2; have := HLEN.out; omega
            subst hmn
            have HKK2 := Lib.hid kk
            clear p1 q1 kk KS c00 c01 HZ HZB HBB
            go_wp2_with fail
            go_loopw [19] (fun s wr2 => ∃ t : Nat, t ≤ m1 ∧ s = .int .i64 t ∧ Below wr.heap.size wr wr2 ∧ Hid (Reads wr2 wr2.heap.size 1 P1 m1 (cellsI (ints x))) ∧ Hid (Reads wr2 wr2.heap.size 1 Q1 m1 (cellsI (ints y')))) (fun s _ => m1 - (intOf s).toNat)
            case atStart => exact ⟨0, Nat.zero_le _, rfl, HKK2.out, Lib.hid HP.out, Lib.hid HQ.out⟩
            case round =>
              rename_i _ wn
              obtain ⟨t, ht, rfl, hbw2, HPr, HQr⟩ := hrel
              have HBW2 := Lib.hid hbw2
              clear hbw2
              by_cases hlt2 : t < m1
              · obtain ⟨j, hj⟩ : ∃ j : Nat, j + t + 1 = m1 := ⟨m1 - 1 - t, by omega⟩
                obtain ⟨b, off, rfl, hb, hc⟩ := ints_cells HPr.out (by omega)
                obtain ⟨b', off', rfl, hb', hc'⟩ := ints_cells HQr.out (by omega)
                have e0 := hc t hlt2
                have e1 := hc' j (by omega)
                have hk0 : (0 : Int) ≤ t := by omega
                have hk1 : (t : Int) < m1 := by omega
                have hj0 : (0 : Int) ≤ j := by omega
                have hj1 : (j : Int) < m1 := by omega
                have hji : (m1 : Int) - 1 - t = j := by omega
                have hjn : j = m1 - 1 - t := by omega
                clear hc hc'
                obtain ⟨u, hu⟩ : ∃ u, iAt (ints x) t = u := ⟨_, rfl⟩
                have hub : 0 ≤ u ∧ u < k := by
                  rw [← hu, iAt_get (by have := HN1.out; omega)]
                  obtain ⟨q, hq, e⟩ := List.mem_map.1 (List.getElem_mem (l := ints x) (n := t) (by have := HN1.out; omega))
                  rw [← e]
                  have := poss_lt (l := l) (p := p) (r := r) (i := q) (by rw [HX.out]; exact hq)
                  have := HL.out
                  omega
                have hv : iAt (ints y') j = (k : Int) - 1 - u := by
                  have := iAt_rev (l := l) (p := p) (r := r) (t := t) (m := m1) (by have := HN1.out; rw [ints_len] at this; rw [HX.out]; exact this.symm) hlt2
                  rw [HX.out, HXR.out, hu, HL.out, ← hjn] at this
                  exact this
                rw [hu] at e0
                rw [hv] at e1
                have q1 := wr_ (n := (m1 : Int) - 1) (by omega)
                have q2 : IntKind.i64.wrap ((m1 : Int) - 1 - t) = j := (wr_ (n := (m1 : Int) - 1 - t) (by omega)).trans hji
                have q3 := wr_ (n := (k : Int) - 1 - u) (by omega)
                clear hu hub hv hji hjn hj
                go_wp2_with fail
                go_quiet (fail)
                clear q1 q2 q3 e0 e1
                go_wp2_with fail
                go_roundw
                case rel => exact ⟨t + 1, by omega, by go_num, below_drewN HBW2.out _, Lib.hid (HPr.out.drewN _), Lib.hid (HQr.out.drewN _)⟩
                case measure => simp [intOf]; omega
              · have HBB2 := Lib.hid (HKF.out _ HBW2.out).2.2.2
                go_wp2_with fail
                refine (awake_any _).mono ?_
                rintro e w9 ⟨rfl, hb9⟩
                go_wp2_with fail
                go_ret
                exact ⟨rfl, below_next HBB2.out (Nat.le_refl _) hb9⟩
end Go.Proofs.Ytgjfidknedojbaa
