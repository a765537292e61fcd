/- The walks of the reference's Next, Open, Settled, Refused. -/
import Derived.Test.YtakjdffebpcmnaaRdA
namespace Go.Proofs.Ytakjdffebpcmnaa
open Go.RowKit Go.Maps
set_option maxHeartbeats 400000 in
theorem ropen_any (A T S : Option Addr) (n c c2 c3 : Nat) (l : List En) (w : World) (hr : Reads w w.heap.size 3 A n (cellsP (rdP l))) (hs : Reads w w.heap.size 1 S n (ints (rdS l))) (hn : n ≤ 100000) :
    Calls Try.prog 34 #[.agg #[.slice A n c, .slice T n c2, .slice S n c3]] w (RetOwn w 23 3 (cellsP (ofS l 0))) := by
  have B0 := Blk.new w 44 #[.slice A n c, .slice T n c2, .slice S n c3]
  have hbx := below_alloc (Below.refl w.heap.size w) (Nat.le_refl _) (.cells #[.slice A n c, .slice T n c2, .slice S n c3] 44)
  have C := Lib.hid (rof_any A T S n c c2 c3 l 0 33 _ ((hr.below hbx).more hbx.size) ((hs.below hbx).more hbx.size) hn stR_lost)
  have HBX := Lib.hid hbx
  have q0 := (B0.cell 0).trans rfl; have q1 := (B0.cell 1).trans rfl; have q2 := (B0.cell 2).trans rfl
  clear hr hs B0 hbx
  go_enter Try.func34, Try.ntmps34
  go_wp2_with fail
  refine C.out.mono ?_
  rintro e w1 ⟨A1, n1, c1, rfl, ho, hb⟩
  have HO := Lib.hid ho
  clear ho
  go_wp2_with fail
  go_ret
  exact ⟨A1, n1, c1, rfl, own_mono HO.out (by simp), HBX.out.trans (hb.mono (by simp))⟩
set_option maxHeartbeats 400000 in
theorem rsettled_any (A T S : Option Addr) (n c c2 c3 : Nat) (l : List En) (w : World) (hr : Reads w w.heap.size 3 A n (cellsP (rdP l))) (hs : Reads w w.heap.size 1 S n (ints (rdS l))) (hn : n ≤ 100000) :
    Calls Try.prog 35 #[.agg #[.slice A n c, .slice T n c2, .slice S n c3]] w (RetOwn w 23 3 (cellsP (ofS l 1))) := by
  have B0 := Blk.new w 44 #[.slice A n c, .slice T n c2, .slice S n c3]
  have hbx := below_alloc (Below.refl w.heap.size w) (Nat.le_refl _) (.cells #[.slice A n c, .slice T n c2, .slice S n c3] 44)
  have C := Lib.hid (rof_any A T S n c c2 c3 l 1 0 _ ((hr.below hbx).more hbx.size) ((hs.below hbx).more hbx.size) hn stR_ok)
  have HBX := Lib.hid hbx
  have q0 := (B0.cell 0).trans rfl; have q1 := (B0.cell 1).trans rfl; have q2 := (B0.cell 2).trans rfl
  clear hr hs B0 hbx
  go_enter Try.func35, Try.ntmps35
  go_wp2_with fail
  refine C.out.mono ?_
  rintro e w1 ⟨A1, n1, c1, rfl, ho, hb⟩
  have HO := Lib.hid ho
  clear ho
  go_wp2_with fail
  go_ret
  exact ⟨A1, n1, c1, rfl, own_mono HO.out (by simp), HBX.out.trans (hb.mono (by simp))⟩
set_option maxHeartbeats 400000 in
theorem rrefused_any (A T S : Option Addr) (n c c2 c3 : Nat) (l : List En) (w : World) (hr : Reads w w.heap.size 3 A n (cellsP (rdP l))) (hs : Reads w w.heap.size 1 S n (ints (rdS l))) (hn : n ≤ 100000) :
    Calls Try.prog 36 #[.agg #[.slice A n c, .slice T n c2, .slice S n c3]] w (RetOwn w 23 3 (cellsP (ofS l 2))) := by
  have B0 := Blk.new w 44 #[.slice A n c, .slice T n c2, .slice S n c3]
  have hbx := below_alloc (Below.refl w.heap.size w) (Nat.le_refl _) (.cells #[.slice A n c, .slice T n c2, .slice S n c3] 44)
  have C := Lib.hid (rof_any A T S n c c2 c3 l 2 21 _ ((hr.below hbx).more hbx.size) ((hs.below hbx).more hbx.size) hn stR_diff)
  have HBX := Lib.hid hbx
  have q0 := (B0.cell 0).trans rfl; have q1 := (B0.cell 1).trans rfl; have q2 := (B0.cell 2).trans rfl
  clear hr hs B0 hbx
  go_enter Try.func36, Try.ntmps36
  go_wp2_with fail
  refine C.out.mono ?_
  rintro e w1 ⟨A1, n1, c1, rfl, ho, hb⟩
  have HO := Lib.hid ho
  clear ho
  go_wp2_with fail
  go_ret
  exact ⟨A1, n1, c1, rfl, own_mono HO.out (by simp), HBX.out.trans (hb.mono (by simp))⟩
set_option maxHeartbeats 1000000 in
set_option maxRecDepth 10000 in
theorem rnext_any (A T S : Option Addr) (n c c2 c3 : Nat) (l : List En) (w : World) (hr : Reads w w.heap.size 3 A n (cellsP (rdP l))) (ht : Reads w w.heap.size 1 T n (ints (rdT l))) (hs : Reads w w.heap.size 1 S n (ints (rdS l))) (hn : n ≤ 100000) :
    Calls Try.prog 33 #[.agg #[.slice A n c, .slice T n c2, .slice S n c3]] w (RetPB w (nextP l) (nextB l)) := by
  have B0 := (Blk.new w 44 #[.slice A n c, .slice T n c2, .slice S n c3]).alloc (.cells #[.int .i64 0, .int .i64 0, .int .i64 0] 23)
  have hb2 := Blk.new (w.alloc (.cells #[.slice A n c, .slice T n c2, .slice S n c3] 44)) 23 #[.int .i64 0, .int .i64 0, .int .i64 0]
  have hbx := below_alloc (below_alloc (Below.refl w.heap.size w) (Nat.le_refl _) (.cells #[.slice A n c, .slice T n c2, .slice S n c3] 44)) (Nat.le_refl _) (.cells #[.int .i64 0, .int .i64 0, .int .i64 0] 23)
  have e1 : (w.alloc (.cells #[.slice A n c, .slice T n c2, .slice S n c3] 44)).heap.size = w.heap.size + 1 := by simp
  rw [e1] at hb2
  clear e1
  obtain ⟨u, hu⟩ : ∃ u, (w.alloc (.cells #[.slice A n c, .slice T n c2, .slice S n c3] 44)).alloc (.cells #[.int .i64 0, .int .i64 0, .int .i64 0] 23) = u := ⟨_, rfl⟩
  rw [hu] at B0 hb2 hbx
  have HU := Lib.hid hu
  have HR := Lib.hid (hr.below hbx)
  have HT := Lib.hid (ht.below hbx)
  have HS := Lib.hid (hs.below hbx)
  have HL : Hid (l.length = n) := Lib.hid (by have := recs_len hr encP_len (by omega); rwa [rdP_len] at this)
  have HB0 := Lib.hid B0
  have HB2 := Lib.hid hb2
  have HBX := Lib.hid hbx
  clear hr ht hs B0 hb2 hbx hu
  go_enter Try.func33, Try.ntmps33
  go_upto_region 1 with fail
  rw [HU.out]
  go_wp2_with fail
  go_loopw [4, 5] (fun bs i wr => ∃ k q : Nat, k ≤ n ∧ i = .int .i64 k ∧ bs = .int .i64 (bst l k) ∧ Hid (wr = u.drewN q)) (fun _ i _ => n - (intOf i).toNat)
  case atStart => exact ⟨0, 0, Nat.zero_le _, rfl, rfl, rfl⟩
  case round =>
    obtain ⟨k, q, hk, rfl, rfl, HW⟩ := hrel
    have hB0 : Blk wr w.heap.size 44 #[.slice A n c, .slice T n c2, .slice S n c3] := by rw [HW.out]; exact HB0.out
    have hB2 : Blk wr (w.heap.size + 1) 23 #[.int .i64 0, .int .i64 0, .int .i64 0] := by rw [HW.out]; exact HB2.out
    have hr3 : Reads wr w.heap.size 3 A n (cellsP (rdP l)) := by rw [HW.out]; exact HR.out
    have ht3 : Reads wr w.heap.size 1 T n (ints (rdT l)) := by rw [HW.out]; exact HT.out
    have hs3 : Reads wr w.heap.size 1 S n (ints (rdS l)) := by rw [HW.out]; exact HS.out
    have HBW : Hid (Below w.heap.size w wr) := Lib.hid (by rw [HW.out]; exact below_drewN HBX.out q)
    have c0 := (hB0.cell 0).trans rfl
    have c1 := (hB0.cell 1).trans rfl
    have c2' := (hB0.cell 2).trans rfl
    have q0 := (hB2.cell 0).trans rfl
    have q1 := (hB2.cell 1).trans rfl
    have q2 := (hB2.cell 2).trans rfl
    have fq := hB2.frozen 0
    have fq1 := hB2.frozen 1
    have fq2 := hB2.frozen 2
    clear hB0 hB2
    have hbd := bst_bound l k
    by_cases hlt : k < n
    · obtain ⟨b3, off3, rfl, _, hd3⟩ := hs3.open_ (by omega) (by omega)
      obtain ⟨b2, off2, rfl, _, hd2⟩ := ht3.open_ (by omega) (by omega)
      have hkl : k < l.length := by have := HL.out; omega
      have d3 : wr.cell? ⟨b3, off3 + k, none⟩ = some (.int .i64 (stR l[k].2.1)) := hd3 k _ (rdS_get hkl)
      have d4 : wr.cell? ⟨b2, off2 + k, none⟩ = some (.int .i64 l[k].2.2) := hd2 k _ (rdT_get hkl)
      have hk1 : (k : Int) < n := by omega
      have hk0 : (0 : Int) ≤ k := by omega
      clear hr3 hd3
      by_cases hs : l[k].2.1 = 0
      · have e1 : (stR l[k].2.1 == 33) = true := beq_iff_eq.2 ((stR_lost _).2 hs)
        by_cases hb0 : bst l k < 0
        · have HE := Lib.hid (bst_take hkl hs (.inl hb0))
          have e2 : decide (bst l k < 0) = true := decide_eq_true hb0
          clear hs hd2
          go_wp2_with fail
          go_quiet (fail)
          go_wp2_with fail
          go_roundw
          case rel => exact ⟨k + 1, q + nq, by omega, by go_num, by rw [HE.out], by rw [HW.out, World.drewN_drewN]; rfl⟩
          case measure => simp [intOf]; omega
        · obtain ⟨j, hj⟩ : ∃ j : Nat, bst l k = j := ⟨(bst l k).toNat, by omega⟩
          have hjk : j < k := by omega
          have hjl : j < l.length := by omega
          have f4 : wr.cell? ⟨b2, off2 + j, none⟩ = some (.int .i64 l[j].2.2) := hd2 j _ (rdT_get hjl)
          have e2 : decide ((j : Int) < 0) = false := decide_eq_false (by omega)
          have hj1 : (j : Int) < n := by omega
          have hj0 : (0 : Int) ≤ j := by omega
          have htj : trOf l (bst l k).toNat = l[j].2.2 := by rw [hj]; exact trOf_at hjl
          by_cases ht : l[k].2.2 < l[j].2.2
          · have HE := Lib.hid (bst_take hkl hs (.inr (by rw [htj]; exact ht)))
            have e3 : decide (l[k].2.2 < l[j].2.2) = true := decide_eq_true ht
            rw [hj]
            clear hs hd2 htj hj
            go_wp2_with fail
            go_quiet (fail)
            go_wp2_with fail
            go_roundw
            case rel => exact ⟨k + 1, q + nq, by omega, by go_num, by rw [HE.out], by rw [HW.out, World.drewN_drewN]; rfl⟩
            case measure => simp [intOf]; omega
          · have HE := Lib.hid (bst_later hkl (by omega) (by rw [htj]; omega))
            have e3 : decide (l[k].2.2 < l[j].2.2) = false := decide_eq_false ht
            have HJ := Lib.hid hj
            rw [hj]
            clear hs hd2 htj hj
            go_wp2_with fail
            go_quiet (fail)
            go_wp2_with fail
            go_roundw
            case rel => exact ⟨k + 1, q + nq, by omega, by go_num, by rw [HE.out, HJ.out], by rw [HW.out, World.drewN_drewN]; rfl⟩
            case measure => simp [intOf]; omega
      · have HE := Lib.hid (bst_state hkl hs)
        have e1 : (stR l[k].2.1 == 33) = false := beq_eq_false_iff_ne.2 fun h => hs ((stR_lost _).1 h)
        clear hs hd2
        go_wp2_with fail
        go_quiet (fail)
        go_wp2_with fail
        go_roundw
        case rel => exact ⟨k + 1, q + nq, by omega, by go_num, by rw [HE.out], by rw [HW.out, World.drewN_drewN]; rfl⟩
        case measure => simp [intOf]; omega
    · have HK : Hid (k = l.length) := Lib.hid (by have := HL.out; omega)
      by_cases hb0 : bst l k < 0
      · have E2 : Hid (nextP l = z3) := Lib.hid (by unfold nextP; rw [← HK.out, if_pos hb0])
        have E3 : Hid (nextB l = false) := Lib.hid (by unfold nextB; rw [← HK.out]; exact decide_eq_false (by omega))
        go_wp2_with fail
        exact bodyPost_ret (v := .tuple #[.agg #[.int .i64 0, .int .i64 0, .int .i64 0], .bool false]) (by simp [results, Try.results33, go_sem, q0, q1, q2]) rfl ⟨by rw [E2.out, E3.out]; rfl, by repeat (first | exact HBW.out | refine Below.setCell ?_ (show w.heap.size ≤ w.heap.size + 1 from Nat.le_succ _) _)⟩
      · obtain ⟨j, hj⟩ : ∃ j : Nat, bst l k = j := ⟨(bst l k).toNat, by omega⟩
        have hjk : j < k := by omega
        have hjl : j < l.length := by have := HK.out; omega
        have E2 : Hid (nextP l = l[j].1) := Lib.hid (by unfold nextP; rw [← HK.out, if_neg hb0, hj]; simp [hjl])
        have E3 : Hid (nextB l = true) := Lib.hid (by unfold nextB; rw [← HK.out]; exact decide_eq_true (by omega))
        obtain ⟨b, off, rfl, _, hd⟩ := hr3.recs encP_len (by omega) (by omega)
        have d0 : wr.cell? ⟨b, off + j * 3, none⟩ = some (.int .i64 l[j].1.1) := by have := hd j (by rw [rdP_len]; exact hjl) 0 _ rfl; rwa [rdP_at hjl] at this
        have d1 : wr.cell? ⟨b, off + j * 3 + 1, none⟩ = some (.int .i64 l[j].1.2.1) := by have := hd j (by rw [rdP_len]; exact hjl) 1 _ rfl; rwa [rdP_at hjl] at this
        have d2 : wr.cell? ⟨b, off + j * 3 + 2, none⟩ = some (.int .i64 l[j].1.2.2) := by have := hd j (by rw [rdP_len]; exact hjl) 2 _ rfl; rwa [rdP_at hjl] at this
        rw [hj]
        have hj0 : (0 : Int) ≤ j := by omega
        have hjn : j < n := by omega
        clear hd hj ht3 hs3
        go_wp2_with fail
        exact bodyPost_ret (v := .tuple #[.agg #[.int .i64 l[j].1.1, .int .i64 l[j].1.2.1, .int .i64 l[j].1.2.2], .bool true]) (by simp [results, Try.results33, go_sem, q0, q1, q2]) rfl ⟨by rw [E2.out, E3.out], by repeat (first | exact HBW.out | refine Below.setCell ?_ (show w.heap.size ≤ w.heap.size + 1 from Nat.le_succ _) _)⟩
end Go.Proofs.Ytakjdffebpcmnaa
