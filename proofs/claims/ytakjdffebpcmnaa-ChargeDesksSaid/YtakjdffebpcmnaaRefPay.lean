/- The walk of the reference's Pay. -/
import Derived.Test.YtakjdffebpcmnaaPay
namespace Go.Proofs.Ytakjdffebpcmnaa
open Go.RowKit Go.Maps
theorem clash_yes {l : List P3} {p : P3} {k : Nat} (hk : k < l.length) (h : clash (l.take k) p = true) : clash (l.take (k + 1)) p = true := by
  unfold clash at h ⊢
  rw [List.take_succ_eq_append_getElem hk, List.any_append, h]; rfl
theorem clash_hit {l : List P3} {p : P3} {k : Nat} (hk : k < l.length) (h : l[k].1 = p.1) (h2 : l[k] ≠ p) : clash (l.take (k + 1)) p = true := by
  unfold clash
  rw [List.take_succ_eq_append_getElem hk, List.any_append, Bool.or_eq_true]
  exact .inr (by simp [h, h2])
theorem fresh_ {w : World} {t : TypeId} {cs : Array Value} {n size s : Nat} {xs : List Value} (h : cs.size = n * size) (hs : w.heap.size = s) (hx : cs.toList = xs) : Reads (w.alloc (.cells cs t)) (s + 1) size (some ⟨s, 0, none⟩) n xs := by
  subst hs hx
  exact Reads.fresh w t cs n size h
set_option maxHeartbeats 4000000 in
set_option maxRecDepth 10000 in
theorem pay27 (A : Option Addr) (n c : Nat) (l : List P3) (pa pb pc : Int) (w : World) (hr : Reads w w.heap.size 3 A n (cellsP l)) (hn : n ≤ 100000) :
    Calls Try.prog 27 #[.agg #[.slice A n c], .agg #[.int .i64 pa, .int .i64 pb, .int .i64 pc]] w (RetBank w (payL l (pa, pb, pc)) (payE l (pa, pb, pc))) := by
  obtain ⟨i0, hi0, hz0, hz1, hz2⟩ := info_parts Try.info23
  have HL := Lib.hid (recs_len hr encP_len (by omega))
  have C := right13 pa pb pc
  have hal : Below w.heap.size w (((w.alloc (.cells #[.slice A n c] 51)).alloc (.cells #[.int .i64 pa, .int .i64 pb, .int .i64 pc] 23)).alloc (.cells #[.slice none 0 0] 51)) := (((Below.refl _ _).alloc (Nat.le_refl _) _).alloc (by simp) _).alloc (by simp; omega) _
  have HAL := Lib.hid hal
  clear hal
  have hb0 : Blk (((w.alloc (.cells #[.slice A n c] 51)).alloc (.cells #[.int .i64 pa, .int .i64 pb, .int .i64 pc] 23)).alloc (.cells #[.slice none 0 0] 51)) w.heap.size 51 #[.slice A n c] := by simpa using ((Blk.new w 51 #[.slice A n c]).alloc (.cells #[.int .i64 pa, .int .i64 pb, .int .i64 pc] 23)).alloc (.cells #[.slice none 0 0] 51)
  have hb1 : Blk (((w.alloc (.cells #[.slice A n c] 51)).alloc (.cells #[.int .i64 pa, .int .i64 pb, .int .i64 pc] 23)).alloc (.cells #[.slice none 0 0] 51)) (w.heap.size + 1) 23 #[.int .i64 pa, .int .i64 pb, .int .i64 pc] := by simpa using (Blk.new (w.alloc (.cells #[.slice A n c] 51)) 23 #[.int .i64 pa, .int .i64 pb, .int .i64 pc]).alloc (.cells #[.slice none 0 0] 51)
  have hb2 : Blk (((w.alloc (.cells #[.slice A n c] 51)).alloc (.cells #[.int .i64 pa, .int .i64 pb, .int .i64 pc] 23)).alloc (.cells #[.slice none 0 0] 51)) (w.heap.size + 1 + 1) 51 #[.slice none 0 0] := by simpa using Blk.new ((w.alloc (.cells #[.slice A n c] 51)).alloc (.cells #[.int .i64 pa, .int .i64 pb, .int .i64 pc] 23)) 51 #[.slice none 0 0]
  have HB0 := Lib.hid hb0
  have HB1 := Lib.hid hb1
  have HB2 := Lib.hid hb2
  clear hb0 hb1 hb2
  rcases hR : rightB (pa, pb, pc) with _ | _
  · have HE := Lib.hid (payE_range (l := l) hR)
    have HEL : Hid (payL l (pa, pb, pc) = []) := Lib.hid (payL_no (by rw [HE.out]; decide))
    rw [hR] at C
    clear hR
    go_enter Try.func27, Try.ntmps27
    go_wp2_with fail
    refine (C _).mono ?_
    rintro e w1 ⟨rfl, hb1'⟩
    have hb1 : Below (w.heap.size + 3) (((w.alloc (.cells #[.slice A n c] 51)).alloc (.cells #[.int .i64 pa, .int .i64 pb, .int .i64 pc] 23)).alloc (.cells #[.slice none 0 0] 51)) w1 := hb1'.mono (by simp)
    clear hb1'
    have hbw1 : Below w.heap.size w w1 := HAL.out.trans (hb1.mono (by omega))
    have hB2 := HB2.out.below hb1 (Nat.lt_succ_self _)
    have c2 := hB2.cell 0
    have f2 := hB2.frozen 0
    go_wp2_with fail
    exact bodyPost_ret (v := .tuple #[.agg #[.slice none 0 0], .int .i64 1]) (by simp [results, Try.results27, go_sem, c2]) rfl ⟨none, 0, 0, by rw [HE.out], by rw [HEL.out]; exact Reads.none_, Nat.le_refl _, hbw1.setCell (by simp; omega) _⟩
  · rw [hR] at C
    have HR := Lib.hid hR
    clear hR
    have hr3 : Reads (((w.alloc (.cells #[.slice A n c] 51)).alloc (.cells #[.int .i64 pa, .int .i64 pb, .int .i64 pc] 23)).alloc (.cells #[.slice none 0 0] 51)) w.heap.size 3 A n (cellsP l) := hr.below HAL.out
    have HR3 := Lib.hid hr3
    clear hr3
    go_enter Try.func27, Try.ntmps27
    go_wp2_with fail
    refine (C _).mono ?_
    rintro e w1 ⟨rfl, hb1'⟩
    have hb1 : Below (w.heap.size + 3) (((w.alloc (.cells #[.slice A n c] 51)).alloc (.cells #[.int .i64 pa, .int .i64 pb, .int .i64 pc] 23)).alloc (.cells #[.slice none 0 0] 51)) w1 := hb1'.mono (by simp)
    clear hb1'
    have hbw1 : Below w.heap.size w w1 := HAL.out.trans (hb1.mono (by omega))
    have hs1 : w.heap.size + 3 ≤ w1.heap.size := by have := hb1.size; simp at this; omega
    have hB0 := HB0.out.below hb1 (by omega)
    have hB1 := HB1.out.below hb1 (by omega)
    have hB2 := HB2.out.below hb1 (Nat.lt_succ_self _)
    have hr1 := HR3.out.below (hb1.mono (by omega))
    clear HR3 HB0 HB1 HB2 HAL C hr
    have HBW := Lib.hid hbw1
    clear hbw1 hb1
    go_wp2_with fail
    go_loopw [6, 7, 8] (fun eq ot i wr => ∃ k q : Nat, k ≤ n ∧ i = .int .i64 k ∧ eq = .bool (memB (l.take k) (pa, pb, pc)) ∧ ot = .bool (clash (l.take k) (pa, pb, pc)) ∧ wr = w1.drewN q) (fun _ _ i _ => n - (intOf i).toNat)
    case atStart => exact ⟨0, 0, Nat.zero_le _, rfl, rfl, rfl, rfl⟩
    case round =>
      obtain ⟨k, q, hk, rfl, rfl, rfl, rfl⟩ := hrel
      have c0 := hB0.cell 0
      have p0 := hB1.cell 0
      have p1 := hB1.cell 1
      have p2 := hB1.cell 2
      have q0 := hB2.cell 0
      have fq := hB2.frozen 0
      have hy0 : w.heap.size < w1.heap.size := by omega
      have hy1 : w.heap.size + 1 < w1.heap.size := by omega
      have hy2 : w.heap.size + 1 + 1 < w1.heap.size := by omega
      by_cases hlt : k < n
      · obtain ⟨b, off, rfl, hb, hc⟩ := hr1.recs encP_len (by omega) (by omega)
        have hkl : k < l.length := by have := HL.out; omega
        have d0 : w1.cell? ⟨b, off + k * 3, none⟩ = some (.int .i64 l[k].1) := hc k hkl 0 _ rfl
        have d1 : w1.cell? ⟨b, off + k * 3 + 1, none⟩ = some (.int .i64 l[k].2.1) := hc k hkl 1 _ rfl
        have d2 : w1.cell? ⟨b, off + k * 3 + 2, none⟩ = some (.int .i64 l[k].2.2) := hc k hkl 2 _ rfl
        have hk1 : (k : Int) < n := by omega
        have hk0 : (0 : Int) ≤ k := by omega
        have hq := fun w => eq23 l[k].1 l[k].2.1 l[k].2.2 pa pb pc w
        clear hc
        by_cases h1 : l[k].1 = pa
        · have e2 : (l[k].1 == pa) = true := beq_iff_eq.2 h1
          by_cases he : l[k] = (pa, pb, pc)
          · have e1 : decide ((l[k].1, l[k].2.1, l[k].2.2) = (pa, pb, pc)) = true := decide_eq_true he
            simp only [e1] at hq
            have HM := Lib.hid (memB_hit hkl he)
            have HE := Lib.hid he
            clear he e1 h1
            rcases ho : clash (l.take k) (pa, pb, pc) with _ | _
            · have HC := Lib.hid (clash_take hkl ho (fun e => e.2 HE.out))
              rcases hm : memB (l.take k) (pa, pb, pc) with _ | _
              · 
                go_wp2_with fail
                go_quiet (fail)
                go_wp2_with fail
                go_quiet (fail)
                go_wp2_with fail
                go_quiet (fail)
                go_wp2_with fail
                go_roundw
                case rel => exact ⟨k + 1, _, by omega, by go_num, by rw [HM.out], by rw [HC.out], by first | rfl | simp only [World.drewN_drewN]⟩
                case measure => simp [intOf]; omega
              · 
                go_wp2_with fail
                go_quiet (fail)
                go_wp2_with fail
                go_quiet (fail)
                go_wp2_with fail
                go_quiet (fail)
                go_wp2_with fail
                go_roundw
                case rel => exact ⟨k + 1, _, by omega, by go_num, by rw [HM.out], by rw [HC.out], by first | rfl | simp only [World.drewN_drewN]⟩
                case measure => simp [intOf]; omega
            · have HC := Lib.hid (clash_yes hkl ho)
              rcases hm : memB (l.take k) (pa, pb, pc) with _ | _
              · 
                go_wp2_with fail
                go_quiet (fail)
                go_wp2_with fail
                go_quiet (fail)
                go_wp2_with fail
                go_quiet (fail)
                go_wp2_with fail
                go_roundw
                case rel => exact ⟨k + 1, _, by omega, by go_num, by rw [HM.out], by rw [HC.out], by first | rfl | simp only [World.drewN_drewN]⟩
                case measure => simp [intOf]; omega
              · 
                go_wp2_with fail
                go_quiet (fail)
                go_wp2_with fail
                go_quiet (fail)
                go_wp2_with fail
                go_quiet (fail)
                go_wp2_with fail
                go_roundw
                case rel => exact ⟨k + 1, _, by omega, by go_num, by rw [HM.out], by rw [HC.out], by first | rfl | simp only [World.drewN_drewN]⟩
                case measure => simp [intOf]; omega
          · have e1 : decide ((l[k].1, l[k].2.1, l[k].2.2) = (pa, pb, pc)) = false := decide_eq_false he
            simp only [e1] at hq
            have HC := Lib.hid (clash_hit hkl (p := (pa, pb, pc)) h1 he)
            have HE := Lib.hid he
            clear he e1 h1
            rcases hm : memB (l.take k) (pa, pb, pc) with _ | _
            · have HM := Lib.hid (memB_miss hkl HE.out hm)
              rcases ho : clash (l.take k) (pa, pb, pc) with _ | _
              · 
                go_wp2_with fail
                go_quiet (fail)
                go_wp2_with fail
                go_quiet (fail)
                go_wp2_with fail
                go_quiet (fail)
                go_wp2_with fail
                go_roundw
                case rel => exact ⟨k + 1, _, by omega, by go_num, by rw [HM.out], by rw [HC.out], by first | rfl | simp only [World.drewN_drewN]⟩
                case measure => simp [intOf]; omega
              · 
                go_wp2_with fail
                go_quiet (fail)
                go_wp2_with fail
                go_quiet (fail)
                go_wp2_with fail
                go_quiet (fail)
                go_wp2_with fail
                go_roundw
                case rel => exact ⟨k + 1, _, by omega, by go_num, by rw [HM.out], by rw [HC.out], by first | rfl | simp only [World.drewN_drewN]⟩
                case measure => simp [intOf]; omega
            · have HM := Lib.hid (memB_yes hkl hm)
              rcases ho : clash (l.take k) (pa, pb, pc) with _ | _
              · 
                go_wp2_with fail
                go_quiet (fail)
                go_wp2_with fail
                go_quiet (fail)
                go_wp2_with fail
                go_quiet (fail)
                go_wp2_with fail
                go_roundw
                case rel => exact ⟨k + 1, _, by omega, by go_num, by rw [HM.out], by rw [HC.out], by first | rfl | simp only [World.drewN_drewN]⟩
                case measure => simp [intOf]; omega
              · 
                go_wp2_with fail
                go_quiet (fail)
                go_wp2_with fail
                go_quiet (fail)
                go_wp2_with fail
                go_quiet (fail)
                go_wp2_with fail
                go_roundw
                case rel => exact ⟨k + 1, _, by omega, by go_num, by rw [HM.out], by rw [HC.out], by first | rfl | simp only [World.drewN_drewN]⟩
                case measure => simp [intOf]; omega
        · have e2 : (l[k].1 == pa) = false := beq_eq_false_iff_ne.2 h1
          have he : l[k] ≠ (pa, pb, pc) := fun e => h1 (by rw [e])
          have HM : Hid (memB (l.take (k + 1)) (pa, pb, pc) = memB (l.take k) (pa, pb, pc)) := Lib.hid (by rw [memB_snoc hkl, decide_eq_false he, Bool.or_false])
          have HC : Hid (clash (l.take (k + 1)) (pa, pb, pc) = clash (l.take k) (pa, pb, pc)) := Lib.hid (by
            rcases ho : clash (l.take k) (pa, pb, pc) with _ | _
            · exact clash_take hkl ho (fun e => h1 e.1)
            · exact clash_yes hkl ho)
          clear he h1 hq
          go_wp2_with fail
          go_quiet (fail)
          go_wp2_with fail
          go_roundw
          case rel => exact ⟨k + 1, _, by omega, by go_num, by rw [HM.out], by rw [HC.out], by first | rfl | simp only [World.drewN_drewN]⟩
          case measure => simp [intOf]; omega
      · have HK : Hid (l.take k = l) := Lib.hid (List.take_of_length_le (by have := HL.out; omega))
        rw [HK.out]
        clear HK
        obtain ⟨w0, HW0⟩ : ∃ w0 : World, Hid (w0 = w1.drewN q) := ⟨_, rfl⟩
        rw [← HW0.out]
        have hbw0 : Below w.heap.size w w0 := by rw [HW0.out]; exact below_drewN HBW.out q
        have hs0 : w.heap.size + 1 + 1 < w0.heap.size := by rw [HW0.out]; exact hy2
        have hr0 : Reads w0 w.heap.size 3 A n (cellsP l) := by rw [HW0.out]; exact hr1.drewN q
        have hB00 : Blk w0 w.heap.size 51 #[.slice A n c] := by rw [HW0.out]; exact hB0.drewN q
        have hB10 : Blk w0 (w.heap.size + 1) 23 #[.int .i64 pa, .int .i64 pb, .int .i64 pc] := by rw [HW0.out]; exact hB1.drewN q
        have hB20 : Blk w0 (w.heap.size + 1 + 1) 51 #[.slice none 0 0] := by rw [HW0.out]; exact hB2.drewN q
        clear hB0 hB1 hB2 hr1 c0 p0 p1 p2 q0 fq hy0 hy1 hy2 hs1 HBW HW0
        have c0 := hB00.cell 0
        have p0 := hB10.cell 0
        have p1 := hB10.cell 1
        have p2 := hB10.cell 2
        have q0 := hB20.cell 0
        have fq := hB20.frozen 0
        have hy0 : w.heap.size < w0.heap.size := by omega
        have hy1 : w.heap.size + 1 < w0.heap.size := by omega
        have HBW := Lib.hid hbw0
        clear hbw0
        rcases ho : clash l (pa, pb, pc) with _ | _
        · rcases hm : memB l (pa, pb, pc) with _ | _
          · have HM := Lib.hid (not_of_B hm)
            by_cases hf : 256 ≤ n
            · have HX := Lib.hid (payE_full HR.out ho HM.out (by rw [HL.out]; exact hf))
              have HEL : Hid (payL l (pa, pb, pc) = []) := Lib.hid (payL_no (by rw [HX.out]; decide))
              go_wp2_with fail
              exact bodyPost_ret (v := .tuple #[.agg #[.slice none 0 0], .int .i64 8]) (by simp [results, Try.results27, go_sem, q0]) rfl ⟨none, 0, 0, by rw [HX.out], by rw [HEL.out]; exact Reads.none_, Nat.le_refl _, HBW.out.setCell (show w.heap.size ≤ w.heap.size + 1 + 1 by omega) _⟩
            · have HX := Lib.hid (payE_new HR.out ho (by rw [HL.out]; omega))
              have HEL := Lib.hid (payL_new HX.out HM.out)
              have hra : Reads (w0.alloc (.cells #[] 23)) w.heap.size 3 A n (cellsP l) := hr0.alloc (by omega) _
              have HRA := Lib.hid hra
              have HNB := Lib.hid (hB20.alloc (.cells #[] 23))
              have HPB := Lib.hid (hB10.alloc (.cells #[] 23))
              have HO0 := Lib.hid (World.ownsRow_made (e := 23) (size := 3) w0 #[] 0 (Nat.le_refl _) (Nat.zero_le _) rfl)
              clear hra hr0 hB00 hB10 hB20
              go_wp2_with (first
               | (at_builtin
                  refine wpList_append_any _ rfl (.tmp 61) (.tmp 63) _ rfl w0.heap.size 23 i0 _ 3 24 Try.underlying30 hi0 hz0 hz1 hz2 rfl (by omega) (.slice (some ⟨w0.heap.size, 0, none⟩) 0 0) 0 [] rfl HO0.out w.heap.size A n c (cellsP l) rfl HRA.out (one_cells l) (by simp only [maxLen]; omega) (by omega) (by simp) ?_
                  intro v3 w3 hown3 hg3 hat3
                  simp only [Nat.zero_add, List.nil_append] at hown3
                  obtain ⟨A3, c3, rfl, hr3⟩ := own_reads hown3
                  have hsz3 : w0.heap.size + 1 ≤ w3.heap.size := by have := hg3.size; simpa using this
                  have hB23 : Blk w3 (w.heap.size + 1 + 1) 51 #[.slice none 0 0] := HNB.out.grown hg3 (fun e => by simp [Value.ownBlock] at e; omega)
                  have hB13 : Blk w3 (w.heap.size + 1) 23 #[.int .i64 pa, .int .i64 pb, .int .i64 pc] := HPB.out.grown hg3 (fun e => by simp [Value.ownBlock] at e; omega)
                  have b3 : Below w.heap.size w w3 := below_own (HBW.out.alloc (show w.heap.size ≤ w0.heap.size by omega) _) HO0.out hg3 (by simp; omega) (by omega)
                  have B3 := Lib.hid b3
                  clear b3
                  have p0' := hB13.cell 0
                  have p1' := hB13.cell 1
                  have p2' := hB13.cell 2)
               | (at_builtin
                  refine wpList_append_any _ rfl (.tmp 67) (.tmp 69) _ rfl w0.heap.size 23 i0 _ 3 24 Try.underlying30 hi0 hz0 hz1 hz2 rfl (by omega) (.slice A3 n c3) n (cellsP l) rfl (hown3.alloc _) (w3.heap.size + 1) (some ⟨w3.heap.size, 0, none⟩) 1 1 (encP (pa, pb, pc)) rfl (fresh_ rfl rfl rfl) (one_enc (pa, pb, pc)) (by simp only [maxLen]; omega) (by omega) (by simp; omega) ?_
                  intro v4 w4 hown4 hg4 hat4
                  obtain ⟨A4, c4, rfl, hr4⟩ := own_reads hown4
                  have hB24 : Blk w4 (w.heap.size + 1 + 1) 51 #[.slice none 0 0] := (hB23.alloc _).grown hg4 (fun e => by have := (hown3.lt _ e.symm).1; omega)
                  have q0' := hB24.cell 0
                  have fq' := hB24.frozen 0))
              refine bodyPost_ret (v := .tuple #[.agg #[.slice A4 (n + 1) c4], .int .i64 0]) (by simp [results, Try.results27, go_sem, q0']) rfl ⟨A4, n + 1, c4, by rw [HX.out], ?_, own_cap hown4, ?_⟩
              · rw [HEL.out, show cellsP (l ++ [(pa, pb, pc)]) = cellsP l ++ encP (pa, pb, pc) from by simp [cellsP]]
                exact Reads.of_own (ownsRow_setCell_other hown4 (a := ⟨w.heap.size + 1 + 1, 0, none⟩) (own_blk_ne hown4 hB24 (by decide)) (.slice A4 (n + 1) c4))
              · have b4 : Below w.heap.size w w4 := below_own (B3.out.alloc (show w.heap.size ≤ w3.heap.size by omega) _) (hown3.alloc _) hg4 (by simp; omega) (by omega)
                exact b4.setCell (p := ⟨w.heap.size + 1 + 1, 0, none⟩) (show w.heap.size ≤ w.heap.size + 1 + 1 by omega) _
          · have HM := Lib.hid (mem_of_B hm)
            have HX := Lib.hid (payE_had HR.out ho HM.out)
            have HEL := Lib.hid (payL_had HX.out HM.out)
            have hra : Reads (w0.alloc (.cells #[] 23)) w.heap.size 3 A n (cellsP l) := hr0.alloc (by omega) _
            have HRA := Lib.hid hra
            have HNB := Lib.hid (hB20.alloc (.cells #[] 23))
            have HO0 := Lib.hid (World.ownsRow_made (e := 23) (size := 3) w0 #[] 0 (Nat.le_refl _) (Nat.zero_le _) rfl)
            clear hra hr0 hB00 hB10 hB20
            go_wp2_with (at_builtin
                         refine wpList_append_any _ rfl (.tmp 61) (.tmp 63) _ rfl w0.heap.size 23 i0 _ 3 24 Try.underlying30 hi0 hz0 hz1 hz2 rfl (by omega) (.slice (some ⟨w0.heap.size, 0, none⟩) 0 0) 0 [] rfl HO0.out w.heap.size A n c (cellsP l) rfl HRA.out (one_cells l) (by simp only [maxLen]; omega) (by omega) (by simp) ?_
                         intro v3 w3 hown3 hg3 hat3
                         simp only [Nat.zero_add, List.nil_append] at hown3
                         obtain ⟨A3, c3, rfl, hr3⟩ := own_reads hown3
                         have hB23 : Blk w3 (w.heap.size + 1 + 1) 51 #[.slice none 0 0] := HNB.out.grown hg3 (fun e => by simp [Value.ownBlock] at e; omega)
                         have q0' := hB23.cell 0
                         have fq' := hB23.frozen 0)
            refine bodyPost_ret (v := .tuple #[.agg #[.slice A3 n c3], .int .i64 0]) (by simp [results, Try.results27, go_sem, q0']) rfl ⟨A3, n, c3, by rw [HX.out], ?_, own_cap hown3, ?_⟩
            · rw [HEL.out]
              exact Reads.of_own (ownsRow_setCell_other hown3 (a := ⟨w.heap.size + 1 + 1, 0, none⟩) (own_blk_ne hown3 hB23 (by decide)) (.slice A3 n c3))
            · have b1 : Below w.heap.size w w3 := below_own (HBW.out.alloc (show w.heap.size ≤ w0.heap.size by omega) _) HO0.out hg3 (by simp; omega) (by omega)
              exact b1.setCell (p := ⟨w.heap.size + 1 + 1, 0, none⟩) (show w.heap.size ≤ w.heap.size + 1 + 1 by omega) _
        · have HX := Lib.hid (payE_clash HR.out ho)
          have HEL : Hid (payL l (pa, pb, pc) = []) := Lib.hid (payL_no (by rw [HX.out]; decide))
          go_wp2_with fail
          exact bodyPost_ret (v := .tuple #[.agg #[.slice none 0 0], .int .i64 21]) (by simp [results, Try.results27, go_sem, q0]) rfl ⟨none, 0, 0, by rw [HX.out], by rw [HEL.out]; exact Reads.none_, Nat.le_refl _, HBW.out.setCell (show w.heap.size ≤ w.heap.size + 1 + 1 by omega) _⟩
end Go.Proofs.Ytakjdffebpcmnaa
