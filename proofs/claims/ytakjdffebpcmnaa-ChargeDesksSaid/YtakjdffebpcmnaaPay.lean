/- The walks of slices.Clone of payments, and of Pay and Paid. -/
import Derived.Test.YtakjdffebpcmnaaSame
namespace Go.Proofs.Ytakjdffebpcmnaa
open Go.RowKit Go.Maps
theorem Try.info23 : (Try.prog.info? 23).map (fun i => (i.zero, i.size, i.bytes)) = some (some (.agg #[.int .i64 0, .int .i64 0, .int .i64 0]), 3, 24) := by kernel_rfl
theorem one_cells (l : List P3) : ∀ u ∈ cellsP l, u.oneCell' = true := by
  intro u hu
  obtain ⟨p, _, hp⟩ := List.mem_flatMap.1 hu
  simp only [encP, List.mem_cons, List.not_mem_nil, or_false] at hp
  rcases hp with rfl | rfl | rfl <;> rfl

set_option maxHeartbeats 400000 in
set_option maxRecDepth 10000 in
theorem clone_any (A : Option Addr) (n c : Nat) (l : List P3) (w : World) (hr : Reads w w.heap.size 3 A n (cellsP l)) (hn : n ≤ 100000) :
    Calls Try.prog 40 #[.slice A n c] w (RetOwn w 23 3 (cellsP l)) := by
  obtain ⟨i0, hi0, hz0, hz1, hz2⟩ := info_parts Try.info23
  have HL := Lib.hid (recs_len hr encP_len (by omega))
  rcases A with _ | ad
  · have h0 : n = 0 := by
      rcases Nat.eq_zero_or_pos n with h | h
      · exact h
      · obtain ⟨ad, e, _⟩ := hr.2 h; cases e
    subst h0
    have hl : l = [] := List.eq_nil_of_length_eq_zero HL.out
    subst hl
    have hq := fun (w : World) (a : Option Addr) (n c : Nat) => Lib.run_eql_slice_nil (P := Try.prog) w 30 23 a n c 0 0 Try.underlying30
    go_enter Try.func40, Try.ntmps40
    go_wp2_with fail
    go_ret
    exact ⟨none, 0, 0, rfl, World.ownsRow_nil _ _ _ _, Below.refl _ _⟩
  · have hq := fun (w : World) (a : Option Addr) (n c : Nat) => Lib.run_eql_slice_nil (P := Try.prog) w 30 23 a n c 0 0 Try.underlying30
    go_enter Try.func40, Try.ntmps40
    go_wp2_with (at_builtin; refine wpList_append_any _ rfl (.tmp 5) (.tmp 6) _ rfl w.heap.size 23 i0 _ 3 24 Try.underlying30 hi0 hz0 hz1 hz2 rfl (by omega) (.slice (some ⟨w.heap.size, 0, none⟩) 0 0) 0 [] rfl (World.ownsRow_made (size := 3) w #[] 0 (Nat.le_refl _) (Nat.zero_le _) rfl) w.heap.size (some ad) n c (cellsP l) rfl (hr.alloc (Nat.le_refl _) _) (one_cells l) (by simp only [maxLen]; omega) (by omega) (by simp) ?_; intro v1 w1 hown1 hg1 hat1; simp only [Nat.zero_add, List.nil_append] at hown1; obtain ⟨A1, c1, rfl, _⟩ := own_reads hown1)
    go_ret
    exact ⟨A1, n, c1, rfl, hown1, below_own ((Below.refl _ _).alloc (Nat.le_refl _) _) (World.ownsRow_made (size := 3) w #[] 0 (Nat.le_refl _) (Nat.zero_le _) rfl) hg1 (by simp) (Nat.le_refl _)⟩
theorem one_enc (p : P3) : ∀ u ∈ encP p, u.oneCell' = true := by
  intro u hu
  simp only [encP, List.mem_cons, List.not_mem_nil, or_false] at hu
  rcases hu with rfl | rfl | rfl <;> rfl
/-- A bank comes back, and an error number. -/
def RetBank (w : World) (l : List P3) (err : Int) (e : Ending) (w' : World) : Prop :=
  ∃ A n c, e = .returned (.tuple #[.agg #[.slice A n c], .int .i64 err]) ∧ Reads w' w'.heap.size 3 A n (cellsP l) ∧ n ≤ c ∧ Below w.heap.size w w'
theorem mem_of_B {l : List P3} {p : P3} (h : memB l p = true) : p ∈ l := of_decide_eq_true h
theorem not_of_B {l : List P3} {p : P3} (h : memB l p = false) : p ∉ l := of_decide_eq_false h
theorem memB_yes {l : List P3} {p : P3} {k : Nat} (hk : k < l.length) (h : memB (l.take k) p = true) : memB (l.take (k + 1)) p = true := by rw [memB_snoc hk, h]; rfl
theorem memB_hit {l : List P3} {p : P3} {k : Nat} (hk : k < l.length) (h : l[k] = p) : memB (l.take (k + 1)) p = true := by rw [memB_snoc hk, decide_eq_true h]; simp
theorem memB_miss {l : List P3} {p : P3} {k : Nat} (hk : k < l.length) (h : l[k] ≠ p) (h2 : memB (l.take k) p = false) : memB (l.take (k + 1)) p = false := by rw [memB_snoc hk, decide_eq_false h, h2]; rfl
theorem clash_nil (p : P3) : clash [] p = false := rfl

set_option maxHeartbeats 4000000 in
set_option maxRecDepth 10000 in
theorem pay26 (A : Option Addr) (n c : Nat) (l : List P3) (pa pb pc : Int) (w : World) (hr : Reads w w.heap.size 3 A n (cellsP l)) (hn : n ≤ 100000) :
    Calls Try.prog 26 #[.agg #[.slice A n c], .agg #[.int .i64 pa, .int .i64 pb, .int .i64 pc]] w (RetBank w (payL l (pa, pb, pc)) (payE l (pa, pb, pc))) := by
  obtain ⟨i0, hi0, hz0, hz1, hz2⟩ := info_parts Try.info23
  have HL := Lib.hid (recs_len hr encP_len (by omega))
  have C := right31 pa pb pc
  have hal : Below w.heap.size w (((w.alloc (.cells #[.slice A n c] 51)).alloc (.cells #[.int .i64 pa, .int .i64 pb, .int .i64 pc] 23)).alloc (.cells #[.slice none 0 0] 51)) := (((Below.refl _ _).alloc (Nat.le_refl _) _).alloc (by simp) _).alloc (by simp; omega) _
  have HAL := Lib.hid hal
  clear hal
  have hb0 : Blk (((w.alloc (.cells #[.slice A n c] 51)).alloc (.cells #[.int .i64 pa, .int .i64 pb, .int .i64 pc] 23)).alloc (.cells #[.slice none 0 0] 51)) w.heap.size 51 #[.slice A n c] := by simpa using ((Blk.new w 51 #[.slice A n c]).alloc (.cells #[.int .i64 pa, .int .i64 pb, .int .i64 pc] 23)).alloc (.cells #[.slice none 0 0] 51)
  have hb1 : Blk (((w.alloc (.cells #[.slice A n c] 51)).alloc (.cells #[.int .i64 pa, .int .i64 pb, .int .i64 pc] 23)).alloc (.cells #[.slice none 0 0] 51)) (w.heap.size + 1) 23 #[.int .i64 pa, .int .i64 pb, .int .i64 pc] := by simpa using (Blk.new (w.alloc (.cells #[.slice A n c] 51)) 23 #[.int .i64 pa, .int .i64 pb, .int .i64 pc]).alloc (.cells #[.slice none 0 0] 51)
  have hb2 : Blk (((w.alloc (.cells #[.slice A n c] 51)).alloc (.cells #[.int .i64 pa, .int .i64 pb, .int .i64 pc] 23)).alloc (.cells #[.slice none 0 0] 51)) (w.heap.size + 1 + 1) 51 #[.slice none 0 0] := by simpa using Blk.new ((w.alloc (.cells #[.slice A n c] 51)).alloc (.cells #[.int .i64 pa, .int .i64 pb, .int .i64 pc] 23)) 51 #[.slice none 0 0]
  have HB0 := Lib.hid hb0
  have HB1 := Lib.hid hb1
  have HB2 := Lib.hid hb2
  clear hb0 hb1 hb2
  rcases hR : rightB (pa, pb, pc) with _ | _
  · have HE := Lib.hid (payE_range (l := l) hR)
    have HEL : Hid (payL l (pa, pb, pc) = []) := Lib.hid (payL_no (by rw [HE.out]; decide))
    rw [hR] at C
    clear hR
    go_enter Try.func26, Try.ntmps26
    go_wp2_with fail
    refine (C _).mono ?_
    rintro e w1 ⟨rfl, hb1'⟩
    have hb1 : Below (w.heap.size + 3) (((w.alloc (.cells #[.slice A n c] 51)).alloc (.cells #[.int .i64 pa, .int .i64 pb, .int .i64 pc] 23)).alloc (.cells #[.slice none 0 0] 51)) w1 := hb1'.mono (by simp)
    clear hb1'
    have hbw1 : Below w.heap.size w w1 := HAL.out.trans (hb1.mono (by omega))
    have hB2 := HB2.out.below hb1 (Nat.lt_succ_self _)
    have c2 := hB2.cell 0
    have f2 := hB2.frozen 0
    go_wp2_with fail
    exact bodyPost_ret (v := .tuple #[.agg #[.slice none 0 0], .int .i64 1]) (by simp [results, Try.results26, go_sem, c2]) rfl ⟨none, 0, 0, by rw [HE.out], by rw [HEL.out]; exact Reads.none_, Nat.le_refl _, hbw1.setCell (by simp; omega) _⟩
  · rw [hR] at C
    have HR := Lib.hid hR
    clear hR
    have hr3 : Reads (((w.alloc (.cells #[.slice A n c] 51)).alloc (.cells #[.int .i64 pa, .int .i64 pb, .int .i64 pc] 23)).alloc (.cells #[.slice none 0 0] 51)) w.heap.size 3 A n (cellsP l) := hr.below HAL.out
    have HR3 := Lib.hid hr3
    clear hr3
    go_enter Try.func26, Try.ntmps26
    go_wp2_with fail
    refine (C _).mono ?_
    rintro e w1 ⟨rfl, hb1'⟩
    have hb1 : Below (w.heap.size + 3) (((w.alloc (.cells #[.slice A n c] 51)).alloc (.cells #[.int .i64 pa, .int .i64 pb, .int .i64 pc] 23)).alloc (.cells #[.slice none 0 0] 51)) w1 := hb1'.mono (by simp)
    clear hb1'
    have hbw1 : Below w.heap.size w w1 := HAL.out.trans (hb1.mono (by omega))
    have hs1 : w.heap.size + 3 ≤ w1.heap.size := by have := hb1.size; simp at this; omega
    have hB0 := HB0.out.below hb1 (by omega)
    have hB1 := HB1.out.below hb1 (by omega)
    have hB2 := HB2.out.below hb1 (Nat.lt_succ_self _)
    have hr1 := HR3.out.below (hb1.mono (by omega))
    clear HR3 HB0 HB1 HB2 HAL C hr
    have HBW := Lib.hid hbw1
    clear hbw1 hb1
    have c0 := hB0.cell 0
    go_wp2_with fail
    go_loopw [6, 8, 17] (fun kn x i wr => ∃ k : Nat, k ≤ n ∧ i = .int .i64 k ∧ kn = .bool (memB (l.take k) (pa, pb, pc)) ∧ clash (l.take k) (pa, pb, pc) = false ∧ Below w1.heap.size w1 wr) (fun _ _ i _ => n - (intOf i).toNat)
    case atStart => exact ⟨0, Nat.zero_le _, rfl, rfl, rfl, Below.refl _ _⟩
    case round =>
      obtain ⟨k, hk, rfl, rfl, hcl, hbw⟩ := hrel
      have hsw := hbw.size
      have hy0 : w.heap.size < wr.heap.size := by omega
      have hy1 : w.heap.size + 1 < wr.heap.size := by omega
      have hy2 : w.heap.size + 1 + 1 < wr.heap.size := by omega
      have hB0w := hB0.below hbw (by omega)
      have hB1w := hB1.below hbw (by omega)
      have hB2w := hB2.below hbw (by omega)
      have c0 := hB0w.cell 0
      have p0 := hB1w.cell 0
      have p1 := hB1w.cell 1
      have p2 := hB1w.cell 2
      have q0 := hB2w.cell 0
      have fq := hB2w.frozen 0
      by_cases hlt : k < n
      · obtain ⟨b, off, rfl, hb, hc⟩ := (hr1.below (hbw.mono (by omega))).recs encP_len (by omega) (by omega)
        have hkl : k < l.length := by have := HL.out; omega
        have d0 : wr.cell? ⟨b, off + k * 3, none⟩ = some (.int .i64 l[k].1) := hc k hkl 0 _ rfl
        have d1 : wr.cell? ⟨b, off + k * 3 + 1, none⟩ = some (.int .i64 l[k].2.1) := hc k hkl 1 _ rfl
        have d2 : wr.cell? ⟨b, off + k * 3 + 2, none⟩ = some (.int .i64 l[k].2.2) := hc k hkl 2 _ rfl
        have hq := fun w => eq23 l[k].1 l[k].2.1 l[k].2.2 pa pb pc w
        clear hc
        have HCL := Lib.hid hcl
        clear hcl
        by_cases he : l[k] = (pa, pb, pc)
        · have e1 : decide ((l[k].1, l[k].2.1, l[k].2.2) = (pa, pb, pc)) = true := decide_eq_true he
          simp only [e1] at hq
          have e2 : (l[k].1 == pa) = true := by rw [he]; simp
          have HC := Lib.hid (clash_take hkl HCL.out (fun e => e.2 he))
          have HM := Lib.hid (memB_hit hkl he)
          clear he e1
          rcases hm : memB (l.take k) (pa, pb, pc) with _ | _
          · go_wp2_with fail
            go_roundw
            case rel => exact ⟨k + 1, by omega, by go_num, by rw [HM.out], HC.out, hbw.trans ((Below.refl _ _).alloc hbw.size _)⟩
            case measure => simp [intOf]; omega
          · go_wp2_with fail
            go_roundw
            case rel => exact ⟨k + 1, by omega, by go_num, by rw [HM.out], HC.out, hbw.trans ((Below.refl _ _).alloc hbw.size _)⟩
            case measure => simp [intOf]; omega
        · have e1 : decide ((l[k].1, l[k].2.1, l[k].2.2) = (pa, pb, pc)) = false := decide_eq_false he
          simp only [e1] at hq
          by_cases h1 : l[k].1 = pa
          · have HX := Lib.hid (payE_clash HR.out (clash_at hkl (p := (pa, pb, pc)) h1 he))
            have HEL : Hid (payL l (pa, pb, pc) = []) := Lib.hid (payL_no (by rw [HX.out]; decide))
            have e2 : (l[k].1 == pa) = true := beq_iff_eq.2 h1
            clear he e1 h1
            go_wp2_with fail
            exact bodyPost_ret (v := .tuple #[.agg #[.slice none 0 0], .int .i64 21]) (by simp [results, Try.results26, go_sem, q0, hy2]) rfl ⟨none, 0, 0, by rw [HX.out], by rw [HEL.out]; exact Reads.none_, Nat.le_refl _, HBW.out.trans (below_alloc ((hbw.mono HBW.out.size).setCell (by simp; omega) _) HBW.out.size _)⟩
          · have HC := Lib.hid (clash_take hkl HCL.out (fun e => h1 e.1))
            have e2 : (l[k].1 == pa) = false := beq_eq_false_iff_ne.2 h1
            have HE := Lib.hid he
            clear he e1 h1
            rcases hm : memB (l.take k) (pa, pb, pc) with _ | _
            · have HM := Lib.hid (memB_miss hkl HE.out hm)
              go_wp2_with fail
              go_roundw
              case rel => exact ⟨k + 1, by omega, by go_num, by rw [HM.out], HC.out, hbw.trans ((Below.refl _ _).alloc hbw.size _)⟩
              case measure => simp [intOf]; omega
            · have HM := Lib.hid (memB_yes hkl hm)
              go_wp2_with fail
              go_roundw
              case rel => exact ⟨k + 1, by omega, by go_num, by rw [HM.out], HC.out, hbw.trans ((Below.refl _ _).alloc hbw.size _)⟩
              case measure => simp [intOf]; omega
      · have HK : Hid (l.take k = l) := Lib.hid (List.take_of_length_le (by have := HL.out; omega))
        rw [HK.out] at hcl ⊢
        have HCL := Lib.hid hcl
        clear hcl
        obtain ⟨w0, rfl⟩ : ∃ w0 : World, w0 = wr := ⟨_, rfl⟩
        have hr0 : Reads w0 w0.heap.size 3 A n (cellsP l) := (hr1.below (hbw.mono (by omega))).more (by omega)
        have CC := Lib.hid (clone_any A n c l w0 hr0 hn)
        have HBW0 := Lib.hid (HBW.out.trans (hbw.mono (by omega)))
        have hz3 : w.heap.size + 3 ≤ w0.heap.size := by omega
        clear hr0 hr1 hbw hsw hs1 hB0 hB1 hB2 HBW HK p0 p1 p2 q0 fq
        rcases hm : memB l (pa, pb, pc) with _ | _
        · have HM := Lib.hid (not_of_B hm)
          by_cases hf : 256 ≤ n
          · have HX := Lib.hid (payE_full HR.out HCL.out HM.out (by rw [HL.out]; exact hf))
            have HEL : Hid (payL l (pa, pb, pc) = []) := Lib.hid (payL_no (by rw [HX.out]; decide))
            go_wp2_with fail
            refine CC.out.mono ?_
            rintro e w2 ⟨A2, n2, c2, rfl, hown2, hb2⟩
            have h20 := hb2.size
            have hB02 := hB0w.below hb2 (by omega)
            have hB22 := hB2w.below hb2 (by omega)
            have hy2' : w.heap.size + 1 + 1 < w2.heap.size := by omega
            have hy0' : w.heap.size < w2.heap.size := by omega
            have c0' := hB02.cell 0
            have q0' := hB22.cell 0
            have fq' := hB22.frozen 0
            clear hB02 hB22 hB0w hB1w hB2w c0 hown2
            go_wp2_with fail
            exact bodyPost_ret (v := .tuple #[.agg #[.slice none 0 0], .int .i64 8]) (by simp [results, Try.results26, go_sem, q0', hy2']) rfl ⟨none, 0, 0, by rw [HX.out], by rw [HEL.out]; exact Reads.none_, Nat.le_refl _, HBW0.out.trans (below_alloc ((hb2.mono HBW0.out.size).setCell (by simp; omega) _) HBW0.out.size _)⟩
          · have HX := Lib.hid (payE_new HR.out HCL.out (by rw [HL.out]; omega))
            have HEL := Lib.hid (payL_new HX.out HM.out)
            go_wp2_with fail
            refine CC.out.mono ?_
            rintro e w2 ⟨A2, n2, c2, rfl, hown2, hb2⟩
            have h20 := hb2.size
            have hB02 := hB0w.below hb2 (by omega)
            have hB12 := hB1w.below hb2 (by omega)
            have hB22 := hB2w.below hb2 (by omega)
            obtain rfl : n = n2 := by rw [← HL.out, recs_len (Reads.of_own hown2) encP_len (by omega)]
            have hy2' : w.heap.size + 1 + 1 < w2.heap.size := by omega
            have hy1' : w.heap.size + 1 < w2.heap.size := by omega
            have hy0' : w.heap.size < w2.heap.size := by omega
            have c0' := hB02.cell 0
            have p0' := hB12.cell 0
            have p1' := hB12.cell 1
            have p2' := hB12.cell 2
            have hNB := (Blk.new w2 51 #[.slice A2 n c2]).alloc (.cells #[.int .i64 pa, .int .i64 pb, .int .i64 pc] 23)
            have HNB := Lib.hid hNB
            have HB22 := Lib.hid ((hB22.alloc (.cells #[.slice A2 n c2] 51)).alloc (.cells #[.int .i64 pa, .int .i64 pb, .int .i64 pc] 23))
            have hof := ((hown2.alloc (.cells #[.slice A2 n c2] 51)).alloc (.cells #[.int .i64 pa, .int .i64 pb, .int .i64 pc] 23))
            have HOF := Lib.hid hof
            have HLT := Lib.hid fun k e => hown2.lt k e
            have hnr : Reads ((w2.alloc (.cells #[.slice A2 n c2] 51)).alloc (.cells #[.int .i64 pa, .int .i64 pb, .int .i64 pc] 23)) (w2.heap.size + 1 + 1) 3 (some ⟨w2.heap.size + 1, 0, none⟩) 1 (encP (pa, pb, pc)) := by
              simpa [encP] using Reads.fresh (w2.alloc (.cells #[.slice A2 n c2] 51)) 23 #[.int .i64 pa, .int .i64 pb, .int .i64 pc] 1 3 rfl
            have HNR := Lib.hid hnr
            clear hnr
            clear hB02 hB12 hB22 hB0w hB1w hB2w c0 hown2 hNB hof
            go_wp2_with (at_builtin
                         refine wpList_append_any _ rfl (.tmp 51) (.tmp 53) _ rfl w0.heap.size 23 i0 _ 3 24 Try.underlying30 hi0 hz0 hz1 hz2 rfl (by omega) (.slice A2 n c2) n (cellsP l) rfl HOF.out (w2.heap.size + 1 + 1) (some ⟨w2.heap.size + 1, 0, none⟩) 1 1 (encP (pa, pb, pc)) rfl HNR.out (one_enc (pa, pb, pc)) (by simp only [maxLen]; omega) (by omega) (by simp; omega) ?_
                         intro v3 w3 hown3 hg3 hat3
                         obtain ⟨A3, c3, rfl, hr3⟩ := own_reads hown3
                         have hNB3 : Blk w3 w2.heap.size 51 #[.slice A2 n c2] := HNB.out.grown hg3 (fun e => by have := (HLT.out _ e.symm).2; omega)
                         have hB23 : Blk w3 (w.heap.size + 1 + 1) 51 #[.slice none 0 0] := HB22.out.grown hg3 (fun e => by have := (HLT.out _ e.symm).1; omega)
                         have hs3 : w2.heap.size + 2 ≤ w3.heap.size := by have := hg3.size; simpa using this
                         have n0 := hNB3.cell 0
                         have nf := hNB3.frozen 0
                         have q0' := hB23.cell 0
                         have fq' := hB23.frozen 0)
            refine bodyPost_ret (v := .tuple #[.agg #[.slice A3 (n + 1) c3], .int .i64 0]) (by simp [results, Try.results26, go_sem, q0']) rfl ⟨A3, n + 1, c3, by rw [HX.out], ?_, own_cap hown3, ?_⟩
            · rw [HEL.out, show cellsP (l ++ [(pa, pb, pc)]) = cellsP l ++ encP (pa, pb, pc) from by simp [cellsP]]
              have o1 := ownsRow_setCell_other hown3 (a := ⟨w2.heap.size, 0, none⟩) (own_blk_ne hown3 hNB3 (by decide)) (.slice A3 (n + 1) c3)
              have o2 := ownsRow_setCell_other o1 (a := ⟨w.heap.size + 1 + 1, 0, none⟩) (own_blk_ne hown3 hB23 (by decide)) (.slice A3 (n + 1) c3)
              exact Reads.of_own o2
            · have b1 : Below w.heap.size w0 w3 := below_own (((hb2.mono HBW0.out.size).alloc (show w.heap.size ≤ w2.heap.size by omega) _).alloc (by simp; omega) _) HOF.out hg3 (by simp; omega) (by omega)
              exact HBW0.out.trans ((b1.setCell (p := ⟨w2.heap.size, 0, none⟩) (show w.heap.size ≤ w2.heap.size by omega) _).setCell (p := ⟨w.heap.size + 1 + 1, 0, none⟩) (show w.heap.size ≤ w.heap.size + 1 + 1 by omega) _)
        · have HM := Lib.hid (mem_of_B hm)
          have HX := Lib.hid (payE_had HR.out HCL.out HM.out)
          have HEL := Lib.hid (payL_had HX.out HM.out)
          go_wp2_with fail
          refine CC.out.mono ?_
          rintro e w2 ⟨A2, n2, c2, rfl, hown2, hb2⟩
          have h20 := hb2.size
          have hB02 := hB0w.below hb2 (by omega)
          have hB22 := hB2w.below hb2 (by omega)
          have hy2' : w.heap.size + 1 + 1 < w2.heap.size := by omega
          have hy0' : w.heap.size < w2.heap.size := by omega
          have c0' := hB02.cell 0
          have q0' := hB22.cell 0
          have fq' := hB22.frozen 0
          have HC := Lib.hid (own_cap hown2)
          have HO := Lib.hid (Reads.of_own ((ownsRow_setCell_other hown2 (a := ⟨w.heap.size + 1 + 1, 0, none⟩) (fun e => by have := (hown2.lt _ e).1; simp at this; omega) (.slice A2 n2 c2)).alloc (.cells #[.slice A2 n2 c2] 51)))
          clear hB02 hB22 hB0w hB1w hB2w c0 hown2
          go_wp2_with fail
          exact bodyPost_ret (v := .tuple #[.agg #[.slice A2 n2 c2], .int .i64 0]) (by simp [results, Try.results26, go_sem, q0', hy2']) rfl ⟨A2, n2, c2, by rw [HX.out], by rw [HEL.out]; exact HO.out, HC.out, HBW0.out.trans (below_alloc ((hb2.mono HBW0.out.size).setCell (by simp; omega) _) HBW0.out.size _)⟩
end Go.Proofs.Ytakjdffebpcmnaa
