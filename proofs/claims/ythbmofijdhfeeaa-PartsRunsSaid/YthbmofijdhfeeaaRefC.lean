/- The walk of the reference's Take. -/
import Derived.Test.YthbmofijdhfeeaaRefB
import Derived.Lib.MinMax
import Derived.Deep.RegionWith
namespace Go.Proofs.Ythbmofijdhfeeaa
open Go.RowKit Go.Maps Go.WideMaps
/-- The store, what was drawn, an error number. -/
def RetRefT (w : World) (A A' : Option Addr) (l : List Lt) (o : List T2) (x : Int) (e : Ending) (w' : World) : Prop :=
  ∃ A2 n c A2' c' Ao no co, e = .returned (.tuple #[.agg #[.slice A2 n c, .slice A2' n c'], .slice Ao no co, .int .i64 x]) ∧ RefS w' A2 n A2' l ∧ From w.heap.size A A2 ∧ From w.heap.size A' A2' ∧ w'.ownsRow w.heap.size 58 2 (.slice Ao no co) no (cellsT o) ∧ Below w.heap.size w w' ∧ (0 < n ∨ (A2 = A ∧ A2' = A'))
theorem refT_no {w w' : World} {A A' : Option Addr} {n c c' : Nat} {l m' : List Lt} {o : List T2} {x y : Int} (h : RefS w A n A' l) (hb : Below w.heap.size w w') (hm : m' = l) (ho : o = []) (hx : y = x) : RetRefT w A A' m' o x (.returned (.tuple #[.agg #[.slice A n c, .slice A' n c'], .slice none 0 0, .int .i64 y])) w' := by
  subst hm hx ho
  exact ⟨A, n, c, A', c', none, 0, 0, rfl, h.below hb, From.same _ _, From.same _ _, World.ownsRow_nil _ _ _ _, hb, .inr ⟨rfl, rfl⟩⟩
theorem Reads.grownA {w w' : World} {B size n : Nat} {A : Option Addr} {xs : List Value} {row : Option Nat} (h : Reads w B size A n xs) (hg : w.grownBy w' row) (hB : B ≤ w.heap.size) (hr : ∀ g, row = some g → Apart g A) : Reads w' B size A n xs :=
  ⟨h.1, fun hn => by
    obtain ⟨ad, e, hb, hc⟩ := h.2 hn
    refine ⟨ad, e, hb, fun j u hu => (World.cell?_of_block (hg.block _ (by rw [block_of_add]; omega) (fun e' => ?_))).trans (hc j u hu)⟩
    exact hr _ e'.symm ad e (block_of_add ad j).symm⟩
theorem RefS.grownA {w w' : World} {A A' : Option Addr} {n : Nat} {l : List Lt} {row : Option Nat} (h : RefS w A n A' l) (hg : w.grownBy w' row) (hs : w.heap.size ≤ w'.heap.size) (h1 : ∀ g, row = some g → Apart g A) (h2 : ∀ g, row = some g → Apart g A') : RefS w' A n A' l :=
  ⟨(h.1.grownA hg (Nat.le_refl _) h1).more hs, (h.2.1.grownA hg (Nat.le_refl _) h2).more hs, h.2.2⟩
theorem Blk2.mk {w : World} {g t : Nat} {x y : Value} (h : Blk w g t #[x, y]) (a b : Value) : Blk ((w.setCell ⟨g, 0, none⟩ a).setCell ⟨g, 1, none⟩ b) g t #[a, b] ∧ True :=
  ⟨by have := (h.set_ 0 a).set_ 1 b; simpa using this, trivial⟩
set_option maxHeartbeats 4000000 in
set_option maxRecDepth 10000 in
theorem rtake_any (A A' : Option Addr) (n c c' : Nat) (l m' : List Lt) (k t x : Int) (o : List T2) (w : World) (h : RefS w A n A' l) (hf : fine l) (hx : takeE l k t = x) (hm : tookX l k t = m') (ho : tookO l k t = o) :
    Calls Try.prog 32 #[.agg #[.slice A n c, .slice A' n c'], .int .i64 k, .int .i64 t] w (RetRefT w A A' m' o x) := by
  have hb0 : Below w.heap.size w ((w.alloc (.cells #[.slice A n c, .slice A' n c'] 30)).alloc (.cells #[.slice none 0 0, .slice none 0 0] 30)) := ((Below.refl _ _).alloc (Nat.le_refl _) _).alloc (by simp) _
  have hB0 : Blk ((w.alloc (.cells #[.slice A n c, .slice A' n c'] 30)).alloc (.cells #[.slice none 0 0, .slice none 0 0] 30)) w.heap.size 30 #[.slice A n c, .slice A' n c'] := (Blk.new w 30 #[.slice A n c, .slice A' n c']).alloc _
  have hB1 : Blk ((w.alloc (.cells #[.slice A n c, .slice A' n c'] 30)).alloc (.cells #[.slice none 0 0, .slice none 0 0] 30)) (w.heap.size + 1) 30 #[.slice none 0 0, .slice none 0 0] := by simpa using Blk.new (w.alloc (.cells #[.slice A n c, .slice A' n c'] 30)) 30 #[.slice none 0 0, .slice none 0 0]
  have HH := Lib.hid h
  have HR := Lib.hid (h.below hb0)
  have HB0 := Lib.hid hB0; have HB1 := Lib.hid hB1; have HBW := Lib.hid hb0
  have HL := Lib.hid h.2.2
  have hn : n ≤ 512 := by have := HL.out; have := hf.1; omega
  have a0 := hB0.cell 0; have a1 := hB0.cell 1
  have HX := Lib.hid hx; have HM := Lib.hid hm; have HO := Lib.hid ho
  have HF := Lib.hid hf
  have hN : Blk ((w.alloc (.cells #[.slice A n c, .slice A' n c'] 30)).alloc (.cells #[.slice A n c, .slice A' n c'] 30)) (w.heap.size + 1) 30 #[.slice A n c, .slice A' n c'] := by simpa using Blk.new (w.alloc (.cells #[.slice A n c, .slice A' n c'] 30)) 30 #[.slice A n c, .slice A' n c']
  have HNB : Hid (Below w.heap.size w ((w.alloc (.cells #[.slice A n c, .slice A' n c'] 30)).alloc (.cells #[.slice A n c, .slice A' n c'] 30))) := Lib.hid (((Below.refl _ _).alloc (Nat.le_refl _) _).alloc (by simp) _)
  have N0 := Lib.hid (hN.cell 0); have N1 := Lib.hid (hN.cell 1)
  clear hx hm ho hb0 hB0 hB1 h hf hN
  rcases hk : kindB k with _ | _
  · obtain rfl : x = 14 := HX.out.symm.trans (takeE_kind hk)
    have HML := Lib.hid (show m' = l from HM.out.symm.trans (tookX_no (by rw [HX.out]; decide)))
    have HOL := Lib.hid (show o = [] from HO.out.symm.trans (tookO_no (by rw [HX.out]; decide)))
    have hcs : k < 0 ∨ (0 ≤ k ∧ 8 ≤ k) := by
      have : ¬ (0 ≤ k ∧ k ≤ 7) := of_decide_eq_false hk
      omega
    clear hk
    rcases hcs with g1 | ⟨g1, g2⟩
    all_goals
      go_enter Try.func32, Try.ntmps32
      go_wp2_with fail
      exact bodyPost_ret (v := .tuple #[.agg #[.slice A n c, .slice A' n c'], .slice none 0 0, .int .i64 14]) (by simp [results, Try.results32, go_sem, N0.out, N1.out]) rfl (refT_no HH.out HNB.out HML.out HOL.out rfl)
  · obtain ⟨k1, k2⟩ : 0 ≤ k ∧ k ≤ 7 := of_decide_eq_true hk
    rcases hnb : numB t with _ | _
    · obtain rfl : x = 1 := HX.out.symm.trans (takeE_range hk hnb)
      have HML := Lib.hid (show m' = l from HM.out.symm.trans (tookX_no (by rw [HX.out]; decide)))
      have HOL := Lib.hid (show o = [] from HO.out.symm.trans (tookO_no (by rw [HX.out]; decide)))
      have hcs : t < 1 ∨ (1 ≤ t ∧ 1000000 < t) := by
        have : ¬ (1 ≤ t ∧ t ≤ 1000000) := of_decide_eq_false hnb
        omega
      clear hk hnb
      rcases hcs with g1 | ⟨g1, g2⟩
      all_goals
        go_enter Try.func32, Try.ntmps32
        go_wp2_with fail
        exact bodyPost_ret (v := .tuple #[.agg #[.slice A n c, .slice A' n c'], .slice none 0 0, .int .i64 1]) (by simp [results, Try.results32, go_sem, N0.out, N1.out]) rfl (refT_no HH.out HNB.out HML.out HOL.out rfl)
    · obtain ⟨t1, t2⟩ : 1 ≤ t ∧ t ≤ 1000000 := of_decide_eq_true hnb
      obtain ⟨cn, hcn⟩ : ∃ cn, countN l k = cn := ⟨_, rfl⟩
      have C3 := Lib.hid (rcount_any A A' n c c' l k cn _ HR.out HF.out hcn)
      by_cases hlt : cn < t
      · obtain rfl : x = 29 := HX.out.symm.trans (takeE_stock hk hnb (by rw [hcn]; exact hlt))
        have HML := Lib.hid (show m' = l from HM.out.symm.trans (tookX_no (by rw [HX.out]; decide)))
        have HOL := Lib.hid (show o = [] from HO.out.symm.trans (tookO_no (by rw [HX.out]; decide)))
        clear hk hnb hcn
        go_enter Try.func32, Try.ntmps32
        go_wp2_with fail
        refine C3.out.mono ?_
        rintro e w1 ⟨rfl, hb1⟩
        have HW1 := Lib.hid (HBW.out.trans (hb1.mono HBW.out.size))
        have d0 := HB0.out.below hb1 HB0.out.lt; have d1 := HB1.out.below hb1 HB1.out.lt
        clear a0 a1 hb1
        have a0 := d0.cell 0; have a1 := d0.cell 1; have z0 := d1.cell 0; have z1 := d1.cell 1; have f0 := d1.frozen 0; have f1 := d1.frozen 1
        have hsz := d1.lt
        obtain ⟨r0, r1⟩ := set2_facts d1 (.slice A n c) (.slice A' n c')
        have R0 := Lib.hid r0; have R1 := Lib.hid r1
        clear r0 r1
        go_wp2_with fail
        exact bodyPost_ret (v := .tuple #[.agg #[.slice A n c, .slice A' n c'], .slice none 0 0, .int .i64 29]) (by simp [results, Try.results32, go_sem, R0.out, R1.out]) rfl (refT_no HH.out (set2_below _ _ HW1.out (by omega)) HML.out HOL.out rfl)
      · have hge : t ≤ cn := by omega
        obtain rfl : x = 0 := HX.out.symm.trans (takeE_ok hk hnb (by rw [hcn]; exact hge))
        have HML := Lib.hid (show m' = takeX k t l from HM.out.symm.trans (tookX_ok HX.out))
        have HOL := Lib.hid (show o = takeO k t l from HO.out.symm.trans (tookO_ok HX.out))
        have hne : l ≠ [] := fun e => by subst e; simp [countN] at hcn; omega
        have hn0 : 0 < n := by
          rcases Nat.eq_zero_or_pos n with h0 | h0
          · exact absurd (List.eq_nil_of_length_eq_zero (by have := HL.out; omega)) hne
          · exact h0
        obtain ⟨i0, hi0, hz0, hz1, hz2⟩ := info_parts Try.info58
        have HAA : Hid (∀ g, w.heap.size ≤ g → Apart g A) := Lib.hid fun g hg => HH.out.1.apart hn0 hg
        have HAA' : Hid (∀ g, w.heap.size ≤ g → Apart g A') := Lib.hid fun g hg => HH.out.2.1.apart hn0 hg
        have HNZ := Lib.hid hn0
        clear hk hnb hcn hne hlt
        go_enter Try.func32, Try.ntmps32
        go_wp2_with fail
        refine C3.out.mono ?_
        rintro e w1 ⟨rfl, hb1⟩
        have HW1 := Lib.hid (HBW.out.trans (hb1.mono HBW.out.size))
        have HD0 := Lib.hid (HB0.out.below hb1 HB0.out.lt); have HD1 := Lib.hid (HB1.out.below hb1 HB1.out.lt)
        have HR1 := Lib.hid (HR.out.below hb1)
        have hws : w.heap.size + 1 < w1.heap.size := HD1.out.lt
        clear a0 a1 hb1 HB0 HB1 C3 HBW HR N0 N1 HNB
        go_wp2_with fail
        go_loopw [2, 9, 10] (fun nv out i wr => ∃ (j n1 : Nat) (A1 : Option Addr) (c1 : Nat) (A2 : Option Addr) (c2 : Nat), j ≤ n ∧ i = .int .i64 j ∧ nv = .int .i64 (takeR k t (l.take j)) ∧ out = .slice A1 n1 c1 ∧ n1 ≤ j ∧ wr.ownsRow w1.heap.size 58 2 (.slice A1 n1 c1) n1 (cellsT (takeO k t (l.take j))) ∧ Blk wr w.heap.size 30 #[.slice A n c, .slice A2 n c2] ∧ Blk wr (w.heap.size + 1) 30 #[.slice none 0 0, .slice none 0 0] ∧ RefS wr A n A2 (mid k t l j) ∧ From w1.heap.size A' A2 ∧ (∀ g, (Value.slice A1 n1 c1).ownBlock = some g → Apart g A2) ∧ Below w.heap.size w wr ∧ w1.heap.size ≤ wr.heap.size) (fun _ _ i _ => n - (intOf i).toNat)
        case atStart => exact ⟨0, 0, none, 0, A', c', Nat.zero_le _, rfl, rfl, rfl, Nat.le_refl _, World.ownsRow_nil _ _ _ _, HD0.out, HD1.out, by rw [mid_zero]; exact HR1.out, From.same _ _, fun g hg => by simp [Value.ownBlock] at hg, HW1.out, Nat.le_refl _⟩
        case round =>
          obtain ⟨j, n1, A1, c1, A2, c2, hj, rfl, rfl, rfl, hn1, hown, hx0, hx1, hrf, hfr, hap, hbw, hsz⟩ := hrel
          have HOW := Lib.hid hown; have HX0 := Lib.hid hx0; have HX1 := Lib.hid hx1; have HRF := Lib.hid hrf; have HFR := Lib.hid hfr; have HAP := Lib.hid hap; have HBR := Lib.hid hbw
          have y0 := hx0.cell 0; have y1 := hx0.cell 1
          clear hown hx0 hx1 hrf hfr hap hbw
          by_cases hlt : j < n
          · have hjl : j < l.length := by have := HL.out; omega
            have hat := mid_at k t l hjl
            have hjm : j < (mid k t l j).length := by rw [mid_len]; exact hjl
            obtain ⟨bb, off, rfl, hbl, hcc⟩ := HRF.out.lot hn0
            obtain ⟨bb', off', rfl, hbl', hcc'⟩ := HRF.out.left hn0
            have d0 := (hcc j hjm).1
            have d1 := (hcc j hjm).2.1
            have e0 := hcc' j hjm
            rw [hat] at d0 d1 e0
            have hj0 : (0 : Int) ≤ j := by omega
            have hj1 : (j : Int) < n := by omega
            have q := fine_left HF.out _ (List.getElem_mem hjl)
            have q2 := takeR_bd k (l.take j) t (by omega) fun x hx => (fine_left HF.out x (List.mem_of_mem_take hx)).1
            obtain ⟨q3, q4⟩ := q
            obtain ⟨q5, q6⟩ := q2
            have HAT := Lib.hid hat
            clear hcc hcc' hat
            have HTR := Lib.hid (takeR_step k t l hjl)
            by_cases hs : l[j].1.2.1 = k ∧ 0 < min (takeR k t (l.take j)) l[j].2
            · have HO1 := Lib.hid (takeO_yes k t l hjl hs.1 hs.2)
              have HMS := Lib.hid (mid_step k t l hjl)
              have HTK := Lib.hid (tk_yes hs.1 hs.2)
              obtain ⟨hki, hmin⟩ := hs
              generalize hrr : takeR k t (l.take j) = rr at q5 q6 hmin
              have t3 : (l[j].1.2.1 == k) = true := beq_iff_eq.2 hki
              obtain ⟨sm, hsm⟩ : ∃ sm, min rr l[j].2 = sm := ⟨_, rfl⟩
              have s1 : sm ≤ rr := by omega
              have s2 : sm ≤ l[j].2 := by omega
              have hmn : ∀ (ts : Array TypeId) (ty : TypeId) (w : World), (Builtin.min_ ts ty #[.int .i64 rr, .int .i64 l[j].2]).run Try.prog w = .ok (.int .i64 sm) w := fun ts ty w => by rw [Lib.run_min_ints, hsm]
              have s3 : 0 < sm := by omega
              rw [hrr, hsm] at HTK HO1
              rw [hrr, HTK.out] at HTR HMS
              have HRR := Lib.hid hrr
              have hw1 : IntKind.i64.wrap (l[j].2 - sm) = l[j].2 - sm := IntWalk.i64_in _ (by omega)
              have hw2 : IntKind.i64.wrap (rr - sm) = rr - sm := IntWalk.i64_in _ (by omega)
              clear hrr hki hmin hsm
              have HOW2 := Lib.hid (HOW.out.alloc (.cells #[.int .i64 l[j].1.1, .int .i64 sm] 58))
              have HNR : Hid (Reads (wr.alloc (.cells #[.int .i64 l[j].1.1, .int .i64 sm] 58)) (wr.heap.size + 1) 2 (some ⟨wr.heap.size, 0, none⟩) 1 (encT (l[j].1.1, sm))) := Lib.hid (by simpa [encT] using Reads.fresh wr 58 #[.int .i64 l[j].1.1, .int .i64 sm] 1 2 rfl)
              have HBS : Hid (w1.heap.size ≤ (wr.alloc (.cells #[.int .i64 l[j].1.1, .int .i64 sm] 58)).heap.size) := Lib.hid (by simp; omega)
              have HRF2 := Lib.hid (HRF.out.below (below_alloc (Below.refl wr.heap.size wr) (Nat.le_refl _) (.cells #[.int .i64 l[j].1.1, .int .i64 sm] 58)))
              have HX02 := Lib.hid (HX0.out.alloc (.cells #[.int .i64 l[j].1.1, .int .i64 sm] 58))
              have HX12 := Lib.hid (HX1.out.alloc (.cells #[.int .i64 l[j].1.1, .int .i64 sm] 58))
              have HBR2 := Lib.hid (below_alloc HBR.out (Nat.le_refl _) (.cells #[.int .i64 l[j].1.1, .int .i64 sm] 58))
              go_wp2_with (at_builtin; go_loud (
                refine wpList_append_any _ rfl (.tmp 58) (.tmp 67) _ rfl w1.heap.size 58 i0 _ 2 16 Try.underlying43 hi0 hz0 hz1 hz2 rfl (by omega) (.slice A1 n1 c1) n1 (cellsT (takeO k t (l.take j))) rfl HOW2.out (wr.heap.size + 1) (some ⟨wr.heap.size, 0, none⟩) 1 1 (encT (l[j].1.1, sm)) rfl HNR.out (one_encT _) (by simp only [maxLen]; omega) (by omega) HBS.out ?_
                intro v3 w3 hown3 hg3 hat3
                obtain ⟨A3, c3, rfl, hr3⟩ := own_reads hown3
                rw [← snocT, ← HO1.out] at hown3
                have hne : ∀ g, (Value.slice A1 n1 c1).ownBlock = some g → w1.heap.size ≤ g := fun g hg => (HOW.out.lt g hg).1
                have b3 := below_own HBR2.out HOW2.out hg3 (by have := HBS.out; omega) (by omega)
                have hs3 : wr.heap.size < w3.heap.size := by have := hg3.size; simp at this; omega
                have B3 := Lib.hid b3; have HOWN3 := Lib.hid hown3
                have HX03 := Lib.hid (HX02.out.grown hg3 (fun e => by have := hne _ e.symm; omega))
                have HX13 := Lib.hid (HX12.out.grown hg3 (fun e => by have := hne _ e.symm; omega))
                have HRF3 := Lib.hid (HRF2.out.grownA hg3 (by have := hg3.size; exact this) (fun g hg => HAA.out g (by have := hne _ hg; omega)) (fun g hg => HAP.out g hg))
                clear hg3 hat3 hr3 hown3 b3
                ))
              have y0 := HX03.out.cell 0; have y1 := HX03.out.cell 1; have fz0 := HX03.out.frozen 0; have fz1 := HX03.out.frozen 1
              have hwl := HX03.out.lt
              have e0 : w3.cell? ⟨bb', off' + j, none⟩ = some (.int .i64 l[j].2) := by
                obtain ⟨_, _, e, _, hc⟩ := HRF3.out.left hn0
                cases e
                have := hc j hjm
                rwa [HAT.out] at this
              have HM2 : Hid ((mid k t l j).set j ((mid k t l j)[j].1, l[j].2 - sm) = mid k t l (j + 1)) := Lib.hid (by rw [HAT.out, HMS.out])
              clear d0 d1
              go_region_with
                (first
                  | (go_at_call 38; refine (rwith_any _ _ n c c2 j (mid k t l j) _ _ _ (HRF3.out.below (below_drewN (Below.refl _ _) _)) hjm (by omega) HM2.out).mono ?_; rintro e w4 ⟨b4, c4, rfl, hr4, hbb4, hb4⟩; have x4 := (HX03.out.drewN _).below hb4 hwl; have y0 := x4.cell 0; have y1 := x4.cell 1; have fz0 := x4.frozen 0; have fz1 := x4.frozen 1; have hsz4 := x4.lt))
              all_goals
                obtain ⟨r0, r1⟩ := Blk2.mk x4 (.slice (some ⟨bb, off, none⟩) n c) (.slice (some ⟨b4, 0, none⟩) n c4)
                go_wp2_with fail
                go_roundw
                case rel =>
                  have hb4' : w3.heap.size ≤ b4 := hbb4
                  have hb4b : Below w3.heap.size w3 w4 := (below_drewN (Below.refl w3.heap.size w3) _).trans hb4
                  have hw0 : w.heap.size < w1.heap.size := by omega
                  have hnb : (Value.slice A3 (n1 + 1) c3).ownBlock ≠ some w.heap.size := fun e => by
                    have h1 := (HOWN3.out.lt _ e).1
                    omega
                  refine ⟨j + 1, n1 + 1, A3, c3, some ⟨b4, 0, none⟩, c4, by omega, by go_num, by rw [HTR.out], rfl, by omega, ?_, r0, ?_, ?_, ?_, ?_, ?_, ?_⟩
                  · exact ownsRow_setCell_other (ownsRow_setCell_other (own_below HOWN3.out hb4b) (a := ⟨w.heap.size, 0, none⟩) hnb _) (a := ⟨w.heap.size, 1, none⟩) hnb _
                  · exact ((HX13.out.below hb4b HX13.out.lt).far (p := ⟨w.heap.size, 0, none⟩) (by show w.heap.size + 1 ≠ w.heap.size; omega) _).far (p := ⟨w.heap.size, 1, none⟩) (by show w.heap.size + 1 ≠ w.heap.size; omega) _
                  · exact hr4.far2 (HAA.out _ (Nat.le_refl _)) (Apart.some_ (by omega)) _ _
                  · exact From.some_ (by have := HBS.out; simp at this; omega)
                  · intro g hg
                    have h1 := (HOWN3.out.lt _ hg).2
                    exact Apart.some_ (by omega)
                  · exact set2_below _ _ (B3.out.trans (hb4b.mono (by omega))) (Nat.le_refl _)
                  · have := hb4b.size; simp [World.setCell]; omega
                case measure => simp [intOf]; omega
            · have HO1 := Lib.hid (takeO_no k t l hjl hs)
              have HMS := Lib.hid (mid_no k t l hjl hs)
              have HTK := Lib.hid (tk_no hs)
              generalize hrr : takeR k t (l.take j) = rr at q5 q6 hs
              rw [hrr] at HTK
              rw [hrr, HTK.out] at HTR
              have HTR2 : Hid (takeR k t (l.take (j + 1)) = rr) := Lib.hid (by rw [HTR.out]; omega)
              have hmn : ∀ (ts : Array TypeId) (ty : TypeId) (w : World), (Builtin.min_ ts ty #[.int .i64 rr, .int .i64 l[j].2]).run Try.prog w = .ok (.int .i64 (min rr l[j].2)) w := fun ts ty w => Lib.run_min_ints w ts ty .i64 .i64 rr l[j].2
              generalize min rr l[j].2 = sm at hmn hs
              clear hrr
              by_cases hki : l[j].1.2.1 = k
              · have t3 : (l[j].1.2.1 == k) = true := beq_iff_eq.2 hki
                have s3 : sm ≤ 0 := by
                  have : ¬ 0 < sm := fun e => hs ⟨hki, e⟩
                  omega
                clear hs hki
                go_wp2_with fail
                go_roundw
                case rel => exact ⟨j + 1, n1, A1, c1, _, c2, by omega, by go_num, by rw [HTR2.out], rfl, by omega, by rw [HO1.out]; exact HOW.out, HX0.out, HX1.out, by rw [HMS.out]; exact HRF.out, HFR.out, HAP.out, HBR.out, hsz⟩
                case measure => simp [intOf]; omega
              · have t3 : (l[j].1.2.1 == k) = false := beq_eq_false_iff_ne.2 hki
                clear hs hki
                go_wp2_with fail
                go_roundw
                case rel => exact ⟨j + 1, n1, A1, c1, _, c2, by omega, by go_num, by rw [HTR2.out], rfl, by omega, by rw [HO1.out]; exact HOW.out, HX0.out, HX1.out, by rw [HMS.out]; exact HRF.out, HFR.out, HAP.out, HBR.out, hsz⟩
                case measure => simp [intOf]; omega
          · obtain rfl : j = n := by omega
            have z0 := HX1.out.cell 0; have z1 := HX1.out.cell 1; have f0 := HX1.out.frozen 0; have f1 := HX1.out.frozen 1
            have hsz2 := HX1.out.lt
            obtain ⟨r0, r1⟩ := set2_facts HX1.out (.slice A j c) (.slice A2 j c2)
            have R0 := Lib.hid r0; have R1 := Lib.hid r1
            clear r0 r1
            go_wp2_with fail
            have hl2 : l.take j = l := List.take_of_length_le (by have := HL.out; omega)
            have hme : mid k t l j = takeX k t l := mid_end k t l (by have := HL.out; omega)
            have hnb : (Value.slice A1 n1 c1).ownBlock ≠ some (w.heap.size + 1) := fun e => by
              have h1 := (HOW.out.lt _ e).1
              omega
            have ho := ownsRow_setCell_other (ownsRow_setCell_other HOW.out (a := ⟨w.heap.size + 1, 0, none⟩) hnb (.slice A j c)) (a := ⟨w.heap.size + 1, 1, none⟩) hnb (.slice A2 j c2)
            refine bodyPost_ret (v := .tuple #[.agg #[.slice A j c, .slice A2 j c2], .slice A1 n1 c1, .int .i64 0]) (by simp [results, Try.results32, go_sem, R0.out, R1.out]) rfl ⟨A, j, c, A2, c2, A1, n1, c1, rfl, ?_, From.same _ _, HFR.out.mono (by omega), ?_, set2_below _ _ HBR.out (by omega), .inl HNZ.out⟩
            · rw [HML.out, ← hme]
              exact HRF.out.far2 (HAA.out _ (by omega)) (Apart.from_ (HAA'.out _ (by omega)) HFR.out (by omega)) _ _
            · rw [HOL.out, ← hl2]
              exact own_mono ho (by omega)
end Go.Proofs.Ythbmofijdhfeeaa
