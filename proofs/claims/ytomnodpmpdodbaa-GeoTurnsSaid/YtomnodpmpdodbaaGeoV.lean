/- The walks of the reference's Inside, disc, Touches, Covers. -/
import Derived.Test.YtomnodpmpdodbaaGeoU
namespace Go.Proofs.Ytomnodpmpdodbaa
open Go.RowKit
def rcrossB (e : Ed) (a : Pt) : Bool := (decide (e.1.2 ≤ a.2) && decide (a.2 < e.2.2) && decide (0 < sideZ e.1 e.2 a)) || (decide (e.2.2 ≤ a.2) && decide (a.2 < e.1.2) && decide (sideZ e.1 e.2 a < 0))
def rinF : List Ed → Pt → Int → Int
  | [], _, o => o
  | e :: l, c, o => if onB e.1 e.2 c = true then 0 else rinF l c (if rcrossB e c = true then -o else o)
theorem rinF_step {l : List Ed} {k : Nat} (hk : k < l.length) (c : Pt) (o : Int) : rinF (l.drop k) c o = if onB l[k].1 l[k].2 c = true then 0 else rinF (l.drop (k + 1)) c (if rcrossB l[k] c = true then -o else o) := by
  rw [List.drop_eq_getElem_cons hk]; rfl
theorem rinF_end {l : List Ed} {k : Nat} (hk : l.length ≤ k) (c : Pt) (o : Int) : rinF (l.drop k) c o = o := by
  rw [List.drop_eq_nil_of_le hk]; rfl
def rwhereZ (p : List Pt) (c : Pt) : Int := rinF (edgesL p) c (-1)
def rinsE (p : List Pt) (a : Pt) : Int := if rcheckZ p = 0 then if okP a = true then 0 else 1 else rcheckZ p
def rinsZ (p : List Pt) (a : Pt) : Int := if rinsE p a = 0 then rwhereZ p a else 0
theorem rinsE_inv {p : List Pt} {a : Pt} (h : rinsE p a = 0) : rcheckZ p = 0 ∧ okP a = true := by
  unfold rinsE at h
  by_cases h0 : rcheckZ p = 0
  · rw [if_pos h0] at h
    rcases h1 : okP a with _ | _
    · rw [h1, if_neg Bool.false_ne_true] at h; exact absurd h (by decide)
    · exact ⟨h0, rfl⟩
  · rw [if_neg h0] at h; exact absurd h h0
set_option maxHeartbeats 8000000 in
set_option maxRecDepth 10000 in
theorem rinside_any (A : Option Addr) (n cc : Nat) (p : List Pt) (a : Pt) (x y : Int) (w : World) (h : Reads w w.heap.size 2 A n (cellsPt p)) (hn : n ≤ 9223372036854775807) (hx : rinsZ p a = x) (hy : rinsE p a = y) : Calls Try.prog 19 #[.slice A n cc, aggP a] w (RetII w x y) := by
  obtain ⟨kk, hK⟩ := box1K w 23 #[.int .i64 a.1, .int .i64 a.2]
  have HK := Lib.hid hK
  clear hK
  obtain ⟨B0, hbb⟩ := HK.out _ kk
  have c00 := B0.cell 0
  have c01 := B0.cell 1
  have HB := Lib.hid hbb
  clear B0 hbb
  have HR := Lib.hid ((h.below HB.out).more HB.out.size)
  have HL := Lib.hid (recs_len h encPt_len (by omega))
  have HRA : Hid (∀ u, Below w.heap.size w u → Reads u u.heap.size 2 A n (cellsPt p)) := Lib.hid fun u hu => (h.below hu).more hu.size
  clear h
  by_cases h0 : rcheckZ p = 0
  · have HC := Lib.hid h0
    have HI := Lib.hid (rcheck_inv h0)
    rcases h1 : okP a with _ | _
    · have HA := Lib.hid h1
      obtain rfl : y = 1 := by rw [← hy]; unfold rinsE; rw [if_pos h0, h1]; rfl
      obtain rfl : x = 0 := by rw [← hx]; unfold rinsZ; rw [if_neg (by rw [hy]; decide)]
      clear hx hy h0 h1
      go_enter Try.func19, Try.ntmps19
      go_wp2_with fail
      refine (rcheck_any A n cc p 0 _ HR.out hn HC.out).mono ?_
      rintro e w1 ⟨rfl, hb1⟩
      replace kk := below_next kk (Nat.le_refl _) hb1
      clear c00 c01 HB hb1
      obtain ⟨B0, hbb⟩ := HK.out _ kk
      have c00 := B0.cell 0
      have c01 := B0.cell 1
      have HB := Lib.hid hbb
      clear B0 hbb
      go_wp2_with fail
      refine (rvalid_any a false _ HA.out).mono ?_
      rintro e w2 ⟨rfl, hb2⟩
      replace kk := below_next kk (Nat.le_refl _) hb2
      clear c00 c01 HB hb2
      obtain ⟨B0, hbb⟩ := HK.out _ kk
      have c00 := B0.cell 0
      have c01 := B0.cell 1
      have HB := Lib.hid hbb
      clear B0 hbb
      go_wp2_with fail
      go_ret2
      exact ⟨rfl, HB.out⟩
    · have HA := Lib.hid h1
      obtain rfl : y = 0 := by rw [← hy]; unfold rinsE; rw [if_pos h0, h1]; rfl
      have HX : Hid (rinF (edgesL p) a (-1) = x) := Lib.hid (by rw [← hx]; unfold rinsZ; rw [if_pos hy]; rfl)
      have hn32 : n ≤ 32 := by have := HL.out; have := HI.out.1; omega
      clear hx hy h0 h1
      go_enter Try.func19, Try.ntmps19
      go_wp2_with fail
      refine (rcheck_any A n cc p 0 _ HR.out hn HC.out).mono ?_
      rintro e w3 ⟨rfl, hb3⟩
      replace kk := below_next kk (Nat.le_refl _) hb3
      clear c00 c01 HB hb3
      obtain ⟨B0, hbb⟩ := HK.out _ kk
      have c00 := B0.cell 0
      have c01 := B0.cell 1
      have HB := Lib.hid hbb
      clear B0 hbb
      go_wp2_with fail
      refine (rvalid_any a true _ HA.out).mono ?_
      rintro e w4 ⟨rfl, hb4⟩
      replace kk := below_next kk (Nat.le_refl _) hb4
      clear c00 c01 HB hb4
      obtain ⟨B0, hbb⟩ := HK.out _ kk
      have c00 := B0.cell 0
      have c01 := B0.cell 1
      have HB := Lib.hid hbb
      clear B0 hbb
      clear HB c00 c01
      have HKK := Lib.hid kk
      clear kk
      go_wp2_with fail
      go_loopw [7, 8] (fun s i wr => ∃ (k : Nat) (o : Int), k ≤ n ∧ i = .int .i64 k ∧ s = .int .i64 o ∧ -1 ≤ o ∧ o ≤ 1 ∧ Hid (rinF ((edgesL p).drop k) a o = x) ∧ Below w4.heap.size w4 wr) (fun _ i _ => n - (intOf i).toNat)
      case atStart => exact ⟨0, -1, Nat.zero_le _, rfl, rfl, by omega, by omega, Lib.hid HX.out, Below.refl _ _⟩
      case round =>
        obtain ⟨k, o, hk, rfl, rfl, ho1, ho2, HWF, hbw⟩ := hrel
        have HBW := Lib.hid hbw
        have hkr := below_next HKK.out (Nat.le_refl _) hbw
        have HKR := Lib.hid hkr
        obtain ⟨B0, hbb⟩ := HK.out _ hkr
        have HB0 := Lib.hid B0
        have HBB := Lib.hid hbb
        have HRr := Lib.hid (HRA.out _ hbb)
        clear B0 hbb hbw hkr
        by_cases hlt : k < n
        · have hkp : k < p.length := by have := HL.out; omega
          have hkl : k < (edgesL p).length := by rw [edgesL_len]; exact hkp
          have hstep := rinF_step hkl a o
          rw [edgesL_at] at hstep
          obtain ⟨e, he⟩ : ∃ e, edgeZ p k = e := ⟨_, rfl⟩
          rw [he] at hstep
          have HSTEP := Lib.hid hstep
          have HO1 : Hid (okP e.1 = true) := Lib.hid (by rw [← he]; exact (edge_ok HI.out.2.1 hkp).1)
          have HO2 : Hid (okP e.2 = true) := Lib.hid (by rw [← he]; exact (edge_ok HI.out.2.1 hkp).2)
          have HCE : Hid (Calls Try.prog 35 #[.slice A n cc, .int .i64 k] wr (RetPP wr e)) := Lib.hid (by rw [← he]; exact redge_any A n cc k p wr HRr.out (by omega) hlt)
          clear he hstep
          go_wp2_with fail
          refine HCE.out.mono ?_
          rintro en w5 ⟨rfl, hb5⟩
          obtain ⟨b0, b1, hbb⟩ := box2 w5 23 23 #[.int .i64 e.1.1, .int .i64 e.1.2] #[.int .i64 e.2.1, .int .i64 e.2.2]
          have hb6 := below_next hb5 (Nat.le_refl _) hbb
          have HB6 := Lib.hid (below_next HBW.out (Nat.le_refl _) hb6)
          have c0 := (b0.cell 0).trans rfl; have c1 := (b0.cell 1).trans rfl; have c2 := (b1.cell 0).trans rfl; have c3 := (b1.cell 1).trans rfl
          have hz := HB0.out.below hb5 HB0.out.lt
          have c4 := (hz.cell 0).trans rfl; have c5 := (hz.cell 1).trans rfl
          have hlz : w.heap.size < w5.heap.size := hz.lt
          have E0 := Lib.hid b0; have E1 := Lib.hid b1; have E2 := Lib.hid ((hz.alloc (.cells #[.int .i64 e.1.1, .int .i64 e.1.2] 23)).alloc (.cells #[.int .i64 e.2.1, .int .i64 e.2.2] 23))
          clear b0 b1 hbb hb5 hb6 hz
          obtain ⟨y, hy⟩ : ∃ y, onB e.1 e.2 a = y := ⟨_, rfl⟩
          have HY := Lib.hid hy
          clear hy
          rcases y with _ | _
          · have hcs : ∃ v : Bool, rcrossB e a = v := ⟨_, rfl⟩
            obtain ⟨v, hv⟩ := hcs
            have HWN : Hid (rinF ((edgesL p).drop (k + 1)) a (if v = true then -o else o) = x) := Lib.hid (by rw [← HWF.out, HSTEP.out, HY.out, if_neg Bool.false_ne_true, hv])
            obtain ⟨s, hs⟩ : ∃ s, sideZ e.1 e.2 a = s := ⟨_, rfl⟩
            unfold rcrossB at hv
            rw [hs] at hv
            have HS := Lib.hid hs
            have HV := Lib.hid hv
            clear hs hv
            go_wp2_with fail
            refine (ron_any e.1 e.2 a false _ HO1.out HO2.out HA.out HY.out).mono ?_
            rintro en w7 ⟨rfl, hb7⟩
            have HB7 := Lib.hid (below_next HB6.out (Nat.le_refl _) hb7)
            have x0 := E0.out.below hb7 E0.out.lt; have x1 := E1.out.below hb7 E1.out.lt; have x2 := E2.out.below hb7 E2.out.lt
            clear hb7 c0 c1 c2 c3 c4 c5
            have c0 := (x0.cell 0).trans rfl; have c1 := (x0.cell 1).trans rfl; have c2 := (x1.cell 0).trans rfl; have c3 := (x1.cell 1).trans rfl; have c4 := (x2.cell 0).trans rfl; have c5 := (x2.cell 1).trans rfl
            have K0 := Lib.hid x0; have K1 := Lib.hid x1; have K2 := Lib.hid x2
            clear x0 x1 x2 E0 E1 E2
            have hcs : (e.1.2 ≤ a.2 ∧ a.2 < e.2.2 ∧ decide (e.2.2 ≤ a.2) = false ∧ ((0 < s ∧ v = true) ∨ (s ≤ 0 ∧ decide (0 < s) = false ∧ v = false))) ∨ (e.1.2 ≤ a.2 ∧ e.2.2 ≤ a.2 ∧ decide (a.2 < e.2.2) = false ∧ decide (a.2 < e.1.2) = false ∧ v = false) ∨ (a.2 < e.1.2 ∧ decide (e.1.2 ≤ a.2) = false ∧ e.2.2 ≤ a.2 ∧ ((s < 0 ∧ v = true) ∨ (0 ≤ s ∧ decide (s < 0) = false ∧ v = false))) ∨ (a.2 < e.1.2 ∧ decide (e.1.2 ≤ a.2) = false ∧ a.2 < e.2.2 ∧ decide (e.2.2 ≤ a.2) = false ∧ v = false) := by
              have hq := HV.out
              by_cases g1 : e.1.2 ≤ a.2
              · by_cases g2 : a.2 < e.2.2
                · refine .inl ⟨g1, g2, decide_eq_false (by omega), ?_⟩
                  by_cases g3 : 0 < s
                  · exact .inl ⟨g3, by rw [← hq]; simp [g1, g2, g3]⟩
                  · exact .inr ⟨by omega, decide_eq_false g3, by rw [← hq]; simp [g3]; intros; omega⟩
                · exact .inr (.inl ⟨g1, by omega, decide_eq_false g2, decide_eq_false (by omega), by rw [← hq]; simp [g2]; intros; omega⟩)
              · by_cases g2 : e.2.2 ≤ a.2
                · refine .inr (.inr (.inl ⟨by omega, decide_eq_false g1, g2, ?_⟩))
                  by_cases g3 : s < 0
                  · exact .inl ⟨g3, by rw [← hq]; simp [g2, g3]; omega⟩
                  · exact .inr ⟨by omega, decide_eq_false g3, by rw [← hq]; simp [g1, g3]⟩
                · exact .inr (.inr (.inr ⟨by omega, decide_eq_false g1, by omega, decide_eq_false g2, by rw [← hq]; simp [g1, g2]⟩))
            clear HV
            rcases hcs with ⟨g1, g2, g3, ⟨g4, rfl⟩ | ⟨g4, g5, rfl⟩⟩ | ⟨g1, g2, g3, g4, rfl⟩ | ⟨g1, g2, g3, ⟨g4, rfl⟩ | ⟨g4, g5, rfl⟩⟩ | ⟨g1, g2, g3, g4, rfl⟩
            · go_wp2_with fail
              refine (rside_any e.1 e.2 a s _ HS.out).mono ?_
              rintro en w8 ⟨rfl, hb8⟩
              have HB8 := Lib.hid (below_next HB7.out (Nat.le_refl _) hb8)
              have x0 := K0.out.below hb8 K0.out.lt; have x1 := K1.out.below hb8 K1.out.lt; have x2 := K2.out.below hb8 K2.out.lt
              clear hb8 c0 c1 c2 c3 c4 c5
              have c0 := (x0.cell 0).trans rfl; have c1 := (x0.cell 1).trans rfl; have c2 := (x1.cell 0).trans rfl; have c3 := (x1.cell 1).trans rfl; have c4 := (x2.cell 0).trans rfl; have c5 := (x2.cell 1).trans rfl
              clear x0 x1 x2
              go_wp2_with fail
              go_roundw
              case rel => exact ⟨k + 1, _, by omega, by go_num, rfl, by omega, by omega, Lib.hid HWN.out, HB8.out⟩
              case measure => simp [intOf]; omega
            · go_wp2_with fail
              refine (rside_any e.1 e.2 a s _ HS.out).mono ?_
              rintro en w8 ⟨rfl, hb8⟩
              have HB8 := Lib.hid (below_next HB7.out (Nat.le_refl _) hb8)
              have x0 := K0.out.below hb8 K0.out.lt; have x1 := K1.out.below hb8 K1.out.lt; have x2 := K2.out.below hb8 K2.out.lt
              clear hb8 c0 c1 c2 c3 c4 c5
              have c0 := (x0.cell 0).trans rfl; have c1 := (x0.cell 1).trans rfl; have c2 := (x1.cell 0).trans rfl; have c3 := (x1.cell 1).trans rfl; have c4 := (x2.cell 0).trans rfl; have c5 := (x2.cell 1).trans rfl
              clear x0 x1 x2
              go_wp2_with fail
              go_roundw
              case rel => exact ⟨k + 1, _, by omega, by go_num, rfl, by omega, by omega, Lib.hid HWN.out, HB8.out⟩
              case measure => simp [intOf]; omega
            · go_wp2_with fail
              go_roundw
              case rel => exact ⟨k + 1, _, by omega, by go_num, rfl, by omega, by omega, Lib.hid HWN.out, HB7.out⟩
              case measure => simp [intOf]; omega
            · go_wp2_with fail
              refine (rside_any e.1 e.2 a s _ HS.out).mono ?_
              rintro en w8 ⟨rfl, hb8⟩
              have HB8 := Lib.hid (below_next HB7.out (Nat.le_refl _) hb8)
              have x0 := K0.out.below hb8 K0.out.lt; have x1 := K1.out.below hb8 K1.out.lt; have x2 := K2.out.below hb8 K2.out.lt
              clear hb8 c0 c1 c2 c3 c4 c5
              have c0 := (x0.cell 0).trans rfl; have c1 := (x0.cell 1).trans rfl; have c2 := (x1.cell 0).trans rfl; have c3 := (x1.cell 1).trans rfl; have c4 := (x2.cell 0).trans rfl; have c5 := (x2.cell 1).trans rfl
              clear x0 x1 x2
              go_wp2_with fail
              go_roundw
              case rel => exact ⟨k + 1, _, by omega, by go_num, rfl, by omega, by omega, Lib.hid HWN.out, HB8.out⟩
              case measure => simp [intOf]; omega
            · go_wp2_with fail
              refine (rside_any e.1 e.2 a s _ HS.out).mono ?_
              rintro en w8 ⟨rfl, hb8⟩
              have HB8 := Lib.hid (below_next HB7.out (Nat.le_refl _) hb8)
              have x0 := K0.out.below hb8 K0.out.lt; have x1 := K1.out.below hb8 K1.out.lt; have x2 := K2.out.below hb8 K2.out.lt
              clear hb8 c0 c1 c2 c3 c4 c5
              have c0 := (x0.cell 0).trans rfl; have c1 := (x0.cell 1).trans rfl; have c2 := (x1.cell 0).trans rfl; have c3 := (x1.cell 1).trans rfl; have c4 := (x2.cell 0).trans rfl; have c5 := (x2.cell 1).trans rfl
              clear x0 x1 x2
              go_wp2_with fail
              go_roundw
              case rel => exact ⟨k + 1, _, by omega, by go_num, rfl, by omega, by omega, Lib.hid HWN.out, HB8.out⟩
              case measure => simp [intOf]; omega
            · go_wp2_with fail
              go_roundw
              case rel => exact ⟨k + 1, _, by omega, by go_num, rfl, by omega, by omega, Lib.hid HWN.out, HB7.out⟩
              case measure => simp [intOf]; omega
          · have HX2 : Hid (0 = x) := Lib.hid (by rw [← HWF.out, HSTEP.out, HY.out, if_pos rfl])
            go_wp2_with fail
            refine (ron_any e.1 e.2 a true _ HO1.out HO2.out HA.out HY.out).mono ?_
            rintro en w7 ⟨rfl, hb7⟩
            have hk7 := (HK.out _ (below_next HKK.out (Nat.le_refl _) (below_next HB6.out (Nat.le_refl _) hb7))).2
            have HB7 := Lib.hid hk7
            clear hb7 hk7
            go_wp2_with fail
            go_ret2
            exact ⟨ret_ii HX2.out rfl, HB7.out⟩
        · have HX2 : Hid (o = x) := Lib.hid (by rw [← HWF.out, rinF_end (by rw [edgesL_len]; have := HL.out; omega)])
          go_wp2_with fail
          go_ret2
          exact ⟨ret_ii HX2.out rfl, HBB.out⟩
  · have HC : Hid (rcheckZ p = y) := Lib.hid (by rw [← hy]; unfold rinsE; rw [if_neg h0])
    have t0 := ne0_t (a := y) (by rw [← HC.out]; exact h0)
    obtain rfl : x = 0 := by rw [← hx]; unfold rinsZ; rw [if_neg (by rw [hy, ← HC.out]; exact h0)]
    clear hx hy h0
    go_enter Try.func19, Try.ntmps19
    go_wp2_with fail
    refine (rcheck_any A n cc p y _ HR.out hn HC.out).mono ?_
    rintro e w5 ⟨rfl, hb5⟩
    replace kk := below_next kk (Nat.le_refl _) hb5
    clear c00 c01 HB hb5
    obtain ⟨B0, hbb⟩ := HK.out _ kk
    have c00 := B0.cell 0
    have c01 := B0.cell 1
    have HB := Lib.hid hbb
    clear B0 hbb
    go_wp2_with fail
    go_ret2
    exact ⟨rfl, HB.out⟩
def rdiscE (p : List Pt) (a : Pt) (r : Int) : Int := if rinsE p a = 0 then if 0 ≤ r ∧ r ≤ 16384 then 0 else 1 else rinsE p a
def rdiscI (p : List Pt) (a : Pt) (r : Int) : Int := if rdiscE p a r = 0 then rwhereZ p a else 0
theorem rdiscE_inv {p : List Pt} {a : Pt} {r : Int} (h : rdiscE p a r = 0) : rinsE p a = 0 ∧ 0 ≤ r ∧ r ≤ 16384 := by
  unfold rdiscE at h
  by_cases h0 : rinsE p a = 0
  · rw [if_pos h0] at h
    by_cases h1 : 0 ≤ r ∧ r ≤ 16384
    · exact ⟨h0, h1⟩
    · rw [if_neg h1] at h; exact absurd h (by decide)
  · rw [if_neg h0] at h; exact absurd h h0
set_option maxHeartbeats 2000000 in
theorem rdisc_any (A : Option Addr) (n cc : Nat) (p : List Pt) (a : Pt) (r x z : Int) (w : World) (h : Reads w w.heap.size 2 A n (cellsPt p)) (hn : n ≤ 9223372036854775807) (hx : rdiscI p a r = x) (hz : rdiscE p a r = z) : Calls Try.prog 40 #[.slice A n cc, aggP a, .int .i64 r] w (RetII w x z) := by
  obtain ⟨kk, hK⟩ := box1K w 23 #[.int .i64 a.1, .int .i64 a.2]
  have HK := Lib.hid hK
  clear hK
  obtain ⟨B0, hbb⟩ := HK.out _ kk
  have c00 := B0.cell 0
  have c01 := B0.cell 1
  have HB := Lib.hid hbb
  clear B0 hbb
  have HR := Lib.hid ((h.below HB.out).more HB.out.size)
  clear h
  by_cases h0 : rinsE p a = 0
  · have HC := Lib.hid h0
    by_cases h1 : 0 ≤ r ∧ r ≤ 16384
    · obtain rfl : z = 0 := by rw [← hz]; unfold rdiscE; rw [if_pos h0, if_pos h1]
      have HX : Hid (rinsZ p a = x) := Lib.hid (by rw [← hx]; unfold rdiscI rinsZ; rw [if_pos hz, if_pos h0])
      obtain ⟨g1, g2⟩ := h1
      clear hx hz h0
      go_enter Try.func40, Try.ntmps40
      go_wp2_with fail
      refine (rinside_any A n cc p a x 0 _ HR.out hn HX.out HC.out).mono ?_
      rintro e w1 ⟨rfl, hb1⟩
      replace kk := below_next kk (Nat.le_refl _) hb1
      clear c00 c01 HB hb1
      obtain ⟨B0, hbb⟩ := HK.out _ kk
      have c00 := B0.cell 0
      have c01 := B0.cell 1
      have HB := Lib.hid hbb
      clear B0 hbb
      go_wp2_with fail
      go_ret2
      exact ⟨rfl, HB.out⟩
    · obtain rfl : z = 1 := by rw [← hz]; unfold rdiscE; rw [if_pos h0, if_neg h1]
      obtain rfl : x = 0 := by rw [← hx]; unfold rdiscI; rw [if_neg (by rw [hz]; decide)]
      have hcs : r < 0 ∨ (0 ≤ r ∧ 16384 < r) := by omega
      obtain ⟨v, hv⟩ : ∃ v, rinsZ p a = v := ⟨_, rfl⟩
      have HV := Lib.hid hv
      clear hx hz h0 h1 hv
      rcases hcs with g1 | ⟨g1, g2⟩
      all_goals
        go_enter Try.func40, Try.ntmps40
        go_wp2_with fail
        refine (rinside_any A n cc p a v 0 _ HR.out hn HV.out HC.out).mono ?_
        rintro e w2 ⟨rfl, hb2⟩
        replace kk := below_next kk (Nat.le_refl _) hb2
        clear c00 c01 HB hb2
        obtain ⟨B0, hbb⟩ := HK.out _ kk
        have c00 := B0.cell 0
        have c01 := B0.cell 1
        have HB := Lib.hid hbb
        clear B0 hbb
        go_wp2_with fail
        go_ret2
        exact ⟨rfl, HB.out⟩
  · have HC : Hid (rinsE p a = z) := Lib.hid (by rw [← hz]; unfold rdiscE; rw [if_neg h0])
    have t0 := ne0_t (a := z) (by rw [← HC.out]; exact h0)
    obtain rfl : x = 0 := by rw [← hx]; unfold rdiscI; rw [if_neg (by rw [hz, ← HC.out]; exact h0)]
    obtain ⟨v, hv⟩ : ∃ v, rinsZ p a = v := ⟨_, rfl⟩
    have HV := Lib.hid hv
    clear hx hz h0 hv
    go_enter Try.func40, Try.ntmps40
    go_wp2_with fail
    refine (rinside_any A n cc p a v z _ HR.out hn HV.out HC.out).mono ?_
    rintro e w3 ⟨rfl, hb3⟩
    replace kk := below_next kk (Nat.le_refl _) hb3
    clear c00 c01 HB hb3
    obtain ⟨B0, hbb⟩ := HK.out _ kk
    have c00 := B0.cell 0
    have c01 := B0.cell 1
    have HB := Lib.hid hbb
    clear B0 hbb
    go_wp2_with fail
    go_ret2
    exact ⟨rfl, HB.out⟩
/-- The loop of Touches. -/
def rtF : List Ed → Pt → Int → Bool → Bool
  | [], _, _, b => b
  | e :: l, a, r, b => if cmpZ e.1 e.2 a r ≤ 0 then true else rtF l a r b
theorem rtF_step {l : List Ed} {k : Nat} (hk : k < l.length) (a : Pt) (r : Int) (b : Bool) : rtF (l.drop k) a r b = if cmpZ l[k].1 l[k].2 a r ≤ 0 then true else rtF (l.drop (k + 1)) a r b := by
  rw [List.drop_eq_getElem_cons hk]; rfl
theorem rtF_end {l : List Ed} {k : Nat} (hk : l.length ≤ k) (a : Pt) (r : Int) (b : Bool) : rtF (l.drop k) a r b = b := by
  rw [List.drop_eq_nil_of_le hk]; rfl
def rtouchB (p : List Pt) (a : Pt) (r : Int) : Bool := if rdiscE p a r = 0 then rtF (edgesL p) a r (decide (0 ≤ rdiscI p a r)) else false
set_option maxHeartbeats 4000000 in
set_option maxRecDepth 10000 in
theorem rtouches_any (A : Option Addr) (n cc : Nat) (p : List Pt) (a : Pt) (r : Int) (x : Bool) (y : Int) (w : World) (h : Reads w w.heap.size 2 A n (cellsPt p)) (hn : n ≤ 9223372036854775807) (hx : rtouchB p a r = x) (hy : rdiscE p a r = y) : Calls Try.prog 21 #[.slice A n cc, aggP a, .int .i64 r] w (RetBI w x y) := by
  obtain ⟨kk, hK⟩ := box1K w 23 #[.int .i64 a.1, .int .i64 a.2]
  have HK := Lib.hid hK
  clear hK
  obtain ⟨B0, hbb⟩ := HK.out _ kk
  have c00 := B0.cell 0
  have c01 := B0.cell 1
  have HB := Lib.hid hbb
  clear B0 hbb
  have HR := Lib.hid ((h.below HB.out).more HB.out.size)
  have HL := Lib.hid (recs_len h encPt_len (by omega))
  have HRA : Hid (∀ u, Below w.heap.size w u → Reads u u.heap.size 2 A n (cellsPt p)) := Lib.hid fun u hu => (h.below hu).more hu.size
  clear h
  have HY := Lib.hid hy
  obtain ⟨u, hu⟩ : ∃ u, rdiscI p a r = u := ⟨_, rfl⟩
  have HU := Lib.hid hu
  unfold rtouchB at hx
  rw [hy, hu] at hx
  have HX := Lib.hid hx
  clear hx hy hu
  by_cases h0 : y = 0
  · subst h0
    have HX2 : Hid (rtF (edgesL p) a r (decide (0 ≤ u)) = x) := Lib.hid (by rw [← HX.out, if_pos rfl])
    have hd := rdiscE_inv HY.out
    have HIN := Lib.hid (rinsE_inv hd.1)
    have HI := Lib.hid (rcheck_inv HIN.out.1)
    obtain ⟨_, g1, g2⟩ := hd
    have hn32 : n ≤ 32 := by have := HL.out; have := HI.out.1; omega
    clear HX
    go_enter Try.func21, Try.ntmps21
    go_wp2_with fail
    refine (rdisc_any A n cc p a r u 0 _ HR.out hn HU.out HY.out).mono ?_
    rintro e w1 ⟨rfl, hb1⟩
    replace kk := below_next kk (Nat.le_refl _) hb1
    clear c00 c01 HB hb1
    obtain ⟨B0, hbb⟩ := HK.out _ kk
    have c00 := B0.cell 0
    have c01 := B0.cell 1
    have HB := Lib.hid hbb
    clear B0 hbb
    clear HB c00 c01
    have HKK := Lib.hid kk
    clear kk
    go_wp2_with fail
    go_loopw [10] (fun i wr => ∃ k : Nat, k ≤ n ∧ i = .int .i64 k ∧ Hid (rtF ((edgesL p).drop k) a r (decide (0 ≤ u)) = x) ∧ Below w1.heap.size w1 wr) (fun i _ => n - (intOf i).toNat)
    case atStart => exact ⟨0, Nat.zero_le _, rfl, Lib.hid HX2.out, Below.refl _ _⟩
    case round =>
      obtain ⟨k, hk, rfl, HF, hbw⟩ := hrel
      have HBW := Lib.hid hbw
      have hkr := below_next HKK.out (Nat.le_refl _) hbw
      obtain ⟨B0, hbb⟩ := HK.out _ hkr
      have HB0 := Lib.hid B0
      have HBB := Lib.hid hbb
      have HRr := Lib.hid (HRA.out _ hbb)
      clear B0 hbb hbw hkr
      by_cases hlt : k < n
      · have hkp : k < p.length := by have := HL.out; omega
        have hkl : k < (edgesL p).length := by rw [edgesL_len]; exact hkp
        have hstep := rtF_step hkl a r (decide (0 ≤ u))
        rw [edgesL_at] at hstep
        obtain ⟨e, he⟩ : ∃ e, edgeZ p k = e := ⟨_, rfl⟩
        rw [he] at hstep
        obtain ⟨v, hv⟩ : ∃ v, cmpZ e.1 e.2 a r = v := ⟨_, rfl⟩
        rw [hv] at hstep
        have HSTEP := Lib.hid hstep; have HV := Lib.hid hv
        have HO1 : Hid (okP e.1 = true) := Lib.hid (by rw [← he]; exact (edge_ok HI.out.2.1 hkp).1)
        have HO2 : Hid (okP e.2 = true) := Lib.hid (by rw [← he]; exact (edge_ok HI.out.2.1 hkp).2)
        have HCE : Hid (Calls Try.prog 35 #[.slice A n cc, .int .i64 k] wr (RetPP wr e)) := Lib.hid (by rw [← he]; exact redge_any A n cc k p wr HRr.out (by omega) hlt)
        clear he hstep hv
        go_wp2_with fail
        refine HCE.out.mono ?_
        rintro en w5 ⟨rfl, hb5⟩
        obtain ⟨b0, b1, hbb⟩ := box2 w5 23 23 #[.int .i64 e.1.1, .int .i64 e.1.2] #[.int .i64 e.2.1, .int .i64 e.2.2]
        have hb6 := below_next hb5 (Nat.le_refl _) hbb
        have HB6 := Lib.hid (below_next HBW.out (Nat.le_refl _) hb6)
        have c0 := (b0.cell 0).trans rfl; have c1 := (b0.cell 1).trans rfl; have c2 := (b1.cell 0).trans rfl; have c3 := (b1.cell 1).trans rfl
        have hz := HB0.out.below hb5 HB0.out.lt
        have c4 := (hz.cell 0).trans rfl; have c5 := (hz.cell 1).trans rfl
        have hlz : w.heap.size < w5.heap.size := hz.lt
        clear b0 b1 hbb hb5 hb6 hz
        by_cases g3 : v ≤ 0
        · have HX3 : Hid (true = x) := Lib.hid (by rw [← HF.out, HSTEP.out, if_pos g3])
          go_wp2_with fail
          refine (rcompare_any e.1 e.2 a r v _ HO1.out HO2.out HIN.out.2 g1 g2 HV.out).mono ?_
          rintro en w7 ⟨rfl, hb7⟩
          have hk7 := (HK.out _ (below_next HKK.out (Nat.le_refl _) (below_next HB6.out (Nat.le_refl _) hb7))).2
          have HB7 := Lib.hid hk7
          clear hb7 hk7
          go_wp2_with fail
          go_ret2
          exact ⟨ret_bi HX3.out rfl, HB7.out⟩
        · have HF2 : Hid (rtF ((edgesL p).drop (k + 1)) a r (decide (0 ≤ u)) = x) := Lib.hid (by rw [← HF.out, HSTEP.out, if_neg g3])
          have g4 : 0 < v := by omega
          clear g3
          go_wp2_with fail
          refine (rcompare_any e.1 e.2 a r v _ HO1.out HO2.out HIN.out.2 g1 g2 HV.out).mono ?_
          rintro en w7 ⟨rfl, hb7⟩
          have HB7 := Lib.hid (below_next HB6.out (Nat.le_refl _) hb7)
          clear hb7
          go_wp2_with fail
          go_roundw
          case rel => exact ⟨k + 1, by omega, by go_num, Lib.hid HF2.out, HB7.out⟩
          case measure => simp [intOf]; omega
      · have HX3 : Hid (decide (0 ≤ u) = x) := Lib.hid (by rw [← HF.out, rtF_end (by rw [edgesL_len]; have := HL.out; omega)])
        go_wp2_with fail
        go_ret2
        exact ⟨ret_bi HX3.out rfl, HBB.out⟩
  · have HX2 : Hid (false = x) := Lib.hid (by rw [← HX.out, if_neg h0])
    have t0 := ne0_t h0
    clear h0
    go_enter Try.func21, Try.ntmps21
    go_wp2_with fail
    refine (rdisc_any A n cc p a r u y _ HR.out hn HU.out HY.out).mono ?_
    rintro e w2 ⟨rfl, hb2⟩
    replace kk := below_next kk (Nat.le_refl _) hb2
    clear c00 c01 HB hb2
    obtain ⟨B0, hbb⟩ := HK.out _ kk
    have c00 := B0.cell 0
    have c01 := B0.cell 1
    have HB := Lib.hid hbb
    clear B0 hbb
    go_wp2_with fail
    go_ret2
    exact ⟨ret_bi HX2.out rfl, HB.out⟩
/-- The loop of Covers. -/
def rcF : List Ed → Pt → Int → Bool → Bool
  | [], _, _, b => b
  | e :: l, a, r, b => if cmpZ e.1 e.2 a r < 0 then false else rcF l a r b
theorem rcF_step {l : List Ed} {k : Nat} (hk : k < l.length) (a : Pt) (r : Int) (b : Bool) : rcF (l.drop k) a r b = if cmpZ l[k].1 l[k].2 a r < 0 then false else rcF (l.drop (k + 1)) a r b := by
  rw [List.drop_eq_getElem_cons hk]; rfl
theorem rcF_end {l : List Ed} {k : Nat} (hk : l.length ≤ k) (a : Pt) (r : Int) (b : Bool) : rcF (l.drop k) a r b = b := by
  rw [List.drop_eq_nil_of_le hk]; rfl
def rcoverB (p : List Pt) (a : Pt) (r : Int) : Bool := if rdiscE p a r = 0 then rcF (edgesL p) a r (decide (0 ≤ rdiscI p a r)) else false
set_option maxHeartbeats 4000000 in
set_option maxRecDepth 10000 in
theorem rcovers_any (A : Option Addr) (n cc : Nat) (p : List Pt) (a : Pt) (r : Int) (x : Bool) (y : Int) (w : World) (h : Reads w w.heap.size 2 A n (cellsPt p)) (hn : n ≤ 9223372036854775807) (hx : rcoverB p a r = x) (hy : rdiscE p a r = y) : Calls Try.prog 23 #[.slice A n cc, aggP a, .int .i64 r] w (RetBI w x y) := by
  obtain ⟨kk, hK⟩ := box1K w 23 #[.int .i64 a.1, .int .i64 a.2]
  have HK := Lib.hid hK
  clear hK
  obtain ⟨B0, hbb⟩ := HK.out _ kk
  have c00 := B0.cell 0
  have c01 := B0.cell 1
  have HB := Lib.hid hbb
  clear B0 hbb
  have HR := Lib.hid ((h.below HB.out).more HB.out.size)
  have HL := Lib.hid (recs_len h encPt_len (by omega))
  have HRA : Hid (∀ u, Below w.heap.size w u → Reads u u.heap.size 2 A n (cellsPt p)) := Lib.hid fun u hu => (h.below hu).more hu.size
  clear h
  have HY := Lib.hid hy
  obtain ⟨u, hu⟩ : ∃ u, rdiscI p a r = u := ⟨_, rfl⟩
  have HU := Lib.hid hu
  unfold rcoverB at hx
  rw [hy, hu] at hx
  have HX := Lib.hid hx
  clear hx hy hu
  by_cases h0 : y = 0
  · subst h0
    have HX2 : Hid (rcF (edgesL p) a r (decide (0 ≤ u)) = x) := Lib.hid (by rw [← HX.out, if_pos rfl])
    have hd := rdiscE_inv HY.out
    have HIN := Lib.hid (rinsE_inv hd.1)
    have HI := Lib.hid (rcheck_inv HIN.out.1)
    obtain ⟨_, g1, g2⟩ := hd
    have hn32 : n ≤ 32 := by have := HL.out; have := HI.out.1; omega
    clear HX
    go_enter Try.func23, Try.ntmps23
    go_wp2_with fail
    refine (rdisc_any A n cc p a r u 0 _ HR.out hn HU.out HY.out).mono ?_
    rintro e w1 ⟨rfl, hb1⟩
    replace kk := below_next kk (Nat.le_refl _) hb1
    clear c00 c01 HB hb1
    obtain ⟨B0, hbb⟩ := HK.out _ kk
    have c00 := B0.cell 0
    have c01 := B0.cell 1
    have HB := Lib.hid hbb
    clear B0 hbb
    clear HB c00 c01
    have HKK := Lib.hid kk
    clear kk
    go_wp2_with fail
    go_loopw [10] (fun i wr => ∃ k : Nat, k ≤ n ∧ i = .int .i64 k ∧ Hid (rcF ((edgesL p).drop k) a r (decide (0 ≤ u)) = x) ∧ Below w1.heap.size w1 wr) (fun i _ => n - (intOf i).toNat)
    case atStart => exact ⟨0, Nat.zero_le _, rfl, Lib.hid HX2.out, Below.refl _ _⟩
    case round =>
      obtain ⟨k, hk, rfl, HF, hbw⟩ := hrel
      have HBW := Lib.hid hbw
      have hkr := below_next HKK.out (Nat.le_refl _) hbw
      obtain ⟨B0, hbb⟩ := HK.out _ hkr
      have HB0 := Lib.hid B0
      have HBB := Lib.hid hbb
      have HRr := Lib.hid (HRA.out _ hbb)
      clear B0 hbb hbw hkr
      by_cases hlt : k < n
      · have hkp : k < p.length := by have := HL.out; omega
        have hkl : k < (edgesL p).length := by rw [edgesL_len]; exact hkp
        have hstep := rcF_step hkl a r (decide (0 ≤ u))
        rw [edgesL_at] at hstep
        obtain ⟨e, he⟩ : ∃ e, edgeZ p k = e := ⟨_, rfl⟩
        rw [he] at hstep
        obtain ⟨v, hv⟩ : ∃ v, cmpZ e.1 e.2 a r = v := ⟨_, rfl⟩
        rw [hv] at hstep
        have HSTEP := Lib.hid hstep; have HV := Lib.hid hv
        have HO1 : Hid (okP e.1 = true) := Lib.hid (by rw [← he]; exact (edge_ok HI.out.2.1 hkp).1)
        have HO2 : Hid (okP e.2 = true) := Lib.hid (by rw [← he]; exact (edge_ok HI.out.2.1 hkp).2)
        have HCE : Hid (Calls Try.prog 35 #[.slice A n cc, .int .i64 k] wr (RetPP wr e)) := Lib.hid (by rw [← he]; exact redge_any A n cc k p wr HRr.out (by omega) hlt)
        clear he hstep hv
        go_wp2_with fail
        refine HCE.out.mono ?_
        rintro en w5 ⟨rfl, hb5⟩
        obtain ⟨b0, b1, hbb⟩ := box2 w5 23 23 #[.int .i64 e.1.1, .int .i64 e.1.2] #[.int .i64 e.2.1, .int .i64 e.2.2]
        have hb6 := below_next hb5 (Nat.le_refl _) hbb
        have HB6 := Lib.hid (below_next HBW.out (Nat.le_refl _) hb6)
        have c0 := (b0.cell 0).trans rfl; have c1 := (b0.cell 1).trans rfl; have c2 := (b1.cell 0).trans rfl; have c3 := (b1.cell 1).trans rfl
        have hz := HB0.out.below hb5 HB0.out.lt
        have c4 := (hz.cell 0).trans rfl; have c5 := (hz.cell 1).trans rfl
        have hlz : w.heap.size < w5.heap.size := hz.lt
        clear b0 b1 hbb hb5 hb6 hz
        by_cases g3 : v < 0
        · have HX3 : Hid (false = x) := Lib.hid (by rw [← HF.out, HSTEP.out, if_pos g3])
          go_wp2_with fail
          refine (rcompare_any e.1 e.2 a r v _ HO1.out HO2.out HIN.out.2 g1 g2 HV.out).mono ?_
          rintro en w7 ⟨rfl, hb7⟩
          have hk7 := (HK.out _ (below_next HKK.out (Nat.le_refl _) (below_next HB6.out (Nat.le_refl _) hb7))).2
          have HB7 := Lib.hid hk7
          clear hb7 hk7
          go_wp2_with fail
          go_ret2
          exact ⟨ret_bi HX3.out rfl, HB7.out⟩
        · have HF2 : Hid (rcF ((edgesL p).drop (k + 1)) a r (decide (0 ≤ u)) = x) := Lib.hid (by rw [← HF.out, HSTEP.out, if_neg g3])
          have g4 : 0 ≤ v := by omega
          clear g3
          go_wp2_with fail
          refine (rcompare_any e.1 e.2 a r v _ HO1.out HO2.out HIN.out.2 g1 g2 HV.out).mono ?_
          rintro en w7 ⟨rfl, hb7⟩
          have HB7 := Lib.hid (below_next HB6.out (Nat.le_refl _) hb7)
          clear hb7
          go_wp2_with fail
          go_roundw
          case rel => exact ⟨k + 1, by omega, by go_num, Lib.hid HF2.out, HB7.out⟩
          case measure => simp [intOf]; omega
      · have HX3 : Hid (decide (0 ≤ u) = x) := Lib.hid (by rw [← HF.out, rcF_end (by rw [edgesL_len]; have := HL.out; omega)])
        go_wp2_with fail
        go_ret2
        exact ⟨ret_bi HX3.out rfl, HBB.out⟩
  · have HX2 : Hid (false = x) := Lib.hid (by rw [← HX.out, if_neg h0])
    have t0 := ne0_t h0
    clear h0
    go_enter Try.func23, Try.ntmps23
    go_wp2_with fail
    refine (rdisc_any A n cc p a r u y _ HR.out hn HU.out HY.out).mono ?_
    rintro e w2 ⟨rfl, hb2⟩
    replace kk := below_next kk (Nat.le_refl _) hb2
    clear c00 c01 HB hb2
    obtain ⟨B0, hbb⟩ := HK.out _ kk
    have c00 := B0.cell 0
    have c01 := B0.cell 1
    have HB := Lib.hid hbb
    clear B0 hbb
    go_wp2_with fail
    go_ret2
    exact ⟨ret_bi HX2.out rfl, HB.out⟩
end Go.Proofs.Ytomnodpmpdodbaa
