/- The walks of the program's twice and simple. -/
import Derived.Test.YtomnodpmpdodbaaGeoD
namespace Go.Proofs.Ytomnodpmpdodbaa
open Go.RowKit
theorem eqPt (a b : Pt) (w : World) : (Op.equalIn 10000 23 (.agg #[.int .i64 a.1, .int .i64 a.2]) (.agg #[.int .i64 b.1, .int .i64 b.2])).run Try.prog w = .ok (decide (a = b)) w := by
  obtain ⟨a0, a1⟩ := a; obtain ⟨b0, b1⟩ := b
  rcases e0 : (a0 == b0) with _ | _
  · rw [beq_eq_false_iff_ne] at e0
    rw [decide_eq_false (fun h => e0 (congrArg Prod.fst h))]
    simp [go_sem, e0]
  · rw [beq_iff_eq] at e0
    subst e0
    rcases e1 : (a1 == b1) with _ | _
    · rw [beq_eq_false_iff_ne] at e1
      rw [decide_eq_false (fun h => e1 (congrArg Prod.snd h))]
      simp [go_sem, e1]
    · rw [beq_iff_eq] at e1
      subst e1
      rw [decide_eq_true rfl]
      simp [go_sem]
def termE (e : Ed) : Int := e.1.1 * e.2.2 - e.1.2 * e.2.1
def sumE (l : List Ed) : Int := (l.map termE).sum
def twiceZ (p : List Pt) : Int := sumE (edgesL p)
theorem sumE_take (l : List Ed) {k : Nat} (hk : k < l.length) : sumE (l.take (k + 1)) = sumE (l.take k) + termE l[k] := by
  unfold sumE; rw [List.take_succ_eq_append_getElem hk]; simp only [List.map_append, List.sum_append, List.map_cons, List.map_nil, List.sum_cons, List.sum_nil, Int.add_zero]
theorem term_bd {e : Ed} (h : okE e = true) : -536870912 ≤ termE e ∧ termE e ≤ 536870912 := by
  obtain ⟨h1, h2⟩ := okE_t h
  obtain ⟨p1, p2, p3, p4⟩ := okP_t h1; obtain ⟨q1, q2, q3, q4⟩ := okP_t h2
  have e1 := mul_bd (A := 16384) (B := 16384) p1 p2 q3 q4
  have e2 := mul_bd (A := 16384) (B := 16384) p3 p4 q1 q2
  unfold termE; omega
theorem sum_bd (l : List Ed) (h : ∀ e ∈ l, okE e = true) : -536870912 * (l.length : Int) ≤ sumE l ∧ sumE l ≤ 536870912 * (l.length : Int) := by
  induction l with
  | nil => simp [sumE]
  | cons e l ih =>
    have h1 := term_bd (h e (List.mem_cons_self ..))
    have h2 := ih fun x hx => h x (List.mem_cons_of_mem _ hx)
    have h3 : sumE (e :: l) = termE e + sumE l := by simp [sumE]
    rw [h3, List.length_cons]
    omega
set_option maxHeartbeats 2000000 in
set_option maxRecDepth 10000 in
theorem twice_any (A : Option Addr) (n c : Nat) (p : List Pt) (x : Int) (w : World) (h : Reads w w.heap.size 2 A n (cellsPt p)) (hn : n ≤ 1000) (hok : p.all okP = true) (hx : twiceZ p = x) : Calls Try.prog 31 #[.slice A n c] w (RetI w x) := by
  have HH := Lib.hid h
  have HL := Lib.hid (recs_len h encPt_len (by omega))
  have HX := Lib.hid hx
  have HOK := Lib.hid (edges_ok hok)
  clear h hx hok
  obtain ⟨l, hl⟩ : ∃ l, edgesL p = l := ⟨_, rfl⟩
  have HLE : Hid (l.length = n) := Lib.hid (by rw [← hl, edgesL_len, HL.out])
  have HOKL : Hid (∀ e ∈ l, okE e = true) := Lib.hid (by rw [← hl]; exact HOK.out)
  have HXL : Hid (sumE l = x) := Lib.hid (by rw [← HX.out, ← hl]; rfl)
  have HC : Hid (Calls Try.prog 34 #[.slice A n c] w (RetOwn w 60 4 (cellsEd l))) := Lib.hid (by rw [← hl]; exact edges_any A n c p w HH.out (by omega))
  clear hl HH HL HX HOK
  go_enter Try.func31, Try.ntmps31
  go_wp2_with fail
  refine HC.out.mono ?_
  rintro e w1 ⟨A1, n1, c1, rfl, hown, hb1⟩
  obtain rfl : n1 = n := by have := recs_len (Reads.of_own hown) encEd_len (by omega); have := HLE.out; omega
  have HR := Lib.hid (Reads.of_own hown); have HB1 := Lib.hid hb1
  clear hown hb1 HC
  go_wp2_with fail
  go_loopw [3, 9] (fun s i wr => ∃ k : Nat, k ≤ n1 ∧ i = .int .i64 k ∧ s = .int .i64 (sumE (l.take k)) ∧ Below w1.heap.size w1 wr) (fun _ i _ => n1 - (intOf i).toNat)
  case atStart => exact ⟨0, Nat.zero_le _, rfl, rfl, Below.refl _ _⟩
  case round =>
    obtain ⟨k, hk, rfl, rfl, hbw⟩ := hrel
    have HBW := Lib.hid hbw
    have HRr := Lib.hid (HR.out.below hbw)
    clear hbw
    by_cases hlt : k < n1
    · have hkl : k < l.length := by have := HLE.out; omega
      obtain ⟨b, off, rfl, hb, hc⟩ := eds_cells HRr.out (by omega)
      obtain ⟨d0, d1, d2, d3⟩ := hc k hkl
      have hk0 : (0 : Int) ≤ k := by omega
      have hk1 : (k : Int) < n1 := by omega
      have hoke := HOKL.out _ (List.getElem_mem hkl)
      have hsb := sum_bd (l.take k) fun e he => HOKL.out e (List.mem_of_mem_take he)
      have htb := term_bd hoke
      have HT := Lib.hid (sumE_take l hkl)
      obtain ⟨o1, o2⟩ := okE_t hoke
      obtain ⟨p1, p2, p3, p4⟩ := okP_t o1; obtain ⟨q1, q2, q3, q4⟩ := okP_t o2
      have m1 := mul_bd (A := 16384) (B := 16384) p1 p2 q3 q4
      have m2 := mul_bd (A := 16384) (B := 16384) p3 p4 q1 q2
      have hlt2 : ((l.take k).length : Int) ≤ 1000 := by have := List.length_take_le k l; omega
      have f1 := wr_ (n := l[k].1.1 * l[k].2.2) (by omega)
      have f2 := wr_ (n := l[k].1.2 * l[k].2.1) (by omega)
      have f3 := wr_ (n := l[k].1.1 * l[k].2.2 - l[k].1.2 * l[k].2.1) (by omega)
      have f4 := wr_ (n := sumE (l.take k) + (l[k].1.1 * l[k].2.2 - l[k].1.2 * l[k].2.1)) (by unfold termE at htb; omega)
      have hbb : b < wr.heap.size := Nat.lt_of_lt_of_le hb HBW.out.size
      have HBA := Lib.hid (HBW.out.alloc HBW.out.size (.cells #[.int .i64 l[k].1.1, .int .i64 l[k].1.2, .int .i64 l[k].2.1, .int .i64 l[k].2.2] 60))
      clear hc hoke hsb htb o1 o2 p1 p2 p3 p4 q1 q2 q3 q4 m1 m2 hlt2
      go_wp2_with fail
      go_roundw
      case rel => exact ⟨k + 1, by omega, by go_num, by rw [HT.out]; rfl, HBA.out⟩
      case measure => simp [intOf]; omega
    · have HE : Hid (l.take k = l) := Lib.hid (List.take_of_length_le (by have := HLE.out; omega))
      go_wp2_with fail
      go_ret
      exact ⟨ret_int (by rw [HE.out, HXL.out]), below_next HB1.out (Nat.le_refl _) HBW.out⟩
def eAt (l : List Ed) (i : Nat) : Ed := l.getD i ((0, 0), (0, 0))
theorem eAt_get {l : List Ed} {i : Nat} (h : i < l.length) : eAt l i = l[i] := by unfold eAt; rw [List.getD_eq_getElem?_getD, List.getElem?_eq_getElem h]; rfl
def badB (l : List Ed) (k i : Nat) : Bool := if k + 1 = i then foldsB (eAt l k) (eAt l i) else if k = 0 ∧ i + 1 = l.length then foldsB (eAt l i) (eAt l k) else meetsB (eAt l i) (eAt l k)
def rowB (l : List Ed) (i : Nat) : Bool := decide ((eAt l i).1 ≠ (eAt l i).2) && (List.range i).all fun k => !badB l k i
def simpleB (l : List Ed) : Bool := (List.range l.length).all (rowB l)
theorem simple_no {l : List Ed} {i : Nat} (hi : i < l.length) (h : rowB l i = false) : simpleB l = false := by
  unfold simpleB
  rw [List.all_eq_false]
  exact ⟨i, by simpa using hi, by simp [h]⟩
theorem simple_yes {l : List Ed} (h : ∀ i, i < l.length → rowB l i = true) : simpleB l = true := by
  unfold simpleB
  rw [List.all_eq_true]
  exact fun i hi => h i (by simpa using hi)
theorem row_eq {l : List Ed} {i : Nat} (h : (eAt l i).1 = (eAt l i).2) : rowB l i = false := by unfold rowB; rw [decide_eq_false (fun e => e h)]; rfl
theorem row_bad {l : List Ed} {i k : Nat} (hk : k < i) (h : badB l k i = true) : rowB l i = false := by
  have : (List.range i).all (fun k => !badB l k i) = false := by
    rw [List.all_eq_false]; exact ⟨k, by simpa using hk, by simp [h]⟩
  unfold rowB; rw [this, Bool.and_false]
theorem row_yes {l : List Ed} {i : Nat} (h : (eAt l i).1 ≠ (eAt l i).2) (hb : ∀ k, k < i → badB l k i = false) : rowB l i = true := by
  have : (List.range i).all (fun k => !badB l k i) = true := by
    rw [List.all_eq_true]; exact fun k hk => by rw [hb k (by simpa using hk)]; rfl
  unfold rowB; rw [this, decide_eq_true h]; rfl
set_option maxHeartbeats 8000000 in
set_option maxRecDepth 10000 in
theorem simple_any (A : Option Addr) (n c : Nat) (l : List Ed) (x : Bool) (w : World) (h : Reads w w.heap.size 4 A n (cellsEd l)) (hn : n ≤ 1000) (hnc : n ≤ c) (hok : ∀ e ∈ l, okE e = true) (hx : simpleB l = x) : Calls Try.prog 33 #[.slice A n c] w (RetB w x) := by
  have HR := Lib.hid h; have HL := Lib.hid (recs_len h encEd_len (by omega)); have HX := Lib.hid hx; have HOK := Lib.hid hok
  clear h hx hok
  go_enter Try.func33, Try.ntmps33
  go_wp2_with fail
  go_loopw [9] (fun i wr => ∃ k : Nat, k ≤ n ∧ i = .int .i64 k ∧ Hid (∀ j, j < k → rowB l j = true) ∧ Below w.heap.size w wr) (fun i _ => n - (intOf i).toNat)
  case atStart => exact ⟨0, Nat.zero_le _, rfl, Lib.hid (fun j h => absurd h (Nat.not_lt_zero _)), Below.refl _ _⟩
  case round =>
    obtain ⟨wo, rfl⟩ : ∃ wo : World, wo = wr := ⟨_, rfl⟩
    obtain ⟨i, hi, rfl, HA, hbw⟩ := hrel
    have HBW := Lib.hid hbw
    have HRr := Lib.hid (HR.out.below hbw)
    clear hbw
    by_cases hlt : i < n
    · have hil : i < l.length := by have := HL.out; omega
      obtain ⟨b, off, rfl, hb, hc⟩ := eds_cells HRr.out (by omega)
      obtain ⟨d0, d1, d2, d3⟩ := hc i hil
      have hi0 : (0 : Int) ≤ i := by omega
      have hi1 : (i : Int) < n := by omega
      have hic : (i : Int) ≤ c := by omega
      have hbb : b < wo.heap.size := Nat.lt_of_lt_of_le hb HBW.out.size
      have HEI := Lib.hid (eAt_get hil)
      have B0 := Blk.new wo 60 #[.int .i64 l[i].1.1, .int .i64 l[i].1.2, .int .i64 l[i].2.1, .int .i64 l[i].2.2]
      have g0 := (B0.cell 0).trans rfl; have g1 := (B0.cell 1).trans rfl; have g2 := (B0.cell 2).trans rfl; have g3 := (B0.cell 3).trans rfl
      have HB0 := Lib.hid B0
      have HBV := Lib.hid (HBW.out.alloc HBW.out.size (.cells #[.int .i64 l[i].1.1, .int .i64 l[i].1.2, .int .i64 l[i].2.1, .int .i64 l[i].2.2] 60))
      have HC := Lib.hid hc
      have hoki := HOK.out _ (List.getElem_mem hil)
      have HOI := Lib.hid hoki
      clear B0 hc hoki
      have heq := eqPt l[i].1 l[i].2
      by_cases he : l[i].1 = l[i].2
      · rw [decide_eq_true he] at heq
        have HX2 : Hid (false = x) := Lib.hid (by rw [← HX.out, simple_no hil (row_eq (by rw [HEI.out]; exact he))])
        clear he
        go_wp2_with fail
        go_ret
        exact ⟨ret_bool HX2.out, HBV.out⟩
      · rw [decide_eq_false he] at heq
        have HNE : Hid ((eAt l i).1 ≠ (eAt l i).2) := Lib.hid (by rw [HEI.out]; exact he)
        clear he
        go_wp2_with fail
        have HG : Hid (∀ {u : World}, Below (wo.alloc (.cells #[.int .i64 l[i].1.1, .int .i64 l[i].1.2, .int .i64 l[i].2.1, .int .i64 l[i].2.2] 60)).heap.size (wo.alloc (.cells #[.int .i64 l[i].1.1, .int .i64 l[i].1.2, .int .i64 l[i].2.1, .int .i64 l[i].2.2] 60)) u → Blk u wo.heap.size 60 #[.int .i64 l[i].1.1, .int .i64 l[i].1.2, .int .i64 l[i].2.1, .int .i64 l[i].2.2]) := Lib.hid fun h => HB0.out.below h HB0.out.lt
        have HRv := Lib.hid (HRr.out.alloc HBW.out.size (.cells #[.int .i64 l[i].1.1, .int .i64 l[i].1.2, .int .i64 l[i].2.1, .int .i64 l[i].2.2] 60))
        have hwv : wo.heap.size < (wo.alloc (.cells #[.int .i64 l[i].1.1, .int .i64 l[i].1.2, .int .i64 l[i].2.1, .int .i64 l[i].2.2] 60)).heap.size := by simp
        clear d0 d1 d2 d3 g0 g1 g2 g3 HC HB0 heq
        generalize wo.alloc (.cells #[.int .i64 l[i].1.1, .int .i64 l[i].1.2, .int .i64 l[i].2.1, .int .i64 l[i].2.2] 60) = wv at *
        go_loopw [23] (fun s wz => ∃ j : Nat, j ≤ i ∧ s = .int .i64 j ∧ Hid (∀ q, q < j → badB l q i = false) ∧ Below wv.heap.size wv wz) (fun s _ => i - (intOf s).toNat)
        case atStart => exact ⟨0, Nat.zero_le _, rfl, Lib.hid (fun j h => absurd h (Nat.not_lt_zero _)), Below.refl _ _⟩
        case round =>
          obtain ⟨wz, rfl⟩ : ∃ wz : World, wz = wr := ⟨_, rfl⟩
          obtain ⟨j, hj, rfl, HQ, hbz⟩ := hrel
          have HBZ := Lib.hid hbz
          have G := HG.out hbz
          have g0 := (G.cell 0).trans rfl; have g1 := (G.cell 1).trans rfl; have g2 := (G.cell 2).trans rfl; have g3 := (G.cell 3).trans rfl
          have hwz : wo.heap.size < wz.heap.size := Nat.lt_of_lt_of_le hwv hbz.size
          have HRz := Lib.hid ((HRv.out.below (hbz.mono (Nat.le_trans HBW.out.size (Nat.le_of_lt hwv)))))
          clear hbz
          by_cases hjl : j < i
          · have hjl2 : j < l.length := by have := HL.out; omega
            have hcz := (eds_cells HRz.out (by omega))
            obtain ⟨b', off', hbe, _, hcz⟩ := hcz
            cases hbe
            obtain ⟨d0, d1, d2, d3⟩ := hcz j hjl2
            have hj0 : (0 : Int) ≤ j := by omega
            have hj1 : (j : Int) < i := by omega
            have HEJ := Lib.hid (eAt_get hjl2)
            have hokj := Lib.hid (HOK.out _ (List.getElem_mem hjl2))
            have hbb2 : b < wz.heap.size := by omega
            have HQ2 : Hid (badB l j i = false → ∀ q, q < j + 1 → badB l q i = false) := Lib.hid fun h q hq => by
              rcases Nat.lt_or_ge q j with h1 | h1
              · exact HQ.out q h1
              · have : q = j := by omega
                subst this; exact h
            have HXB : Hid (badB l j i = true → false = x) := Lib.hid fun h => by rw [← HX.out, simple_no hil (row_bad hjl h)]
            clear hcz
            obtain ⟨y, hy⟩ : ∃ y, badB l j i = y := ⟨_, rfl⟩
            have HY := Lib.hid hy
            clear hy
            have HBJ := Lib.hid (HBZ.out.alloc HBZ.out.size (.cells #[.int .i64 l[j].1.1, .int .i64 l[j].1.2, .int .i64 l[j].2.1, .int .i64 l[j].2.2] 60))
            have hwj : IntKind.i64.wrap ((j : Int) + 1) = (j : Int) + 1 := wr_ (by omega)
            by_cases c1 : j + 1 = i
            · have HYF : Hid (foldsB l[j] l[i] = y) := Lib.hid (by rw [← HY.out]; unfold badB; rw [if_pos c1, HEI.out, HEJ.out])
              have t1 : ((j : Int) + 1 == (i : Int)) = true := by simp; omega
              have t2 : (j + 1 == i) = true := by simp; omega
              clear c1
              rcases y with _ | _
              · go_wp2_with fail
                refine (folds_any l[j] l[i] false _ hokj.out HOI.out HYF.out).mono ?_
                rintro e w2 ⟨rfl, hb2⟩
                have HB2 := Lib.hid (below_next HBJ.out (Nat.le_refl _) hb2)
                clear hb2
                go_wp2_with fail
                go_roundw
                case rel => exact ⟨j + 1, by omega, by go_num, Lib.hid (HQ2.out HY.out), HB2.out⟩
                case measure => simp [intOf]; omega
              · go_wp2_with fail
                refine (folds_any l[j] l[i] true _ hokj.out HOI.out HYF.out).mono ?_
                rintro e w2 ⟨rfl, hb2⟩
                have HB2 := Lib.hid (below_next HBJ.out (Nat.le_refl _) hb2)
                clear hb2
                go_wp2_with fail
                go_ret
                exact ⟨ret_bool (HXB.out HY.out), HBV.out.trans (HB2.out.mono HBV.out.size)⟩
            · have t1 : ((j : Int) + 1 == (i : Int)) = false := by simp; omega
              have t2 : (j + 1 == i) = false := by simp; omega
              by_cases c2 : j = 0 ∧ i + 1 = l.length
              · have HYF : Hid (foldsB l[i] l[j] = y) := Lib.hid (by rw [← HY.out]; unfold badB; rw [if_neg c1, if_pos c2, HEI.out, HEJ.out])
                obtain ⟨c3, c4⟩ := c2
                have t3 : ((j : Int) == 0) = true := by simp; omega
                have t4 : (j == 0) = true := by simp; omega
                have hwn : IntKind.i64.wrap ((n : Int) - 1) = (n : Int) - 1 := wr_ (by omega)
                have t5 : ((i : Int) == (n : Int) - 1) = true := by have := HL.out; simp; omega
                clear c1 c3 c4
                rcases y with _ | _
                · go_wp2_with fail
                  refine (folds_any l[i] l[j] false _ HOI.out hokj.out HYF.out).mono ?_
                  rintro e w2 ⟨rfl, hb2⟩
                  have HB2 := Lib.hid (below_next HBJ.out (Nat.le_refl _) hb2)
                  clear hb2
                  go_wp2_with fail
                  go_roundw
                  case rel => exact ⟨j + 1, by omega, by go_num, Lib.hid (HQ2.out HY.out), HB2.out⟩
                  case measure => simp [intOf]; omega
                · go_wp2_with fail
                  refine (folds_any l[i] l[j] true _ HOI.out hokj.out HYF.out).mono ?_
                  rintro e w2 ⟨rfl, hb2⟩
                  have HB2 := Lib.hid (below_next HBJ.out (Nat.le_refl _) hb2)
                  clear hb2
                  go_wp2_with fail
                  go_ret
                  exact ⟨ret_bool (HXB.out HY.out), HBV.out.trans (HB2.out.mono HBV.out.size)⟩
              · have HYF : Hid (meetsB l[i] l[j] = y) := Lib.hid (by rw [← HY.out]; unfold badB; rw [if_neg c1, if_neg c2, HEI.out, HEJ.out])
                by_cases c3 : j = 0
                · have t3 : ((j : Int) == 0) = true := by simp; omega
                  have t4 : (j == 0) = true := by simp; omega
                  have hwn : IntKind.i64.wrap ((n : Int) - 1) = (n : Int) - 1 := wr_ (by omega)
                  have t5 : ((i : Int) == (n : Int) - 1) = false := by have := HL.out; simp; omega
                  clear c1 c2 c3
                  rcases y with _ | _
                  · go_wp2_with fail
                    refine (meets_any l[i] l[j] false _ HOI.out hokj.out HYF.out).mono ?_
                    rintro e w2 ⟨rfl, hb2⟩
                    have HB2 := Lib.hid (below_next HBJ.out (Nat.le_refl _) hb2)
                    clear hb2
                    go_wp2_with fail
                    go_roundw
                    case rel => exact ⟨j + 1, by omega, by go_num, Lib.hid (HQ2.out HY.out), HB2.out⟩
                    case measure => simp [intOf]; omega
                  · go_wp2_with fail
                    refine (meets_any l[i] l[j] true _ HOI.out hokj.out HYF.out).mono ?_
                    rintro e w2 ⟨rfl, hb2⟩
                    have HB2 := Lib.hid (below_next HBJ.out (Nat.le_refl _) hb2)
                    clear hb2
                    go_wp2_with fail
                    go_ret
                    exact ⟨ret_bool (HXB.out HY.out), HBV.out.trans (HB2.out.mono HBV.out.size)⟩
                · have t3 : ((j : Int) == 0) = false := by simp; omega
                  have t4 : (j == 0) = false := by simp; omega
                  clear c1 c2 c3
                  rcases y with _ | _
                  · go_wp2_with fail
                    refine (meets_any l[i] l[j] false _ HOI.out hokj.out HYF.out).mono ?_
                    rintro e w2 ⟨rfl, hb2⟩
                    have HB2 := Lib.hid (below_next HBJ.out (Nat.le_refl _) hb2)
                    clear hb2
                    go_wp2_with fail
                    go_roundw
                    case rel => exact ⟨j + 1, by omega, by go_num, Lib.hid (HQ2.out HY.out), HB2.out⟩
                    case measure => simp [intOf]; omega
                  · go_wp2_with fail
                    refine (meets_any l[i] l[j] true _ HOI.out hokj.out HYF.out).mono ?_
                    rintro e w2 ⟨rfl, hb2⟩
                    have HB2 := Lib.hid (below_next HBJ.out (Nat.le_refl _) hb2)
                    clear hb2
                    go_wp2_with fail
                    go_ret
                    exact ⟨ret_bool (HXB.out HY.out), HBV.out.trans (HB2.out.mono HBV.out.size)⟩
          · obtain rfl : j = i := by omega
            have HA2 : Hid (∀ q, q < j + 1 → rowB l q = true) := Lib.hid fun q hq => by
              rcases Nat.lt_or_ge q j with h1 | h1
              · exact HA.out q h1
              · have : q = j := by omega
                subst this; exact row_yes HNE.out HQ.out
            go_wp2_with fail
            go_roundw
            case rel => exact ⟨j + 1, by omega, by go_num, HA2, HBV.out.trans (HBZ.out.mono HBV.out.size)⟩
            case measure => simp [intOf]; omega
    · have HX2 : Hid (true = x) := Lib.hid (by rw [← HX.out, simple_yes fun j hj => HA.out j (by have := HL.out; omega)])
      go_wp2_with fail
      go_ret
      exact ⟨ret_bool HX2.out, HBW.out⟩
end Go.Proofs.Ytomnodpmpdodbaa
