/- The walks of the reference's double, Check, Area. -/
import Derived.Test.YtomnodpmpdodbaaGeoT
import Derived.Test.YtomnodpmpdodbaaGeoF
namespace Go.Proofs.Ytomnodpmpdodbaa
open Go.RowKit
theorem edges_at (p : List Pt) {k : Nat} (hk : k < p.length) : (edgesL p)[k]'(by rw [edgesL_len]; exact hk) = edgeZ p k := edgesL_at p _
set_option maxHeartbeats 2000000 in
set_option maxRecDepth 10000 in
theorem rdouble_any (A : Option Addr) (n c : Nat) (p : List Pt) (x : Int) (w : World) (h : Reads w w.heap.size 2 A n (cellsPt p)) (hn : n ≤ 1000) (hok : p.all okP = true) (hx : twiceZ p = x) : Calls Try.prog 32 #[.slice A n c] w (RetI w x) := by
  have HR := Lib.hid h
  have HL := Lib.hid (recs_len h encPt_len (by omega))
  have HX := Lib.hid hx
  have HOK := Lib.hid hok
  clear h hx hok
  go_enter Try.func32, Try.ntmps32
  go_wp2_with fail
  go_loopw [3, 4] (fun s i wr => ∃ k : Nat, k ≤ n ∧ i = .int .i64 k ∧ s = .int .i64 (sumE ((edgesL p).take k)) ∧ Below w.heap.size w wr) (fun _ i _ => n - (intOf i).toNat)
  case atStart => exact ⟨0, Nat.zero_le _, rfl, rfl, Below.refl _ _⟩
  case round =>
    obtain ⟨k, hk, rfl, rfl, hbw⟩ := hrel
    have HBW := Lib.hid hbw
    have HRr := Lib.hid ((HR.out.below hbw).more hbw.size)
    clear hbw
    by_cases hlt : k < n
    · have hkp : k < p.length := by have := HL.out; omega
      obtain ⟨e, he⟩ : ∃ e, edgeZ p k = e := ⟨_, rfl⟩
      have hoke : okE e = true := by rw [← he]; unfold okE; rw [(edge_ok HOK.out hkp).1, (edge_ok HOK.out hkp).2]; rfl
      have hsb := sum_bd ((edgesL p).take k) fun e he => edges_ok HOK.out e (List.mem_of_mem_take he)
      have htb := term_bd hoke
      have HT : Hid (sumE ((edgesL p).take (k + 1)) = sumE ((edgesL p).take k) + termE e) := Lib.hid (by rw [← he, ← edges_at p hkp]; exact sumE_take _ _)
      obtain ⟨o1, o2⟩ := okE_t hoke
      obtain ⟨p1, p2, p3, p4⟩ := okP_t o1; obtain ⟨q1, q2, q3, q4⟩ := okP_t o2
      have m1 := mul_bd (A := 16384) (B := 16384) p1 p2 q3 q4
      have m2 := mul_bd (A := 16384) (B := 16384) q1 q2 p3 p4
      have hlt2 : (((edgesL p).take k).length : Int) ≤ 1000 := by have := List.length_take_le k (edgesL p); omega
      have f1 := wr_ (n := e.1.1 * e.2.2) (by omega)
      have f2 := wr_ (n := e.2.1 * e.1.2) (by omega)
      have f3 := wr_ (n := sumE ((edgesL p).take k) + e.1.1 * e.2.2) (by omega)
      have f4 := wr_ (n := sumE ((edgesL p).take k) + e.1.1 * e.2.2 - e.2.1 * e.1.2) (by omega)
      have HCE : Hid (Calls Try.prog 35 #[.slice A n c, .int .i64 k] wr (RetPP wr e)) := Lib.hid (by rw [← he]; exact redge_any A n c k p wr HRr.out (by omega) hlt)
      clear he hoke hsb htb o1 o2 p1 p2 p3 p4 q1 q2 q3 q4 m1 m2 hlt2
      go_wp2_with fail
      refine HCE.out.mono ?_
      rintro en w2 ⟨rfl, hb2⟩
      obtain ⟨b0, b1, hbb⟩ := box2 w2 23 23 #[.int .i64 e.1.1, .int .i64 e.1.2] #[.int .i64 e.2.1, .int .i64 e.2.2]
      have c0 := (b0.cell 0).trans rfl; have c1 := (b0.cell 1).trans rfl; have c2 := (b1.cell 0).trans rfl; have c3 := (b1.cell 1).trans rfl
      have HB2 := Lib.hid (below_next (below_next HBW.out (Nat.le_refl _) hb2) (Nat.le_refl _) hbb)
      clear b0 b1 hbb hb2
      go_wp2_with fail
      go_roundw
      case rel => exact ⟨k + 1, by omega, by go_num, by rw [HT.out]; unfold termE; rw [Int.mul_comm e.2.1 e.1.2, Int.add_sub_assoc], HB2.out⟩
      case measure => simp [intOf]; omega
    · have HE : Hid (sumE ((edgesL p).take k) = x) := Lib.hid (by rw [List.take_of_length_le (by rw [edgesL_len]; have := HL.out; omega), ← HX.out]; rfl)
      go_wp2_with fail
      go_ret
      exact ⟨ret_int HE.out, HBW.out⟩
def rrowB (p : List Pt) (i : Nat) : Bool := decide ((edgeZ p i).1 ≠ (edgeZ p i).2) && (List.range p.length).all fun k => decide (k ≤ i) || apartB p i k
def rsimpleB (p : List Pt) : Bool := (List.range p.length).all (rrowB p)
theorem rsimple_no {p : List Pt} {i : Nat} (hi : i < p.length) (h : rrowB p i = false) : rsimpleB p = false := by
  unfold rsimpleB
  rw [List.all_eq_false]
  exact ⟨i, by simpa using hi, by simp [h]⟩
theorem rsimple_yes {p : List Pt} (h : ∀ i, i < p.length → rrowB p i = true) : rsimpleB p = true := by
  unfold rsimpleB
  rw [List.all_eq_true]
  exact fun i hi => h i (by simpa using hi)
theorem rrow_eq {p : List Pt} {i : Nat} (h : (edgeZ p i).1 = (edgeZ p i).2) : rrowB p i = false := by unfold rrowB; rw [decide_eq_false (fun e => e h)]; rfl
theorem rrow_bad {p : List Pt} {i k : Nat} (hi : i < k) (hk : k < p.length) (h : apartB p i k = false) : rrowB p i = false := by
  have : (List.range p.length).all (fun k => decide (k ≤ i) || apartB p i k) = false := by
    rw [List.all_eq_false]; exact ⟨k, by simpa using hk, by simp [h]; omega⟩
  unfold rrowB; rw [this, Bool.and_false]
theorem rrow_yes {p : List Pt} {i : Nat} (h : (edgeZ p i).1 ≠ (edgeZ p i).2) (hb : ∀ k, i < k → k < p.length → apartB p i k = true) : rrowB p i = true := by
  have : (List.range p.length).all (fun k => decide (k ≤ i) || apartB p i k) = true := by
    rw [List.all_eq_true]
    intro k hk
    have hk2 : k < p.length := by simpa using hk
    by_cases h1 : k ≤ i
    · simp [h1]
    · rw [hb k (by omega) hk2]; simp
  unfold rrowB; rw [this, decide_eq_true h]; rfl
def rcheckZ (p : List Pt) : Int := if p.length < 3 ∨ 32 < p.length then 3 else if p.all okP = false then 1 else if rsimpleB p = false then 16 else if twiceZ p < 0 then 9 else 0
theorem rcheck_len {p : List Pt} (h : p.length < 3 ∨ 32 < p.length) : rcheckZ p = 3 := if_pos h
theorem rcheck_range {p : List Pt} (h : ¬ (p.length < 3 ∨ 32 < p.length)) (h1 : p.all okP = false) : rcheckZ p = 1 := by unfold rcheckZ; rw [if_neg h, if_pos h1]
theorem rcheck_cross {p : List Pt} (h : ¬ (p.length < 3 ∨ 32 < p.length)) (h1 : p.all okP = true) (h2 : rsimpleB p = false) : rcheckZ p = 16 := by unfold rcheckZ; rw [if_neg h, if_neg (by rw [h1]; decide), if_pos h2]
theorem rcheck_order {p : List Pt} (h : ¬ (p.length < 3 ∨ 32 < p.length)) (h1 : p.all okP = true) (h2 : rsimpleB p = true) (h3 : twiceZ p < 0) : rcheckZ p = 9 := by unfold rcheckZ; rw [if_neg h, if_neg (by rw [h1]; decide), if_neg (by rw [h2]; decide), if_pos h3]
theorem rcheck_ok {p : List Pt} (h : ¬ (p.length < 3 ∨ 32 < p.length)) (h1 : p.all okP = true) (h2 : rsimpleB p = true) (h3 : ¬ twiceZ p < 0) : rcheckZ p = 0 := by unfold rcheckZ; rw [if_neg h, if_neg (by rw [h1]; decide), if_neg (by rw [h2]; decide), if_neg h3]
theorem rcheck_inv {p : List Pt} (h : rcheckZ p = 0) : ¬ (p.length < 3 ∨ 32 < p.length) ∧ p.all okP = true ∧ rsimpleB p = true ∧ ¬ twiceZ p < 0 := by
  unfold rcheckZ at h
  by_cases h0 : p.length < 3 ∨ 32 < p.length
  · rw [if_pos h0] at h; exact absurd h (by decide)
  rw [if_neg h0] at h
  rcases h1 : p.all okP with _ | _
  · rw [h1, if_pos rfl] at h; exact absurd h (by decide)
  rw [h1, if_neg (by decide)] at h
  rcases h2 : rsimpleB p with _ | _
  · rw [h2, if_pos rfl] at h; exact absurd h (by decide)
  rw [h2, if_neg (by decide)] at h
  by_cases h3 : twiceZ p < 0
  · rw [if_pos h3] at h; exact absurd h (by decide)
  exact ⟨h0, rfl, rfl, h3⟩
set_option maxHeartbeats 8000000 in
set_option maxRecDepth 10000 in
theorem rcheck_any (A : Option Addr) (n c : Nat) (p : List Pt) (x : Int) (w : World) (h : Reads w w.heap.size 2 A n (cellsPt p)) (hn : n ≤ 9223372036854775807) (hx : rcheckZ p = x) : Calls Try.prog 17 #[.slice A n c] w (RetI w x) := by
  have HR := Lib.hid h; have HL := Lib.hid (recs_len h encPt_len (by omega)); have HX := Lib.hid hx
  clear h hx
  by_cases hs : n < 3
  · have HX2 : Hid (3 = x) := Lib.hid (by rw [← HX.out, rcheck_len (.inl (by have := HL.out; omega))])
    go_enter Try.func17, Try.ntmps17
    go_wp2_with fail
    go_ret
    exact ⟨ret_int HX2.out, Below.refl _ _⟩
  by_cases hs2 : 32 < n
  · have HX2 : Hid (3 = x) := Lib.hid (by rw [← HX.out, rcheck_len (.inr (by have := HL.out; omega))])
    have hs3 : 3 ≤ n := by omega
    clear hs
    go_enter Try.func17, Try.ntmps17
    go_wp2_with fail
    go_ret
    exact ⟨ret_int HX2.out, Below.refl _ _⟩
  have hs3 : 3 ≤ n := by omega
  have hs4 : n ≤ 32 := by omega
  have HLN : Hid (¬ (p.length < 3 ∨ 32 < p.length)) := Lib.hid (by have := HL.out; omega)
  clear hs hs2
  go_enter Try.func17, Try.ntmps17
  go_wp2_with fail
  go_loopw [3] (fun i wr => ∃ k : Nat, k ≤ n ∧ i = .int .i64 k ∧ Hid (∀ j, j < k → okP (pAt p j) = true) ∧ Below w.heap.size w wr) (fun i _ => n - (intOf i).toNat)
  case atStart => exact ⟨0, Nat.zero_le _, rfl, Lib.hid (fun j h => absurd h (Nat.not_lt_zero _)), Below.refl _ _⟩
  case round =>
    obtain ⟨k, hk, rfl, HA, hbw⟩ := hrel
    have HBW := Lib.hid hbw
    have HRr := Lib.hid ((HR.out.below hbw).more hbw.size)
    clear hbw
    by_cases hlt : k < n
    · obtain ⟨b, off, rfl, hb, hc⟩ := pts_cells HRr.out (by omega)
      obtain ⟨d0, d1⟩ := hc k hlt
      have hk0 : (0 : Int) ≤ k := by omega
      have hk1 : (k : Int) < n := by omega
      clear hc
      obtain ⟨y, hy⟩ : ∃ y, okP (pAt p k) = y := ⟨_, rfl⟩
      have HY := Lib.hid hy
      clear hy
      rcases y with _ | _
      · have HX2 : Hid (1 = x) := Lib.hid (by rw [← HX.out, rcheck_range HLN.out (all_no (by have := HL.out; omega) HY.out)])
        go_wp2_with fail
        refine (rvalid_any (pAt p k) false _ HY.out).mono ?_
        rintro e w2 ⟨rfl, hb2⟩
        have HB2 := Lib.hid (below_next HBW.out (Nat.le_refl _) hb2)
        clear hb2
        go_wp2_with fail
        go_ret
        exact ⟨ret_int HX2.out, HB2.out⟩
      · go_wp2_with fail
        refine (rvalid_any (pAt p k) true _ HY.out).mono ?_
        rintro e w2 ⟨rfl, hb2⟩
        have HB2 := Lib.hid (below_next HBW.out (Nat.le_refl _) hb2)
        clear hb2
        go_wp2_with fail
        go_roundw
        case rel => exact ⟨k + 1, by omega, by go_num, Lib.hid (fun q hq => by
          rcases Nat.lt_or_ge q k with h1 | h1
          · exact HA.out q h1
          · have : q = k := by omega
            subst this; exact HY.out), HB2.out⟩
        case measure => simp [intOf]; omega
    · have hkn : k = n := by omega
      subst hkn
      have HALL := Lib.hid (all_yes (p := p) fun i hi => HA.out i (by have := HL.out; omega))
      obtain ⟨wa, rfl⟩ : ∃ wa : World, wa = wr := ⟨_, rfl⟩
      clear HA
      go_wp2_with fail
      go_loopw [4] (fun i wr => ∃ j : Nat, j ≤ k ∧ i = .int .i64 j ∧ Hid (∀ q, q < j → rrowB p q = true) ∧ Below wa.heap.size wa wr) (fun i _ => k - (intOf i).toNat)
      case atStart => exact ⟨0, Nat.zero_le _, rfl, Lib.hid (fun j h => absurd h (Nat.not_lt_zero _)), Below.refl _ _⟩
      case round =>
        obtain ⟨wo, rfl⟩ : ∃ wo : World, wo = wr := ⟨_, rfl⟩
        obtain ⟨i, hi, rfl, HA, hbw⟩ := hrel
        have HBO := Lib.hid (below_next HBW.out (Nat.le_refl _) hbw)
        have HRo := Lib.hid ((HRr.out.below hbw).more hbw.size)
        have HBZ := Lib.hid hbw
        clear hbw
        by_cases hlt2 : i < k
        · have hip : i < p.length := by have := HL.out; omega
          obtain ⟨e, he⟩ : ∃ e, edgeZ p i = e := ⟨_, rfl⟩
          have HE := Lib.hid he
          have HCE : Hid (Calls Try.prog 35 #[.slice A k c, .int .i64 i] wo (RetPP wo e)) := Lib.hid (by rw [← he]; exact redge_any A k c i p wo HRo.out (by omega) hlt2)
          have heq := eqPt e.1 e.2
          clear he
          by_cases hee : e.1 = e.2
          · rw [decide_eq_true hee] at heq
            have HX2 : Hid (16 = x) := Lib.hid (by rw [← HX.out, rcheck_cross HLN.out HALL.out (rsimple_no hip (rrow_eq (by rw [HE.out]; exact hee)))])
            clear hee
            go_wp2_with fail
            refine HCE.out.mono ?_
            rintro en w2 ⟨rfl, hb2⟩
            obtain ⟨b0, b1, hbb⟩ := box2 w2 23 23 #[.int .i64 e.1.1, .int .i64 e.1.2] #[.int .i64 e.2.1, .int .i64 e.2.2]
            have c0 := (b0.cell 0).trans rfl; have c1 := (b0.cell 1).trans rfl; have c2 := (b1.cell 0).trans rfl; have c3 := (b1.cell 1).trans rfl
            have HB2 := Lib.hid (below_next (below_next HBO.out (Nat.le_refl _) hb2) (Nat.le_refl _) hbb)
            clear b0 b1 hbb hb2
            go_wp2_with fail
            go_ret
            exact ⟨ret_int HX2.out, HB2.out⟩
          · rw [decide_eq_false hee] at heq
            have HNE : Hid ((edgeZ p i).1 ≠ (edgeZ p i).2) := Lib.hid (by rw [HE.out]; exact hee)
            clear hee
            go_wp2_with fail
            refine HCE.out.mono ?_
            rintro en w2 ⟨rfl, hb2⟩
            obtain ⟨b0, b1, hbb⟩ := box2 w2 23 23 #[.int .i64 e.1.1, .int .i64 e.1.2] #[.int .i64 e.2.1, .int .i64 e.2.2]
            have c0 := (b0.cell 0).trans rfl; have c1 := (b0.cell 1).trans rfl; have c2 := (b1.cell 0).trans rfl; have c3 := (b1.cell 1).trans rfl
            have HB2 := Lib.hid (below_next HBO.out (Nat.le_refl _) (below_next hb2 (Nat.le_refl _) hbb))
            have HZ2 := Lib.hid (below_next HBZ.out (Nat.le_refl _) (below_next hb2 (Nat.le_refl _) hbb))
            have HR2 := Lib.hid ((HRo.out.below (below_next hb2 (Nat.le_refl _) hbb)).more (below_next hb2 (Nat.le_refl _) hbb).size)
            have hwi : IntKind.i64.wrap ((i : Int) + 1) = (i : Int) + 1 := wr_ (by omega)
            clear b0 b1 hbb hb2
            go_wp2_with fail
            generalize ((w2.alloc (.cells #[.int .i64 e.1.1, .int .i64 e.1.2] 23)).alloc (.cells #[.int .i64 e.2.1, .int .i64 e.2.2] 23)) = wv at *
            clear c0 c1 c2 c3 heq
            go_loopw [7] (fun s wz => ∃ j : Nat, i + 1 ≤ j ∧ j ≤ k ∧ s = .int .i64 j ∧ Hid (∀ q, i < q → q < j → apartB p i q = true) ∧ Below wv.heap.size wv wz) (fun s _ => k - (intOf s).toNat)
            case atStart => exact ⟨i + 1, Nat.le_refl _, hlt2, by go_num, Lib.hid (fun q h1 h2 => by omega), Below.refl _ _⟩
            case round =>
              obtain ⟨wz, rfl⟩ : ∃ wz : World, wz = wr := ⟨_, rfl⟩
              obtain ⟨j, hj0, hj, rfl, HQ, hbz⟩ := hrel
              have HB3 := Lib.hid (below_next HB2.out (Nat.le_refl _) hbz)
              have HZ3 := Lib.hid (below_next HZ2.out (Nat.le_refl _) hbz)
              have HR3 := Lib.hid ((HR2.out.below hbz).more hbz.size)
              have HBV := Lib.hid hbz
              clear hbz
              by_cases hjl : j < k
              · obtain ⟨y, hy⟩ : ∃ y, apartB p i j = y := ⟨_, rfl⟩
                have HY := Lib.hid hy
                clear hy
                rcases y with _ | _
                · have HX2 : Hid (16 = x) := Lib.hid (by rw [← HX.out, rcheck_cross HLN.out HALL.out (rsimple_no hip (rrow_bad hj0 (by have := HL.out; omega) HY.out))])
                  go_wp2_with fail
                  refine (rapart_any A k c i j p false _ HR3.out (by omega) hj0 hjl HALL.out HY.out).mono ?_
                  rintro en w3 ⟨rfl, hb3⟩
                  have HB4 := Lib.hid (below_next HB3.out (Nat.le_refl _) hb3)
                  clear hb3
                  go_wp2_with fail
                  go_ret
                  exact ⟨ret_int HX2.out, HB4.out⟩
                · go_wp2_with fail
                  refine (rapart_any A k c i j p true _ HR3.out (by omega) hj0 hjl HALL.out HY.out).mono ?_
                  rintro en w3 ⟨rfl, hb3⟩
                  have HB4 := Lib.hid (below_next HBV.out (Nat.le_refl _) hb3)
                  clear hb3
                  go_wp2_with fail
                  go_roundw
                  case rel => exact ⟨j + 1, by omega, by omega, by go_num, Lib.hid (fun q h1 h2 => by
                    rcases Nat.lt_or_ge q j with h3 | h3
                    · exact HQ.out q h1 h3
                    · have : q = j := by omega
                      subst this; exact HY.out), HB4.out⟩
                  case measure => simp [intOf]; omega
              · have HA2 : Hid (∀ q, q < i + 1 → rrowB p q = true) := Lib.hid fun q hq => by
                  rcases Nat.lt_or_ge q i with h1 | h1
                  · exact HA.out q h1
                  · have : q = i := by omega
                    subst this; exact rrow_yes HNE.out fun r h2 h3 => HQ.out r h2 (by have := HL.out; omega)
                go_wp2_with fail
                go_roundw
                case rel => exact ⟨i + 1, by omega, by go_num, HA2, HZ3.out⟩
                case measure => simp [intOf]; omega
        · have HS := Lib.hid (rsimple_yes (p := p) fun q hq => HA.out q (by have := HL.out; omega))
          obtain ⟨z, hz⟩ : ∃ z, twiceZ p = z := ⟨_, rfl⟩
          have HZ := Lib.hid hz
          clear hz
          go_wp2_with fail
          refine (rdouble_any A k c p z _ HRo.out (by omega) HALL.out HZ.out).mono ?_
          rintro en w3 ⟨rfl, hb3⟩
          have HB4 := Lib.hid (below_next HBO.out (Nat.le_refl _) hb3)
          clear hb3
          by_cases hz0 : z < 0
          · have HX2 : Hid (9 = x) := Lib.hid (by rw [← HX.out, rcheck_order HLN.out HALL.out HS.out (by rw [HZ.out]; exact hz0)])
            go_wp2_with fail
            go_ret
            exact ⟨ret_int HX2.out, HB4.out⟩
          · have HX2 : Hid (0 = x) := Lib.hid (by rw [← HX.out, rcheck_ok HLN.out HALL.out HS.out (by rw [HZ.out]; exact hz0)])
            have hz1 : 0 ≤ z := by omega
            clear hz0
            go_wp2_with fail
            go_ret
            exact ⟨ret_int HX2.out, HB4.out⟩
def rareaZ (p : List Pt) : Int := if rcheckZ p = 0 then twiceZ p else 0
theorem rarea_any (A : Option Addr) (n c : Nat) (p : List Pt) (x y : Int) (w : World) (h : Reads w w.heap.size 2 A n (cellsPt p)) (hn : n ≤ 9223372036854775807) (hx : rareaZ p = x) (hy : rcheckZ p = y) : Calls Try.prog 15 #[.slice A n c] w (RetII w x y) := by
  have HR := Lib.hid h
  have HL := Lib.hid (recs_len h encPt_len (by omega))
  have HY := Lib.hid hy
  clear h
  by_cases h0 : y = 0
  · subst h0
    have HX : Hid (twiceZ p = x) := Lib.hid (by unfold rareaZ at hx; rwa [if_pos hy] at hx)
    have HI := Lib.hid (rcheck_inv hy)
    clear hx hy
    go_enter Try.func15, Try.ntmps15
    go_wp2_with fail
    refine (rcheck_any A n c p 0 _ HR.out hn HY.out).mono ?_
    rintro e w1 ⟨rfl, hb1⟩
    have HB1 := Lib.hid hb1
    have HR1 := Lib.hid ((HR.out.below hb1).more hb1.size)
    clear hb1
    go_wp2_with fail
    refine (rdouble_any A n c p x _ HR1.out (by have := HL.out; have := HI.out.1; omega) HI.out.2.1 HX.out).mono ?_
    rintro e w2 ⟨rfl, hb2⟩
    have HB2 := Lib.hid (below_next HB1.out (Nat.le_refl _) hb2)
    clear hb2
    go_wp2_with fail
    go_ret2
    exact ⟨rfl, HB2.out⟩
  · have t0 := ne0_t h0
    have HX : Hid (0 = x) := Lib.hid (by unfold rareaZ at hx; rwa [if_neg (by rw [hy]; exact h0)] at hx)
    clear hx hy h0
    go_enter Try.func15, Try.ntmps15
    go_wp2_with fail
    refine (rcheck_any A n c p y _ HR.out hn HY.out).mono ?_
    rintro e w1 ⟨rfl, hb1⟩
    have HB1 := Lib.hid hb1
    clear hb1
    go_wp2_with fail
    go_ret2
    exact ⟨ret_ii HX.out rfl, HB1.out⟩
end Go.Proofs.Ytomnodpmpdodbaa
