/- The walks of the program's Check, Area, where, Inside, disc, Touches, Covers. -/
import Derived.Test.YtomnodpmpdodbaaGeoE
import Derived.Lib.MinMax
namespace Go.Proofs.Ytomnodpmpdodbaa
open Go.RowKit
def checkZ (p : List Pt) : Int := if p.length < 3 ∨ 32 < p.length then 3 else if p.all okP = false then 1 else if simpleB (edgesL p) = false then 16 else if twiceZ p < 0 then 9 else 0
theorem check_len {p : List Pt} (h : p.length < 3 ∨ 32 < p.length) : checkZ p = 3 := if_pos h
theorem check_range {p : List Pt} (h : ¬ (p.length < 3 ∨ 32 < p.length)) (h1 : p.all okP = false) : checkZ p = 1 := by unfold checkZ; rw [if_neg h, if_pos h1]
theorem check_cross {p : List Pt} (h : ¬ (p.length < 3 ∨ 32 < p.length)) (h1 : p.all okP = true) (h2 : simpleB (edgesL p) = false) : checkZ p = 16 := by unfold checkZ; rw [if_neg h, if_neg (by rw [h1]; decide), if_pos h2]
theorem check_order {p : List Pt} (h : ¬ (p.length < 3 ∨ 32 < p.length)) (h1 : p.all okP = true) (h2 : simpleB (edgesL p) = true) (h3 : twiceZ p < 0) : checkZ p = 9 := by unfold checkZ; rw [if_neg h, if_neg (by rw [h1]; decide), if_neg (by rw [h2]; decide), if_pos h3]
theorem check_ok {p : List Pt} (h : ¬ (p.length < 3 ∨ 32 < p.length)) (h1 : p.all okP = true) (h2 : simpleB (edgesL p) = true) (h3 : ¬ twiceZ p < 0) : checkZ p = 0 := by unfold checkZ; rw [if_neg h, if_neg (by rw [h1]; decide), if_neg (by rw [h2]; decide), if_neg h3]
theorem check_inv {p : List Pt} (h : checkZ p = 0) : ¬ (p.length < 3 ∨ 32 < p.length) ∧ p.all okP = true ∧ simpleB (edgesL p) = true ∧ ¬ twiceZ p < 0 := by
  unfold checkZ at h
  by_cases h0 : p.length < 3 ∨ 32 < p.length
  · rw [if_pos h0] at h; exact absurd h (by decide)
  rw [if_neg h0] at h
  rcases h1 : p.all okP with _ | _
  · rw [h1, if_pos rfl] at h; exact absurd h (by decide)
  rw [h1, if_neg (by decide)] at h
  rcases h2 : simpleB (edgesL p) with _ | _
  · rw [h2, if_pos rfl] at h; exact absurd h (by decide)
  rw [h2, if_neg (by decide)] at h
  by_cases h3 : twiceZ p < 0
  · rw [if_pos h3] at h; exact absurd h (by decide)
  exact ⟨h0, rfl, rfl, h3⟩
theorem all_no {p : List Pt} {i : Nat} (hi : i < p.length) (h : okP (pAt p i) = false) : p.all okP = false := by
  rw [List.all_eq_false]; exact ⟨p[i], List.getElem_mem hi, by rw [← pAt_get hi, h]; decide⟩
theorem all_yes {p : List Pt} (h : ∀ i, i < p.length → okP (pAt p i) = true) : p.all okP = true := by
  rw [List.all_eq_true]
  intro x hx
  obtain ⟨i, hi, rfl⟩ := List.getElem_of_mem hx
  rw [← pAt_get hi]; exact h i hi
set_option maxHeartbeats 4000000 in
set_option maxRecDepth 10000 in
theorem check_any (A : Option Addr) (n c : Nat) (p : List Pt) (x : Int) (w : World) (h : Reads w w.heap.size 2 A n (cellsPt p)) (hn : n ≤ 9223372036854775807) (hx : checkZ p = x) : Calls Try.prog 16 #[.slice A n c] w (RetI w x) := by
  have HR := Lib.hid h; have HL := Lib.hid (recs_len h encPt_len (by omega)); have HX := Lib.hid hx
  clear h hx
  by_cases hs : n < 3
  · have HX2 : Hid (3 = x) := Lib.hid (by rw [← HX.out, check_len (.inl (by have := HL.out; omega))])
    go_enter Try.func16, Try.ntmps16
    go_wp2_with fail
    go_ret
    exact ⟨ret_int HX2.out, Below.refl _ _⟩
  by_cases hs2 : 32 < n
  · have HX2 : Hid (3 = x) := Lib.hid (by rw [← HX.out, check_len (.inr (by have := HL.out; omega))])
    have hs3 : 3 ≤ n := by omega
    clear hs
    go_enter Try.func16, Try.ntmps16
    go_wp2_with fail
    go_ret
    exact ⟨ret_int HX2.out, Below.refl _ _⟩
  have hs3 : 3 ≤ n := by omega
  have hs4 : n ≤ 32 := by omega
  have HLN : Hid (¬ (p.length < 3 ∨ 32 < p.length)) := Lib.hid (by have := HL.out; omega)
  clear hs hs2
  go_enter Try.func16, Try.ntmps16
  go_wp2_with fail
  go_loopw [15] (fun i wr => ∃ k : Nat, k ≤ n ∧ i = .int .i64 k ∧ Hid (∀ j, j < k → okP (pAt p j) = true) ∧ Below w.heap.size w wr) (fun i _ => n - (intOf i).toNat)
  case atStart => exact ⟨0, Nat.zero_le _, rfl, Lib.hid (fun j h => absurd h (Nat.not_lt_zero _)), Below.refl _ _⟩
  case round =>
    obtain ⟨k, hk, rfl, HA, hbw⟩ := hrel
    have HBW := Lib.hid hbw
    have HRr := Lib.hid (HR.out.below hbw)
    clear hbw
    by_cases hlt : k < n
    · obtain ⟨b, off, rfl, hb, hc⟩ := pts_cells HRr.out (by omega)
      obtain ⟨d0, d1⟩ := hc k hlt
      have hk0 : (0 : Int) ≤ k := by omega
      have hk1 : (k : Int) < n := by omega
      have HBJ := Lib.hid (HBW.out.alloc HBW.out.size (.cells #[.int .i64 (pAt p k).1, .int .i64 (pAt p k).2] 23))
      clear hc
      obtain ⟨y, hy⟩ : ∃ y, okP (pAt p k) = y := ⟨_, rfl⟩
      have HY := Lib.hid hy
      clear hy
      rcases y with _ | _
      · have HX2 : Hid (1 = x) := Lib.hid (by rw [← HX.out, check_range HLN.out (all_no (by have := HL.out; omega) HY.out)])
        go_wp2_with fail
        refine (valid_any (pAt p k) false _ HY.out).mono ?_
        rintro e w2 ⟨rfl, hb2⟩
        have HB2 := Lib.hid (below_next HBJ.out (Nat.le_refl _) hb2)
        clear hb2
        go_wp2_with fail
        go_ret
        exact ⟨ret_int HX2.out, HB2.out⟩
      · go_wp2_with fail
        refine (valid_any (pAt p k) true _ HY.out).mono ?_
        rintro e w2 ⟨rfl, hb2⟩
        have HB2 := Lib.hid (below_next HBJ.out (Nat.le_refl _) hb2)
        clear hb2
        go_wp2_with fail
        go_roundw
        case rel => exact ⟨k + 1, by omega, by go_num, Lib.hid (fun q hq => by
          rcases Nat.lt_or_ge q k with h1 | h1
          · exact HA.out q h1
          · have : q = k := by omega
            subst this; exact HY.out), HB2.out⟩
        case measure => simp [intOf]; omega
    · have hkn : k = n := by omega
      subst hkn
      have HALL := Lib.hid (all_yes (p := p) fun i hi => HA.out i (by have := HL.out; omega))
      obtain ⟨y, hy⟩ : ∃ y, simpleB (edgesL p) = y := ⟨_, rfl⟩
      obtain ⟨z, hz⟩ : ∃ z, twiceZ p = z := ⟨_, rfl⟩
      have HY := Lib.hid hy; have HZ := Lib.hid hz
      clear hy hz
      have HRe := Lib.hid (HRr.out.more HBW.out.size)
      go_wp2_with fail
      refine (edges_any A k c p _ HRe.out (by omega)).mono ?_
      rintro e w2 ⟨A2, n2, c2, rfl, hown, hb2⟩
      have hn2 : n2 = k := by have := recs_len (Reads.of_own hown) encEd_len (by omega); have h2 := HL.out; have := edgesL_len p; omega
      have HR2 := Lib.hid (Reads.of_own hown); have HC2 := Lib.hid (own_cap hown)
      have HB2 := Lib.hid (below_next HBW.out (Nat.le_refl _) hb2)
      have HRp := Lib.hid (HRe.out.below hb2)
      have HSZ := Lib.hid hb2.size
      have hn22 : n2 ≤ 32 := by omega
      clear hown hb2 hn2
      rcases y with _ | _
      · have HX2 : Hid (16 = x) := Lib.hid (by rw [← HX.out, check_cross HLN.out HALL.out HY.out])
        go_wp2_with fail
        refine (simple_any A2 n2 c2 (edgesL p) false _ HR2.out (by omega) HC2.out (edges_ok HALL.out) HY.out).mono ?_
        rintro e w3 ⟨rfl, hb3⟩
        have HB3 := Lib.hid (below_next HB2.out (Nat.le_refl _) hb3)
        clear hb3
        go_wp2_with fail
        go_ret
        exact ⟨ret_int HX2.out, HB3.out⟩
      · go_wp2_with fail
        refine (simple_any A2 n2 c2 (edgesL p) true _ HR2.out (by omega) HC2.out (edges_ok HALL.out) HY.out).mono ?_
        rintro e w3 ⟨rfl, hb3⟩
        have HB3 := Lib.hid (below_next HB2.out (Nat.le_refl _) hb3)
        have HRq := Lib.hid (((HRp.out.more HSZ.out).below hb3).more hb3.size)
        clear hb3
        go_wp2_with fail
        refine (twice_any A k c p z _ HRq.out (by omega) HALL.out HZ.out).mono ?_
        rintro e w4 ⟨rfl, hb4⟩
        have HB4 := Lib.hid (below_next HB3.out (Nat.le_refl _) hb4)
        clear hb4
        by_cases hz0 : z < 0
        · have HX2 : Hid (9 = x) := Lib.hid (by rw [← HX.out, check_order HLN.out HALL.out HY.out (by rw [HZ.out]; exact hz0)])
          go_wp2_with fail
          go_ret
          exact ⟨ret_int HX2.out, HB4.out⟩
        · have HX2 : Hid (0 = x) := Lib.hid (by rw [← HX.out, check_ok HLN.out HALL.out HY.out (by rw [HZ.out]; exact hz0)])
          have hz1 : 0 ≤ z := by omega
          clear hz0
          go_wp2_with fail
          go_ret
          exact ⟨ret_int HX2.out, HB4.out⟩
end Go.Proofs.Ytomnodpmpdodbaa
