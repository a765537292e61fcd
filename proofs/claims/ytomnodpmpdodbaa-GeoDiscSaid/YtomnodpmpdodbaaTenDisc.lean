/- The walk of the statement GeoDisc: its cases. -/
import Derived.Test.YtomnodpmpdodbaaTenDiscF
import Derived.Test.YtomnodpmpdodbaaTenDiscT
namespace Go.Proofs.Ytomnodpmpdodbaa
open Go.RowKit
set_option maxHeartbeats 8000000 in
set_option maxRecDepth 20000 in
theorem geoDisc_walk (A : Option Addr) (n cc : Nat) (p : List Pt) (a : Pt) (r : Int) (w : World) (h : Reads w w.heap.size 2 A n (cellsPt p)) (hnc : n ≤ cc) (hc : cc ≤ maxLen) : Calls Try.prog 9 #[.slice A n cc, aggP a, .int .i64 r] w (AwakePost w) := by
  have hn' : n ≤ 9223372036854775807 := Nat.le_trans hnc hc
  clear hnc hc
  obtain ⟨kk, hK⟩ := box1K w 23 #[.int .i64 a.1, .int .i64 a.2]
  have HK := Lib.hid hK
  clear hK
  obtain ⟨B0, hbb⟩ := HK.out _ kk
  have c00 := B0.cell 0
  have c01 := B0.cell 1
  have HB := Lib.hid hbb
  clear B0 hbb
  have HRA : Hid (∀ u, Below w.heap.size w u → Reads u u.heap.size 2 A n (cellsPt p)) := Lib.hid fun u hu => (h.below hu).more hu.size
  clear h
  by_cases h60 : 60 < n
  · go_enter Try.func9, Try.ntmps9
    go_wp2_with fail
    refine (awake_any _).mono ?_
    rintro e w9 ⟨rfl, hb9⟩
    go_wp2_with fail
    go_ret
    exact ⟨rfl, below_next HB.out (Nat.le_refl _) hb9⟩
  have h61 : n ≤ 60 := by omega
  clear h60
  by_cases hr : 12 < r
  · go_enter Try.func9, Try.ntmps9
    go_wp2_with fail
    refine (awake_any _).mono ?_
    rintro e w9 ⟨rfl, hb9⟩
    go_wp2_with fail
    go_ret
    exact ⟨rfl, below_next HB.out (Nat.le_refl _) hb9⟩
  have hr1 : r ≤ 12 := by omega
  clear hr
  by_cases hr : r < 0
  · go_enter Try.func9, Try.ntmps9
    go_wp2_with fail
    refine (awake_any _).mono ?_
    rintro e w9 ⟨rfl, hb9⟩
    go_wp2_with fail
    go_ret
    exact ⟨rfl, below_next HB.out (Nat.le_refl _) hb9⟩
  have hr0 : 0 ≤ r := by omega
  clear hr
  rcases ha : okP a with _ | _
  · have HA := Lib.hid ha
    clear ha
    go_enter Try.func9, Try.ntmps9
    go_wp2_with fail
    refine (rvalid_any a false _ HA.out).mono ?_
    rintro e w1 ⟨rfl, hb1⟩
    replace kk := below_next kk (Nat.le_refl _) hb1
    clear c00 c01 HB hb1
    obtain ⟨B0, hbb⟩ := HK.out _ kk
    have c00 := B0.cell 0
    have c01 := B0.cell 1
    have HB := Lib.hid hbb
    clear B0 hbb
    go_wp2_with fail
    refine (awake_any _).mono ?_
    rintro e w9 ⟨rfl, hb9⟩
    go_wp2_with fail
    go_ret
    exact ⟨rfl, below_next HB.out (Nat.le_refl _) hb9⟩
  have HA := Lib.hid ha
  obtain ⟨y, hy⟩ : ∃ y, checkZ p = y := ⟨_, rfl⟩
  have hE : discE p a r = y := by rw [disc_same ha hr0 (by omega), hy]
  obtain ⟨b, hb⟩ : ∃ b, touchB p a r = b := ⟨_, rfl⟩
  obtain ⟨d, hd⟩ : ∃ d, coverB p a r = d := ⟨_, rfl⟩
  have hbd : (b = false ∧ d = false) ∨ (b = true ∧ d = false) ∨ (b = true ∧ d = true) := by
    rcases d with _ | _
    · rcases b with _ | _
      · exact .inl ⟨rfl, rfl⟩
      · exact .inr (.inl ⟨rfl, rfl⟩)
    · exact .inr (.inr ⟨by rw [← hb]; exact cover_touch hd, rfl⟩)
  have HY := Lib.hid hy; have HE := Lib.hid hE; have HBB := Lib.hid hb; have HDD := Lib.hid hd
  have hlaw : y = 0 → ∀ q, okP q = true → sqZ a q ≤ r * r → insE p q = 0 ∧ (d = true → 0 ≤ insZ p q) ∧ (0 ≤ insZ p q → b = true) ∧ (r = 0 → (0 ≤ insZ p q ↔ d = true)) := fun h0 q hq hs => by
    have hp : checkZ p = 0 := by rw [hy, h0]
    have := disc_law hp ha hq hr0 (by omega) hs
    rw [hb, hd] at this
    exact ⟨by unfold insE; rw [if_pos hp, if_pos hq], this⟩
  have HLAW := Lib.hid hlaw
  have hbf : y ≠ 0 → b = false := fun h0 => by
    rw [← hb]; unfold touchB; rw [hE, decide_eq_false h0]; rfl
  have HBF := Lib.hid hbf
  clear ha hy hE hb hd hlaw hbf
  by_cases hy0 : y = 0
  · subst hy0
    rcases d with _ | _
    · exact geoDisc_f A n cc p a r b w hn' h61 hr0 hr1 HRA HA HY HE HBB HDD (Lib.hid (HLAW.out rfl))
    · obtain rfl : b = true := by
        rcases hbd with ⟨_, h⟩ | ⟨_, h⟩ | ⟨h, _⟩
        · cases h
        · cases h
        · exact h
      exact geoDisc_t A n cc p a r w hn' h61 hr0 hr1 HRA HA HY HE HBB HDD (Lib.hid (HLAW.out rfl))
  · obtain rfl : b = false := HBF.out hy0
    obtain rfl : d = false := by
      rcases hbd with ⟨_, h⟩ | ⟨h, _⟩ | ⟨h, _⟩
      · exact h
      · cases h
      · cases h
    have t0 := ne0_t hy0
    clear hy0 hbd
    go_enter Try.func9, Try.ntmps9
    go_wp2_with fail
    refine (rvalid_any a true _ HA.out).mono ?_
    rintro e w2 ⟨rfl, hb2⟩
    replace kk := below_next kk (Nat.le_refl _) hb2
    clear c00 c01 HB hb2
    obtain ⟨B0, hbb⟩ := HK.out _ kk
    have c00 := B0.cell 0
    have c01 := B0.cell 1
    have HB := Lib.hid hbb
    clear B0 hbb
    go_wp2_with fail
    refine (touches_any A n cc p a r _ y _ (HRA.out _ HB.out) hn' HBB.out HE.out).mono ?_
    rintro e w3 ⟨rfl, hb3⟩
    replace kk := below_next kk (Nat.le_refl _) hb3
    clear c00 c01 HB hb3
    obtain ⟨B0, hbb⟩ := HK.out _ kk
    have c00 := B0.cell 0
    have c01 := B0.cell 1
    have HB := Lib.hid hbb
    clear B0 hbb
    go_wp2_with fail
    refine (covers_any A n cc p a r _ y _ (HRA.out _ HB.out) hn' HDD.out HE.out).mono ?_
    rintro e w4 ⟨rfl, hb4⟩
    replace kk := below_next kk (Nat.le_refl _) hb4
    clear c00 c01 HB hb4
    obtain ⟨B0, hbb⟩ := HK.out _ kk
    have c00 := B0.cell 0
    have c01 := B0.cell 1
    have HB := Lib.hid hbb
    clear B0 hbb
    go_wp2_with fail
    refine (check_any A n cc p y _ (HRA.out _ HB.out) hn' HY.out).mono ?_
    rintro e w5 ⟨rfl, hb5⟩
    replace kk := below_next kk (Nat.le_refl _) hb5
    clear c00 c01 HB hb5
    obtain ⟨B0, hbb⟩ := HK.out _ kk
    have c00 := B0.cell 0
    have c01 := B0.cell 1
    have HB := Lib.hid hbb
    clear B0 hbb
    go_wp2_with fail
    refine (awake_any _).mono ?_
    rintro e w9 ⟨rfl, hb9⟩
    go_wp2_with fail
    go_ret
    exact ⟨rfl, below_next HB.out (Nat.le_refl _) hb9⟩
end Go.Proofs.Ytomnodpmpdodbaa
