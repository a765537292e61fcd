/- The walks of the program's Inside, disc, Touches, Covers. -/
import Derived.Test.YtomnodpmpdodbaaGeoG
namespace Go.Proofs.Ytomnodpmpdodbaa
open Go.RowKit
/-- The error of Inside. -/
def insE (p : List Pt) (a : Pt) : Int := if checkZ p = 0 then if okP a = true then 0 else 1 else checkZ p
def insZ (p : List Pt) (a : Pt) : Int := if insE p a = 0 then whereZ p a else 0
theorem insE_inv {p : List Pt} {a : Pt} (h : insE p a = 0) : checkZ p = 0 ∧ okP a = true := by
  unfold insE at h
  by_cases h0 : checkZ p = 0
  · rw [if_pos h0] at h
    rcases h1 : okP a with _ | _
    · rw [h1, if_neg Bool.false_ne_true] at h; exact absurd h (by decide)
    · exact ⟨h0, rfl⟩
  · rw [if_neg h0] at h; exact absurd h h0
set_option maxHeartbeats 1000000 in
theorem inside_any (A : Option Addr) (n c : Nat) (p : List Pt) (a : Pt) (x y : Int) (w : World) (h : Reads w w.heap.size 2 A n (cellsPt p)) (hn : n ≤ 9223372036854775807) (hx : insZ p a = x) (hy : insE p a = y) : Calls Try.prog 18 #[.slice A n c, aggP a] w (RetII w x y) := by
  obtain ⟨kk, hK⟩ := box1K w 23 #[.int .i64 a.1, .int .i64 a.2]
  have HK := Lib.hid hK
  clear hK
  obtain ⟨B0, hbb⟩ := HK.out _ kk
  have c00 := B0.cell 0
  have c01 := B0.cell 1
  have HB := Lib.hid hbb
  clear B0 hbb
  have HR := Lib.hid ((h.below HB.out).more HB.out.size)
  have HL := Lib.hid (recs_len h encPt_len (by omega))
  have HRA : Hid (∀ u, Below w.heap.size w u → Reads u u.heap.size 2 A n (cellsPt p)) := Lib.hid fun u hu => (h.below hu).more hu.size
  clear h
  by_cases h0 : checkZ p = 0
  · have HC := Lib.hid h0
    have HI := Lib.hid (check_inv h0)
    rcases h1 : okP a with _ | _
    · have HA := Lib.hid h1
      obtain rfl : y = 1 := by rw [← hy]; unfold insE; rw [if_pos h0, h1]; rfl
      obtain rfl : x = 0 := by rw [← hx]; unfold insZ; rw [if_neg (by rw [hy]; decide)]
      clear hx hy h0 h1
      go_enter Try.func18, Try.ntmps18
      go_wp2_with fail
      refine (check_any A n c p 0 _ HR.out hn HC.out).mono ?_
      rintro e w1 ⟨rfl, hb1⟩
      replace kk := below_next kk (Nat.le_refl _) hb1
      clear c00 c01 HB hb1
      obtain ⟨B0, hbb⟩ := HK.out _ kk
      have c00 := B0.cell 0
      have c01 := B0.cell 1
      have HB := Lib.hid hbb
      clear B0 hbb
      go_wp2_with fail
      refine (valid_any a false _ HA.out).mono ?_
      rintro e w2 ⟨rfl, hb2⟩
      replace kk := below_next kk (Nat.le_refl _) hb2
      clear c00 c01 HB hb2
      obtain ⟨B0, hbb⟩ := HK.out _ kk
      have c00 := B0.cell 0
      have c01 := B0.cell 1
      have HB := Lib.hid hbb
      clear B0 hbb
      go_wp2_with fail
      go_ret2
      exact ⟨rfl, HB.out⟩
    · have HA := Lib.hid h1
      obtain rfl : y = 0 := by rw [← hy]; unfold insE; rw [if_pos h0, h1]; rfl
      have HX : Hid (whereZ p a = x) := Lib.hid (by rw [← hx]; unfold insZ; rw [if_pos hy])
      clear hx hy h0 h1
      go_enter Try.func18, Try.ntmps18
      go_wp2_with fail
      refine (check_any A n c p 0 _ HR.out hn HC.out).mono ?_
      rintro e w3 ⟨rfl, hb3⟩
      replace kk := below_next kk (Nat.le_refl _) hb3
      clear c00 c01 HB hb3
      obtain ⟨B0, hbb⟩ := HK.out _ kk
      have c00 := B0.cell 0
      have c01 := B0.cell 1
      have HB := Lib.hid hbb
      clear B0 hbb
      go_wp2_with fail
      refine (valid_any a true _ HA.out).mono ?_
      rintro e w4 ⟨rfl, hb4⟩
      replace kk := below_next kk (Nat.le_refl _) hb4
      clear c00 c01 HB hb4
      obtain ⟨B0, hbb⟩ := HK.out _ kk
      have c00 := B0.cell 0
      have c01 := B0.cell 1
      have HB := Lib.hid hbb
      clear B0 hbb
      go_wp2_with fail
      refine (where_any A n c p a x _ (HRA.out _ HB.out) (by have := HL.out; have := HI.out.1; omega) HI.out.2.1 HA.out HX.out).mono ?_
      rintro e w5 ⟨rfl, hb5⟩
      replace kk := below_next kk (Nat.le_refl _) hb5
      clear c00 c01 HB hb5
      obtain ⟨B0, hbb⟩ := HK.out _ kk
      have c00 := B0.cell 0
      have c01 := B0.cell 1
      have HB := Lib.hid hbb
      clear B0 hbb
      go_wp2_with fail
      go_ret2
      exact ⟨rfl, HB.out⟩
  · have HC : Hid (checkZ p = y) := Lib.hid (by rw [← hy]; unfold insE; rw [if_neg h0])
    have t0 := ne0_t (a := y) (by rw [← HC.out]; exact h0)
    obtain rfl : x = 0 := by rw [← hx]; unfold insZ; rw [if_neg (by rw [hy, ← HC.out]; exact h0)]
    clear hx hy h0
    go_enter Try.func18, Try.ntmps18
    go_wp2_with fail
    refine (check_any A n c p y _ HR.out hn HC.out).mono ?_
    rintro e w6 ⟨rfl, hb6⟩
    replace kk := below_next kk (Nat.le_refl _) hb6
    clear c00 c01 HB hb6
    obtain ⟨B0, hbb⟩ := HK.out _ kk
    have c00 := B0.cell 0
    have c01 := B0.cell 1
    have HB := Lib.hid hbb
    clear B0 hbb
    go_wp2_with fail
    go_ret2
    exact ⟨rfl, HB.out⟩
/-- How the nearest edge compares with the radius. -/
def leastF : List Ed → Pt → Int → Int → Int
  | [], _, _, m => m
  | e :: l, c, r, m => leastF l c r (min m (nearZ e c r))
theorem leastF_step {l : List Ed} {k : Nat} (hk : k < l.length) (c : Pt) (r m : Int) : leastF (l.drop k) c r m = leastF (l.drop (k + 1)) c r (min m (nearZ l[k] c r)) := by
  rw [List.drop_eq_getElem_cons hk]; rfl
theorem leastF_end {l : List Ed} {k : Nat} (hk : l.length ≤ k) (c : Pt) (r m : Int) : leastF (l.drop k) c r m = m := by
  rw [List.drop_eq_nil_of_le hk]; rfl
def discE (p : List Pt) (a : Pt) (r : Int) : Int := if insE p a = 0 then if 0 ≤ r ∧ r ≤ 16384 then 0 else 1 else insE p a
def discI (p : List Pt) (a : Pt) (r : Int) : Int := if discE p a r = 0 then whereZ p a else 0
def discL (p : List Pt) (a : Pt) (r : Int) : Int := if discE p a r = 0 then leastF (edgesL p) a r 1 else 0
theorem discE_inv {p : List Pt} {a : Pt} {r : Int} (h : discE p a r = 0) : insE p a = 0 ∧ 0 ≤ r ∧ r ≤ 16384 := by
  unfold discE at h
  by_cases h0 : insE p a = 0
  · rw [if_pos h0] at h
    by_cases h1 : 0 ≤ r ∧ r ≤ 16384
    · exact ⟨h0, h1⟩
    · rw [if_neg h1] at h; exact absurd h (by decide)
  · rw [if_neg h0] at h; exact absurd h h0
set_option maxHeartbeats 4000000 in
set_option maxRecDepth 10000 in
theorem disc_any (A : Option Addr) (n cc : Nat) (p : List Pt) (a : Pt) (r x y z : Int) (w : World) (h : Reads w w.heap.size 2 A n (cellsPt p)) (hn : n ≤ 9223372036854775807) (hx : discI p a r = x) (hy : discL p a r = y) (hz : discE p a r = z) : Calls Try.prog 39 #[.slice A n cc, aggP a, .int .i64 r] w (RetIII w x y z) := by
  obtain ⟨kk, hK⟩ := box1K w 23 #[.int .i64 a.1, .int .i64 a.2]
  have HK := Lib.hid hK
  clear hK
  obtain ⟨B0, hbb⟩ := HK.out _ kk
  have c00 := B0.cell 0
  have c01 := B0.cell 1
  have HB := Lib.hid hbb
  clear B0 hbb
  have HR := Lib.hid ((h.below HB.out).more HB.out.size)
  have HL := Lib.hid (recs_len h encPt_len (by omega))
  have HRA : Hid (∀ u, Below w.heap.size w u → Reads u u.heap.size 2 A n (cellsPt p)) := Lib.hid fun u hu => (h.below hu).more hu.size
  clear h
  by_cases h0 : insE p a = 0
  · have HC := Lib.hid h0
    have HI := Lib.hid (check_inv (insE_inv h0).1)
    have HOA := Lib.hid (insE_inv h0).2
    by_cases h1 : 0 ≤ r ∧ r ≤ 16384
    · obtain rfl : z = 0 := by rw [← hz]; unfold discE; rw [if_pos h0, if_pos h1]
      have HX : Hid (insZ p a = x) := Lib.hid (by rw [← hx]; unfold discI insZ; rw [if_pos hz, if_pos h0])
      have HY : Hid (leastF (edgesL p) a r 1 = y) := Lib.hid (by rw [← hy]; unfold discL; rw [if_pos hz])
      obtain ⟨g1, g2⟩ := h1
      clear hx hy hz h0
      obtain ⟨l, hl⟩ : ∃ l, edgesL p = l := ⟨_, rfl⟩
      have HLE : Hid (l.length = n) := Lib.hid (by rw [← hl, edgesL_len, HL.out])
      have HOKL : Hid (∀ e ∈ l, okE e = true) := Lib.hid (by rw [← hl]; exact edges_ok HI.out.2.1)
      have HCE : Hid (∀ u : World, Reads u u.heap.size 2 A n (cellsPt p) → Calls Try.prog 34 #[.slice A n cc] u (RetOwn u 60 4 (cellsEd l))) := Lib.hid (by rw [← hl]; exact fun u hu => edges_any A n cc p u hu (by have := HL.out; have := HI.out.1; omega))
      rw [hl] at HY
      have hn32 : n ≤ 32 := by have := HL.out; have := HI.out.1; omega
      clear hl
      go_enter Try.func39, Try.ntmps39
      go_wp2_with fail
      refine (inside_any A n cc p a x 0 _ HR.out hn HX.out HC.out).mono ?_
      rintro e w1 ⟨rfl, hb1⟩
      replace kk := below_next kk (Nat.le_refl _) hb1
      clear c00 c01 HB hb1
      obtain ⟨B0, hbb⟩ := HK.out _ kk
      have c00 := B0.cell 0
      have c01 := B0.cell 1
      have HB := Lib.hid hbb
      clear B0 hbb
      go_wp2_with fail
      refine (HCE.out _ (HRA.out _ HB.out)).mono ?_
      rintro e w1 ⟨A1, n1, c1, rfl, hown, hb1⟩
      obtain rfl : n1 = n := by have := recs_len (Reads.of_own hown) encEd_len (by omega); have := HLE.out; omega
      have HRE := Lib.hid (Reads.of_own hown)
      replace kk := below_next kk (Nat.le_refl _) hb1
      clear hown hb1 HCE HR HB c00 c01
      have HKK := Lib.hid kk
      clear kk
      go_wp2_with fail
      go_loopw [11, 32] (fun s i wr => ∃ (k : Nat) (m : Int), k ≤ n1 ∧ i = .int .i64 k ∧ s = .int .i64 m ∧ Hid (leastF (l.drop k) a r m = y) ∧ Below w1.heap.size w1 wr) (fun _ i _ => n1 - (intOf i).toNat)
      case atStart => exact ⟨0, 1, Nat.zero_le _, rfl, rfl, Lib.hid HY.out, Below.refl _ _⟩
      case round =>
        obtain ⟨k, m, hk, rfl, rfl, HF, hbw⟩ := hrel
        have HBW := Lib.hid hbw
        have HRr := Lib.hid (HRE.out.below hbw)
        have hkr := below_next HKK.out (Nat.le_refl _) hbw
        have HKR := Lib.hid hkr
        obtain ⟨B0, hbb⟩ := HK.out _ hkr
        have c00 := (B0.cell 0).trans rfl; have c01 := (B0.cell 1).trans rfl
        have hwlt : w.heap.size < wr.heap.size := B0.lt
        have HBB := Lib.hid hbb
        clear B0 hbb hbw hkr
        by_cases hlt : k < n1
        · have hkl : k < l.length := by have := HLE.out; omega
          obtain ⟨b, off, rfl, hb, hcc⟩ := eds_cells HRr.out (by omega)
          obtain ⟨d0, d1, d2, d3⟩ := hcc k hkl
          have hk0 : (0 : Int) ≤ k := by omega
          have hk1 : (k : Int) < n1 := by omega
          have HOE := Lib.hid (HOKL.out _ (List.getElem_mem hkl))
          have hbw : b < wr.heap.size := Nat.lt_of_lt_of_le hb HBW.out.size
          have HBJ := Lib.hid ((Below.refl wr.heap.size wr).alloc (Nat.le_refl _) (.cells #[.int .i64 l[k].1.1, .int .i64 l[k].1.2, .int .i64 l[k].2.1, .int .i64 l[k].2.2] 60))
          clear hcc
          obtain ⟨v, hv⟩ : ∃ v, nearZ l[k] a r = v := ⟨_, rfl⟩
          have HV := Lib.hid hv
          have HFN : Hid (leastF (l.drop (k + 1)) a r (min m v) = y) := Lib.hid (by rw [← HF.out, leastF_step hkl, hv])
          have hmn : ∀ (ts : Array TypeId) (ty : TypeId) (u : World), (Builtin.min_ ts ty #[.int .i64 m, .int .i64 v]).run Try.prog u = .ok (.int .i64 (min m v)) u := fun ts ty u => Lib.run_min_ints u ts ty .i64 .i64 m v
          clear hv
          go_wp2_with fail
          refine (near_any l[k] a r v _ HOE.out HOA.out g1 g2 HV.out).mono ?_
          rintro e w2 ⟨rfl, hb2⟩
          have HB2 := Lib.hid (below_next HBW.out (Nat.le_refl _) (below_next HBJ.out (Nat.le_refl _) hb2))
          clear hb2
          go_wp2_with fail
          go_roundw
          case rel => exact ⟨k + 1, min m v, by omega, by go_num, rfl, HFN, HB2.out⟩
          case measure => simp [intOf]; omega
        · have HX2 : Hid (m = y) := Lib.hid (by rw [← HF.out, leastF_end (by have := HLE.out; omega)])
          go_wp2_with fail
          go_ret3
          exact ⟨by rw [HX2.out]; rfl, HBB.out⟩
    · obtain rfl : z = 1 := by rw [← hz]; unfold discE; rw [if_pos h0, if_neg h1]
      obtain rfl : x = 0 := by rw [← hx]; unfold discI; rw [if_neg (by rw [hz]; decide)]
      obtain rfl : y = 0 := by rw [← hy]; unfold discL; rw [if_neg (by rw [hz]; decide)]
      have hcs : r < 0 ∨ (0 ≤ r ∧ 16384 < r) := by omega
      obtain ⟨v, hv⟩ : ∃ v, insZ p a = v := ⟨_, rfl⟩
      have HV := Lib.hid hv
      clear hx hy hz h0 h1 hv
      rcases hcs with g1 | ⟨g1, g2⟩
      all_goals
        go_enter Try.func39, Try.ntmps39
        go_wp2_with fail
        refine (inside_any A n cc p a v 0 _ HR.out hn HV.out HC.out).mono ?_
        rintro e w2 ⟨rfl, hb2⟩
        replace kk := below_next kk (Nat.le_refl _) hb2
        clear c00 c01 HB hb2
        obtain ⟨B0, hbb⟩ := HK.out _ kk
        have c00 := B0.cell 0
        have c01 := B0.cell 1
        have HB := Lib.hid hbb
        clear B0 hbb
        go_wp2_with fail
        go_ret3
        exact ⟨rfl, HB.out⟩
  · have HC : Hid (insE p a = z) := Lib.hid (by rw [← hz]; unfold discE; rw [if_neg h0])
    have t0 := ne0_t (a := z) (by rw [← HC.out]; exact h0)
    obtain rfl : x = 0 := by rw [← hx]; unfold discI; rw [if_neg (by rw [hz, ← HC.out]; exact h0)]
    obtain rfl : y = 0 := by rw [← hy]; unfold discL; rw [if_neg (by rw [hz, ← HC.out]; exact h0)]
    obtain ⟨v, hv⟩ : ∃ v, insZ p a = v := ⟨_, rfl⟩
    have HV := Lib.hid hv
    clear hx hy hz h0 hv
    go_enter Try.func39, Try.ntmps39
    go_wp2_with fail
    refine (inside_any A n cc p a v z _ HR.out hn HV.out HC.out).mono ?_
    rintro e w3 ⟨rfl, hb3⟩
    replace kk := below_next kk (Nat.le_refl _) hb3
    clear c00 c01 HB hb3
    obtain ⟨B0, hbb⟩ := HK.out _ kk
    have c00 := B0.cell 0
    have c01 := B0.cell 1
    have HB := Lib.hid hbb
    clear B0 hbb
    go_wp2_with fail
    go_ret3
    exact ⟨rfl, HB.out⟩
def touchB (p : List Pt) (a : Pt) (r : Int) : Bool := decide (discE p a r = 0) && (decide (0 ≤ discI p a r) || decide (discL p a r ≤ 0))
def coverB (p : List Pt) (a : Pt) (r : Int) : Bool := decide (discE p a r = 0) && decide (0 ≤ discI p a r) && decide (0 ≤ discL p a r)
set_option maxHeartbeats 1000000 in
theorem touches_any (A : Option Addr) (n cc : Nat) (p : List Pt) (a : Pt) (r : Int) (x : Bool) (y : Int) (w : World) (h : Reads w w.heap.size 2 A n (cellsPt p)) (hn : n ≤ 9223372036854775807) (hx : touchB p a r = x) (hy : discE p a r = y) : Calls Try.prog 20 #[.slice A n cc, aggP a, .int .i64 r] w (RetBI w x y) := by
  obtain ⟨kk, hK⟩ := box1K w 23 #[.int .i64 a.1, .int .i64 a.2]
  have HK := Lib.hid hK
  clear hK
  obtain ⟨B0, hbb⟩ := HK.out _ kk
  have c00 := B0.cell 0
  have c01 := B0.cell 1
  have HB := Lib.hid hbb
  clear B0 hbb
  have HR := Lib.hid ((h.below HB.out).more HB.out.size)
  clear h
  have HY := Lib.hid hy
  obtain ⟨u, hu⟩ : ∃ u, discI p a r = u := ⟨_, rfl⟩
  obtain ⟨v, hv⟩ : ∃ v, discL p a r = v := ⟨_, rfl⟩
  have HU := Lib.hid hu; have HV := Lib.hid hv
  unfold touchB at hx
  rw [hy, hu, hv] at hx
  have HX := Lib.hid hx
  clear hx hy hu hv
  by_cases h0 : y = 0
  · subst h0
    by_cases h1 : 0 ≤ u
    · have HX2 : Hid (true = x) := Lib.hid (by rw [← HX.out]; simp [h1])
      go_enter Try.func20, Try.ntmps20
      go_wp2_with fail
      refine (disc_any A n cc p a r u v 0 _ HR.out hn HU.out HV.out HY.out).mono ?_
      rintro e w1 ⟨rfl, hb1⟩
      replace kk := below_next kk (Nat.le_refl _) hb1
      clear c00 c01 HB hb1
      obtain ⟨B0, hbb⟩ := HK.out _ kk
      have c00 := B0.cell 0
      have c01 := B0.cell 1
      have HB := Lib.hid hbb
      clear B0 hbb
      go_wp2_with fail
      go_ret2
      exact ⟨ret_bi HX2.out rfl, HB.out⟩
    · have HX2 : Hid (decide (v ≤ 0) = x) := Lib.hid (by rw [← HX.out]; simp [h1])
      have h2 : u < 0 := by omega
      have h3 := decide_eq_false h1
      clear h1
      go_enter Try.func20, Try.ntmps20
      go_wp2_with fail
      refine (disc_any A n cc p a r u v 0 _ HR.out hn HU.out HV.out HY.out).mono ?_
      rintro e w2 ⟨rfl, hb2⟩
      replace kk := below_next kk (Nat.le_refl _) hb2
      clear c00 c01 HB hb2
      obtain ⟨B0, hbb⟩ := HK.out _ kk
      have c00 := B0.cell 0
      have c01 := B0.cell 1
      have HB := Lib.hid hbb
      clear B0 hbb
      go_wp2_with fail
      go_ret2
      exact ⟨ret_bi HX2.out rfl, HB.out⟩
  · have HX2 : Hid (false = x) := Lib.hid (by rw [← HX.out, decide_eq_false h0]; rfl)
    have t0 := eq0_f h0
    clear h0
    go_enter Try.func20, Try.ntmps20
    go_wp2_with fail
    refine (disc_any A n cc p a r u v y _ HR.out hn HU.out HV.out HY.out).mono ?_
    rintro e w3 ⟨rfl, hb3⟩
    replace kk := below_next kk (Nat.le_refl _) hb3
    clear c00 c01 HB hb3
    obtain ⟨B0, hbb⟩ := HK.out _ kk
    have c00 := B0.cell 0
    have c01 := B0.cell 1
    have HB := Lib.hid hbb
    clear B0 hbb
    go_wp2_with fail
    go_ret2
    exact ⟨ret_bi HX2.out rfl, HB.out⟩
set_option maxHeartbeats 1000000 in
theorem covers_any (A : Option Addr) (n cc : Nat) (p : List Pt) (a : Pt) (r : Int) (x : Bool) (y : Int) (w : World) (h : Reads w w.heap.size 2 A n (cellsPt p)) (hn : n ≤ 9223372036854775807) (hx : coverB p a r = x) (hy : discE p a r = y) : Calls Try.prog 22 #[.slice A n cc, aggP a, .int .i64 r] w (RetBI w x y) := by
  obtain ⟨kk, hK⟩ := box1K w 23 #[.int .i64 a.1, .int .i64 a.2]
  have HK := Lib.hid hK
  clear hK
  obtain ⟨B0, hbb⟩ := HK.out _ kk
  have c00 := B0.cell 0
  have c01 := B0.cell 1
  have HB := Lib.hid hbb
  clear B0 hbb
  have HR := Lib.hid ((h.below HB.out).more HB.out.size)
  clear h
  have HY := Lib.hid hy
  obtain ⟨u, hu⟩ : ∃ u, discI p a r = u := ⟨_, rfl⟩
  obtain ⟨v, hv⟩ : ∃ v, discL p a r = v := ⟨_, rfl⟩
  have HU := Lib.hid hu; have HV := Lib.hid hv
  unfold coverB at hx
  rw [hy, hu, hv] at hx
  have HX := Lib.hid hx
  clear hx hy hu hv
  by_cases h0 : y = 0
  · subst h0
    by_cases h1 : 0 ≤ u
    · have HX2 : Hid (decide (0 ≤ v) = x) := Lib.hid (by rw [← HX.out]; simp [h1])
      go_enter Try.func22, Try.ntmps22
      go_wp2_with fail
      refine (disc_any A n cc p a r u v 0 _ HR.out hn HU.out HV.out HY.out).mono ?_
      rintro e w1 ⟨rfl, hb1⟩
      replace kk := below_next kk (Nat.le_refl _) hb1
      clear c00 c01 HB hb1
      obtain ⟨B0, hbb⟩ := HK.out _ kk
      have c00 := B0.cell 0
      have c01 := B0.cell 1
      have HB := Lib.hid hbb
      clear B0 hbb
      go_wp2_with fail
      go_ret2
      exact ⟨ret_bi HX2.out rfl, HB.out⟩
    · have HX2 : Hid (false = x) := Lib.hid (by rw [← HX.out]; simp [h1])
      have h2 : u < 0 := by omega
      clear h1
      go_enter Try.func22, Try.ntmps22
      go_wp2_with fail
      refine (disc_any A n cc p a r u v 0 _ HR.out hn HU.out HV.out HY.out).mono ?_
      rintro e w2 ⟨rfl, hb2⟩
      replace kk := below_next kk (Nat.le_refl _) hb2
      clear c00 c01 HB hb2
      obtain ⟨B0, hbb⟩ := HK.out _ kk
      have c00 := B0.cell 0
      have c01 := B0.cell 1
      have HB := Lib.hid hbb
      clear B0 hbb
      go_wp2_with fail
      go_ret2
      exact ⟨ret_bi HX2.out rfl, HB.out⟩
  · have HX2 : Hid (false = x) := Lib.hid (by rw [← HX.out, decide_eq_false h0]; rfl)
    have t0 := eq0_f h0
    clear h0
    go_enter Try.func22, Try.ntmps22
    go_wp2_with fail
    refine (disc_any A n cc p a r u v y _ HR.out hn HU.out HV.out HY.out).mono ?_
    rintro e w3 ⟨rfl, hb3⟩
    replace kk := below_next kk (Nat.le_refl _) hb3
    clear c00 c01 HB hb3
    obtain ⟨B0, hbb⟩ := HK.out _ kk
    have c00 := B0.cell 0
    have c01 := B0.cell 1
    have HB := Lib.hid hbb
    clear B0 hbb
    go_wp2_with fail
    go_ret2
    exact ⟨ret_bi HX2.out rfl, HB.out⟩
end Go.Proofs.Ytomnodpmpdodbaa
