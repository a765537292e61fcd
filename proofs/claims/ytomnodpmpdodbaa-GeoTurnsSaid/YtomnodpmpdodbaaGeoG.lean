/- The walks of the program's Area, where, Inside, disc, Touches, Covers. -/
import Derived.Test.YtomnodpmpdodbaaGeoF
namespace Go.Proofs.Ytomnodpmpdodbaa
open Go.RowKit
def areaZ (p : List Pt) : Int := if checkZ p = 0 then twiceZ p else 0
theorem area_any (A : Option Addr) (n c : Nat) (p : List Pt) (x y : Int) (w : World) (h : Reads w w.heap.size 2 A n (cellsPt p)) (hn : n ≤ 9223372036854775807) (hx : areaZ p = x) (hy : checkZ p = y) : Calls Try.prog 14 #[.slice A n c] w (RetII w x y) := by
  have HR := Lib.hid h
  have HL := Lib.hid (recs_len h encPt_len (by omega))
  have HY := Lib.hid hy
  clear h
  by_cases h0 : y = 0
  · subst h0
    have HX : Hid (twiceZ p = x) := Lib.hid (by unfold areaZ at hx; rwa [if_pos hy] at hx)
    have HI := Lib.hid (check_inv hy)
    clear hx hy
    go_enter Try.func14, Try.ntmps14
    go_wp2_with fail
    refine (check_any A n c p 0 _ HR.out hn HY.out).mono ?_
    rintro e w1 ⟨rfl, hb1⟩
    have HB1 := Lib.hid hb1
    have HR1 := Lib.hid ((HR.out.below hb1).more hb1.size)
    clear hb1
    go_wp2_with fail
    refine (twice_any A n c p x _ HR1.out (by have := HL.out; have := HI.out.1; omega) HI.out.2.1 HX.out).mono ?_
    rintro e w2 ⟨rfl, hb2⟩
    have HB2 := Lib.hid (below_next HB1.out (Nat.le_refl _) hb2)
    clear hb2
    go_wp2_with fail
    go_ret2
    exact ⟨rfl, HB2.out⟩
  · have t0 := ne0_t h0
    have HX : Hid (0 = x) := Lib.hid (by unfold areaZ at hx; rwa [if_neg (by rw [hy]; exact h0)] at hx)
    clear hx hy h0
    go_enter Try.func14, Try.ntmps14
    go_wp2_with fail
    refine (check_any A n c p y _ HR.out hn HY.out).mono ?_
    rintro e w1 ⟨rfl, hb1⟩
    have HB1 := Lib.hid hb1
    clear hb1
    go_wp2_with fail
    go_ret2
    exact ⟨ret_ii HX.out rfl, HB1.out⟩
/-- Is a ray to the right of c crossed by the edge? -/
def crossB (e : Ed) (c : Pt) : Bool := (decide (c.2 < e.1.2) != decide (c.2 < e.2.2)) && (decide (0 < crossZ e.1 e.2 c) == decide (e.1.2 < e.2.2))
def whereF : List Ed → Pt → Int → Int
  | [], _, o => o
  | e :: l, c, o => if hasB e c = true then 0 else whereF l c (if crossB e c = true then -o else o)
theorem whereF_step {l : List Ed} {k : Nat} (hk : k < l.length) (c : Pt) (o : Int) : whereF (l.drop k) c o = if hasB l[k] c = true then 0 else whereF (l.drop (k + 1)) c (if crossB l[k] c = true then -o else o) := by
  rw [List.drop_eq_getElem_cons hk]; rfl
theorem whereF_end {l : List Ed} {k : Nat} (hk : l.length ≤ k) (c : Pt) (o : Int) : whereF (l.drop k) c o = o := by
  rw [List.drop_eq_nil_of_le hk]; rfl
def whereZ (p : List Pt) (c : Pt) : Int := whereF (edgesL p) c (-1)
theorem Blk.ofBelow {w w' : World} {g : Nat} {t : TypeId} {cs : Array Value} (h : Blk w g t cs) (hb : Below w.heap.size w w') : Blk w' g t cs := h.below hb h.lt
set_option maxHeartbeats 8000000 in
set_option maxRecDepth 10000 in
theorem where_any (A : Option Addr) (n cc : Nat) (p : List Pt) (c : Pt) (x : Int) (w : World) (h : Reads w w.heap.size 2 A n (cellsPt p)) (hn : n ≤ 1000) (hok : p.all okP = true) (hc : okP c = true) (hx : whereZ p c = x) : Calls Try.prog 37 #[.slice A n cc, aggP c] w (RetI w x) := by
  obtain ⟨kk, hK⟩ := box1K w 23 #[.int .i64 c.1, .int .i64 c.2]
  have HK := Lib.hid hK
  clear hK
  obtain ⟨B0, hbb⟩ := HK.out _ kk
  have c00 := B0.cell 0
  have c01 := B0.cell 1
  have HB := Lib.hid hbb
  clear B0 hbb
  have HH := Lib.hid ((h.below HB.out).more HB.out.size)
  have HLP := Lib.hid (recs_len h encPt_len (by omega))
  have HX := Lib.hid hx
  have HOK := Lib.hid (edges_ok hok); have hOC := Lib.hid hc
  clear h hx hok hc
  obtain ⟨l, hl⟩ : ∃ l, edgesL p = l := ⟨_, rfl⟩
  have HLE : Hid (l.length = n) := Lib.hid (by rw [← hl, edgesL_len, HLP.out])
  have HOKL : Hid (∀ e ∈ l, okE e = true) := Lib.hid (by rw [← hl]; exact HOK.out)
  have HXL : Hid (whereF l c (-1) = x) := Lib.hid (by rw [← HX.out, ← hl]; rfl)
  have HC : Hid (∀ u : World, Reads u u.heap.size 2 A n (cellsPt p) → Calls Try.prog 34 #[.slice A n cc] u (RetOwn u 60 4 (cellsEd l))) := Lib.hid (by rw [← hl]; exact fun u hu => edges_any A n cc p u hu (by omega))
  clear hl HLP HX HOK
  go_enter Try.func37, Try.ntmps37
  go_wp2_with fail
  refine (HC.out _ HH.out).mono ?_
  rintro e w1 ⟨A1, n1, c1, rfl, hown, hb1⟩
  obtain rfl : n1 = n := by have := recs_len (Reads.of_own hown) encEd_len (by omega); have := HLE.out; omega
  have HR := Lib.hid (Reads.of_own hown)
  replace kk := below_next kk (Nat.le_refl _) hb1
  clear hown hb1 HC HH HB c00 c01
  have HKK := Lib.hid kk
  clear kk
  go_wp2_with fail
  go_loopw [5, 11] (fun s i wr => ∃ (k : Nat) (o : Int), k ≤ n1 ∧ i = .int .i64 k ∧ s = .int .i64 o ∧ -1 ≤ o ∧ o ≤ 1 ∧ Hid (whereF (l.drop k) c o = x) ∧ Below w1.heap.size w1 wr) (fun _ i _ => n1 - (intOf i).toNat)
  case atStart => exact ⟨0, -1, Nat.zero_le _, rfl, rfl, by omega, by omega, Lib.hid HXL.out, Below.refl _ _⟩
  case round =>
    obtain ⟨k, o, hk, rfl, rfl, ho1, ho2, HWF, hbw⟩ := hrel
    have HBW := Lib.hid hbw
    have HRr := Lib.hid (HR.out.below hbw)
    have hkr := below_next HKK.out (Nat.le_refl _) hbw
    have HKR := Lib.hid hkr
    obtain ⟨B0, hbb⟩ := HK.out _ hkr
    have HB0 := Lib.hid B0
    have c00 := (B0.cell 0).trans rfl; have c01 := (B0.cell 1).trans rfl
    have hwlt : w.heap.size < wr.heap.size := B0.lt
    have HBB := Lib.hid hbb
    clear B0 hbb hbw hkr
    by_cases hlt : k < n1
    · have hkl : k < l.length := by have := HLE.out; omega
      obtain ⟨b, off, rfl, hb, hcc⟩ := eds_cells HRr.out (by omega)
      obtain ⟨d0, d1, d2, d3⟩ := hcc k hkl
      have hk0 : (0 : Int) ≤ k := by omega
      have hk1 : (k : Int) < n1 := by omega
      have HOE := Lib.hid (HOKL.out _ (List.getElem_mem hkl))
      have HSTEP := Lib.hid (whereF_step hkl c o)
      have hbw : b < wr.heap.size := Nat.lt_of_lt_of_le hb HBW.out.size
      have HBJ := Lib.hid ((Below.refl wr.heap.size wr).alloc (Nat.le_refl _) (.cells #[.int .i64 l[k].1.1, .int .i64 l[k].1.2, .int .i64 l[k].2.1, .int .i64 l[k].2.2] 60))
      have HBX := Lib.hid (Blk.new wr 60 #[.int .i64 l[k].1.1, .int .i64 l[k].1.2, .int .i64 l[k].2.1, .int .i64 l[k].2.2])
      clear hcc
      obtain ⟨y, hy⟩ : ∃ y, hasB l[k] c = y := ⟨_, rfl⟩
      have HY := Lib.hid hy
      clear hy
      rcases y with _ | _
      · obtain ⟨v, hv⟩ : ∃ v, crossB l[k] c = v := ⟨_, rfl⟩
        have HWN : Hid (whereF (l.drop (k + 1)) c (if v = true then -o else o) = x) := Lib.hid (by rw [← HWF.out, HSTEP.out, HY.out, if_neg Bool.false_ne_true, hv])
        have HV := Lib.hid hv
        clear hv
        go_wp2_with fail
        refine (has_any l[k] c false _ HOE.out hOC.out HY.out).mono ?_
        rintro e w2 ⟨rfl, hb2⟩
        have hk2 := below_next HBJ.out (Nat.le_refl _) hb2
        have HK2 := Lib.hid hk2
        have x2 := (HBX.out.ofBelow hb2)
        have z2 := HB0.out.ofBelow hk2
        have HX2 := Lib.hid x2; have HZ2 := Lib.hid z2
        clear hk2 hb2 c00 c01 d0 d1 d2 d3
        have F0 : ∀ z : Fam w2, z.val.cell? ⟨wr.heap.size, 0, none⟩ = some (.int .i64 l[k].1.1) := fun z => z.some_ (x2.cell 0)
        have F1 : ∀ z : Fam w2, z.val.cell? ⟨wr.heap.size, 1, none⟩ = some (.int .i64 l[k].1.2) := fun z => z.some_ (x2.cell 1)
        have F2 : ∀ z : Fam w2, z.val.cell? ⟨wr.heap.size, 2, none⟩ = some (.int .i64 l[k].2.1) := fun z => z.some_ (x2.cell 2)
        have F3 : ∀ z : Fam w2, z.val.cell? ⟨wr.heap.size, 3, none⟩ = some (.int .i64 l[k].2.2) := fun z => z.some_ (x2.cell 3)
        have G0 : ∀ z : Fam w2, z.val.cell? ⟨w.heap.size, 0, none⟩ = some (.int .i64 c.1) := fun z => z.some_ (z2.cell 0)
        have G1 : ∀ z : Fam w2, z.val.cell? ⟨w.heap.size, 1, none⟩ = some (.int .i64 c.2) := fun z => z.some_ (z2.cell 1)
        clear x2 z2
        have hcs : ∃ t1 t2 t3 : Bool, decide (c.2 < l[k].1.2) = t1 ∧ decide (c.2 < l[k].2.2) = t2 ∧ decide (0 < crossZ l[k].1 l[k].2 c) = t3 := ⟨_, _, _, rfl, rfl, rfl⟩
        obtain ⟨t1, t2, t3, ht1, ht2, ht3⟩ := hcs
        obtain ⟨t4, ht4⟩ : ∃ t4 : Bool, decide (l[k].1.2 < l[k].2.2) = t4 := ⟨_, rfl⟩
        have HVV : Hid (((t1 != t2) && (t3 == t4)) = v) := Lib.hid (by rw [← HV.out]; unfold crossB; rw [ht1, ht2, ht3, ht4])
        obtain ⟨y, hy⟩ : ∃ y, crossZ l[k].1 l[k].2 c = y := ⟨_, rfl⟩
        have HYY := Lib.hid hy
        rw [hy] at ht3
        clear hy HV
        rcases t1 with _ | _ <;> rcases t2 with _ | _ <;> rcases t3 with _ | _ <;> rcases t4 with _ | _
        all_goals
          obtain rfl : _ = v := HVV.out
          go_wp2_with fail
          refine wp_region_fam (by kernel_rfl) (by kernel_rfl) ?_
          repeat (go_big_quiet_step ((go_at_call 29; exact fam_call (cross_any _ _ _ y _ (okE_t HOE.out).1 (okE_t HOE.out).2 hOC.out HYY.out))))
          refine wpQuiet_nil ?_
          rintro _ ⟨z, rfl⟩
          have HBZ := Lib.hid (below_next (below_next HBW.out (Nat.le_refl _) HK2.out) (Nat.le_refl _) z.prop)
          go_wp2_with fail
          go_roundw
          case rel => exact ⟨k + 1, _, by omega, by go_num, rfl, by omega, by omega, Lib.hid HWN.out, HBZ.out⟩
          case measure => simp [intOf]; omega
      · have HX2 : Hid (0 = x) := Lib.hid (by rw [← HWF.out, HSTEP.out, HY.out, if_pos rfl])
        go_wp2_with fail
        refine (has_any l[k] c true _ HOE.out hOC.out HY.out).mono ?_
        rintro e w2 ⟨rfl, hb2⟩
        have hk2 := (HK.out _ (below_next HKR.out (Nat.le_refl _) (below_next HBJ.out (Nat.le_refl _) hb2))).2
        have HB2 := Lib.hid hk2
        clear hb2 hk2
        go_wp2_with fail
        go_ret
        exact ⟨ret_int HX2.out, HB2.out⟩
    · have HX2 : Hid (o = x) := Lib.hid (by rw [← HWF.out, whereF_end (by have := HLE.out; omega)])
      go_wp2_with fail
      go_ret
      exact ⟨ret_int HX2.out, HBB.out⟩
end Go.Proofs.Ytomnodpmpdodbaa
