/- The walks of ParkingChecks, ParkingJudges, ParkingAll, ParkingPhotos. -/
import Derived.Test.YtdgdjlpbnaoheaaPkM
namespace Go.Proofs.Ytdgdjlpbnaoheaa
open Go.RowKit
set_option maxHeartbeats 2000000 in
theorem parkingChecks_walk (p : Pk) (w : World) : Calls Try.prog 5 #[aggK p] w (AwakePost w) := by
  obtain ⟨kk, hK⟩ := box1K w 27 #[.int .i64 p.ride, .int .i64 p.rider, .int .i64 p.tm, .int .i64 p.x, .int .i64 p.y, .int .i64 p.r]
  have HK := Lib.hid hK
  clear hK
  obtain ⟨B0, hbb⟩ := HK.out _ kk
  have c00 := B0.cell 0
  have c01 := B0.cell 1
  have c02 := B0.cell 2
  have c03 := B0.cell 3
  have c04 := B0.cell 4
  have c05 := B0.cell 5
  have HB := Lib.hid hbb
  clear B0 hbb
  obtain ⟨y, hy⟩ : ∃ y, pkZ p = y := ⟨_, rfl⟩
  have HY := Lib.hid hy
  clear hy
  go_enter Try.func5, Try.ntmps5
  go_wp2_with fail
  have F00 : ∀ z : Fam _, z.val.cell? ⟨w.heap.size, 0, none⟩ = some (.int .i64 p.ride) := fun z => z.some_ c00
  have F01 : ∀ z : Fam _, z.val.cell? ⟨w.heap.size, 1, none⟩ = some (.int .i64 p.rider) := fun z => z.some_ c01
  have F02 : ∀ z : Fam _, z.val.cell? ⟨w.heap.size, 2, none⟩ = some (.int .i64 p.tm) := fun z => z.some_ c02
  have F03 : ∀ z : Fam _, z.val.cell? ⟨w.heap.size, 3, none⟩ = some (.int .i64 p.x) := fun z => z.some_ c03
  have F04 : ∀ z : Fam _, z.val.cell? ⟨w.heap.size, 4, none⟩ = some (.int .i64 p.y) := fun z => z.some_ c04
  have F05 : ∀ z : Fam _, z.val.cell? ⟨w.heap.size, 5, none⟩ = some (.int .i64 p.r) := fun z => z.some_ c05
  clear c00 c01 c02 c03 c04 c05
  refine wp_region_fam (by kernel_rfl) (by kernel_rfl) ?_
  repeat (go_big_quiet_step (((first | (go_at_call 16; exact fam_call (pkcheck_any p y _ HY.out)) | (go_at_call 17; exact fam_call (rpkcheck_any p y _ HY.out)) | (go_at_call 11; exact fam_call (awake_any _))))))
  refine wpQuiet_nil ?_
  rintro _ ⟨z1, rfl⟩
  replace kk := below_next kk (Nat.le_refl _) z1.prop
  clear HB F00 F01 F02 F03 F04 F05
  obtain ⟨B0, hbb⟩ := HK.out _ kk
  have c00 := B0.cell 0
  have c01 := B0.cell 1
  have c02 := B0.cell 2
  have c03 := B0.cell 3
  have c04 := B0.cell 4
  have c05 := B0.cell 5
  have HB := Lib.hid hbb
  clear B0 hbb
  go_wp2_with fail
  go_ret
  exact ⟨rfl, HB.out⟩
set_option maxHeartbeats 4000000 in
theorem parkingJudges_walk (A : Option Addr) (n c : Nat) (l : List Fc) (A2 : Option Addr) (m c2 : Nat) (ps : List Ph) (p : Pk) (w : World) (h : FcR w A n l) (hn : n ≤ 9223372036854775807) (h2 : PsR w A2 m ps) (hm : m ≤ 9223372036854775807) : Calls Try.prog 6 #[.slice A n c, .slice A2 m c2, aggK p] w (AwakePost w) := by
  obtain ⟨kk, hK⟩ := box1K w 27 #[.int .i64 p.ride, .int .i64 p.rider, .int .i64 p.tm, .int .i64 p.x, .int .i64 p.y, .int .i64 p.r]
  have HK := Lib.hid hK
  clear hK
  obtain ⟨B0, hbb⟩ := HK.out _ kk
  have c00 := B0.cell 0
  have c01 := B0.cell 1
  have c02 := B0.cell 2
  have c03 := B0.cell 3
  have c04 := B0.cell 4
  have c05 := B0.cell 5
  have HB := Lib.hid hbb
  clear B0 hbb
  have HZA : Hid (∀ u, Below w.heap.size w u → FcR u A n l) := Lib.hid fun u hu => h.below hu
  have HZP : Hid (∀ u, Below w.heap.size w u → PsR u A2 m ps) := Lib.hid fun u hu => h2.below hu
  obtain ⟨f, hf⟩ : ∃ f, fewK l ps = f := ⟨_, rfl⟩
  have HF := Lib.hid hf
  obtain ⟨y, hy⟩ : ∃ y, faultZ l ps.length p = y := ⟨_, rfl⟩
  obtain ⟨v, hv⟩ : ∃ v, judgeV l ps p = v := ⟨_, rfl⟩
  have HY := Lib.hid hy; have HV := Lib.hid hv
  have hq := eqVd v.1 v.2.1 v.2.2.1 v.2.2.2
  clear h h2 hf hy hv
  rcases f with _ | _
  · go_enter Try.func6, Try.ntmps6
    go_wp2_with fail
    refine (fewk_any A n c l A2 m c2 ps false _ (HZA.out _ HB.out) hn (HZP.out _ HB.out) hm HF.out).mono ?_
    rintro e w1 ⟨rfl, hb1⟩
    replace kk := below_next kk (Nat.le_refl _) hb1
    clear c00 c01 c02 c03 c04 c05 HB hb1
    obtain ⟨B0, hbb⟩ := HK.out _ kk
    have c00 := B0.cell 0
    have c01 := B0.cell 1
    have c02 := B0.cell 2
    have c03 := B0.cell 3
    have c04 := B0.cell 4
    have c05 := B0.cell 5
    have HB := Lib.hid hbb
    clear B0 hbb
    go_wp2_with fail
    refine (awake_any _).mono ?_
    rintro e w2 ⟨rfl, hb2⟩
    replace kk := below_next kk (Nat.le_refl _) hb2
    clear c00 c01 c02 c03 c04 c05 HB hb2
    obtain ⟨B0, hbb⟩ := HK.out _ kk
    have c00 := B0.cell 0
    have c01 := B0.cell 1
    have c02 := B0.cell 2
    have c03 := B0.cell 3
    have c04 := B0.cell 4
    have c05 := B0.cell 5
    have HB := Lib.hid hbb
    clear B0 hbb
    go_wp2_with fail
    go_ret
    exact ⟨rfl, HB.out⟩
  go_enter Try.func6, Try.ntmps6
  go_wp2_with fail
  refine (fewk_any A n c l A2 m c2 ps true _ (HZA.out _ HB.out) hn (HZP.out _ HB.out) hm HF.out).mono ?_
  rintro e w3 ⟨rfl, hb3⟩
  replace kk := below_next kk (Nat.le_refl _) hb3
  clear c00 c01 c02 c03 c04 c05 HB hb3
  obtain ⟨B0, hbb⟩ := HK.out _ kk
  have c00 := B0.cell 0
  have c01 := B0.cell 1
  have c02 := B0.cell 2
  have c03 := B0.cell 3
  have c04 := B0.cell 4
  have c05 := B0.cell 5
  have HB := Lib.hid hbb
  clear B0 hbb
  go_wp2_with fail
  refine (pjudge_any A n c l A2 m c2 ps p v y _ (HZA.out _ HB.out) hn (HZP.out _ HB.out) hm HY.out HV.out).mono ?_
  rintro e w4 ⟨rfl, hb4⟩
  replace kk := below_next kk (Nat.le_refl _) hb4
  clear c00 c01 c02 c03 c04 c05 HB hb4
  obtain ⟨B0, hbb⟩ := HK.out _ kk
  have c00 := B0.cell 0
  have c01 := B0.cell 1
  have c02 := B0.cell 2
  have c03 := B0.cell 3
  have c04 := B0.cell 4
  have c05 := B0.cell 5
  have HB := Lib.hid hbb
  clear B0 hbb
  have V1 := Lib.hid (Blk.new w4 31 #[.int .i64 v.1, .int .i64 v.2.1, .int .i64 v.2.2.1, .int .i64 v.2.2.2])
  replace kk := kk.alloc kk.size (.cells #[.int .i64 v.1, .int .i64 v.2.1, .int .i64 v.2.2.1, .int .i64 v.2.2.2] 31)
  clear HB c00 c01 c02 c03 c04 c05
  obtain ⟨B0, hbb⟩ := HK.out _ kk
  have c00 := B0.cell 0
  have c01 := B0.cell 1
  have c02 := B0.cell 2
  have c03 := B0.cell 3
  have c04 := B0.cell 4
  have c05 := B0.cell 5
  have HB := Lib.hid hbb
  clear B0 hbb
  go_wp2_with fail
  refine (rjudge_any A n c l A2 m c2 ps p v y _ (HZA.out _ HB.out) hn (HZP.out _ HB.out) hm HY.out HV.out).mono ?_
  rintro e wy ⟨rfl, hby⟩
  replace V1 := Lib.hid ((V1.out.ofBelow hby).alloc (.cells #[.int .i64 v.1, .int .i64 v.2.1, .int .i64 v.2.2.1, .int .i64 v.2.2.2] 31))
  replace kk := below_next kk (Nat.le_refl _) hby
  clear hby
  have V2 := Lib.hid (Blk.new wy 31 #[.int .i64 v.1, .int .i64 v.2.1, .int .i64 v.2.2.1, .int .i64 v.2.2.2])
  replace kk := kk.alloc kk.size (.cells #[.int .i64 v.1, .int .i64 v.2.1, .int .i64 v.2.2.1, .int .i64 v.2.2.2] 31)
  clear HB c00 c01 c02 c03 c04 c05
  obtain ⟨B0, hbb⟩ := HK.out _ kk
  have c00 := B0.cell 0
  have c01 := B0.cell 1
  have c02 := B0.cell 2
  have c03 := B0.cell 3
  have c04 := B0.cell 4
  have c05 := B0.cell 5
  have HB := Lib.hid hbb
  clear B0 hbb
  have v1_0 := (V1.out.cell 0).trans rfl
  have v1_1 := (V1.out.cell 1).trans rfl
  have v1_2 := (V1.out.cell 2).trans rfl
  have v1_3 := (V1.out.cell 3).trans rfl
  have v2_0 := (V2.out.cell 0).trans rfl
  have v2_1 := (V2.out.cell 1).trans rfl
  have v2_2 := (V2.out.cell 2).trans rfl
  have v2_3 := (V2.out.cell 3).trans rfl
  go_wp2_with fail
  refine (awake_any _).mono ?_
  rintro e w5 ⟨rfl, hb5⟩
  replace kk := below_next kk (Nat.le_refl _) hb5
  clear c00 c01 c02 c03 c04 c05 HB hb5
  obtain ⟨B0, hbb⟩ := HK.out _ kk
  have c00 := B0.cell 0
  have c01 := B0.cell 1
  have c02 := B0.cell 2
  have c03 := B0.cell 3
  have c04 := B0.cell 4
  have c05 := B0.cell 5
  have HB := Lib.hid hbb
  clear B0 hbb
  go_wp2_with fail
  go_ret
  exact ⟨rfl, HB.out⟩
set_option maxHeartbeats 4000000 in
theorem parkingAll_walk (A : Option Addr) (n c : Nat) (l : List Fc) (A2 : Option Addr) (m c2 : Nat) (ps : List Ph) (A3 : Option Addr) (k c3 : Nat) (q : List Pk) (w : World) (h : FcR w A n l) (hn : n ≤ 9223372036854775807) (h2 : PsR w A2 m ps) (hm : m ≤ 9223372036854775807) (h3 : parkedR w A3 k q) (hk : k ≤ 9223372036854775807) : Calls Try.prog 7 #[.slice A n c, .slice A2 m c2, .slice A3 k c3] w (AwakePost w) := by
  have HZA : Hid (∀ u, Below w.heap.size w u → FcR u A n l) := Lib.hid fun u hu => h.below hu
  have HZP : Hid (∀ u, Below w.heap.size w u → PsR u A2 m ps) := Lib.hid fun u hu => h2.below hu
  have HZK : Hid (∀ u, Below w.heap.size w u → parkedR u A3 k q) := Lib.hid fun u hu => h3.below hu
  have HLK : Hid (q.length = k) := Lib.hid h3.2
  obtain ⟨f, hf⟩ : ∃ f, fewK l ps = f := ⟨_, rfl⟩
  have HF := Lib.hid hf
  obtain ⟨y, hy⟩ : ∃ y, allE l ps.length q = y := ⟨_, rfl⟩
  obtain ⟨xs, hv⟩ : ∃ v, allV l ps q = v := ⟨_, rfl⟩
  have hxl : xs.length ≤ 256 := by
    rw [← hv]
    unfold allV
    split
    · rename_i g
      rw [List.length_map]
      rcases Nat.lt_or_ge 256 q.length with g2 | g2
      · rw [allE_full g2] at g; exact absurd g (by decide)
      · exact g2
    · simp
  have HXL := Lib.hid hxl
  have HY := Lib.hid hy; have HV := Lib.hid hv
  have kk := Below.refl w.heap.size w
  clear h h2 h3 hf hy hv hxl
  rcases f with _ | _
  · go_enter Try.func7, Try.ntmps7
    go_wp2_with fail
    refine (fewk_any A n c l A2 m c2 ps false _ (HZA.out _ kk) hn (HZP.out _ kk) hm HF.out).mono ?_
    rintro e w6 ⟨rfl, hb6⟩
    replace kk := below_next kk (Nat.le_refl _) hb6
    clear hb6
    go_wp2_with fail
    refine (awake_any _).mono ?_
    rintro e w7 ⟨rfl, hb7⟩
    replace kk := below_next kk (Nat.le_refl _) hb7
    clear hb7
    go_wp2_with fail
    go_ret
    exact ⟨rfl, kk⟩
  by_cases h300 : 300 < k
  · have hb : (300 : Int) < k := by omega
    go_enter Try.func7, Try.ntmps7
    go_wp2_with fail
    refine (fewk_any A n c l A2 m c2 ps true _ (HZA.out _ kk) hn (HZP.out _ kk) hm HF.out).mono ?_
    rintro e w8 ⟨rfl, hb8⟩
    replace kk := below_next kk (Nat.le_refl _) hb8
    clear hb8
    go_wp2_with fail
    refine (awake_any _).mono ?_
    rintro e w9 ⟨rfl, hb9⟩
    replace kk := below_next kk (Nat.le_refl _) hb9
    clear hb9
    go_wp2_with fail
    go_ret
    exact ⟨rfl, kk⟩
  have hb : (k : Int) ≤ 300 := by omega
  go_enter Try.func7, Try.ntmps7
  go_wp2_with fail
  refine (fewk_any A n c l A2 m c2 ps true _ (HZA.out _ kk) hn (HZP.out _ kk) hm HF.out).mono ?_
  rintro e w10 ⟨rfl, hb10⟩
  replace kk := below_next kk (Nat.le_refl _) hb10
  clear hb10
  go_wp2_with fail
  refine (all_any A n c l A2 m c2 ps A3 k c3 q y xs _ (HZA.out _ kk) hn (HZP.out _ kk) hm (HZK.out _ kk) hk HY.out HV.out).mono ?_
  rintro e w8 ⟨B1, n1, d1, rfl, hr1, hl1, hb8⟩
  have R1 := Lib.hid hr1
  have HL1 := Lib.hid hl1
  replace kk := below_next kk (Nat.le_refl _) hb8
  clear hb8 hr1 hl1
  go_wp2_with fail
  refine (rall_any A n c l A2 m c2 ps A3 k c3 q y xs _ (HZA.out _ kk) hn (HZP.out _ kk) hm (HZK.out _ kk) hk HY.out HV.out).mono ?_
  rintro e w9 ⟨B2, n2, d2, rfl, hr2, hl2, hb9⟩
  have R2 := Lib.hid hr2
  replace R1 := Lib.hid ((R1.out.below hb9).more hb9.size)
  replace kk := below_next kk (Nat.le_refl _) hb9
  clear hb9 hr2 hl2
  go_wp2_with fail
  refine (vsame_any B1 B2 n1 d1 n2 d2 xs _ R1.out R2.out (by have := HL1.out; have := HXL.out; omega)).mono ?_
  rintro e w11 ⟨rfl, hb11⟩
  replace kk := below_next kk (Nat.le_refl _) hb11
  clear hb11
  go_wp2_with fail
  refine (awake_any _).mono ?_
  rintro e w12 ⟨rfl, hb12⟩
  replace kk := below_next kk (Nat.le_refl _) hb12
  clear hb12
  go_wp2_with fail
  go_ret
  exact ⟨rfl, kk⟩
end Go.Proofs.Ytdgdjlpbnaoheaa
