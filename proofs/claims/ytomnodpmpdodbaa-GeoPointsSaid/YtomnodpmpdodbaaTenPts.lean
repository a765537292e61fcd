/- The walk of the statement GeoPoints. -/
import Derived.Test.YtomnodpmpdodbaaTuI
import Derived.Test.YtomnodpmpdodbaaTenLaws
import Derived.Test.YtomnodpmpdodbaaMix
import Derived.Lib.MinMax
import Derived.StillTailTactics
import Derived.Deep.CutRange
namespace Go.Proofs.Ytomnodpmpdodbaa
open Go.RowKit Go.Deep
def mnF (f : Nat → Int) : Nat → Int
  | 0 => f 0
  | i + 1 => min (mnF f i) (f i)
def mxF (f : Nat → Int) : Nat → Int
  | 0 => f 0
  | i + 1 => max (mxF f i) (f i)
theorem mnF_le (f : Nat → Int) : ∀ i j, j < i → mnF f i ≤ f j
  | i + 1, j, h => by
    simp only [mnF]
    rcases Nat.lt_or_eq_of_le (Nat.lt_succ_iff.1 h) with h1 | rfl
    · have := mnF_le f i j h1; omega
    · omega
theorem mxF_le (f : Nat → Int) : ∀ i j, j < i → f j ≤ mxF f i
  | i + 1, j, h => by
    simp only [mxF]
    rcases Nat.lt_or_eq_of_le (Nat.lt_succ_iff.1 h) with h1 | rfl
    · have := mxF_le f i j h1; omega
    · omega
theorem mnF_bd (f : Nat → Int) (L U : Int) (n : Nat) (hn : 0 < n) (h : ∀ j, j < n → L ≤ f j ∧ f j ≤ U) : ∀ i, i ≤ n → L ≤ mnF f i ∧ mnF f i ≤ U
  | 0, _ => h 0 hn
  | i + 1, hi => by simp only [mnF]; have := mnF_bd f L U n hn h i (by omega); have := h i (by omega); omega
theorem mxF_bd (f : Nat → Int) (L U : Int) (n : Nat) (hn : 0 < n) (h : ∀ j, j < n → L ≤ f j ∧ f j ≤ U) : ∀ i, i ≤ n → L ≤ mxF f i ∧ mxF f i ≤ U
  | 0, _ => h 0 hn
  | i + 1, hi => by simp only [mxF]; have := mxF_bd f L U n hn h i (by omega); have := h i (by omega); omega
theorem sumZ_bd01 {f : Nat → Int} {U : Int} (h : ∀ k, 0 ≤ f k ∧ f k ≤ U) : ∀ m : Nat, 0 ≤ sumZ f m ∧ sumZ f m ≤ U * m
  | 0 => by simp [sumZ]
  | m + 1 => by
    have h1 := sumZ_bd01 h m
    have h2 := h m
    simp only [sumZ]
    have e : U * ((m + 1 : Nat) : Int) = U * m + U := by rw [Int.natCast_add, Int.mul_add]; simp
    omega
def cntF (p : List Pt) (v : Int) (L1 L2 : Int) (x y : Nat) : Int := if whereZ p (L1 + (x : Int), L2 + (y : Int)) = v then 1 else 0
theorem cntF_bd (p : List Pt) (v L1 L2 : Int) (x y : Nat) : 0 ≤ cntF p v L1 L2 x y ∧ cntF p v L1 L2 x y ≤ 1 := by unfold cntF; split <;> omega
theorem where_three (p : List Pt) (c : Pt) : whereZ p c = 1 ∨ whereZ p c = 0 ∨ whereZ p c = -1 := by
  have key : ∀ (l : List Ed) (o : Int), (o = 1 ∨ o = -1) → whereF l c o = 1 ∨ whereF l c o = 0 ∨ whereF l c o = -1 := fun l => by
    induction l with
    | nil => intro o ho; rcases ho with rfl | rfl <;> simp [whereF]
    | cons e l ih =>
      intro o ho
      have h1 : whereF (e :: l) c o = if hasB e c = true then 0 else whereF l c (if crossB e c = true then -o else o) := rfl
      rw [h1]
      split
      · exact .inr (.inl rfl)
      · refine ih _ ?_
        split
        · rcases ho with rfl | rfl
          · exact .inr rfl
          · exact .inl rfl
        · exact ho
  exact key _ _ (.inr rfl)
theorem keepc {w w' : World} {p : Addr} {v : Value} (hb : Below w.heap.size w w') (h : w.cell? p = some v) : w'.cell? p = some v := (hb.cell (World.block_lt_of_cell? w p h)).trans h
theorem ofB {w w' : World} {g : Nat} {t : TypeId} {cs : Array Value} (h : Blk w g t cs) (hb : Below w.heap.size w w') : Blk w' g t cs := h.below hb h.lt
set_option maxHeartbeats 8000000 in
set_option maxRecDepth 20000 in
theorem geoPoints_walk (A : Option Addr) (n cc : Nat) (p : List Pt) (w : World) (h : Reads w w.heap.size 2 A n (cellsPt p)) (hnc : n ≤ cc) (hc : cc ≤ maxLen) : Calls Try.prog 8 #[.slice A n cc] w (AwakePost w) := by
  have hn' : n ≤ 9223372036854775807 := Nat.le_trans hnc hc
  have HL := Lib.hid (recs_len h encPt_len (by omega))
  clear hnc hc
  have HR : Hid (∀ u, Below w.heap.size w u → Reads u u.heap.size 2 A n (cellsPt p)) := Lib.hid fun u hu => (h.below hu).more hu.size
  clear h
  by_cases h60 : 60 < n
  · go_enter Try.func8, Try.ntmps8
    go_wp2_with fail
    refine (awake_any _).mono ?_
    rintro e w9 ⟨rfl, hb9⟩
    go_wp2_with fail
    go_ret
    exact ⟨rfl, hb9⟩
  have h61 : n ≤ 60 := by omega
  clear h60
  obtain ⟨y, hy⟩ : ∃ y, checkZ p = y := ⟨_, rfl⟩
  obtain ⟨x, hx⟩ : ∃ x, areaZ p = x := ⟨_, rfl⟩
  have HY := Lib.hid hy; have HX := Lib.hid hx
  by_cases hy0 : y = 0
  case neg =>
    have hx0 : x = 0 := by rw [← hx]; unfold areaZ; rw [if_neg (by rw [hy]; exact hy0)]
    subst hx0
    have t0 : (y != 0) = true := by simpa using hy0
    have t1 : (y == y) = true := by simp
    clear hy hx hy0
    go_enter Try.func8, Try.ntmps8
    go_wp2_with fail
    refine (area_any A n cc p 0 y _ (HR.out _ (Below.refl _ _)) hn' HX.out HY.out).mono ?_
    rintro e w1 ⟨rfl, hb1⟩
    have HB1 := Lib.hid hb1
    clear hb1
    go_wp2_with fail
    refine (check_any A n cc p y _ (HR.out _ HB1.out) hn' HY.out).mono ?_
    rintro e w2 ⟨rfl, hb2⟩
    have HB2 := Lib.hid (below_next HB1.out (Nat.le_refl _) hb2)
    clear hb2
    go_wp2_with fail
    refine (awake_any _).mono ?_
    rintro e w9 ⟨rfl, hb9⟩
    go_wp2_with fail
    go_ret
    exact ⟨rfl, below_next HB2.out (Nat.le_refl _) hb9⟩
  subst hy0
  obtain ⟨c1, c2, c3, c4⟩ := check_inv hy
  have HOK := Lib.hid c2; have HSM := Lib.hid c3; have HTW := Lib.hid c4
  have HLN := HL.out
  have hn3 : 3 ≤ n := by omega
  have hn3i : (3 : Int) ≤ n := by omega
  have HXX : Hid (twiceZ p = x) := Lib.hid (by rw [← hx]; unfold areaZ; rw [if_pos hy])
  have hpl : p.length = n := HLN
  have HPL := Lib.hid hpl
  clear hy hx c1 c2 c3 c4 HLN hpl
  go_enter Try.func8, Try.ntmps8
  go_wp2_with fail
  refine (area_any A n cc p x 0 _ (HR.out _ (Below.refl _ _)) hn' HX.out HY.out).mono ?_
  rintro e w1 ⟨rfl, hb1⟩
  have HB1 := Lib.hid hb1
  clear hb1
  go_wp2_with fail
  refine (check_any A n cc p 0 _ (HR.out _ HB1.out) hn' HY.out).mono ?_
  rintro e w2 ⟨rfl, hb2⟩
  have HB2 := Lib.hid (below_next HB1.out (Nat.le_refl _) hb2)
  clear hb2
  have hn0 : 0 < n := by omega
  obtain ⟨b, off, hA, hbb, hc⟩ := pts_cells (HR.out _ (Below.refl _ _)) hn0
  have HC := Lib.hid hc
  have HBB := Lib.hid hbb
  subst hA
  clear hc hbb
  obtain ⟨q0, q1⟩ := HC.out 0 hn0
  replace q0 := keepc HB2.out q0; replace q1 := keepc HB2.out q1
  have h0n : (0 : Int) < n := by omega
  simp only [Nat.zero_mul, Nat.add_zero] at q0 q1
  go_upto_region 8 with fail
  have F0 : ∀ z : DFam (DB w2), z.val.cell? ⟨b, off, none⟩ = some (.int .i64 (pAt p 0).1) := fun z => DB.some_ z q0
  have F1 : ∀ z : DFam (DB w2), z.val.cell? ⟨b, off + 1, none⟩ = some (.int .i64 (pAt p 0).2) := fun z => DB.some_ z q1
  clear q0 q1
  refine wp_region_pb 3 ([0, 1, 2, 3, 4, 5], [(6, ([], [(7, ([], [(8, [])]))])), (7, ([], [(6, ([], [(8, [])]))]))]) [9] (by kernel_rfl) (by kernel_rfl) ?_
  simp only [wpT, List.map_cons, List.map_nil, List.getD_cons_succ, List.getD_cons_zero, List.forall_mem_cons, List.not_mem_nil, false_implies, implies_true, and_true]
  repeat (go_big_quiet_step (fail))
  refine wpQuiet_nil ⟨?_, ?_⟩
  case' refine_1 =>
    clear F0 F1
    go_wp2_with fail
    have HBa : Hid (Below w2.heap.size w2 (w2.drew.alloc (.cells #[.int .i64 0, .int .i64 0] 23))) := Lib.hid ((Below.refl _ _).drew.alloc (Nat.le_refl _) _)
    refine QN_normal ⟨HBa.out, wpQuiet_nil ?_⟩
    go_wp2_with fail
    have HBb : Hid (Below w2.heap.size w2 ((w2.drew.alloc (.cells #[.int .i64 0, .int .i64 0] 23)).alloc (.cells #[.int .i64 0, .int .i64 0] 23))) := Lib.hid (HBa.out.alloc HBa.out.size _)
    refine QN_normal ⟨HBb.out, wpQuiet_nil ?_⟩
    go_wp2_with fail
    refine QN_normal ⟨below_drew_ (((Below.refl _ _).alloc (Nat.le_refl _) (.cells #[.int .i64 (pAt p 0).1, .int .i64 (pAt p 0).2] 23)).alloc (by simp) (.cells #[.int .i64 0, .int .i64 0] 23)), wpQuiet_nil ?_⟩
    go_wp2_with fail
    have hG0 : Blk (((w2.alloc (.cells #[.int .i64 (pAt p 0).1, .int .i64 (pAt p 0).2] 23)).alloc (.cells #[.int .i64 (pAt p 0).1, .int .i64 (pAt p 0).2] 23)).drew) w2.heap.size 23 #[.int .i64 (pAt p 0).1, .int .i64 (pAt p 0).2] := ((Blk.new w2 _ _).alloc _).drew
    have hG1 : Blk (((w2.alloc (.cells #[.int .i64 (pAt p 0).1, .int .i64 (pAt p 0).2] 23)).alloc (.cells #[.int .i64 (pAt p 0).1, .int .i64 (pAt p 0).2] 23)).drew) (w2.heap.size + 1) 23 #[.int .i64 (pAt p 0).1, .int .i64 (pAt p 0).2] := by
      have := (Blk.new (w2.alloc (.cells #[.int .i64 (pAt p 0).1, .int .i64 (pAt p 0).2] 23)) 23 #[.int .i64 (pAt p 0).1, .int .i64 (pAt p 0).2]).drew
      simpa using this
    have HB4 : Hid (Below w2.heap.size w2 (((w2.alloc (.cells #[.int .i64 (pAt p 0).1, .int .i64 (pAt p 0).2] 23)).alloc (.cells #[.int .i64 (pAt p 0).1, .int .i64 (pAt p 0).2] 23)).drew)) := Lib.hid (below_drew_ (((Below.refl _ _).alloc (Nat.le_refl _) (.cells #[.int .i64 (pAt p 0).1, .int .i64 (pAt p 0).2] 23)).alloc (by simp) (.cells #[.int .i64 (pAt p 0).1, .int .i64 (pAt p 0).2] 23)))
    obtain ⟨u4, hu4⟩ : ∃ u, ((w2.alloc (.cells #[.int .i64 (pAt p 0).1, .int .i64 (pAt p 0).2] 23)).alloc (.cells #[.int .i64 (pAt p 0).1, .int .i64 (pAt p 0).2] 23)).drew = u := ⟨_, rfl⟩
    rw [hu4] at hG0 hG1 HB4 ⊢
    have hle0 : w2.heap.size ≤ w2.heap.size := Nat.le_refl _
    have hle1 : w2.heap.size ≤ w2.heap.size + 1 := Nat.le_succ _
    have hne : w2.heap.size ≠ w2.heap.size + 1 := by omega
    obtain ⟨k6, h6⟩ : ∃ k, w2.heap.size + 1 = k := ⟨_, rfl⟩
    rw [h6] at hG1 hle1 hne ⊢
    obtain ⟨k5, h5⟩ : ∃ k, w2.heap.size = k := ⟨_, rfl⟩
    rw [h5] at hG0 hne ⊢
    rw [h5] at hle0 hle1
    have Hk5 := Lib.hid hG0; have Hk6 := Lib.hid hG1
    have HNE : Hid (k5 ≠ k6) := Lib.hid (by first | exact hne | exact hne.symm)
    have HLE : Hid (w2.heap.size ≤ k5 ∧ w2.heap.size ≤ k6) := Lib.hid (by rw [h5]; first | exact ⟨hle0, hle1⟩ | exact ⟨hle1, hle0⟩)
    clear hG0 hG1 hu4 h5 h6 hle0 hle1 hne HBa HBb
  case' refine_2 =>
    clear F0 F1
    go_wp2_with fail
    have HBa : Hid (Below w2.heap.size w2 (w2.drew.alloc (.cells #[.int .i64 0, .int .i64 0] 23))) := Lib.hid ((Below.refl _ _).drew.alloc (Nat.le_refl _) _)
    refine QN_normal ⟨HBa.out, wpQuiet_nil ?_⟩
    go_wp2_with fail
    have HBb : Hid (Below w2.heap.size w2 ((w2.drew.alloc (.cells #[.int .i64 0, .int .i64 0] 23)).alloc (.cells #[.int .i64 0, .int .i64 0] 23))) := Lib.hid (HBa.out.alloc HBa.out.size _)
    refine QN_normal ⟨HBb.out, wpQuiet_nil ?_⟩
    go_wp2_with fail
    refine QN_normal ⟨below_drew_ (((Below.refl _ _).alloc (Nat.le_refl _) (.cells #[.int .i64 0, .int .i64 0] 23)).alloc (by simp) (.cells #[.int .i64 (pAt p 0).1, .int .i64 (pAt p 0).2] 23)), wpQuiet_nil ?_⟩
    go_wp2_with fail
    have hG0 : Blk (((w2.alloc (.cells #[.int .i64 (pAt p 0).1, .int .i64 (pAt p 0).2] 23)).alloc (.cells #[.int .i64 (pAt p 0).1, .int .i64 (pAt p 0).2] 23)).drew) w2.heap.size 23 #[.int .i64 (pAt p 0).1, .int .i64 (pAt p 0).2] := ((Blk.new w2 _ _).alloc _).drew
    have hG1 : Blk (((w2.alloc (.cells #[.int .i64 (pAt p 0).1, .int .i64 (pAt p 0).2] 23)).alloc (.cells #[.int .i64 (pAt p 0).1, .int .i64 (pAt p 0).2] 23)).drew) (w2.heap.size + 1) 23 #[.int .i64 (pAt p 0).1, .int .i64 (pAt p 0).2] := by
      have := (Blk.new (w2.alloc (.cells #[.int .i64 (pAt p 0).1, .int .i64 (pAt p 0).2] 23)) 23 #[.int .i64 (pAt p 0).1, .int .i64 (pAt p 0).2]).drew
      simpa using this
    have HB4 : Hid (Below w2.heap.size w2 (((w2.alloc (.cells #[.int .i64 (pAt p 0).1, .int .i64 (pAt p 0).2] 23)).alloc (.cells #[.int .i64 (pAt p 0).1, .int .i64 (pAt p 0).2] 23)).drew)) := Lib.hid (below_drew_ (((Below.refl _ _).alloc (Nat.le_refl _) (.cells #[.int .i64 (pAt p 0).1, .int .i64 (pAt p 0).2] 23)).alloc (by simp) (.cells #[.int .i64 (pAt p 0).1, .int .i64 (pAt p 0).2] 23)))
    obtain ⟨u4, hu4⟩ : ∃ u, ((w2.alloc (.cells #[.int .i64 (pAt p 0).1, .int .i64 (pAt p 0).2] 23)).alloc (.cells #[.int .i64 (pAt p 0).1, .int .i64 (pAt p 0).2] 23)).drew = u := ⟨_, rfl⟩
    rw [hu4] at hG0 hG1 HB4 ⊢
    have hle0 : w2.heap.size ≤ w2.heap.size := Nat.le_refl _
    have hle1 : w2.heap.size ≤ w2.heap.size + 1 := Nat.le_succ _
    have hne : w2.heap.size ≠ w2.heap.size + 1 := by omega
    obtain ⟨k5, h6⟩ : ∃ k, w2.heap.size + 1 = k := ⟨_, rfl⟩
    rw [h6] at hG1 hle1 hne ⊢
    obtain ⟨k6, h5⟩ : ∃ k, w2.heap.size = k := ⟨_, rfl⟩
    rw [h5] at hG0 hne ⊢
    rw [h5] at hle0 hle1
    have Hk6 := Lib.hid hG0; have Hk5 := Lib.hid hG1
    have HNE : Hid (k5 ≠ k6) := Lib.hid (by first | exact hne | exact hne.symm)
    have HLE : Hid (w2.heap.size ≤ k5 ∧ w2.heap.size ≤ k6) := Lib.hid (by rw [h5]; first | exact ⟨hle0, hle1⟩ | exact ⟨hle1, hle0⟩)
    clear hG0 hG1 hu4 h5 h6 hle0 hle1 hne HBa HBb
  all_goals
    go_loopw [7] (fun s wr => ∃ (i : Nat), i ≤ n ∧ s = .int .i64 i ∧ Hid (Below w2.heap.size w2 wr) ∧ Hid (Blk wr k5 23 #[.int .i64 (mnF (fun j => (pAt p j).1) i), .int .i64 (mnF (fun j => (pAt p j).2) i)]) ∧ Hid (Blk wr k6 23 #[.int .i64 (mxF (fun j => (pAt p j).1) i), .int .i64 (mxF (fun j => (pAt p j).2) i)])) (fun s _ => n - (intOf s).toNat)
    case atStart => exact ⟨0, Nat.zero_le _, rfl, HB4, Hk5, Hk6⟩
    case round =>
      obtain ⟨wo, rfl⟩ : ∃ u : World, u = wr := ⟨_, rfl⟩
      obtain ⟨i, hi, rfl, HBW, H5, H6⟩ := hrel
      have HBZ := Lib.hid (below_next HB2.out (Nat.le_refl _) HBW.out)
      by_cases hlt : i < n
      case pos =>
        have hi0 : (0 : Int) ≤ i := by omega
        have hi1 : (i : Int) < n := by omega
        obtain ⟨q0, q1⟩ := HC.out i hlt
        replace q0 := keepc HBZ.out q0; replace q1 := keepc HBZ.out q1
        have HVI : Hid (okP (pAt p i) = true) := Lib.hid (ok_all HOK.out (by rw [HPL.out]; exact hlt))
        go_wp2_with fail
        refine (rvalid_any (pAt p i) true _ HVI.out).mono ?_
        rintro e wv ⟨rfl, hbv⟩
        have m0 := ((ofB H5.out hbv).cell 0).trans rfl; have m1 := ((ofB H5.out hbv).cell 1).trans rfl
        have m2 := ((ofB H6.out hbv).cell 0).trans rfl; have m3 := ((ofB H6.out hbv).cell 1).trans rfl
        replace q0 := keepc hbv q0; replace q1 := keepc hbv q1
        have H5v := Lib.hid (ofB H5.out hbv); have H6v := Lib.hid (ofB H6.out hbv); have HBv := Lib.hid (below_next HBW.out (Nat.le_refl _) hbv)
        obtain ⟨a1, ha1⟩ : ∃ a, mnF (fun j => (pAt p j).1) i = a := ⟨_, rfl⟩
        obtain ⟨a2, ha2⟩ : ∃ a, mnF (fun j => (pAt p j).2) i = a := ⟨_, rfl⟩
        obtain ⟨a3, ha3⟩ : ∃ a, mxF (fun j => (pAt p j).1) i = a := ⟨_, rfl⟩
        obtain ⟨a4, ha4⟩ : ∃ a, mxF (fun j => (pAt p j).2) i = a := ⟨_, rfl⟩
        obtain ⟨px, hpx⟩ : ∃ a, (pAt p i).1 = a := ⟨_, rfl⟩
        obtain ⟨py, hpy⟩ : ∃ a, (pAt p i).2 = a := ⟨_, rfl⟩
        obtain ⟨r1, hr1⟩ : ∃ m, min a1 px = m := ⟨_, rfl⟩
        obtain ⟨r2, hr2⟩ : ∃ m, min a2 py = m := ⟨_, rfl⟩
        obtain ⟨r3, hr3⟩ : ∃ m, max a3 px = m := ⟨_, rfl⟩
        obtain ⟨r4, hr4⟩ : ∃ m, max a4 py = m := ⟨_, rfl⟩
        have HN1 : Hid (mnF (fun j => (pAt p j).1) (i + 1) = r1) := Lib.hid (by simp only [mnF]; rw [ha1, hpx, hr1])
        have HN2 : Hid (mnF (fun j => (pAt p j).2) (i + 1) = r2) := Lib.hid (by simp only [mnF]; rw [ha2, hpy, hr2])
        have HN3 : Hid (mxF (fun j => (pAt p j).1) (i + 1) = r3) := Lib.hid (by simp only [mxF]; rw [ha3, hpx, hr3])
        have HN4 : Hid (mxF (fun j => (pAt p j).2) (i + 1) = r4) := Lib.hid (by simp only [mxF]; rw [ha4, hpy, hr4])
        rw [ha1] at m0 H5v; rw [ha2] at m1 H5v; rw [ha3] at m2 H6v; rw [ha4] at m3 H6v
        rw [hpx] at q0; rw [hpy] at q1
        have kk1 : ∀ (ts : Array TypeId) (ty : TypeId) (u : World), (Builtin.min_ ts ty #[.int .i64 a1, .int .i64 px]).run Try.prog u = .ok (.int .i64 r1) u := fun ts ty u => by rw [Lib.run_min_ints, hr1]
        have kk2 : ∀ (ts : Array TypeId) (ty : TypeId) (u : World), (Builtin.min_ ts ty #[.int .i64 a2, .int .i64 py]).run Try.prog u = .ok (.int .i64 r2) u := fun ts ty u => by rw [Lib.run_min_ints, hr2]
        have kk3 : ∀ (ts : Array TypeId) (ty : TypeId) (u : World), (Builtin.max_ ts ty #[.int .i64 a3, .int .i64 px]).run Try.prog u = .ok (.int .i64 r3) u := fun ts ty u => by rw [Lib.run_max_ints, hr3]
        have kk4 : ∀ (ts : Array TypeId) (ty : TypeId) (u : World), (Builtin.max_ ts ty #[.int .i64 a4, .int .i64 py]).run Try.prog u = .ok (.int .i64 r4) u := fun ts ty u => by rw [Lib.run_max_ints, hr4]
        go_upto_region 14 with fail
        have hne5 : k5 ≠ k6 := HNE.out
        have hne6 : k6 ≠ k5 := HNE.out.symm
        have hb5 : b ≠ k5 := by have h1 := HBB.out; have h2 := HB2.out.size; have h3 := HLE.out.1; omega
        obtain ⟨wd, hwd⟩ : ∃ u, wv.drew = u := ⟨_, rfl⟩
        have HWD : Hid (wv.drew = wd) := Lib.hid hwd
        obtain ⟨D, hD⟩ : ∃ D : World → Prop, D = fun u => u.cell? ⟨k6, 0, none⟩ = some (.int .i64 a3) ∧ u.cell? ⟨k6, 1, none⟩ = some (.int .i64 a4) ∧ u.cell? ⟨b, off + i * 2, none⟩ = some (.int .i64 px) ∧ u.cell? ⟨b, off + i * 2 + 1, none⟩ = some (.int .i64 py) := ⟨_, rfl⟩
        have HDK : Hid (∀ u, Only (fun x => x = k5) wv u → D u) := Lib.hid fun u ho => by
          rw [hD]
          have kc : ∀ (q : Addr) (v : Value), q.block ≠ k5 → wv.cell? q = some v → u.cell? q = some v := fun q v hq h => (World.cell?_of_block (ho.block q.block (World.block_lt_of_cell? wv q h) hq)).trans h
          exact ⟨kc _ _ hne6 m2, kc _ _ hne6 m3, kc _ _ hb5 q0, kc _ _ hb5 q1⟩
        have hDi : ∀ u, D u → (u.cell? ⟨k6, 0, none⟩ = some (.int .i64 a3) ∧ u.cell? ⟨k6, 1, none⟩ = some (.int .i64 a4) ∧ u.cell? ⟨b, off + i * 2, none⟩ = some (.int .i64 px) ∧ u.cell? ⟨b, off + i * 2 + 1, none⟩ = some (.int .i64 py)) := fun u h => by rw [hD] at h; exact h
        have F2 : ∀ z : DFam D, z.val.cell? ⟨k6, 0, none⟩ = some (.int .i64 a3) := fun z => (hDi _ z.prop).1
        have F3 : ∀ z : DFam D, z.val.cell? ⟨k6, 1, none⟩ = some (.int .i64 a4) := fun z => (hDi _ z.prop).2.1
        have F4 : ∀ z : DFam D, z.val.cell? ⟨b, off + i * 2, none⟩ = some (.int .i64 px) := fun z => (hDi _ z.prop).2.2.1
        have F5 : ∀ z : DFam D, z.val.cell? ⟨b, off + i * 2 + 1, none⟩ = some (.int .i64 py) := fun z => (hDi _ z.prop).2.2.2
        haveI : Nonempty (DFam D) := ⟨⟨wv, HDK.out _ (Only.refl _ _)⟩⟩
        have HDD : Hid (Only (fun x => x = k5) wv wv.drew) := Lib.hid (Only.drewN (Only.refl _ _) 1)
        clear q0 q1 m2 m3 hbv ha1 ha2 ha3 ha4 hr1 hr2 hr3 hr4 hD hDi hwd
        refine wp_region_pt 5 ([0, 2, 3, 4, 5, 6, 8, 10, 11, 12, 13, 14, 17, 18, 19, 20, 21, 22, 23, 24, 25, 26, 27, 28, 29, 30, 31, 32], [(1, ([7], [(9, ([15], [(16, ([], [(33, ([], [(34, [])]))]))]))])), (9, ([15], [(1, ([7], [(16, ([], [(33, ([], [(34, [])]))]))]))]))]) [35] D (by kernel_rfl) (by kernel_rfl) (HDK.out _ HDD.out) ?_
        simp only [wpT, List.map_cons, List.map_nil, List.getD_cons_succ, List.getD_cons_zero, List.forall_mem_cons, List.not_mem_nil, false_implies, implies_true, and_true]
        repeat (go_big_quiet_step (fail))
        refine wpQuiet_nil ⟨?_, ?_⟩
        all_goals
          clear F2 F3 F4 F5 kk3 kk4
          go_wp2_with fail
          refine QN_normal ⟨HDK.out _ HDD.out, ?_⟩
          repeat (go_big_quiet_step (fail))
          refine wpQuiet_nil ?_
          go_wp2_with fail
          refine QN_normal ⟨HDK.out _ HDD.out, ?_⟩
          repeat (go_big_quiet_step (fail))
          refine wpQuiet_nil ?_
          clear m0 m1 kk1 kk2
          go_wp2_with fail
          refine (at_any r1 r2 _).mono ?_
          rintro e wa ⟨rfl, hba⟩
          have HBa : Hid (Below wv.heap.size wv wa) := Lib.hid (below_next (below_drew_ (Below.refl _ _)) (Nat.le_refl _) hba)
          clear hba
          go_wp2_with fail
          refine QN_normal ⟨HDK.out _ (Only.of_new HBa.out _), wpQuiet_nil ?_⟩
          go_wp2_with fail
          refine (at_any r3 r4 _).mono ?_
          rintro e wb ⟨rfl, hbc⟩
          have HBb : Hid (Below wv.heap.size wv wb) := Lib.hid (below_next HBa.out (Nat.le_refl _) hbc)
          clear hbc
          go_wp2_with fail
          refine QN_normal ⟨HDK.out _ (Only.of_new HBb.out _), wpQuiet_nil ?_⟩
          have H5b := Lib.hid (ofB H5v.out HBb.out); have H6b := Lib.hid (ofB H6v.out HBb.out)
          have m0 := (H5b.out.cell 0).trans rfl; have m1 := (H5b.out.cell 1).trans rfl; have m2 := (H6b.out.cell 0).trans rfl; have m3 := (H6b.out.cell 1).trans rfl
          have z0 := H5b.out.frozen 0; have z1 := H5b.out.frozen 1; have z2 := H6b.out.frozen 0; have z3 := H6b.out.frozen 1
          have HB7 : Hid (Below w2.heap.size w2 ((((wb.setCell ⟨k5, 0, none⟩ (.int .i64 r1)).setCell ⟨k5, 1, none⟩ (.int .i64 r2)).setCell ⟨k6, 0, none⟩ (.int .i64 r3)).setCell ⟨k6, 1, none⟩ (.int .i64 r4))) := Lib.hid (((((below_next HBv.out (Nat.le_refl _) HBb.out).setCell (p := ⟨k5, 0, none⟩) HLE.out.1 _).setCell (p := ⟨k5, 1, none⟩) HLE.out.1 _).setCell (p := ⟨k6, 0, none⟩) HLE.out.2 _).setCell (p := ⟨k6, 1, none⟩) HLE.out.2 _)
          have H57 : Hid (Blk ((((wb.setCell ⟨k5, 0, none⟩ (.int .i64 r1)).setCell ⟨k5, 1, none⟩ (.int .i64 r2)).setCell ⟨k6, 0, none⟩ (.int .i64 r3)).setCell ⟨k6, 1, none⟩ (.int .i64 r4)) k5 23 #[.int .i64 r1, .int .i64 r2]) := Lib.hid (by
            have := ((((H5b.out.set_ 0 (.int .i64 r1)).set_ 1 (.int .i64 r2)).far (p := ⟨k6, 0, none⟩) HNE.out (.int .i64 r3)).far (p := ⟨k6, 1, none⟩) HNE.out (.int .i64 r4))
            simpa using this)
          have H67 : Hid (Blk ((((wb.setCell ⟨k5, 0, none⟩ (.int .i64 r1)).setCell ⟨k5, 1, none⟩ (.int .i64 r2)).setCell ⟨k6, 0, none⟩ (.int .i64 r3)).setCell ⟨k6, 1, none⟩ (.int .i64 r4)) k6 23 #[.int .i64 r3, .int .i64 r4]) := Lib.hid (by
            have := ((((H6b.out.far (p := ⟨k5, 0, none⟩) HNE.out.symm (.int .i64 r1)).far (p := ⟨k5, 1, none⟩) HNE.out.symm (.int .i64 r2)).set_ 0 (.int .i64 r3)).set_ 1 (.int .i64 r4))
            simpa using this)
          go_wp2_with fail
          refine QN_normal ⟨HDK.out _ (((Only.of_new HBb.out (fun x => x = k5)).setCell (p := ⟨k5, 0, none⟩) (fun _ => rfl) _).setCell (p := ⟨k5, 1, none⟩) (fun _ => rfl) _), wpQuiet_nil ?_⟩
          go_wp2_with fail
          go_roundw
          case' rel => exact ⟨i + 1, by omega, by go_num, HB7, by rw [HN1.out, HN2.out]; exact H57, by rw [HN3.out, HN4.out]; exact H67⟩
          case' measure => (simp [intOf]; omega)
      have hin : i = n := by omega
      have hi2 : (n : Int) ≤ i := by omega
      rw [hin] at H5 H6
      clear hin
      have hok : ∀ j, j < n → (-16384 ≤ (pAt p j).1 ∧ (pAt p j).1 ≤ 16384) ∧ (-16384 ≤ (pAt p j).2 ∧ (pAt p j).2 ≤ 16384) := fun j hj => by
        have := okP_t (ok_all HOK.out (i := j) (by rw [HPL.out]; exact hj))
        omega
      have b1 := mnF_bd (fun j => (pAt p j).1) (-16384) 16384 n hn0 (fun j hj => (hok j hj).1) n (Nat.le_refl _)
      have b2 := mnF_bd (fun j => (pAt p j).2) (-16384) 16384 n hn0 (fun j hj => (hok j hj).2) n (Nat.le_refl _)
      have b3 := mxF_bd (fun j => (pAt p j).1) (-16384) 16384 n hn0 (fun j hj => (hok j hj).1) n (Nat.le_refl _)
      have b4 := mxF_bd (fun j => (pAt p j).2) (-16384) 16384 n hn0 (fun j hj => (hok j hj).2) n (Nat.le_refl _)
      have HI1 := Lib.hid (mnF_le (fun j => (pAt p j).1) n); have HI2 := Lib.hid (mnF_le (fun j => (pAt p j).2) n)
      have HI3 := Lib.hid (mxF_le (fun j => (pAt p j).1) n); have HI4 := Lib.hid (mxF_le (fun j => (pAt p j).2) n)
      obtain ⟨L1, hL1⟩ : ∃ a, mnF (fun j => (pAt p j).1) n = a := ⟨_, rfl⟩
      obtain ⟨L2, hL2⟩ : ∃ a, mnF (fun j => (pAt p j).2) n = a := ⟨_, rfl⟩
      obtain ⟨U1, hU1⟩ : ∃ a, mxF (fun j => (pAt p j).1) n = a := ⟨_, rfl⟩
      obtain ⟨U2, hU2⟩ : ∃ a, mxF (fun j => (pAt p j).2) n = a := ⟨_, rfl⟩
      rw [hL1] at H5 b1 HI1; rw [hL2] at H5 b2 HI2; rw [hU1] at H6 b3 HI3; rw [hU2] at H6 b4 HI4
      have m0 := (H5.out.cell 0).trans rfl; have m1 := (H5.out.cell 1).trans rfl; have m2 := (H6.out.cell 0).trans rfl; have m3 := (H6.out.cell 1).trans rfl
      have HWO := Lib.hid HBZ.out
      have hLU1 : L1 ≤ U1 := by have h1 := HI1.out 0 hn0; have h2 := HI3.out 0 hn0; omega
      have hLU2 : L2 ≤ U2 := by have h1 := HI2.out 0 hn0; have h2 := HI4.out 0 hn0; omega
      clear hok hL1 hL2 hU1 hU2
      by_cases h24 : 24 < U1 - L1 ∨ 24 < U2 - L2
      · have hcs : 24 < U1 - L1 ∨ (U1 - L1 ≤ 24 ∧ 24 < U2 - L2) := by omega
        clear h24
        rcases hcs with g0 | ⟨g0, g1⟩
        all_goals
          go_wp2_with fail
          refine (awake_any _).mono ?_
          rintro e w9 ⟨rfl, hb9⟩
          go_wp2_with fail
          go_ret
          exact ⟨rfl, below_next HWO.out (Nat.le_refl _) hb9⟩
      have g0 : U1 - L1 ≤ 24 := by omega
      have g1 : U2 - L2 ≤ 24 := by omega
      clear h24
      obtain ⟨Wn, hWn⟩ : ∃ W : Nat, (W : Int) = U1 - L1 := ⟨(U1 - L1).toNat, by omega⟩
      obtain ⟨Hn, hHn⟩ : ∃ H : Nat, (H : Int) = U2 - L2 := ⟨(U2 - L2).toNat, by omega⟩
      have hW24 : Wn ≤ 24 := by omega
      have hH24 : Hn ≤ 24 := by omega
      have HW := Lib.hid hWn; have HH := Lib.hid hHn
      obtain ⟨SI, hSI⟩ : ∃ F : Nat → Int, F = fun x => sumZ (fun y => cntF p 1 L1 L2 x y) (Hn + 1) := ⟨_, rfl⟩
      obtain ⟨SB, hSB⟩ : ∃ F : Nat → Int, F = fun x => sumZ (fun y => cntF p 0 L1 L2 x y) (Hn + 1) := ⟨_, rfl⟩
      have HSI := Lib.hid hSI; have HSB := Lib.hid hSB
      have HBI : Hid (∀ k, 0 ≤ SI k ∧ SI k ≤ 25) := Lib.hid fun k => by
        have h9 := sumZ_bd01 (U := 1) (fun y => cntF_bd p 1 L1 L2 k y) (Hn + 1)
        rw [hSI]; exact ⟨h9.1, Int.le_trans h9.2 (by omega)⟩
      have HBB2 : Hid (∀ k, 0 ≤ SB k ∧ SB k ≤ 25) := Lib.hid fun k => by
        have h9 := sumZ_bd01 (U := 1) (fun y => cntF_bd p 0 L1 L2 k y) (Hn + 1)
        rw [hSB]; exact ⟨h9.1, Int.le_trans h9.2 (by omega)⟩
      have HFIN : Hid (2 * sumZ SI (Wn + 1) + sumZ SB (Wn + 1) - 2 = x) := Lib.hid (by
        obtain ⟨s, hs, h1, h2, h3⟩ := pick (p := p) (X0 := L1) (Y0 := L2) (W := Wn) (H := Hn) (by rw [HPL.out]; exact hn3) HSM.out fun j => by
          have hj : j % p.length < n := by rw [← HPL.out]; exact Nat.mod_lt _ (by rw [HPL.out]; exact hn0)
          have e1 := HI1.out _ hj; have e2 := HI2.out _ hj; have e3 := HI3.out _ hj; have e4 := HI4.out _ hj
          unfold PP
          omega
        have e1 : boxS L1 L2 Wn Hn (fun z => if whereZ p z = 1 then 1 else 0) = sumZ SI (Wn + 1) := by rw [hSI]; rfl
        have e2 : boxS L1 L2 Wn Hn (fun z => if whereZ p z = 0 then 1 else 0) = sumZ SB (Wn + 1) := by rw [hSB]; rfl
        rw [e1, e2] at h1
        rw [e2] at h2
        rw [e1] at h3
        have h4 := HTW.out
        have h5 := HXX.out
        rcases hs with rfl | rfl <;> omega)
      clear hSI hSB hWn hHn
      go_wp2_with fail
      clear m0 m1 m2 m3
      go_loopw [8, 9, 10] (fun s1 s2 s3 wr => ∃ (c : Nat) (vI vB : Int), c ≤ Wn + 1 ∧ s1 = .int .i64 vI ∧ s2 = .int .i64 vB ∧ s3 = .int .i64 (L1 + c) ∧ Hid (sumZ SI c = vI) ∧ Hid (sumZ SB c = vB) ∧ Hid (Below wo.heap.size wo wr)) (fun _ _ s _ => (U1 + 1 - intOf s).toNat)
      case atStart => exact ⟨0, 0, 0, Nat.zero_le _, rfl, rfl, by simp, Lib.hid rfl, Lib.hid rfl, Lib.hid (Below.refl _ _)⟩
      case round =>
        obtain ⟨wp, rfl⟩ : ∃ u : World, u = wr := ⟨_, rfl⟩
        obtain ⟨c, vI, vB, hc, rfl, rfl, rfl, HvI, HvB, HBP⟩ := hrel
        have m0 := ((ofB H5.out HBP.out).cell 0).trans rfl; have m1 := ((ofB H5.out HBP.out).cell 1).trans rfl
        have m2 := ((ofB H6.out HBP.out).cell 0).trans rfl; have m3 := ((ofB H6.out HBP.out).cell 1).trans rfl
        have hbI := sumZ_bd01 HBI.out c; have hbB := sumZ_bd01 HBB2.out c
        rw [HvI.out] at hbI; rw [HvB.out] at hbB
        have hWW := HW.out
        by_cases hcl : c ≤ Wn
        case neg =>
          have hcw : c = Wn + 1 := by omega
          have hgt : U1 < L1 + c := by omega
          have HXE : Hid (2 * vI + vB - 2 = x) := Lib.hid (by rw [← HFIN.out, ← HvI.out, ← HvB.out, hcw])
          have zz : (x == 2 * vI + vB - 2) = true := by rw [HXE.out]; simp
          have HWP := Lib.hid (below_next HWO.out (Nat.le_refl _) HBP.out)
          clear hcw hWW
          go_wp2_with fail
          refine (awake_any _).mono ?_
          rintro e w9 ⟨rfl, hb9⟩
          go_wp2_with fail
          go_ret
          exact ⟨rfl, below_next HWP.out (Nat.le_refl _) hb9⟩
        have hle : L1 + c ≤ U1 := by omega
        clear hWW
        go_wp2_with fail
        clear m0 m1 m2 m3
        go_loopw [8, 9, 11] (fun s1 s2 s3 wr => ∃ (d : Nat) (tI tB : Int), d ≤ Hn + 1 ∧ s1 = .int .i64 tI ∧ s2 = .int .i64 tB ∧ s3 = .int .i64 (L2 + d) ∧ Hid (vI + sumZ (fun y => cntF p 1 L1 L2 c y) d = tI) ∧ Hid (vB + sumZ (fun y => cntF p 0 L1 L2 c y) d = tB) ∧ Hid (Below wo.heap.size wo wr)) (fun _ _ s _ => (U2 + 1 - intOf s).toNat)
        case atStart => exact ⟨0, vI, vB, Nat.zero_le _, rfl, rfl, by simp, Lib.hid (by simp [sumZ]), Lib.hid (by simp [sumZ]), HBP⟩
        case round =>
          obtain ⟨wq, rfl⟩ : ∃ u : World, u = wr := ⟨_, rfl⟩
          obtain ⟨d, tI, tB, hd, rfl, rfl, rfl, HtI, HtB, HBQ⟩ := hrel
          have m0 := ((ofB H5.out HBQ.out).cell 0).trans rfl; have m1 := ((ofB H5.out HBQ.out).cell 1).trans rfl
          have m2 := ((ofB H6.out HBQ.out).cell 0).trans rfl; have m3 := ((ofB H6.out HBQ.out).cell 1).trans rfl
          have htI : 0 ≤ sumZ (fun y => cntF p 1 L1 L2 c y) d ∧ sumZ (fun y => cntF p 1 L1 L2 c y) d ≤ 1 * d := sumZ_bd01 (U := 1) (fun y => cntF_bd p 1 L1 L2 c y) d
          have htB : 0 ≤ sumZ (fun y => cntF p 0 L1 L2 c y) d ∧ sumZ (fun y => cntF p 0 L1 L2 c y) d ≤ 1 * d := sumZ_bd01 (U := 1) (fun y => cntF_bd p 0 L1 L2 c y) d
          have gI := HtI.out; have gB := HtB.out
          have hHH := HH.out
          by_cases hdl : d ≤ Hn
          case neg =>
            have hdw : d = Hn + 1 := by omega
            have hgt : U2 < L2 + d := by omega
            have HSI1 : Hid (sumZ SI (c + 1) = tI) := Lib.hid (by rw [← HtI.out, hdw]; simp only [sumZ]; rw [HvI.out, HSI.out]; rfl)
            have HSB1 : Hid (sumZ SB (c + 1) = tB) := Lib.hid (by rw [← HtB.out, hdw]; simp only [sumZ]; rw [HvB.out, HSB.out]; rfl)
            have eL : L1 + (c : Int) + 1 = L1 + ((c + 1 : Nat) : Int) := by omega
            clear hdw hHH
            go_wp2_with fail
            go_roundw
            case rel => exact ⟨c + 1, tI, tB, by omega, rfl, rfl, by go_num, HSI1, HSB1, HBQ⟩
            case measure => simp [intOf]; omega
          have hle2 : L2 + d ≤ U2 := by omega
          have hokq : okP (L1 + (c : Int), L2 + (d : Int)) = true := decide_eq_true (by simp only; omega)
          have HIE : Hid (insE p (L1 + (c : Int), L2 + (d : Int)) = 0) := Lib.hid (by unfold insE; rw [HY.out, if_pos rfl, if_pos hokq])
          obtain ⟨v, hv⟩ : ∃ v, whereZ p (L1 + (c : Int), L2 + (d : Int)) = v := ⟨_, rfl⟩
          have HIZ : Hid (insZ p (L1 + (c : Int), L2 + (d : Int)) = v) := Lib.hid (by unfold insZ; rw [HIE.out, if_pos rfl, hv])
          have hN1 : vI + sumZ (fun y => cntF p 1 L1 L2 c y) (d + 1) = tI + (if v = 1 then 1 else 0) := by simp only [sumZ]; rw [show cntF p 1 L1 L2 c d = if v = 1 then 1 else 0 by unfold cntF; rw [hv]]; omega
          have hN0 : vB + sumZ (fun y => cntF p 0 L1 L2 c y) (d + 1) = tB + (if v = 0 then 1 else 0) := by simp only [sumZ]; rw [show cntF p 0 L1 L2 c d = if v = 0 then 1 else 0 by unfold cntF; rw [hv]]; omega
          have HN1' := Lib.hid hN1; have HN0' := Lib.hid hN0
          have hthree : v = 1 ∨ v = 0 ∨ v = -1 := by rw [← hv]; exact where_three p _
          have HQR := Lib.hid (HR.out _ (below_next HWO.out (Nat.le_refl _) HBQ.out))
          clear hHH hokq hv hN1 hN0
          go_wp2_with fail
          refine (at_any (L1 + c) (L2 + d) _).mono ?_
          rintro e wr2 ⟨rfl, hbr⟩
          have HBR := Lib.hid (below_next HBQ.out (Nat.le_refl _) hbr)
          clear hbr m0 m1 m2 m3
          go_wp2_with fail
          refine (inside_any _ n cc p (L1 + (c : Int), L2 + (d : Int)) v 0 _ (HR.out _ (below_next HWO.out (Nat.le_refl _) HBR.out)) hn' HIZ.out HIE.out).mono ?_
          rintro e ws ⟨rfl, hbs⟩
          have HBS := Lib.hid (below_next HBR.out (Nat.le_refl _) hbs)
          clear hbs
          have w1 : IntKind.i64.wrap (tI + 1) = tI + 1 := IntWalk.i64_in _ (by omega)
          have w2' : IntKind.i64.wrap (tB + 1) = tB + 1 := IntWalk.i64_in _ (by omega)
          rcases hthree with rfl | rfl | rfl
          · go_wp2_with fail
            go_roundw
            case rel => exact ⟨d + 1, tI + 1, tB, by omega, rfl, rfl, by go_num, Lib.hid (by rw [HN1'.out]; simp), Lib.hid (by rw [HN0'.out]; simp), HBS⟩
            case measure => simp [intOf]; omega
          · go_wp2_with fail
            go_roundw
            case rel => exact ⟨d + 1, tI, tB + 1, by omega, rfl, rfl, by go_num, Lib.hid (by rw [HN1'.out]; simp), Lib.hid (by rw [HN0'.out]; simp), HBS⟩
            case measure => simp [intOf]; omega
          · go_wp2_with fail
            go_roundw
            case rel => exact ⟨d + 1, tI, tB, by omega, rfl, rfl, by go_num, Lib.hid (by rw [HN1'.out]; simp), Lib.hid (by rw [HN0'.out]; simp), HBS⟩
            case measure => simp [intOf]; omega
end Go.Proofs.Ytomnodpmpdodbaa
