/- The walks of the reference's edge, apart, double. -/
import Derived.Test.YtomnodpmpdodbaaGeoS
import Derived.Test.YtomnodpmpdodbaaGeoE
namespace Go.Proofs.Ytomnodpmpdodbaa
open Go.RowKit
/-- Two points come back. -/
def RetPP (w : World) (e : Ed) (en : Ending) (w' : World) : Prop := en = .returned (.tuple #[aggP e.1, aggP e.2]) ∧ Below w.heap.size w w'
theorem set2_below {w0 w : World} {B g : Nat} (u0 u1 : Value) (h : Below B w0 w) (hg : B ≤ g) : Below B w0 ((w.setCell ⟨g, 0, none⟩ u0).setCell ⟨g, 1, none⟩ u1) :=
  (h.setCell (p := ⟨g, 0, none⟩) hg _).setCell (p := ⟨g, 1, none⟩) hg _
theorem set2_blk {w : World} {g t : Nat} {x y : Value} (h : Blk w g t #[x, y]) (u v : Value) : Blk ((w.setCell ⟨g, 0, none⟩ u).setCell ⟨g, 1, none⟩ v) g t #[u, v] := (h.set_ 0 u).set_ 1 v
theorem set2_far {w : World} {g g' t : Nat} {cs : Array Value} (h : Blk w g t cs) (hne : g ≠ g') (u v : Value) : Blk ((w.setCell ⟨g', 0, none⟩ u).setCell ⟨g', 1, none⟩ v) g t cs := (h.far (p := ⟨g', 0, none⟩) hne u).far (p := ⟨g', 1, none⟩) hne v
set_option maxHeartbeats 2000000 in
set_option maxRecDepth 10000 in
theorem redge_any (A : Option Addr) (n c i : Nat) (p : List Pt) (w : World) (h : Reads w w.heap.size 2 A n (cellsPt p)) (hn : n ≤ 100000) (hi : i < n) : Calls Try.prog 35 #[.slice A n c, .int .i64 i] w (RetPP w (edgeZ p i)) := by
  have HL := recs_len h encPt_len (by omega)
  obtain ⟨b, off, rfl, hb, hc⟩ := pts_cells h (by omega)
  obtain ⟨d0, d1⟩ := hc i hi
  have hjn : (i + 1) % n < n := Nat.mod_lt _ (by omega)
  obtain ⟨j, hj⟩ : ∃ j, (i + 1) % n = j := ⟨_, rfl⟩
  rw [hj] at hjn
  obtain ⟨e0, e1⟩ := hc j hjn
  have HE : Hid (edgeZ p i = (pAt p i, pAt p j)) := Lib.hid (by unfold edgeZ; rw [HL, hj])
  have hw1 : IntKind.i64.wrap ((i : Int) + 1) = (i : Int) + 1 := wr_ (by omega)
  have hm : ((i : Int) + 1).tmod (n : Int) = (j : Int) := by rw [← hj]; rfl
  have hm2 : ((i : Int) + 1) % (n : Int) = (j : Int) := by rw [← hj]; rfl
  have hj0 : (0 : Int) ≤ j := by omega
  have hj1 : (j : Int) < n := by omega
  have hi0 : (0 : Int) ≤ i := by omega
  have hi1 : (i : Int) < n := by omega
  have hnn : n ≠ 0 := by omega
  obtain ⟨B0, B1, hbb⟩ := box2 w 23 23 #[.int .i64 0, .int .i64 0] #[.int .i64 0, .int .i64 0]
  have KS : ∀ {u : World}, Below w.heap.size w u → u.cell? ⟨b, off + i * 2, none⟩ = some (.int .i64 (pAt p i).1) ∧ u.cell? ⟨b, off + i * 2 + 1, none⟩ = some (.int .i64 (pAt p i).2) ∧ u.cell? ⟨b, off + j * 2, none⟩ = some (.int .i64 (pAt p j).1) ∧ u.cell? ⟨b, off + j * 2 + 1, none⟩ = some (.int .i64 (pAt p j).2) := fun h => ⟨(h.cell hb).trans d0, (h.cell hb).trans d1, (h.cell hb).trans e0, (h.cell hb).trans e1⟩
  clear h hc HL hj d0 d1 e0 e1
  go_enter Try.func35, Try.ntmps35
  go_wp2_with fail
  have hlt0 := B0.lt; have hlt1 := B1.lt
  generalize ((w.alloc (.cells #[.int .i64 0, .int .i64 0] 23)).alloc (.cells #[.int .i64 0, .int .i64 0] 23)) = v at *
  have z0 := (B0.cell 0).trans rfl; have z1 := (B0.cell 1).trans rfl; have z2 := (B1.cell 0).trans rfl; have z3 := (B1.cell 1).trans rfl
  have f0 := B0.frozen 0; have f1 := B0.frozen 1; have f2 := B1.frozen 0; have f3 := B1.frozen 1
  have HB0 := Lib.hid B0; have HB1 := Lib.hid B1
  clear B0 B1
  go_region_held3 (fun u => u.cell? ⟨b, off + i * 2, none⟩ = some (.int .i64 (pAt p i).1) ∧ u.cell? ⟨b, off + i * 2 + 1, none⟩ = some (.int .i64 (pAt p i).2) ∧ u.cell? ⟨b, off + j * 2, none⟩ = some (.int .i64 (pAt p j).1) ∧ u.cell? ⟨b, off + j * 2 + 1, none⟩ = some (.int .i64 (pAt p j).2))
    (first | exact KS (below_drew_ hbb) | exact KS (set2_below _ _ (below_drew_ hbb) (by omega)) | exact KS (below_drew_ (set2_below _ _ hbb (by omega))) | exact KS (set2_below _ _ (set2_below _ _ (below_drew_ hbb) (by omega)) (by omega)) | exact KS (below_drew_ (set2_below _ _ (set2_below _ _ hbb (by omega)) (by omega))))
    (fail)
  have x0 := set2_far (set2_blk HB0.out (.int .i64 (pAt p i).1) (.int .i64 (pAt p i).2)) (g' := w.heap.size + 1) (by omega) (.int .i64 (pAt p j).1) (.int .i64 (pAt p j).2)
  have x1 := set2_blk (set2_far HB1.out (g' := w.heap.size) (by omega) (.int .i64 (pAt p i).1) (.int .i64 (pAt p i).2)) (.int .i64 (pAt p j).1) (.int .i64 (pAt p j).2)
  have r0 := (x0.cell 0).trans rfl; have r1 := (x0.cell 1).trans rfl; have r2 := (x1.cell 0).trans rfl; have r3 := (x1.cell 1).trans rfl
  have R0 := Lib.hid r0; have R1 := Lib.hid r1; have R2 := Lib.hid r2; have R3 := Lib.hid r3
  clear x0 x1 r0 r1 r2 r3
  go_wp2_with fail
  exact bodyPost_ret (v := .tuple #[aggP (pAt p i), aggP (pAt p j)]) (by simp [results, Try.results35, go_sem, R0.out, R1.out, R2.out, R3.out]) rfl ⟨by rw [HE.out], below_drew_ (set2_below _ _ (set2_below _ _ hbb (by omega)) (by omega))⟩
def apartB (p : List Pt) (i k : Nat) : Bool :=
  if k = i + 1 then !onB (edgeZ p i).2 (edgeZ p i).1 (edgeZ p k).2 && !onB (edgeZ p i).2 (edgeZ p k).2 (edgeZ p i).1
  else if i = 0 ∧ k + 1 = p.length then !onB (edgeZ p i).1 (edgeZ p i).2 (edgeZ p k).1 && !onB (edgeZ p i).1 (edgeZ p k).1 (edgeZ p i).2
  else !meetB (edgeZ p i).1 (edgeZ p i).2 (edgeZ p k).1 (edgeZ p k).2
theorem edge_ok {p : List Pt} (h : p.all okP = true) {i : Nat} (hi : i < p.length) : okP (edgeZ p i).1 = true ∧ okP (edgeZ p i).2 = true :=
  ⟨ok_all h hi, ok_all h (Nat.mod_lt _ (by omega))⟩
set_option maxHeartbeats 4000000 in
set_option maxRecDepth 10000 in
theorem rapart_any (A : Option Addr) (n c i k : Nat) (p : List Pt) (x : Bool) (w : World) (h : Reads w w.heap.size 2 A n (cellsPt p)) (hn : n ≤ 1000) (hi : i < k) (hk : k < n) (hok : p.all okP = true) (hx : apartB p i k = x) : Calls Try.prog 36 #[.slice A n c, .int .i64 i, .int .i64 k] w (RetB w x) := by
  have HR := Lib.hid h
  have hl := recs_len h encPt_len (by omega)
  obtain ⟨o1, o2⟩ := edge_ok hok (i := i) (by omega)
  obtain ⟨o3, o4⟩ := edge_ok hok (i := k) (by omega)
  obtain ⟨e, he⟩ : ∃ e, edgeZ p i = e := ⟨_, rfl⟩
  obtain ⟨f, hf⟩ : ∃ f, edgeZ p k = f := ⟨_, rfl⟩
  unfold apartB at hx
  rw [he, hf, hl] at hx
  rw [he] at o1 o2; rw [hf] at o3 o4
  have HX := Lib.hid hx; have HA := Lib.hid o1; have HA2 := Lib.hid o2; have HA3 := Lib.hid o3; have HA4 := Lib.hid o4
  have HC1 : Hid (Calls Try.prog 35 #[.slice A n c, .int .i64 i] w (RetPP w e)) := Lib.hid (by rw [← he]; exact redge_any A n c i p w HR.out (by omega) (by omega))
  have HC2 : Hid (∀ u, Below w.heap.size w u → Calls Try.prog 35 #[.slice A n c, .int .i64 k] u (RetPP u f)) := Lib.hid (by rw [← hf]; exact fun u hu => redge_any A n c k p u ((HR.out.below hu).more hu.size) (by omega) (by omega))
  clear h hx hok o1 o2 o3 o4 hl he hf HR
  have hcs : (k = i + 1) ∨ ((((k : Int) == (i : Int) + 1) = false ∧ (k == i + 1) = false ∧ k ≠ i + 1) ∧ ((i = 0 ∧ k + 1 = n) ∨ ((i = 0 ∧ ((k : Int) == (n : Int) - 1) = false ∧ ¬ k + 1 = n)) ∨ ((i == 0) = false ∧ ((i : Int) == 0) = false ∧ i ≠ 0))) := by
    by_cases c1 : k = i + 1
    · exact .inl c1
    · refine .inr ⟨⟨by simp; omega, by simp; omega, c1⟩, ?_⟩
      by_cases c2 : i = 0
      · by_cases c3 : k + 1 = n
        · exact .inl ⟨c2, c3⟩
        · exact .inr (.inl ⟨c2, by simp; omega, c3⟩)
      · exact .inr (.inr ⟨by simp; omega, by simp; omega, c2⟩)
  have hwi : IntKind.i64.wrap ((i : Int) + 1) = (i : Int) + 1 := wr_ (by omega)
  have hwn : IntKind.i64.wrap ((n : Int) - 1) = (n : Int) - 1 := wr_ (by omega)
  have HCS := Lib.hid hcs
  clear hcs
  go_enter Try.func36, Try.ntmps36
  go_wp2_with fail
  refine HC1.out.mono ?_
  rintro en w1 ⟨rfl, hb1⟩
  have HB1 := Lib.hid hb1
  clear hb1
  go_wp2_with fail
  obtain ⟨b0, b1, hbb1⟩ := box2 w1 23 23 #[.int .i64 e.1.1, .int .i64 e.1.2] #[.int .i64 e.2.1, .int .i64 e.2.2]
  have HV1 := Lib.hid (below_next HB1.out (Nat.le_refl _) hbb1)
  have E0 := Lib.hid b0; have E1 := Lib.hid b1
  clear b0 b1 hbb1
  refine (HC2.out _ HV1.out).mono ?_
  rintro en w2 ⟨rfl, hb2⟩
  have G0 := Lib.hid (E0.out.below hb2 E0.out.lt); have G1 := Lib.hid (E1.out.below hb2 E1.out.lt)
  have HV2 := Lib.hid (below_next HV1.out (Nat.le_refl _) hb2)
  clear hb2 E0 E1
  obtain ⟨b2, b3, hbb2⟩ := box2 w2 23 23 #[.int .i64 f.1.1, .int .i64 f.1.2] #[.int .i64 f.2.1, .int .i64 f.2.2]
  have hV3 := below_next HV2.out (Nat.le_refl _) hbb2
  have HK : Hid (∀ u : World, Below ((w2.alloc (.cells #[.int .i64 f.1.1, .int .i64 f.1.2] 23)).alloc (.cells #[.int .i64 f.2.1, .int .i64 f.2.2] 23)).heap.size ((w2.alloc (.cells #[.int .i64 f.1.1, .int .i64 f.1.2] 23)).alloc (.cells #[.int .i64 f.2.1, .int .i64 f.2.2] 23)) u → Blk u w1.heap.size 23 #[.int .i64 e.1.1, .int .i64 e.1.2] ∧ Blk u (w1.heap.size + 1) 23 #[.int .i64 e.2.1, .int .i64 e.2.2] ∧ Blk u w2.heap.size 23 #[.int .i64 f.1.1, .int .i64 f.1.2] ∧ Blk u (w2.heap.size + 1) 23 #[.int .i64 f.2.1, .int .i64 f.2.2] ∧ Below w.heap.size w u) := Lib.hid fun u hu =>
    ⟨((G0.out.alloc _).alloc _).below hu (((G0.out.alloc _).alloc _).lt), ((G1.out.alloc _).alloc _).below hu (((G1.out.alloc _).alloc _).lt), b2.below hu b2.lt, b3.below hu b3.lt, below_next hV3 (Nat.le_refl _) hu⟩
  have kk := Below.refl ((w2.alloc (.cells #[.int .i64 f.1.1, .int .i64 f.1.2] 23)).alloc (.cells #[.int .i64 f.2.1, .int .i64 f.2.2] 23)).heap.size ((w2.alloc (.cells #[.int .i64 f.1.1, .int .i64 f.1.2] 23)).alloc (.cells #[.int .i64 f.2.1, .int .i64 f.2.2] 23))
  clear b2 b3 hbb2 hV3
  obtain ⟨B0, B1, B2, B3, hbb⟩ := HK.out _ kk
  have c00 := B0.cell 0
  have c01 := B0.cell 1
  have c10 := B1.cell 0
  have c11 := B1.cell 1
  have c20 := B2.cell 0
  have c21 := B2.cell 1
  have c30 := B3.cell 0
  have c31 := B3.cell 1
  have HB := Lib.hid hbb
  clear B0 B1 B2 B3 hbb
  have hlt1 := G0.out.lt; have hlt2 := G1.out.lt
  rcases HCS.out with rfl | ⟨⟨t1, t2, hne⟩, hc2⟩
  · have hq : (!onB e.2 e.1 f.2 && !onB e.2 f.2 e.1) = x := by rw [← HX.out, if_pos rfl]
    clear HX
    have t1 : (((i + 1 : Nat) : Int) == (i : Int) + 1) = true := by simp
    have HQ := Lib.hid hq
    clear hq
    rcases h : onB e.2 e.1 f.2 with _ | _
    · have HY := Lib.hid h
      have HQ2 : Hid ((!onB e.2 f.2 e.1) = x) := Lib.hid (by rw [← HQ.out, h]; simp)
      clear h HQ
      obtain ⟨y, hy⟩ : ∃ y, onB e.2 f.2 e.1 = y := ⟨_, rfl⟩
      rw [hy] at HQ2
      have HY2 := Lib.hid hy
      clear hy
      go_wp2_with fail
      refine (ron_any e.2 e.1 f.2 false _ HA2.out HA.out HA4.out HY.out).mono ?_
      rintro e w1 ⟨rfl, hb1⟩
      replace kk := below_next kk (Nat.le_refl _) hb1
      clear c00 c01 c10 c11 c20 c21 c30 c31 HB hb1
      obtain ⟨B0, B1, B2, B3, hbb⟩ := HK.out _ kk
      have c00 := B0.cell 0
      have c01 := B0.cell 1
      have c10 := B1.cell 0
      have c11 := B1.cell 1
      have c20 := B2.cell 0
      have c21 := B2.cell 1
      have c30 := B3.cell 0
      have c31 := B3.cell 1
      have HB := Lib.hid hbb
      clear B0 B1 B2 B3 hbb
      go_wp2_with fail
      refine (ron_any e.2 f.2 e.1 y _ HA2.out HA4.out HA.out HY2.out).mono ?_
      rintro e w2 ⟨rfl, hb2⟩
      replace kk := below_next kk (Nat.le_refl _) hb2
      clear c00 c01 c10 c11 c20 c21 c30 c31 HB hb2
      obtain ⟨B0, B1, B2, B3, hbb⟩ := HK.out _ kk
      have c00 := B0.cell 0
      have c01 := B0.cell 1
      have c10 := B1.cell 0
      have c11 := B1.cell 1
      have c20 := B2.cell 0
      have c21 := B2.cell 1
      have c30 := B3.cell 0
      have c31 := B3.cell 1
      have HB := Lib.hid hbb
      clear B0 B1 B2 B3 hbb
      go_wp2_with fail
      go_ret
      exact ⟨ret_bool HQ2.out, HB.out⟩
    · have HY := Lib.hid h
      have HQ2 : Hid (false = x) := Lib.hid (by rw [← HQ.out, h]; rfl)
      clear h HQ
      go_wp2_with fail
      refine (ron_any e.2 e.1 f.2 true _ HA2.out HA.out HA4.out HY.out).mono ?_
      rintro e w3 ⟨rfl, hb3⟩
      replace kk := below_next kk (Nat.le_refl _) hb3
      clear c00 c01 c10 c11 c20 c21 c30 c31 HB hb3
      obtain ⟨B0, B1, B2, B3, hbb⟩ := HK.out _ kk
      have c00 := B0.cell 0
      have c01 := B0.cell 1
      have c10 := B1.cell 0
      have c11 := B1.cell 1
      have c20 := B2.cell 0
      have c21 := B2.cell 1
      have c30 := B3.cell 0
      have c31 := B3.cell 1
      have HB := Lib.hid hbb
      clear B0 B1 B2 B3 hbb
      go_wp2_with fail
      go_ret
      exact ⟨ret_bool HQ2.out, HB.out⟩
  · rcases hc2 with ⟨rfl, h3⟩ | ⟨rfl, t3, h3⟩ | ⟨t3, t4, h3⟩
    · have hq : (!onB e.1 e.2 f.1 && !onB e.1 f.1 e.2) = x := by rw [← HX.out, if_neg hne, if_pos ⟨rfl, h3⟩]
      have t3 : ((k : Int) == (n : Int) - 1) = true := by simp; omega
      clear HX hne h3
      have HQ := Lib.hid hq
      clear hq
      rcases h : onB e.1 e.2 f.1 with _ | _
      · have HY := Lib.hid h
        have HQ2 : Hid ((!onB e.1 f.1 e.2) = x) := Lib.hid (by rw [← HQ.out, h]; simp)
        clear h HQ
        obtain ⟨y, hy⟩ : ∃ y, onB e.1 f.1 e.2 = y := ⟨_, rfl⟩
        rw [hy] at HQ2
        have HY2 := Lib.hid hy
        clear hy
        go_wp2_with fail
        refine (ron_any e.1 e.2 f.1 false _ HA.out HA2.out HA3.out HY.out).mono ?_
        rintro e w4 ⟨rfl, hb4⟩
        replace kk := below_next kk (Nat.le_refl _) hb4
        clear c00 c01 c10 c11 c20 c21 c30 c31 HB hb4
        obtain ⟨B0, B1, B2, B3, hbb⟩ := HK.out _ kk
        have c00 := B0.cell 0
        have c01 := B0.cell 1
        have c10 := B1.cell 0
        have c11 := B1.cell 1
        have c20 := B2.cell 0
        have c21 := B2.cell 1
        have c30 := B3.cell 0
        have c31 := B3.cell 1
        have HB := Lib.hid hbb
        clear B0 B1 B2 B3 hbb
        go_wp2_with fail
        refine (ron_any e.1 f.1 e.2 y _ HA.out HA3.out HA2.out HY2.out).mono ?_
        rintro e w5 ⟨rfl, hb5⟩
        replace kk := below_next kk (Nat.le_refl _) hb5
        clear c00 c01 c10 c11 c20 c21 c30 c31 HB hb5
        obtain ⟨B0, B1, B2, B3, hbb⟩ := HK.out _ kk
        have c00 := B0.cell 0
        have c01 := B0.cell 1
        have c10 := B1.cell 0
        have c11 := B1.cell 1
        have c20 := B2.cell 0
        have c21 := B2.cell 1
        have c30 := B3.cell 0
        have c31 := B3.cell 1
        have HB := Lib.hid hbb
        clear B0 B1 B2 B3 hbb
        go_wp2_with fail
        go_ret
        exact ⟨ret_bool HQ2.out, HB.out⟩
      · have HY := Lib.hid h
        have HQ2 : Hid (false = x) := Lib.hid (by rw [← HQ.out, h]; rfl)
        clear h HQ
        go_wp2_with fail
        refine (ron_any e.1 e.2 f.1 true _ HA.out HA2.out HA3.out HY.out).mono ?_
        rintro e w6 ⟨rfl, hb6⟩
        replace kk := below_next kk (Nat.le_refl _) hb6
        clear c00 c01 c10 c11 c20 c21 c30 c31 HB hb6
        obtain ⟨B0, B1, B2, B3, hbb⟩ := HK.out _ kk
        have c00 := B0.cell 0
        have c01 := B0.cell 1
        have c10 := B1.cell 0
        have c11 := B1.cell 1
        have c20 := B2.cell 0
        have c21 := B2.cell 1
        have c30 := B3.cell 0
        have c31 := B3.cell 1
        have HB := Lib.hid hbb
        clear B0 B1 B2 B3 hbb
        go_wp2_with fail
        go_ret
        exact ⟨ret_bool HQ2.out, HB.out⟩
    · have hq : (!meetB e.1 e.2 f.1 f.2) = x := by rw [← HX.out, if_neg hne, if_neg (fun h => h3 h.2)]
      clear HX hne h3
      have HQ := Lib.hid hq
      clear hq
      obtain ⟨y, hy⟩ : ∃ y, meetB e.1 e.2 f.1 f.2 = y := ⟨_, rfl⟩
      rw [hy] at HQ
      have HY2 := Lib.hid hy
      clear hy
      go_wp2_with fail
      refine (rmeet_any e.1 e.2 f.1 f.2 y _ HA.out HA2.out HA3.out HA4.out HY2.out).mono ?_
      rintro e w7 ⟨rfl, hb7⟩
      replace kk := below_next kk (Nat.le_refl _) hb7
      clear c00 c01 c10 c11 c20 c21 c30 c31 HB hb7
      obtain ⟨B0, B1, B2, B3, hbb⟩ := HK.out _ kk
      have c00 := B0.cell 0
      have c01 := B0.cell 1
      have c10 := B1.cell 0
      have c11 := B1.cell 1
      have c20 := B2.cell 0
      have c21 := B2.cell 1
      have c30 := B3.cell 0
      have c31 := B3.cell 1
      have HB := Lib.hid hbb
      clear B0 B1 B2 B3 hbb
      go_wp2_with fail
      go_ret
      exact ⟨ret_bool HQ.out, HB.out⟩
    · have hq : (!meetB e.1 e.2 f.1 f.2) = x := by rw [← HX.out, if_neg hne, if_neg (fun h => h3 h.1)]
      clear HX hne h3
      have HQ := Lib.hid hq
      clear hq
      obtain ⟨y, hy⟩ : ∃ y, meetB e.1 e.2 f.1 f.2 = y := ⟨_, rfl⟩
      rw [hy] at HQ
      have HY2 := Lib.hid hy
      clear hy
      go_wp2_with fail
      refine (rmeet_any e.1 e.2 f.1 f.2 y _ HA.out HA2.out HA3.out HA4.out HY2.out).mono ?_
      rintro e w8 ⟨rfl, hb8⟩
      replace kk := below_next kk (Nat.le_refl _) hb8
      clear c00 c01 c10 c11 c20 c21 c30 c31 HB hb8
      obtain ⟨B0, B1, B2, B3, hbb⟩ := HK.out _ kk
      have c00 := B0.cell 0
      have c01 := B0.cell 1
      have c10 := B1.cell 0
      have c11 := B1.cell 1
      have c20 := B2.cell 0
      have c21 := B2.cell 1
      have c30 := B3.cell 0
      have c31 := B3.cell 1
      have HB := Lib.hid hbb
      clear B0 B1 B2 B3 hbb
      go_wp2_with fail
      go_ret
      exact ⟨ret_bool HQ.out, HB.out⟩
end Go.Proofs.Ytomnodpmpdodbaa
