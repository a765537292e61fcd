/- The walks of the statements ZoneChecks, ZoneFinds, ZoneDiscs. -/
import Derived.Test.YtgjfidknedojbaaZoneL
import Derived.Test.YtgjfidknedojbaaZoneK
import Derived.Deep.RegionHeld3
import Derived.Deep.CutRange
namespace Go.Proofs.Ytgjfidknedojbaa
open Go.RowKit
theorem zoneChecks_walk (A : Option Addr) (n c : Nat) (l : List Zn) (w : World) (h : ZR w A n l) (hnc : n ≤ c) (hc : c ≤ maxLen) : Calls Try.prog 3 #[.slice A n c] w (AwakePost w) := by
  have hn' : n ≤ 9223372036854775807 := Nat.le_trans hnc hc
  have HZA : Hid (∀ u, Below w.heap.size w u → ZR u A n l) := Lib.hid fun u hu => h.below hu
  obtain ⟨f, hf⟩ : ∃ f, fewB l = f := ⟨_, rfl⟩
  have HF := Lib.hid hf
  have kk := Below.refl w.heap.size w
  clear h hf hc
  rcases f with _ | _
  · go_enter Try.func3, Try.ntmps3
    go_wp2_with fail
    refine (few_any A n c l false _ (HZA.out _ kk) hn' HF.out).mono ?_
    rintro e w1 ⟨rfl, hb1⟩
    replace kk := below_next kk (Nat.le_refl _) hb1
    clear hb1
    go_wp2_with fail
    refine (awake_any _).mono ?_
    rintro e w2 ⟨rfl, hb2⟩
    replace kk := below_next kk (Nat.le_refl _) hb2
    clear hb2
    go_wp2_with fail
    go_ret
    exact ⟨rfl, kk⟩
  · obtain ⟨y, hy⟩ : ∃ y, zcheckZ l = y := ⟨_, rfl⟩
    have HY := Lib.hid hy
    clear hy
    go_enter Try.func3, Try.ntmps3
    go_wp2_with fail
    refine (few_any A n c l true _ (HZA.out _ kk) hn' HF.out).mono ?_
    rintro e w3 ⟨rfl, hb3⟩
    replace kk := below_next kk (Nat.le_refl _) hb3
    clear hb3
    go_wp2_with fail
    refine (zcheck_any A n c l y _ (HZA.out _ kk) hn' hnc HY.out).mono ?_
    rintro e w4 ⟨rfl, hb4⟩
    replace kk := below_next kk (Nat.le_refl _) hb4
    clear hb4
    go_wp2_with fail
    refine (rzcheck_any A n c l y _ (HZA.out _ kk) hn' HY.out).mono ?_
    rintro e w5 ⟨rfl, hb5⟩
    replace kk := below_next kk (Nat.le_refl _) hb5
    clear hb5
    go_wp2_with fail
    refine (awake_any _).mono ?_
    rintro e w6 ⟨rfl, hb6⟩
    replace kk := below_next kk (Nat.le_refl _) hb6
    clear hb6
    go_wp2_with fail
    go_ret
    exact ⟨rfl, kk⟩
theorem retIO_gen {l : List Zn} {p : Pt} {r : Int} : ∃ (i : Int) (b : Bool), numO (sureZ l p r) = i ∧ (sureZ l p r).isSome = b := ⟨_, _, rfl, rfl⟩
/-- Sure's answer as a number and a truth value. -/
def RetNB (w : World) (i : Int) (b : Bool) (e : Ending) (w' : World) : Prop := e = .returned (.tuple #[.int .i64 i, .bool b]) ∧ Below w.heap.size w w'
theorem RetIO.nb {w : World} {x : Option Nat} {i : Int} {b : Bool} {e : Ending} {w' : World} (h : RetIO w x e w') (h1 : numO x = i) (h2 : x.isSome = b) : RetNB w i b e w' := by subst h1 h2; exact h
theorem find_nb (A : Option Addr) (n c : Nat) (l : List Zn) (p : Pt) (i : Int) (b : Bool) (w : World) (h : ZR w A n l) (hn : n ≤ 9223372036854775807) (hnc : n ≤ c) (h1 : numO (sureZ l p 0) = i) (h2 : (sureZ l p 0).isSome = b) : Calls Try.prog 14 #[.slice A n c, aggP p] w (RetNB w i b) :=
  (find_any A n c l p _ w h hn hnc rfl).mono fun _ _ g => g.nb h1 h2
theorem rfind_nb (A : Option Addr) (n c : Nat) (l : List Zn) (p : Pt) (i : Int) (b : Bool) (w : World) (h : ZR w A n l) (hn : n ≤ 9223372036854775807) (h1 : numO (sureZ l p 0) = i) (h2 : (sureZ l p 0).isSome = b) : Calls Try.prog 15 #[.slice A n c, aggP p] w (RetNB w i b) :=
  (rfind_any A n c l p _ w h hn (rfind_eq l p)).mono fun _ _ g => g.nb h1 h2
theorem sure_nb (A : Option Addr) (n c : Nat) (l : List Zn) (p : Pt) (r i : Int) (b : Bool) (w : World) (h : ZR w A n l) (hn : n ≤ 9223372036854775807) (hnc : n ≤ c) (h1 : numO (sureZ l p r) = i) (h2 : (sureZ l p r).isSome = b) : Calls Try.prog 16 #[.slice A n c, aggP p, .int .i64 r] w (RetNB w i b) :=
  (sure_any A n c l p r _ w h hn hnc rfl).mono fun _ _ g => g.nb h1 h2
theorem rsure_nb (A : Option Addr) (n c : Nat) (l : List Zn) (p : Pt) (r i : Int) (b : Bool) (w : World) (h : ZR w A n l) (hn : n ≤ 9223372036854775807) (h1 : numO (sureZ l p r) = i) (h2 : (sureZ l p r).isSome = b) : Calls Try.prog 17 #[.slice A n c, aggP p, .int .i64 r] w (RetNB w i b) :=
  (rsure_any A n c l p r _ w h hn rfl).mono fun _ _ g => g.nb h1 h2
theorem zoneFinds_walk (A : Option Addr) (n c : Nat) (l : List Zn) (p : Pt) (w : World) (h : ZR w A n l) (hnc : n ≤ c) (hc : c ≤ maxLen) : Calls Try.prog 4 #[.slice A n c, aggP p] w (AwakePost w) := by
  have hn' : n ≤ 9223372036854775807 := Nat.le_trans hnc hc
  have HZA : Hid (∀ u, Below w.heap.size w u → ZR u A n l) := Lib.hid fun u hu => h.below hu
  obtain ⟨f, hf⟩ : ∃ f, fewB l = f := ⟨_, rfl⟩
  have HF := Lib.hid hf
  clear h hf hc
  obtain ⟨kk, hK⟩ := box1K w 28 #[.int .i64 p.1, .int .i64 p.2]
  have HK := Lib.hid hK
  clear hK
  obtain ⟨B0, hbb⟩ := HK.out _ kk
  have c00 := B0.cell 0
  have c01 := B0.cell 1
  have HB := Lib.hid hbb
  clear B0 hbb
  rcases f with _ | _
  · go_enter Try.func4, Try.ntmps4
    go_wp2_with fail
    refine (few_any A n c l false _ (HZA.out _ HB.out) hn' HF.out).mono ?_
    rintro e w1 ⟨rfl, hb1⟩
    replace kk := below_next kk (Nat.le_refl _) hb1
    clear c00 c01 HB hb1
    obtain ⟨B0, hbb⟩ := HK.out _ kk
    have c00 := B0.cell 0
    have c01 := B0.cell 1
    have HB := Lib.hid hbb
    clear B0 hbb
    go_wp2_with fail
    refine (awake_any _).mono ?_
    rintro e w2 ⟨rfl, hb2⟩
    replace kk := below_next kk (Nat.le_refl _) hb2
    clear c00 c01 HB hb2
    obtain ⟨B0, hbb⟩ := HK.out _ kk
    have c00 := B0.cell 0
    have c01 := B0.cell 1
    have HB := Lib.hid hbb
    clear B0 hbb
    go_wp2_with fail
    go_ret
    exact ⟨rfl, HB.out⟩
  · obtain ⟨i, b, h1, h2⟩ := retIO_gen (l := l) (p := p) (r := 0)
    have H1 := Lib.hid h1; have H2 := Lib.hid h2
    clear h1 h2
    go_enter Try.func4, Try.ntmps4
    go_wp2_with fail
    refine (few_any A n c l true _ (HZA.out _ HB.out) hn' HF.out).mono ?_
    rintro e w3 ⟨rfl, hb3⟩
    replace kk := below_next kk (Nat.le_refl _) hb3
    clear c00 c01 HB hb3
    obtain ⟨B0, hbb⟩ := HK.out _ kk
    have c00 := B0.cell 0
    have c01 := B0.cell 1
    have HB := Lib.hid hbb
    clear B0 hbb
    go_wp2_with fail
    refine (find_nb A n c l p i b _ (HZA.out _ HB.out) hn' hnc H1.out H2.out).mono ?_
    rintro e w4 ⟨rfl, hb4⟩
    replace kk := below_next kk (Nat.le_refl _) hb4
    clear c00 c01 HB hb4
    obtain ⟨B0, hbb⟩ := HK.out _ kk
    have c00 := B0.cell 0
    have c01 := B0.cell 1
    have HB := Lib.hid hbb
    clear B0 hbb
    go_wp2_with fail
    refine (rfind_nb A n c l p i b _ (HZA.out _ HB.out) hn' H1.out H2.out).mono ?_
    rintro e w5 ⟨rfl, hb5⟩
    replace kk := below_next kk (Nat.le_refl _) hb5
    clear c00 c01 HB hb5
    obtain ⟨B0, hbb⟩ := HK.out _ kk
    have c00 := B0.cell 0
    have c01 := B0.cell 1
    have HB := Lib.hid hbb
    clear B0 hbb
    go_wp2_with fail
    refine (awake_any _).mono ?_
    rintro e w6 ⟨rfl, hb6⟩
    replace kk := below_next kk (Nat.le_refl _) hb6
    clear c00 c01 HB hb6
    obtain ⟨B0, hbb⟩ := HK.out _ kk
    have c00 := B0.cell 0
    have c01 := B0.cell 1
    have HB := Lib.hid hbb
    clear B0 hbb
    go_wp2_with fail
    go_ret
    exact ⟨rfl, HB.out⟩
set_option maxHeartbeats 4000000 in
theorem zoneDiscs_walk (A : Option Addr) (n c : Nat) (l : List Zn) (p : Pt) (r : Int) (w : World) (h : ZR w A n l) (hnc : n ≤ c) (hc : c ≤ maxLen) : Calls Try.prog 5 #[.slice A n c, aggP p, .int .i64 r] w (AwakePost w) := by
  have hn' : n ≤ 9223372036854775807 := Nat.le_trans hnc hc
  have HZA : Hid (∀ u, Below w.heap.size w u → ZR u A n l) := Lib.hid fun u hu => h.below hu
  obtain ⟨f, hf⟩ : ∃ f, fewB l = f := ⟨_, rfl⟩
  have HF := Lib.hid hf
  clear h hf hc
  obtain ⟨kk, hK⟩ := box1K w 28 #[.int .i64 p.1, .int .i64 p.2]
  have HK := Lib.hid hK
  clear hK
  obtain ⟨B0, hbb⟩ := HK.out _ kk
  have c00 := B0.cell 0
  have c01 := B0.cell 1
  have HB := Lib.hid hbb
  clear B0 hbb
  rcases f with _ | _
  · go_enter Try.func5, Try.ntmps5
    go_wp2_with fail
    refine (few_any A n c l false _ (HZA.out _ HB.out) hn' HF.out).mono ?_
    rintro e w1 ⟨rfl, hb1⟩
    replace kk := below_next kk (Nat.le_refl _) hb1
    clear c00 c01 HB hb1
    obtain ⟨B0, hbb⟩ := HK.out _ kk
    have c00 := B0.cell 0
    have c01 := B0.cell 1
    have HB := Lib.hid hbb
    clear B0 hbb
    go_wp2_with fail
    refine (awake_any _).mono ?_
    rintro e w2 ⟨rfl, hb2⟩
    replace kk := below_next kk (Nat.le_refl _) hb2
    clear c00 c01 HB hb2
    obtain ⟨B0, hbb⟩ := HK.out _ kk
    have c00 := B0.cell 0
    have c01 := B0.cell 1
    have HB := Lib.hid hbb
    clear B0 hbb
    go_wp2_with fail
    go_ret
    exact ⟨rfl, HB.out⟩
  · obtain ⟨i, b, h1, h2⟩ := retIO_gen (l := l) (p := p) (r := r)
    have H1 := Lib.hid h1; have H2 := Lib.hid h2
    obtain ⟨x, hx⟩ : ∃ x, possZ l p r = x := ⟨_, rfl⟩
    have HX := Lib.hid hx
    clear h1 h2 hx
    go_enter Try.func5, Try.ntmps5
    go_wp2_with fail
    refine (few_any A n c l true _ (HZA.out _ HB.out) hn' HF.out).mono ?_
    rintro e w3 ⟨rfl, hb3⟩
    replace kk := below_next kk (Nat.le_refl _) hb3
    clear c00 c01 HB hb3
    obtain ⟨B0, hbb⟩ := HK.out _ kk
    have c00 := B0.cell 0
    have c01 := B0.cell 1
    have HB := Lib.hid hbb
    clear B0 hbb
    go_wp2_with fail
    refine (sure_nb A n c l p r i b _ (HZA.out _ HB.out) hn' hnc H1.out H2.out).mono ?_
    rintro e w4 ⟨rfl, hb4⟩
    replace kk := below_next kk (Nat.le_refl _) hb4
    clear c00 c01 HB hb4
    obtain ⟨B0, hbb⟩ := HK.out _ kk
    have c00 := B0.cell 0
    have c01 := B0.cell 1
    have HB := Lib.hid hbb
    clear B0 hbb
    go_wp2_with fail
    refine (rsure_nb A n c l p r i b _ (HZA.out _ HB.out) hn' H1.out H2.out).mono ?_
    rintro e w5 ⟨rfl, hb5⟩
    replace kk := below_next kk (Nat.le_refl _) hb5
    clear c00 c01 HB hb5
    obtain ⟨B0, hbb⟩ := HK.out _ kk
    have c00 := B0.cell 0
    have c01 := B0.cell 1
    have HB := Lib.hid hbb
    clear B0 hbb
    go_upto_region 5 with fail
    have KS : ∀ {w'}, Below (w.alloc (.cells #[.int .i64 p.1, .int .i64 p.2] 28)).heap.size (w.alloc (.cells #[.int .i64 p.1, .int .i64 p.2] 28)) w' → (w'.cell? ⟨w.heap.size, 0, none⟩ = some (.int .i64 p.1) ∧ w'.cell? ⟨w.heap.size, 1, none⟩ = some (.int .i64 p.2)) := fun h => ⟨((HK.out _ h).1.cell 0).trans rfl, ((HK.out _ h).1.cell 1).trans rfl⟩
    go_region_held3 (fun w' => w'.cell? ⟨w.heap.size, 0, none⟩ = some (.int .i64 p.1) ∧ w'.cell? ⟨w.heap.size, 1, none⟩ = some (.int .i64 p.2)) (first | exact KS kk | exact KS (below_drew_ kk) | go_keep)
      (first
        | (go_at_call 19; refine (poss_any A n c l p r x _ (HZA.out _ (HK.out _ kk).2) hn' hnc HX.out).mono ?_; rintro e w5 ⟨hb5, P1, n1, c1, rfl, p1, hl1, hm1⟩; clear hl1; have q1 := (q1.below hb5).more hb5.size; have kk := below_next kk (Nat.le_refl _) hb5)
        | (go_at_call 19; refine (poss_any A n c l p r x _ (HZA.out _ (HK.out _ (below_drew_ kk)).2) hn' hnc HX.out).mono ?_; rintro e w5 ⟨hb5, P1, n1, c1, rfl, p1, hl1, hm1⟩; clear hl1; have kk := below_next (below_drew_ kk) (Nat.le_refl _) hb5)
        | (go_at_call 20; refine (rposs_any A n c l p r x _ (HZA.out _ (HK.out _ kk).2) hn' HX.out).mono ?_; rintro e w6 ⟨hb6, Q1, m1, d1, rfl, q1, hl2, hm2⟩; clear hl2; have p1 := (p1.below hb6).more hb6.size; have kk := below_next kk (Nat.le_refl _) hb6)
        | (go_at_call 20; refine (rposs_any A n c l p r x _ (HZA.out _ (HK.out _ (below_drew_ kk)).2) hn' HX.out).mono ?_; rintro e w6 ⟨hb6, Q1, m1, d1, rfl, q1, hl2, hm2⟩; clear hl2; have kk := below_next (below_drew_ kk) (Nat.le_refl _) hb6)
        | (go_at_call 18; refine (same_any P1 Q1 n1 c1 m1 d1 (ints x) (ints x) true _ p1 q1 hm1 (decide_eq_true rfl)).mono ?_; rintro e w7 ⟨rfl, hb7⟩; have kk := below_next kk (Nat.le_refl _) hb7)
        | (go_at_call 11; refine (awake_any _).mono ?_; rintro e w8 ⟨rfl, hb8⟩; have kk := below_next kk (Nat.le_refl _) hb8))
    all_goals
      go_wp2_with fail
      go_ret
      exact ⟨rfl, (HK.out _ kk).2⟩
end Go.Proofs.Ytgjfidknedojbaa
