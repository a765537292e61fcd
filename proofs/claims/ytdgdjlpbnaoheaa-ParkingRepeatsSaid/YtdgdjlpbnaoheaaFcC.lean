/- The walks of the program's Sure and Possible of fences. -/
import Derived.Test.YtdgdjlpbnaoheaaFcB
import Derived.Test.YtdgdjlpbnaoheaaTwo
namespace Go.Proofs.Ytdgdjlpbnaoheaa
open Go.RowKit
def encI (x : Int) : List Value := [.int .i64 x]
def cellsI (l : List Int) : List Value := l.flatMap encI
theorem snocI (l : List Int) (x : Int) : cellsI (l ++ [x]) = cellsI l ++ [.int .i64 x] := by simp [cellsI, encI]
theorem oneI {b : Int} : ∀ u ∈ [Value.int .i64 b], u.oneCell' = true := by simp [Value.oneCell']
theorem infoInt : (Try.prog.info? 3).map (fun i => (i.zero, i.size, i.bytes)) = some (some (.int .i64 0), 1, 8) := by kernel_rfl
theorem fr1I (u : World) (b : Int) : Reads (u.alloc (.cells #[.int .i64 b] 3)) (u.heap.size + 1) 1 (some ⟨u.heap.size, 0, none⟩) 1 [.int .i64 b] := by simpa using Reads.fresh1 u 3 #[.int .i64 b] 1 rfl
theorem Two.stepB {B : Nat} {v0 w w' : World} {tx sx nx ty sy ny : Nat} {VX VY : Value} {xs ys : List Value} (T : Two B v0 w tx sx VX nx xs ty sy VY ny ys) (h : Below w.heap.size w w') : Two B v0 w' tx sx VX nx xs ty sy VY ny ys :=
  ⟨T.1.trans (h.mono T.2.1), Nat.le_trans T.2.1 h.size, own_below T.ownX h, own_below T.ownY h, T.2.2.2.2⟩
/-- A list of so many numbers, and an error. -/
def RetNL (w : World) (m : Nat) (y : Int) (e : Ending) (w' : World) : Prop := ∃ A c, e = .returned (.tuple #[.slice A m c, .int .i64 y]) ∧ Below w.heap.size w w'
theorem retNL {w w' : World} {m m' c : Nat} {A : Option Addr} {x y : Int} (h1 : m = m') (h2 : x = y) (hb : Below w.heap.size w w') : RetNL w m' y (.returned (.tuple #[.slice A m c, .int .i64 x])) w' := by subst h1 h2; exact ⟨A, c, rfl, hb⟩
def okQ (l : List Fc) (k : Int) (p : Pt) (r t : Int) : Prop := questZ l k p r t = 0
def sureN (l : List Fc) (k : Int) (p : Pt) (r t : Int) : Nat := if questZ l k p r t = 0 then (numsL (sureB k p r t) l 0).length else 0
def possN (l : List Fc) (k : Int) (p : Pt) (r t : Int) : Nat := if questZ l k p r t = 0 then (numsL (possB k p r t) l 0).length else 0
theorem sureN_no {l : List Fc} {k : Int} {p : Pt} {r t y : Int} (h : questZ l k p r t = y) (hy : y ≠ 0) : sureN l k p r t = 0 := if_neg (by rw [h]; exact hy)
theorem possN_no {l : List Fc} {k : Int} {p : Pt} {r t y : Int} (h : questZ l k p r t = y) (hy : y ≠ 0) : possN l k p r t = 0 := if_neg (by rw [h]; exact hy)
theorem sureN_ok {l : List Fc} {k : Int} {p : Pt} {r t : Int} (h : questZ l k p r t = 0) : sureN l k p r t = (numsL (sureB k p r t) l 0).length := if_pos h
theorem possN_ok {l : List Fc} {k : Int} {p : Pt} {r t : Int} (h : questZ l k p r t = 0) : possN l k p r t = (numsL (possB k p r t) l 0).length := if_pos h
theorem quest_check {l : List Fc} {k : Int} {p : Pt} {r t : Int} (h : fcheckZ l ≠ 0) : questZ l k p r t = fcheckZ l := if_pos h
theorem quest_kind {l : List Fc} {k : Int} {p : Pt} {r t : Int} (h : fcheckZ l = 0) (h1 : kindB k = false) : questZ l k p r t = 14 := by unfold questZ; rw [if_neg (fun e => e h), if_pos h1]
theorem quest_range {l : List Fc} {k : Int} {p : Pt} {r t : Int} (h : fcheckZ l = 0) (h1 : kindB k = true) (h2 : rangeB p r t = false) : questZ l k p r t = 1 := by unfold questZ; rw [if_neg (fun e => e h), if_neg (by rw [h1]; decide), if_pos h2]
theorem quest_ok {l : List Fc} {k : Int} {p : Pt} {r t : Int} (h : fcheckZ l = 0) (h1 : kindB k = true) (h2 : rangeB p r t = true) : questZ l k p r t = 0 := by unfold questZ; rw [if_neg (fun e => e h), if_neg (by rw [h1]; decide), if_neg (by rw [h2]; decide)]
theorem okC_f {x : Int} (h : x < -16384 ∨ 16384 < x) : okC x = false := decide_eq_false (by omega)
theorem okC_t {x : Int} (h : -16384 ≤ x ∧ x ≤ 16384) : okC x = true := decide_eq_true h
/-- The ways of the range. -/
theorem range_cases (p : Pt) (r t : Int) : (rangeB p r t = false ∧ t < 0) ∨ (rangeB p r t = false ∧ 0 ≤ t ∧ 4294943999 < t) ∨ (rangeB p r t = false ∧ 0 ≤ t ∧ t ≤ 4294943999 ∧ okC p.1 = false) ∨ (rangeB p r t = false ∧ 0 ≤ t ∧ t ≤ 4294943999 ∧ okC p.1 = true ∧ okC p.2 = false) ∨ (rangeB p r t = false ∧ 0 ≤ t ∧ t ≤ 4294943999 ∧ okC p.1 = true ∧ okC p.2 = true ∧ r < 0) ∨ (rangeB p r t = false ∧ 0 ≤ t ∧ t ≤ 4294943999 ∧ okC p.1 = true ∧ okC p.2 = true ∧ 0 ≤ r ∧ 16384 < r) ∨ (rangeB p r t = true ∧ 0 ≤ t ∧ t ≤ 4294943999 ∧ okC p.1 = true ∧ okC p.2 = true ∧ 0 ≤ r ∧ r ≤ 16384) := by
  have hp := okP_okC p
  rcases h1 : okC p.1 with _ | _ <;> rcases h2 : okC p.2 with _ | _ <;> rw [h1, h2] at hp <;> simp only [rangeB, hp] <;> simp <;> omega
set_option maxHeartbeats 2000000 in
theorem sureclos_any (A : Option Addr) (n c : Nat) (p : List Pt) (a : Pt) (r : Int) (g1 g2 : Nat) (x : Bool) (w : World) (h : Reads w w.heap.size 2 A n (cellsPt p)) (hn : n ≤ 9223372036854775807) (h1 : Blk w g1 25 #[.int .i64 a.1, .int .i64 a.2]) (h2 : Blk w g2 3 #[.int .i64 r]) (hx : coverB p a r = x) : Calls Try.prog 92 #[.slice A n c, .pointer (some ⟨g1, 0, none⟩), .pointer (some ⟨g2, 0, none⟩)] w (RetB w x) := by
  have HC := Lib.hid (covers_any A n c p a r x _ w h hn hx rfl)
  have c0 := (h1.cell 0).trans rfl; have c1 := (h1.cell 1).trans rfl; have c2 := (h2.cell 0).trans rfl
  clear h hx h1 h2
  go_enter Try.func92, Try.ntmps92
  go_wp2_with fail
  refine HC.out.mono ?_
  rintro e w1 ⟨rfl, hb1⟩
  go_wp2_with fail
  go_ret
  exact ⟨rfl, hb1⟩
set_option maxHeartbeats 4000000 in
set_option maxRecDepth 10000 in
theorem surechosen_any (A : Option Addr) (n c : Nat) (l : List Fc) (k : Int) (p : Pt) (r t : Int) (g1 g2 m : Nat) (y : Int) (w : World) (h : FcR w A n l) (hn : n ≤ 9223372036854775807) (h1 : Blk w g1 25 #[.int .i64 p.1, .int .i64 p.2]) (h2 : Blk w g2 3 #[.int .i64 r]) (hy : questZ l k p r t = y) (hm : sureN l k p r t = m) : Calls Try.prog 89 #[.slice A n c, .int .i64 k, aggP p, .int .i64 r, .int .i64 t, .func (.func 92) #[] #[.pointer (some ⟨g1, 0, none⟩), .pointer (some ⟨g2, 0, none⟩)]] w (RetNL w m y) := by
  obtain ⟨i0, hi0, hz0, hz1, hz2⟩ := info_parts infoInt
  have hlt1 := h1.lt; have hlt2 := h2.lt
  have HG1 : Hid (∀ u, Below w.heap.size w u → Blk u g1 25 #[.int .i64 p.1, .int .i64 p.2]) := Lib.hid fun u hu => h1.ofBelow hu
  have HG2 : Hid (∀ u, Below w.heap.size w u → Blk u g2 3 #[.int .i64 r]) := Lib.hid fun u hu => h2.ofBelow hu
  obtain ⟨kk, hK⟩ := box1K w 25 #[.int .i64 p.1, .int .i64 p.2]
  have HK := Lib.hid hK
  clear hK
  obtain ⟨B0, hbb⟩ := HK.out _ kk
  have c00 := B0.cell 0
  have c01 := B0.cell 1
  have HB := Lib.hid hbb
  clear B0 hbb
  have HL := Lib.hid h.2.2
  have HZA : Hid (∀ u, Below w.heap.size w u → FcR u A n l) := Lib.hid fun u hu => h.below hu
  have HY := Lib.hid hy; have HM := Lib.hid hm
  clear h hy hm h1 h2
  obtain ⟨z, hz⟩ : ∃ z, fcheckZ l = z := ⟨_, rfl⟩
  have HZ := Lib.hid hz
  by_cases h0 : z = 0
  case neg =>
    have HX : Hid (z = y) := Lib.hid (by rw [← HY.out, quest_check (by rw [hz]; exact h0), hz])
    have HM2 : Hid (0 = m) := Lib.hid (by rw [← HM.out, sureN_no HY.out (by rw [← HX.out]; exact h0)])
    have t0 := ne0_t h0
    clear hz h0
    go_enter Try.func89, Try.ntmps89
    go_wp2_with fail
    refine (fcheck_any A n c l z _ (HZA.out _ HB.out) hn HZ.out).mono ?_
    rintro e w1 ⟨rfl, hb1⟩
    replace kk := below_next kk (Nat.le_refl _) hb1
    clear c00 c01 HB hb1
    obtain ⟨B0, hbb⟩ := HK.out _ kk
    have c00 := B0.cell 0
    have c01 := B0.cell 1
    have HB := Lib.hid hbb
    clear B0 hbb
    go_wp2_with fail
    go_ret2
    exact retNL HM2.out HX.out HB.out
  subst h0
  rcases hk : kindB k with _ | _
  · have HX : Hid (14 = y) := Lib.hid (by rw [← HY.out, quest_kind hz hk])
    have HM2 : Hid (0 = m) := Lib.hid (by rw [← HM.out, sureN_no HY.out (by rw [← HX.out]; decide)])
    have HKD := Lib.hid hk
    clear hz hk
    go_enter Try.func89, Try.ntmps89
    go_wp2_with fail
    refine (fcheck_any A n c l 0 _ (HZA.out _ HB.out) hn HZ.out).mono ?_
    rintro e w2 ⟨rfl, hb2⟩
    replace kk := below_next kk (Nat.le_refl _) hb2
    clear c00 c01 HB hb2
    obtain ⟨B0, hbb⟩ := HK.out _ kk
    have c00 := B0.cell 0
    have c01 := B0.cell 1
    have HB := Lib.hid hbb
    clear B0 hbb
    go_wp2_with fail
    refine (kind_any k false _ HKD.out).mono ?_
    rintro e w3 ⟨rfl, rfl⟩
    go_wp2_with fail
    go_ret2
    exact retNL HM2.out HX.out HB.out
  have HKD := Lib.hid hk
  have hrc := range_cases p r t
  have HBADX : Hid (rangeB p r t = false → 1 = y ∧ 0 = m) := Lib.hid fun g => by
    have e : 1 = y := by rw [← HY.out, quest_range hz hk g]
    exact ⟨e, by rw [← HM.out, sureN_no HY.out (by rw [← e]; decide)]⟩
  have HOKX : Hid (rangeB p r t = true → 0 = y ∧ (numsL (sureB k p r t) l 0).length = m) := Lib.hid fun g => by
    have e := quest_ok hz hk g
    exact ⟨by rw [← HY.out, e], by rw [← HM.out, sureN_ok e]⟩
  clear hz hk
  rcases hrc with ⟨gg, q1⟩ | ⟨gg, q1, q2⟩ | ⟨gg, q1, q2, q3⟩ | ⟨gg, q1, q2, q3, q4⟩ | ⟨gg, q1, q2, q3, q4, q5⟩ | ⟨gg, q1, q2, q3, q4, q5, q6⟩ | ⟨gg, q1, q2, q3, q4, q5, q6⟩
  · have HX := Lib.hid (HBADX.out gg).1
    have HM2 := Lib.hid (HBADX.out gg).2
    clear gg
    go_enter Try.func89, Try.ntmps89
    go_wp2_with fail
    refine (fcheck_any A n c l 0 _ (HZA.out _ HB.out) hn HZ.out).mono ?_
    rintro e w3 ⟨rfl, hb3⟩
    replace kk := below_next kk (Nat.le_refl _) hb3
    clear c00 c01 HB hb3
    obtain ⟨B0, hbb⟩ := HK.out _ kk
    have c00 := B0.cell 0
    have c01 := B0.cell 1
    have HB := Lib.hid hbb
    clear B0 hbb
    go_wp2_with fail
    refine (kind_any k true _ HKD.out).mono ?_
    rintro e w3 ⟨rfl, rfl⟩
    go_wp2_with fail
    go_ret2
    exact retNL HM2.out HX.out HB.out
  · have HX := Lib.hid (HBADX.out gg).1
    have HM2 := Lib.hid (HBADX.out gg).2
    clear gg
    go_enter Try.func89, Try.ntmps89
    go_wp2_with fail
    refine (fcheck_any A n c l 0 _ (HZA.out _ HB.out) hn HZ.out).mono ?_
    rintro e w4 ⟨rfl, hb4⟩
    replace kk := below_next kk (Nat.le_refl _) hb4
    clear c00 c01 HB hb4
    obtain ⟨B0, hbb⟩ := HK.out _ kk
    have c00 := B0.cell 0
    have c01 := B0.cell 1
    have HB := Lib.hid hbb
    clear B0 hbb
    go_wp2_with fail
    refine (kind_any k true _ HKD.out).mono ?_
    rintro e w3 ⟨rfl, rfl⟩
    go_wp2_with fail
    go_ret2
    exact retNL HM2.out HX.out HB.out
  · have HX := Lib.hid (HBADX.out gg).1
    have HM2 := Lib.hid (HBADX.out gg).2
    clear gg
    have H3 := Lib.hid q3
    clear q3
    go_enter Try.func89, Try.ntmps89
    go_wp2_with fail
    refine (fcheck_any A n c l 0 _ (HZA.out _ HB.out) hn HZ.out).mono ?_
    rintro e w5 ⟨rfl, hb5⟩
    replace kk := below_next kk (Nat.le_refl _) hb5
    clear c00 c01 HB hb5
    obtain ⟨B0, hbb⟩ := HK.out _ kk
    have c00 := B0.cell 0
    have c01 := B0.cell 1
    have HB := Lib.hid hbb
    clear B0 hbb
    go_wp2_with fail
    refine (kind_any k true _ HKD.out).mono ?_
    rintro e w3 ⟨rfl, rfl⟩
    go_wp2_with fail
    refine (far_any p.1 true _ (by rw [H3.out]; rfl)).mono ?_
    rintro e w4 ⟨rfl, rfl⟩
    go_wp2_with fail
    go_ret2
    exact retNL HM2.out HX.out HB.out
  · have HX := Lib.hid (HBADX.out gg).1
    have HM2 := Lib.hid (HBADX.out gg).2
    clear gg
    have H3 := Lib.hid q3
    clear q3
    have H4 := Lib.hid q4
    clear q4
    go_enter Try.func89, Try.ntmps89
    go_wp2_with fail
    refine (fcheck_any A n c l 0 _ (HZA.out _ HB.out) hn HZ.out).mono ?_
    rintro e w6 ⟨rfl, hb6⟩
    replace kk := below_next kk (Nat.le_refl _) hb6
    clear c00 c01 HB hb6
    obtain ⟨B0, hbb⟩ := HK.out _ kk
    have c00 := B0.cell 0
    have c01 := B0.cell 1
    have HB := Lib.hid hbb
    clear B0 hbb
    go_wp2_with fail
    refine (kind_any k true _ HKD.out).mono ?_
    rintro e w3 ⟨rfl, rfl⟩
    go_wp2_with fail
    refine (far_any p.1 false _ (by rw [H3.out]; rfl)).mono ?_
    rintro e w4 ⟨rfl, rfl⟩
    go_wp2_with fail
    refine (far_any p.2 true _ (by rw [H4.out]; rfl)).mono ?_
    rintro e w5 ⟨rfl, rfl⟩
    go_wp2_with fail
    go_ret2
    exact retNL HM2.out HX.out HB.out
  · have HX := Lib.hid (HBADX.out gg).1
    have HM2 := Lib.hid (HBADX.out gg).2
    clear gg
    have H3 := Lib.hid q3
    clear q3
    have H4 := Lib.hid q4
    clear q4
    go_enter Try.func89, Try.ntmps89
    go_wp2_with fail
    refine (fcheck_any A n c l 0 _ (HZA.out _ HB.out) hn HZ.out).mono ?_
    rintro e w7 ⟨rfl, hb7⟩
    replace kk := below_next kk (Nat.le_refl _) hb7
    clear c00 c01 HB hb7
    obtain ⟨B0, hbb⟩ := HK.out _ kk
    have c00 := B0.cell 0
    have c01 := B0.cell 1
    have HB := Lib.hid hbb
    clear B0 hbb
    go_wp2_with fail
    refine (kind_any k true _ HKD.out).mono ?_
    rintro e w3 ⟨rfl, rfl⟩
    go_wp2_with fail
    refine (far_any p.1 false _ (by rw [H3.out]; rfl)).mono ?_
    rintro e w4 ⟨rfl, rfl⟩
    go_wp2_with fail
    refine (far_any p.2 false _ (by rw [H4.out]; rfl)).mono ?_
    rintro e w5 ⟨rfl, rfl⟩
    go_wp2_with fail
    go_ret2
    exact retNL HM2.out HX.out HB.out
  · have HX := Lib.hid (HBADX.out gg).1
    have HM2 := Lib.hid (HBADX.out gg).2
    clear gg
    have H3 := Lib.hid q3
    clear q3
    have H4 := Lib.hid q4
    clear q4
    go_enter Try.func89, Try.ntmps89
    go_wp2_with fail
    refine (fcheck_any A n c l 0 _ (HZA.out _ HB.out) hn HZ.out).mono ?_
    rintro e w8 ⟨rfl, hb8⟩
    replace kk := below_next kk (Nat.le_refl _) hb8
    clear c00 c01 HB hb8
    obtain ⟨B0, hbb⟩ := HK.out _ kk
    have c00 := B0.cell 0
    have c01 := B0.cell 1
    have HB := Lib.hid hbb
    clear B0 hbb
    go_wp2_with fail
    refine (kind_any k true _ HKD.out).mono ?_
    rintro e w3 ⟨rfl, rfl⟩
    go_wp2_with fail
    refine (far_any p.1 false _ (by rw [H3.out]; rfl)).mono ?_
    rintro e w4 ⟨rfl, rfl⟩
    go_wp2_with fail
    refine (far_any p.2 false _ (by rw [H4.out]; rfl)).mono ?_
    rintro e w5 ⟨rfl, rfl⟩
    go_wp2_with fail
    go_ret2
    exact retNL HM2.out HX.out HB.out
  · have HX := Lib.hid (HOKX.out gg).1
    have HM2 := Lib.hid (HOKX.out gg).2
    clear gg
    have H3 := Lib.hid q3
    clear q3
    have H4 := Lib.hid q4
    clear q4
    go_enter Try.func89, Try.ntmps89
    go_wp2_with fail
    refine (fcheck_any A n c l 0 _ (HZA.out _ HB.out) hn HZ.out).mono ?_
    rintro e w9 ⟨rfl, hb9⟩
    replace kk := below_next kk (Nat.le_refl _) hb9
    clear c00 c01 HB hb9
    obtain ⟨B0, hbb⟩ := HK.out _ kk
    have c00 := B0.cell 0
    have c01 := B0.cell 1
    have HB := Lib.hid hbb
    clear B0 hbb
    go_wp2_with fail
    refine (kind_any k true _ HKD.out).mono ?_
    rintro e w3 ⟨rfl, rfl⟩
    go_wp2_with fail
    refine (far_any p.1 false _ (by rw [H3.out]; rfl)).mono ?_
    rintro e w4 ⟨rfl, rfl⟩
    go_wp2_with fail
    refine (far_any p.2 false _ (by rw [H4.out]; rfl)).mono ?_
    rintro e w5 ⟨rfl, rfl⟩
    go_wp2_with fail
    have hn16 : n ≤ 32 := by
      have := HZ.out; unfold fcheckZ at this
      by_cases g : 32 < l.length
      · rw [if_pos g] at this; exact absurd this (by decide)
      · have := HL.out; omega
    clear c00 c01
    have HT0 : Hid (Two w9.heap.size w9 w9 3 1 (.slice none 0 0) 0 [] 3 1 (.slice none 0 0) 0 []) := Lib.hid ⟨Below.refl _ _, Nat.le_refl _, World.ownsRow_nil _ _ _ _, World.ownsRow_nil _ _ _ _, fun g h => by simp [Value.ownBlock] at h⟩
    have HKK := Lib.hid kk
    clear kk HB
    go_loopw [16, 55] (fun s1 s2 wr => ∃ (i j : Nat) (A1 : Option Addr) (c1 : Nat), i ≤ n ∧ s1 = .slice A1 j c1 ∧ s2 = .int .i64 i ∧ j ≤ i ∧ Hid (j = (numsL (sureB k p r t) (l.take i) 0).length) ∧ Two w9.heap.size w9 wr 3 1 (.slice A1 j c1) j (cellsI (numsL (sureB k p r t) (l.take i) 0)) 3 1 (.slice none 0 0) 0 []) (fun _ s _ => n - (intOf s).toNat)
    case atStart => exact ⟨0, 0, none, 0, Nat.zero_le _, rfl, rfl, Nat.le_refl _, Lib.hid rfl, HT0.out⟩
    case round =>
      obtain ⟨i, j, A1, c1, hi, rfl, rfl, hj, HJ, hT⟩ := hrel
      have HT := Lib.hid hT
      have hbw := hT.below
      have HKR := Lib.hid (below_next HKK.out (Nat.le_refl _) hbw)
      have HBB := Lib.hid (HK.out _ HKR.out).2
      have HZr := Lib.hid (HZA.out _ HBB.out)
      clear hT hbw
      by_cases hlt : i < n
      · have hkl : i < l.length := by have := HL.out; omega
        obtain ⟨b, off, rfl, hb, hc⟩ := HZr.out.cells (by omega)
        obtain ⟨d0, d1, d2, d3, d4, d5⟩ := hc i hkl
        have hk0 : (0 : Int) ≤ i := by omega
        have hk1 : (i : Int) < n := by omega
        have HST := Lib.hid (numsL_take (sureB k p r t) hkl)
        obtain ⟨f, hz⟩ : ∃ f, l[i] = f := ⟨_, rfl⟩
        rw [hz] at d0 d1 d2 d3 d4 d5 HST
        have HOK : Hid (Reads wr wr.heap.size 2 f.A f.n (cellsPt f.p) ∧ f.n ≤ 9223372036854775807) := Lib.hid (by rw [← hz]; exact HZr.out.2.1 _ (List.getElem_mem hkl))
        obtain ⟨B0, hbb⟩ := box1 wr 61 #[.int .i64 f.k, .slice f.A f.n f.c, .int .i64 f.wf, .int .i64 f.wt, .int .i64 f.hf, .int .i64 f.ht]
        have HB0 := Lib.hid B0; have HBX := Lib.hid hbb
        have HT1 := Lib.hid (HT.out.alloc (.cells #[.int .i64 f.k, .slice f.A f.n f.c, .int .i64 f.wf, .int .i64 f.wt, .int .i64 f.hf, .int .i64 f.ht] 61))
        have e0 := (B0.cell 0).trans rfl; have e1 := (B0.cell 1).trans rfl; have e2 := (B0.cell 2).trans rfl; have e3 := (B0.cell 3).trans rfl; have e4 := (B0.cell 4).trans rfl; have e5 := (B0.cell 5).trans rfl
        have hzn := HOK.out.2
        clear hc hz B0 hbb
        have HNO : Hid (sureB k p r t f = false → numsL (sureB k p r t) (l.take (i + 1)) 0 = numsL (sureB k p r t) (l.take i) 0) := Lib.hid fun g => by rw [HST.out, if_neg (by rw [g]; decide), List.append_nil]
        have HYES : Hid (sureB k p r t f = true → numsL (sureB k p r t) (l.take (i + 1)) 0 = numsL (sureB k p r t) (l.take i) 0 ++ [(i : Int)]) := Lib.hid fun g => by rw [HST.out, if_pos g]
        by_cases hfk : f.k = k
        case neg =>
          have HQ := Lib.hid (HNO.out (by unfold sureB; rw [decide_eq_false hfk]; rfl))
          have HJ2 : Hid (j = (numsL (sureB k p r t) (l.take (i + 1)) 0).length) := Lib.hid (by rw [HQ.out]; exact HJ.out)
          have HT2 : Hid (Two w9.heap.size w9 _ 3 1 (.slice A1 j c1) j (cellsI (numsL (sureB k p r t) (l.take (i + 1)) 0)) 3 1 (.slice none 0 0) 0 []) := Lib.hid (by rw [HQ.out]; exact HT1.out)
          have hfk2 : (f.k == k) = false := by simp [hfk]
          have hfk3 : decide (f.k = k) = false := by simp [hfk]
          clear hfk
          go_wp2_with fail
          go_roundw
          case rel => exact ⟨i + 1, j, A1, c1, by omega, rfl, by go_num, by omega, HJ2, HT2.out⟩
          case measure => simp [intOf]; omega
        have hfk2 : (f.k == k) = true := by simp [hfk]
        have hfk3 : decide (f.k = k) = true := by simp [hfk]
        have HFK := Lib.hid hfk
        clear hfk
        rcases ha : activeB f t with _ | _
        · have HQ := Lib.hid (HNO.out (by unfold sureB; rw [ha]; simp))
          have HJ2 : Hid (j = (numsL (sureB k p r t) (l.take (i + 1)) 0).length) := Lib.hid (by rw [HQ.out]; exact HJ.out)
          have HAC := Lib.hid ha
          clear ha
          go_wp2_with fail
          refine (active_any f t false _ HAC.out).mono ?_
          rintro e w5 ⟨rfl, hb5⟩
          have HT2 : Hid (Two w9.heap.size w9 w5 3 1 (.slice A1 j c1) j (cellsI (numsL (sureB k p r t) (l.take (i + 1)) 0)) 3 1 (.slice none 0 0) 0 []) := Lib.hid (by rw [HQ.out]; exact HT1.out.stepB hb5)
          clear hb5
          go_wp2_with fail
          go_roundw
          case rel => exact ⟨i + 1, j, A1, c1, by omega, rfl, by go_num, by omega, HJ2, HT2.out⟩
          case measure => simp [intOf]; omega
        have HAC := Lib.hid ha
        rcases hcv : coverB f.p p r with _ | _
        · have HQ := Lib.hid (HNO.out (by unfold sureB; rw [hcv]; simp))
          have HJ2 : Hid (j = (numsL (sureB k p r t) (l.take (i + 1)) 0).length) := Lib.hid (by rw [HQ.out]; exact HJ.out)
          have HCV := Lib.hid hcv
          clear ha hcv
          go_wp2_with fail
          refine (active_any f t true _ HAC.out).mono ?_
          rintro e w5 ⟨rfl, hb5⟩
          have HT5 := Lib.hid (HT1.out.stepB hb5)
          have HR5 := Lib.hid (((HOK.out.1.below HBX.out).more HBX.out.size |>.below hb5).more hb5.size)
          have HW5 := Lib.hid (below_next HBB.out (Nat.le_refl _) (below_next HBX.out (Nat.le_refl _) hb5))
          have x0 := HB0.out.ofBelow hb5
          clear hb5 e0 e1 e2 e3 e4 e5
          have e1 := (x0.cell 1).trans rfl
          clear x0
          go_wp2_with fail
          refine (sureclos_any f.A f.n f.c f.p p r g1 g2 false _ HR5.out hzn (HG1.out _ HW5.out) (HG2.out _ HW5.out) HCV.out).mono ?_
          rintro e w6 ⟨rfl, hb6⟩
          have HT2 : Hid (Two w9.heap.size w9 w6 3 1 (.slice A1 j c1) j (cellsI (numsL (sureB k p r t) (l.take (i + 1)) 0)) 3 1 (.slice none 0 0) 0 []) := Lib.hid (by rw [HQ.out]; exact HT5.out.stepB hb6)
          clear hb6
          go_wp2_with fail
          go_roundw
          case rel => exact ⟨i + 1, j, A1, c1, by omega, rfl, by go_num, by omega, HJ2, HT2.out⟩
          case measure => simp [intOf]; omega
        · have HQ := Lib.hid (HYES.out (by unfold sureB; rw [HFK.out, ha, hcv]; simp))
          have HJ2 : Hid (j + 1 = (numsL (sureB k p r t) (l.take (i + 1)) 0).length) := Lib.hid (by rw [HQ.out, List.length_append, ← HJ.out]; rfl)
          have HCV := Lib.hid hcv
          clear ha hcv
          go_wp2_with fail
          refine (active_any f t true _ HAC.out).mono ?_
          rintro e w5 ⟨rfl, hb5⟩
          have HT5 := Lib.hid (HT1.out.stepB hb5)
          have HR5 := Lib.hid (((HOK.out.1.below HBX.out).more HBX.out.size |>.below hb5).more hb5.size)
          have HW5 := Lib.hid (below_next HBB.out (Nat.le_refl _) (below_next HBX.out (Nat.le_refl _) hb5))
          have x0 := HB0.out.ofBelow hb5
          clear hb5 e0 e1 e2 e3 e4 e5
          have e1 := (x0.cell 1).trans rfl
          clear x0
          go_wp2_with fail
          refine (sureclos_any f.A f.n f.c f.p p r g1 g2 true _ HR5.out hzn (HG1.out _ HW5.out) (HG2.out _ HW5.out) HCV.out).mono ?_
          rintro e w6 ⟨rfl, hb6⟩
          have T := HT5.out.stepB hb6
          clear hb6
          go_wp2_with (at_builtin; refine wpList_append_any _ rfl (.tmp 75) (.tmp 77) _ rfl _ 3 i0 _ 1 8 Try.underlying91 hi0 hz0 hz1 hz2 rfl (by omega) (.slice A1 j c1) j _ rfl (T.alloc _).ownX _ _ 1 1 [.int .i64 i] (by rfl) (fr1I _ i) oneI (by simp only [maxLen]; omega) (by omega) (T.alloc _).base ?_; intro v7 w7 hown7 hg7 hat7; obtain ⟨A7, c7, rfl, hr7⟩ := own_reads hown7; rw [← snocI, ← HQ.out] at hown7; have T := (T.alloc _).left hown7 hg7 hat7; clear hown7 hg7 hat7 hr7)
          go_roundw
          case rel => exact ⟨i + 1, j + 1, A7, c7, by omega, rfl, by go_num, by omega, HJ2, T⟩
          case measure => simp [intOf]; omega
      · have hle : l.take i = l := List.take_of_length_le (by have := HL.out; omega)
        have HM3 : Hid (j = m) := Lib.hid (by rw [← HM2.out, ← hle]; exact HJ.out)
        clear hle
        go_wp2_with fail
        go_ret2
        exact retNL HM3.out HX.out HBB.out
set_option maxHeartbeats 2000000 in
theorem surefc_any (A : Option Addr) (n c : Nat) (l : List Fc) (k : Int) (p : Pt) (r t : Int) (m : Nat) (y : Int) (w : World) (h : FcR w A n l) (hn : n ≤ 9223372036854775807) (hy : questZ l k p r t = y) (hm : sureN l k p r t = m) : Calls Try.prog 73 #[.slice A n c, .int .i64 k, aggP p, .int .i64 r, .int .i64 t] w (RetNL w m y) := by
  have hb := box2 w 25 3 #[.int .i64 p.1, .int .i64 p.2] #[.int .i64 r]
  have c0 := (hb.1.cell 0).trans rfl; have c1 := (hb.1.cell 1).trans rfl; have c2 := (hb.2.1.cell 0).trans rfl
  have hmf : ∀ (fn : Fn) (first cap : Array Value) (w : World), (Instr.makeFunc fn first cap).run Try.prog w = .ok (.func fn first cap) w := fun _ _ _ _ => rfl
  have HC := Lib.hid (surechosen_any A n c l k p r t _ _ m y _ (h.below hb.2.2) hn hb.1 hb.2.1 hy hm)
  have HB := Lib.hid hb.2.2
  clear h hy hm hb
  go_enter Try.func73, Try.ntmps73
  go_wp2_with fail
  refine HC.out.mono ?_
  rintro e w1 ⟨A1, c1, rfl, hb1⟩
  go_wp2_with fail
  go_ret2
  exact ⟨A1, c1, rfl, below_next HB.out (Nat.le_refl _) hb1⟩
set_option maxHeartbeats 2000000 in
theorem possclos_any (A : Option Addr) (n c : Nat) (p : List Pt) (a : Pt) (r : Int) (g1 g2 : Nat) (x : Bool) (w : World) (h : Reads w w.heap.size 2 A n (cellsPt p)) (hn : n ≤ 9223372036854775807) (h1 : Blk w g1 25 #[.int .i64 a.1, .int .i64 a.2]) (h2 : Blk w g2 3 #[.int .i64 r]) (hx : touchB p a r = x) : Calls Try.prog 90 #[.slice A n c, .pointer (some ⟨g1, 0, none⟩), .pointer (some ⟨g2, 0, none⟩)] w (RetB w x) := by
  have HC := Lib.hid (touches_any A n c p a r x _ w h hn hx rfl)
  have c0 := (h1.cell 0).trans rfl; have c1 := (h1.cell 1).trans rfl; have c2 := (h2.cell 0).trans rfl
  clear h hx h1 h2
  go_enter Try.func90, Try.ntmps90
  go_wp2_with fail
  refine HC.out.mono ?_
  rintro e w1 ⟨rfl, hb1⟩
  go_wp2_with fail
  go_ret
  exact ⟨rfl, hb1⟩
set_option maxHeartbeats 4000000 in
set_option maxRecDepth 10000 in
theorem posschosen_any (A : Option Addr) (n c : Nat) (l : List Fc) (k : Int) (p : Pt) (r t : Int) (g1 g2 m : Nat) (y : Int) (w : World) (h : FcR w A n l) (hn : n ≤ 9223372036854775807) (h1 : Blk w g1 25 #[.int .i64 p.1, .int .i64 p.2]) (h2 : Blk w g2 3 #[.int .i64 r]) (hy : questZ l k p r t = y) (hm : possN l k p r t = m) : Calls Try.prog 89 #[.slice A n c, .int .i64 k, aggP p, .int .i64 r, .int .i64 t, .func (.func 90) #[] #[.pointer (some ⟨g1, 0, none⟩), .pointer (some ⟨g2, 0, none⟩)]] w (RetNL w m y) := by
  obtain ⟨i0, hi0, hz0, hz1, hz2⟩ := info_parts infoInt
  have hlt1 := h1.lt; have hlt2 := h2.lt
  have HG1 : Hid (∀ u, Below w.heap.size w u → Blk u g1 25 #[.int .i64 p.1, .int .i64 p.2]) := Lib.hid fun u hu => h1.ofBelow hu
  have HG2 : Hid (∀ u, Below w.heap.size w u → Blk u g2 3 #[.int .i64 r]) := Lib.hid fun u hu => h2.ofBelow hu
  obtain ⟨kk, hK⟩ := box1K w 25 #[.int .i64 p.1, .int .i64 p.2]
  have HK := Lib.hid hK
  clear hK
  obtain ⟨B0, hbb⟩ := HK.out _ kk
  have c00 := B0.cell 0
  have c01 := B0.cell 1
  have HB := Lib.hid hbb
  clear B0 hbb
  have HL := Lib.hid h.2.2
  have HZA : Hid (∀ u, Below w.heap.size w u → FcR u A n l) := Lib.hid fun u hu => h.below hu
  have HY := Lib.hid hy; have HM := Lib.hid hm
  clear h hy hm h1 h2
  obtain ⟨z, hz⟩ : ∃ z, fcheckZ l = z := ⟨_, rfl⟩
  have HZ := Lib.hid hz
  by_cases h0 : z = 0
  case neg =>
    have HX : Hid (z = y) := Lib.hid (by rw [← HY.out, quest_check (by rw [hz]; exact h0), hz])
    have HM2 : Hid (0 = m) := Lib.hid (by rw [← HM.out, possN_no HY.out (by rw [← HX.out]; exact h0)])
    have t0 := ne0_t h0
    clear hz h0
    go_enter Try.func89, Try.ntmps89
    go_wp2_with fail
    refine (fcheck_any A n c l z _ (HZA.out _ HB.out) hn HZ.out).mono ?_
    rintro e w1 ⟨rfl, hb1⟩
    replace kk := below_next kk (Nat.le_refl _) hb1
    clear c00 c01 HB hb1
    obtain ⟨B0, hbb⟩ := HK.out _ kk
    have c00 := B0.cell 0
    have c01 := B0.cell 1
    have HB := Lib.hid hbb
    clear B0 hbb
    go_wp2_with fail
    go_ret2
    exact retNL HM2.out HX.out HB.out
  subst h0
  rcases hk : kindB k with _ | _
  · have HX : Hid (14 = y) := Lib.hid (by rw [← HY.out, quest_kind hz hk])
    have HM2 : Hid (0 = m) := Lib.hid (by rw [← HM.out, possN_no HY.out (by rw [← HX.out]; decide)])
    have HKD := Lib.hid hk
    clear hz hk
    go_enter Try.func89, Try.ntmps89
    go_wp2_with fail
    refine (fcheck_any A n c l 0 _ (HZA.out _ HB.out) hn HZ.out).mono ?_
    rintro e w2 ⟨rfl, hb2⟩
    replace kk := below_next kk (Nat.le_refl _) hb2
    clear c00 c01 HB hb2
    obtain ⟨B0, hbb⟩ := HK.out _ kk
    have c00 := B0.cell 0
    have c01 := B0.cell 1
    have HB := Lib.hid hbb
    clear B0 hbb
    go_wp2_with fail
    refine (kind_any k false _ HKD.out).mono ?_
    rintro e w3 ⟨rfl, rfl⟩
    go_wp2_with fail
    go_ret2
    exact retNL HM2.out HX.out HB.out
  have HKD := Lib.hid hk
  have hrc := range_cases p r t
  have HBADX : Hid (rangeB p r t = false → 1 = y ∧ 0 = m) := Lib.hid fun g => by
    have e : 1 = y := by rw [← HY.out, quest_range hz hk g]
    exact ⟨e, by rw [← HM.out, possN_no HY.out (by rw [← e]; decide)]⟩
  have HOKX : Hid (rangeB p r t = true → 0 = y ∧ (numsL (possB k p r t) l 0).length = m) := Lib.hid fun g => by
    have e := quest_ok hz hk g
    exact ⟨by rw [← HY.out, e], by rw [← HM.out, possN_ok e]⟩
  clear hz hk
  rcases hrc with ⟨gg, q1⟩ | ⟨gg, q1, q2⟩ | ⟨gg, q1, q2, q3⟩ | ⟨gg, q1, q2, q3, q4⟩ | ⟨gg, q1, q2, q3, q4, q5⟩ | ⟨gg, q1, q2, q3, q4, q5, q6⟩ | ⟨gg, q1, q2, q3, q4, q5, q6⟩
  · have HX := Lib.hid (HBADX.out gg).1
    have HM2 := Lib.hid (HBADX.out gg).2
    clear gg
    go_enter Try.func89, Try.ntmps89
    go_wp2_with fail
    refine (fcheck_any A n c l 0 _ (HZA.out _ HB.out) hn HZ.out).mono ?_
    rintro e w3 ⟨rfl, hb3⟩
    replace kk := below_next kk (Nat.le_refl _) hb3
    clear c00 c01 HB hb3
    obtain ⟨B0, hbb⟩ := HK.out _ kk
    have c00 := B0.cell 0
    have c01 := B0.cell 1
    have HB := Lib.hid hbb
    clear B0 hbb
    go_wp2_with fail
    refine (kind_any k true _ HKD.out).mono ?_
    rintro e w3 ⟨rfl, rfl⟩
    go_wp2_with fail
    go_ret2
    exact retNL HM2.out HX.out HB.out
  · have HX := Lib.hid (HBADX.out gg).1
    have HM2 := Lib.hid (HBADX.out gg).2
    clear gg
    go_enter Try.func89, Try.ntmps89
    go_wp2_with fail
    refine (fcheck_any A n c l 0 _ (HZA.out _ HB.out) hn HZ.out).mono ?_
    rintro e w4 ⟨rfl, hb4⟩
    replace kk := below_next kk (Nat.le_refl _) hb4
    clear c00 c01 HB hb4
    obtain ⟨B0, hbb⟩ := HK.out _ kk
    have c00 := B0.cell 0
    have c01 := B0.cell 1
    have HB := Lib.hid hbb
    clear B0 hbb
    go_wp2_with fail
    refine (kind_any k true _ HKD.out).mono ?_
    rintro e w3 ⟨rfl, rfl⟩
    go_wp2_with fail
    go_ret2
    exact retNL HM2.out HX.out HB.out
  · have HX := Lib.hid (HBADX.out gg).1
    have HM2 := Lib.hid (HBADX.out gg).2
    clear gg
    have H3 := Lib.hid q3
    clear q3
    go_enter Try.func89, Try.ntmps89
    go_wp2_with fail
    refine (fcheck_any A n c l 0 _ (HZA.out _ HB.out) hn HZ.out).mono ?_
    rintro e w5 ⟨rfl, hb5⟩
    replace kk := below_next kk (Nat.le_refl _) hb5
    clear c00 c01 HB hb5
    obtain ⟨B0, hbb⟩ := HK.out _ kk
    have c00 := B0.cell 0
    have c01 := B0.cell 1
    have HB := Lib.hid hbb
    clear B0 hbb
    go_wp2_with fail
    refine (kind_any k true _ HKD.out).mono ?_
    rintro e w3 ⟨rfl, rfl⟩
    go_wp2_with fail
    refine (far_any p.1 true _ (by rw [H3.out]; rfl)).mono ?_
    rintro e w4 ⟨rfl, rfl⟩
    go_wp2_with fail
    go_ret2
    exact retNL HM2.out HX.out HB.out
  · have HX := Lib.hid (HBADX.out gg).1
    have HM2 := Lib.hid (HBADX.out gg).2
    clear gg
    have H3 := Lib.hid q3
    clear q3
    have H4 := Lib.hid q4
    clear q4
    go_enter Try.func89, Try.ntmps89
    go_wp2_with fail
    refine (fcheck_any A n c l 0 _ (HZA.out _ HB.out) hn HZ.out).mono ?_
    rintro e w6 ⟨rfl, hb6⟩
    replace kk := below_next kk (Nat.le_refl _) hb6
    clear c00 c01 HB hb6
    obtain ⟨B0, hbb⟩ := HK.out _ kk
    have c00 := B0.cell 0
    have c01 := B0.cell 1
    have HB := Lib.hid hbb
    clear B0 hbb
    go_wp2_with fail
    refine (kind_any k true _ HKD.out).mono ?_
    rintro e w3 ⟨rfl, rfl⟩
    go_wp2_with fail
    refine (far_any p.1 false _ (by rw [H3.out]; rfl)).mono ?_
    rintro e w4 ⟨rfl, rfl⟩
    go_wp2_with fail
    refine (far_any p.2 true _ (by rw [H4.out]; rfl)).mono ?_
    rintro e w5 ⟨rfl, rfl⟩
    go_wp2_with fail
    go_ret2
    exact retNL HM2.out HX.out HB.out
  · have HX := Lib.hid (HBADX.out gg).1
    have HM2 := Lib.hid (HBADX.out gg).2
    clear gg
    have H3 := Lib.hid q3
    clear q3
    have H4 := Lib.hid q4
    clear q4
    go_enter Try.func89, Try.ntmps89
    go_wp2_with fail
    refine (fcheck_any A n c l 0 _ (HZA.out _ HB.out) hn HZ.out).mono ?_
    rintro e w7 ⟨rfl, hb7⟩
    replace kk := below_next kk (Nat.le_refl _) hb7
    clear c00 c01 HB hb7
    obtain ⟨B0, hbb⟩ := HK.out _ kk
    have c00 := B0.cell 0
    have c01 := B0.cell 1
    have HB := Lib.hid hbb
    clear B0 hbb
    go_wp2_with fail
    refine (kind_any k true _ HKD.out).mono ?_
    rintro e w3 ⟨rfl, rfl⟩
    go_wp2_with fail
    refine (far_any p.1 false _ (by rw [H3.out]; rfl)).mono ?_
    rintro e w4 ⟨rfl, rfl⟩
    go_wp2_with fail
    refine (far_any p.2 false _ (by rw [H4.out]; rfl)).mono ?_
    rintro e w5 ⟨rfl, rfl⟩
    go_wp2_with fail
    go_ret2
    exact retNL HM2.out HX.out HB.out
  · have HX := Lib.hid (HBADX.out gg).1
    have HM2 := Lib.hid (HBADX.out gg).2
    clear gg
    have H3 := Lib.hid q3
    clear q3
    have H4 := Lib.hid q4
    clear q4
    go_enter Try.func89, Try.ntmps89
    go_wp2_with fail
    refine (fcheck_any A n c l 0 _ (HZA.out _ HB.out) hn HZ.out).mono ?_
    rintro e w8 ⟨rfl, hb8⟩
    replace kk := below_next kk (Nat.le_refl _) hb8
    clear c00 c01 HB hb8
    obtain ⟨B0, hbb⟩ := HK.out _ kk
    have c00 := B0.cell 0
    have c01 := B0.cell 1
    have HB := Lib.hid hbb
    clear B0 hbb
    go_wp2_with fail
    refine (kind_any k true _ HKD.out).mono ?_
    rintro e w3 ⟨rfl, rfl⟩
    go_wp2_with fail
    refine (far_any p.1 false _ (by rw [H3.out]; rfl)).mono ?_
    rintro e w4 ⟨rfl, rfl⟩
    go_wp2_with fail
    refine (far_any p.2 false _ (by rw [H4.out]; rfl)).mono ?_
    rintro e w5 ⟨rfl, rfl⟩
    go_wp2_with fail
    go_ret2
    exact retNL HM2.out HX.out HB.out
  · have HX := Lib.hid (HOKX.out gg).1
    have HM2 := Lib.hid (HOKX.out gg).2
    clear gg
    have H3 := Lib.hid q3
    clear q3
    have H4 := Lib.hid q4
    clear q4
    go_enter Try.func89, Try.ntmps89
    go_wp2_with fail
    refine (fcheck_any A n c l 0 _ (HZA.out _ HB.out) hn HZ.out).mono ?_
    rintro e w9 ⟨rfl, hb9⟩
    replace kk := below_next kk (Nat.le_refl _) hb9
    clear c00 c01 HB hb9
    obtain ⟨B0, hbb⟩ := HK.out _ kk
    have c00 := B0.cell 0
    have c01 := B0.cell 1
    have HB := Lib.hid hbb
    clear B0 hbb
    go_wp2_with fail
    refine (kind_any k true _ HKD.out).mono ?_
    rintro e w3 ⟨rfl, rfl⟩
    go_wp2_with fail
    refine (far_any p.1 false _ (by rw [H3.out]; rfl)).mono ?_
    rintro e w4 ⟨rfl, rfl⟩
    go_wp2_with fail
    refine (far_any p.2 false _ (by rw [H4.out]; rfl)).mono ?_
    rintro e w5 ⟨rfl, rfl⟩
    go_wp2_with fail
    have hn16 : n ≤ 32 := by
      have := HZ.out; unfold fcheckZ at this
      by_cases g : 32 < l.length
      · rw [if_pos g] at this; exact absurd this (by decide)
      · have := HL.out; omega
    clear c00 c01
    have HT0 : Hid (Two w9.heap.size w9 w9 3 1 (.slice none 0 0) 0 [] 3 1 (.slice none 0 0) 0 []) := Lib.hid ⟨Below.refl _ _, Nat.le_refl _, World.ownsRow_nil _ _ _ _, World.ownsRow_nil _ _ _ _, fun g h => by simp [Value.ownBlock] at h⟩
    have HKK := Lib.hid kk
    clear kk HB
    go_loopw [16, 55] (fun s1 s2 wr => ∃ (i j : Nat) (A1 : Option Addr) (c1 : Nat), i ≤ n ∧ s1 = .slice A1 j c1 ∧ s2 = .int .i64 i ∧ j ≤ i ∧ Hid (j = (numsL (possB k p r t) (l.take i) 0).length) ∧ Two w9.heap.size w9 wr 3 1 (.slice A1 j c1) j (cellsI (numsL (possB k p r t) (l.take i) 0)) 3 1 (.slice none 0 0) 0 []) (fun _ s _ => n - (intOf s).toNat)
    case atStart => exact ⟨0, 0, none, 0, Nat.zero_le _, rfl, rfl, Nat.le_refl _, Lib.hid rfl, HT0.out⟩
    case round =>
      obtain ⟨i, j, A1, c1, hi, rfl, rfl, hj, HJ, hT⟩ := hrel
      have HT := Lib.hid hT
      have hbw := hT.below
      have HKR := Lib.hid (below_next HKK.out (Nat.le_refl _) hbw)
      have HBB := Lib.hid (HK.out _ HKR.out).2
      have HZr := Lib.hid (HZA.out _ HBB.out)
      clear hT hbw
      by_cases hlt : i < n
      · have hkl : i < l.length := by have := HL.out; omega
        obtain ⟨b, off, rfl, hb, hc⟩ := HZr.out.cells (by omega)
        obtain ⟨d0, d1, d2, d3, d4, d5⟩ := hc i hkl
        have hk0 : (0 : Int) ≤ i := by omega
        have hk1 : (i : Int) < n := by omega
        have HST := Lib.hid (numsL_take (possB k p r t) hkl)
        obtain ⟨f, hz⟩ : ∃ f, l[i] = f := ⟨_, rfl⟩
        rw [hz] at d0 d1 d2 d3 d4 d5 HST
        have HOK : Hid (Reads wr wr.heap.size 2 f.A f.n (cellsPt f.p) ∧ f.n ≤ 9223372036854775807) := Lib.hid (by rw [← hz]; exact HZr.out.2.1 _ (List.getElem_mem hkl))
        obtain ⟨B0, hbb⟩ := box1 wr 61 #[.int .i64 f.k, .slice f.A f.n f.c, .int .i64 f.wf, .int .i64 f.wt, .int .i64 f.hf, .int .i64 f.ht]
        have HB0 := Lib.hid B0; have HBX := Lib.hid hbb
        have HT1 := Lib.hid (HT.out.alloc (.cells #[.int .i64 f.k, .slice f.A f.n f.c, .int .i64 f.wf, .int .i64 f.wt, .int .i64 f.hf, .int .i64 f.ht] 61))
        have e0 := (B0.cell 0).trans rfl; have e1 := (B0.cell 1).trans rfl; have e2 := (B0.cell 2).trans rfl; have e3 := (B0.cell 3).trans rfl; have e4 := (B0.cell 4).trans rfl; have e5 := (B0.cell 5).trans rfl
        have hzn := HOK.out.2
        clear hc hz B0 hbb
        have HNO : Hid (possB k p r t f = false → numsL (possB k p r t) (l.take (i + 1)) 0 = numsL (possB k p r t) (l.take i) 0) := Lib.hid fun g => by rw [HST.out, if_neg (by rw [g]; decide), List.append_nil]
        have HYES : Hid (possB k p r t f = true → numsL (possB k p r t) (l.take (i + 1)) 0 = numsL (possB k p r t) (l.take i) 0 ++ [(i : Int)]) := Lib.hid fun g => by rw [HST.out, if_pos g]
        by_cases hfk : f.k = k
        case neg =>
          have HQ := Lib.hid (HNO.out (by unfold possB; rw [decide_eq_false hfk]; rfl))
          have HJ2 : Hid (j = (numsL (possB k p r t) (l.take (i + 1)) 0).length) := Lib.hid (by rw [HQ.out]; exact HJ.out)
          have HT2 : Hid (Two w9.heap.size w9 _ 3 1 (.slice A1 j c1) j (cellsI (numsL (possB k p r t) (l.take (i + 1)) 0)) 3 1 (.slice none 0 0) 0 []) := Lib.hid (by rw [HQ.out]; exact HT1.out)
          have hfk2 : (f.k == k) = false := by simp [hfk]
          have hfk3 : decide (f.k = k) = false := by simp [hfk]
          clear hfk
          go_wp2_with fail
          go_roundw
          case rel => exact ⟨i + 1, j, A1, c1, by omega, rfl, by go_num, by omega, HJ2, HT2.out⟩
          case measure => simp [intOf]; omega
        have hfk2 : (f.k == k) = true := by simp [hfk]
        have hfk3 : decide (f.k = k) = true := by simp [hfk]
        have HFK := Lib.hid hfk
        clear hfk
        rcases ha : activeB f t with _ | _
        · have HQ := Lib.hid (HNO.out (by unfold possB; rw [ha]; simp))
          have HJ2 : Hid (j = (numsL (possB k p r t) (l.take (i + 1)) 0).length) := Lib.hid (by rw [HQ.out]; exact HJ.out)
          have HAC := Lib.hid ha
          clear ha
          go_wp2_with fail
          refine (active_any f t false _ HAC.out).mono ?_
          rintro e w5 ⟨rfl, hb5⟩
          have HT2 : Hid (Two w9.heap.size w9 w5 3 1 (.slice A1 j c1) j (cellsI (numsL (possB k p r t) (l.take (i + 1)) 0)) 3 1 (.slice none 0 0) 0 []) := Lib.hid (by rw [HQ.out]; exact HT1.out.stepB hb5)
          clear hb5
          go_wp2_with fail
          go_roundw
          case rel => exact ⟨i + 1, j, A1, c1, by omega, rfl, by go_num, by omega, HJ2, HT2.out⟩
          case measure => simp [intOf]; omega
        have HAC := Lib.hid ha
        rcases hcv : touchB f.p p r with _ | _
        · have HQ := Lib.hid (HNO.out (by unfold possB; rw [hcv]; simp))
          have HJ2 : Hid (j = (numsL (possB k p r t) (l.take (i + 1)) 0).length) := Lib.hid (by rw [HQ.out]; exact HJ.out)
          have HCV := Lib.hid hcv
          clear ha hcv
          go_wp2_with fail
          refine (active_any f t true _ HAC.out).mono ?_
          rintro e w5 ⟨rfl, hb5⟩
          have HT5 := Lib.hid (HT1.out.stepB hb5)
          have HR5 := Lib.hid (((HOK.out.1.below HBX.out).more HBX.out.size |>.below hb5).more hb5.size)
          have HW5 := Lib.hid (below_next HBB.out (Nat.le_refl _) (below_next HBX.out (Nat.le_refl _) hb5))
          have x0 := HB0.out.ofBelow hb5
          clear hb5 e0 e1 e2 e3 e4 e5
          have e1 := (x0.cell 1).trans rfl
          clear x0
          go_wp2_with fail
          refine (possclos_any f.A f.n f.c f.p p r g1 g2 false _ HR5.out hzn (HG1.out _ HW5.out) (HG2.out _ HW5.out) HCV.out).mono ?_
          rintro e w6 ⟨rfl, hb6⟩
          have HT2 : Hid (Two w9.heap.size w9 w6 3 1 (.slice A1 j c1) j (cellsI (numsL (possB k p r t) (l.take (i + 1)) 0)) 3 1 (.slice none 0 0) 0 []) := Lib.hid (by rw [HQ.out]; exact HT5.out.stepB hb6)
          clear hb6
          go_wp2_with fail
          go_roundw
          case rel => exact ⟨i + 1, j, A1, c1, by omega, rfl, by go_num, by omega, HJ2, HT2.out⟩
          case measure => simp [intOf]; omega
        · have HQ := Lib.hid (HYES.out (by unfold possB; rw [HFK.out, ha, hcv]; simp))
          have HJ2 : Hid (j + 1 = (numsL (possB k p r t) (l.take (i + 1)) 0).length) := Lib.hid (by rw [HQ.out, List.length_append, ← HJ.out]; rfl)
          have HCV := Lib.hid hcv
          clear ha hcv
          go_wp2_with fail
          refine (active_any f t true _ HAC.out).mono ?_
          rintro e w5 ⟨rfl, hb5⟩
          have HT5 := Lib.hid (HT1.out.stepB hb5)
          have HR5 := Lib.hid (((HOK.out.1.below HBX.out).more HBX.out.size |>.below hb5).more hb5.size)
          have HW5 := Lib.hid (below_next HBB.out (Nat.le_refl _) (below_next HBX.out (Nat.le_refl _) hb5))
          have x0 := HB0.out.ofBelow hb5
          clear hb5 e0 e1 e2 e3 e4 e5
          have e1 := (x0.cell 1).trans rfl
          clear x0
          go_wp2_with fail
          refine (possclos_any f.A f.n f.c f.p p r g1 g2 true _ HR5.out hzn (HG1.out _ HW5.out) (HG2.out _ HW5.out) HCV.out).mono ?_
          rintro e w6 ⟨rfl, hb6⟩
          have T := HT5.out.stepB hb6
          clear hb6
          go_wp2_with (at_builtin; refine wpList_append_any _ rfl (.tmp 75) (.tmp 77) _ rfl _ 3 i0 _ 1 8 Try.underlying91 hi0 hz0 hz1 hz2 rfl (by omega) (.slice A1 j c1) j _ rfl (T.alloc _).ownX _ _ 1 1 [.int .i64 i] (by rfl) (fr1I _ i) oneI (by simp only [maxLen]; omega) (by omega) (T.alloc _).base ?_; intro v7 w7 hown7 hg7 hat7; obtain ⟨A7, c7, rfl, hr7⟩ := own_reads hown7; rw [← snocI, ← HQ.out] at hown7; have T := (T.alloc _).left hown7 hg7 hat7; clear hown7 hg7 hat7 hr7)
          go_roundw
          case rel => exact ⟨i + 1, j + 1, A7, c7, by omega, rfl, by go_num, by omega, HJ2, T⟩
          case measure => simp [intOf]; omega
      · have hle : l.take i = l := List.take_of_length_le (by have := HL.out; omega)
        have HM3 : Hid (j = m) := Lib.hid (by rw [← HM2.out, ← hle]; exact HJ.out)
        clear hle
        go_wp2_with fail
        go_ret2
        exact retNL HM3.out HX.out HBB.out
set_option maxHeartbeats 2000000 in
theorem possfc_any (A : Option Addr) (n c : Nat) (l : List Fc) (k : Int) (p : Pt) (r t : Int) (m : Nat) (y : Int) (w : World) (h : FcR w A n l) (hn : n ≤ 9223372036854775807) (hy : questZ l k p r t = y) (hm : possN l k p r t = m) : Calls Try.prog 72 #[.slice A n c, .int .i64 k, aggP p, .int .i64 r, .int .i64 t] w (RetNL w m y) := by
  have hb := box2 w 25 3 #[.int .i64 p.1, .int .i64 p.2] #[.int .i64 r]
  have c0 := (hb.1.cell 0).trans rfl; have c1 := (hb.1.cell 1).trans rfl; have c2 := (hb.2.1.cell 0).trans rfl
  have hmf : ∀ (fn : Fn) (first cap : Array Value) (w : World), (Instr.makeFunc fn first cap).run Try.prog w = .ok (.func fn first cap) w := fun _ _ _ _ => rfl
  have HC := Lib.hid (posschosen_any A n c l k p r t _ _ m y _ (h.below hb.2.2) hn hb.1 hb.2.1 hy hm)
  have HB := Lib.hid hb.2.2
  clear h hy hm hb
  go_enter Try.func72, Try.ntmps72
  go_wp2_with fail
  refine HC.out.mono ?_
  rintro e w1 ⟨A1, c1, rfl, hb1⟩
  go_wp2_with fail
  go_ret2
  exact ⟨A1, c1, rfl, below_next HB.out (Nat.le_refl _) hb1⟩
end Go.Proofs.Ytdgdjlpbnaoheaa
