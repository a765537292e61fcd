/- How the laws' arguments are opened: photos; the walks of PhotoMarks, PhotoRepeats. -/
import Derived.Test.YtpipojgfpilhdaaPhO
import Derived.Test.YtpipojgfpilhdaaFlat
namespace Go.Proofs.Ytpipojgfpilhdaa
open Go.ChangeShapes Go.WideShapes Go.ChangeAt Go.RowKit Go.Deep
section
variable {H : Type} {enc : TypeId × Value → H} {W : World} {b0 : Nat} {v : Value} {d : DataW H} {p : List MemPlace}
theorem u8_wf {a : Int} (h : (Lit.int .u8 a).wf = true) : 0 ≤ a ∧ a ≤ 255 := by
  change (decide (0 ≤ a) && decide (a ≤ 255)) = true at h
  rw [Bool.and_eq_true] at h
  exact ⟨of_decide_eq_true h.1, of_decide_eq_true h.2⟩
theorem flat_u : ∀ l : List Int, l.flatMap (fun x : Int => [Value.int .u8 x]) = cellsU l
  | [] => rfl
  | x :: l => by
    have := flat_u l
    unfold cellsU at this ⊢
    rw [List.flatMap_cons, List.map_cons, this]; rfl
theorem open_photo (hv : Value.okWide Try.prog W .any b0 24 v) (h : DataW.Trod enc Try.prog W 0 (fun _ => true) true 24 v d p) : ∃ a : Ph, v = aggF a ∧ PR W a ∧ a.n ≤ a.c ∧ a.c ≤ maxLen := by
  obtain ⟨cs, rfl, hl, hf⟩ := open_flat (k := 4) (ts := [3, 3, 3, 3, 22]) Try.underlying24 (by kernel_rfl) hv h
  obtain ⟨a0, g0, _⟩ := hf.int 0 rfl Try.underlying3
  obtain ⟨a1, g1, _⟩ := hf.int 1 rfl Try.underlying3
  obtain ⟨a2, g2, _⟩ := hf.int 2 rfl Try.underlying3
  obtain ⟨a3, g3, _⟩ := hf.int 3 rfl Try.underlying3
  obtain ⟨A, n, c, row, g4, k1, k2, k3, k4, k5⟩ := hf.recs (k := 4) (ts' := [5]) 4 rfl Try.underlying22 (by kernel_rfl) (by kernel_rfl) (by decide)
  obtain ⟨l, hl1, hl2, hl3⟩ := rows_recs (enc := fun x : Int => [Value.int .u8 x]) (Q := fun x => 0 ≤ x ∧ x ≤ 255) (row := row) (n := n) fun j hj => by
    obtain ⟨x, e0, e1⟩ := (k5 j hj).int 0 rfl Try.underlying5
    exact ⟨x, list1 (k4 j) e0, u8_wf e1⟩
  rw [hl2] at k1
  obtain rfl := list5 hl g0 g1 g2 g3 g4
  have hcu : l.flatMap (fun x : Int => [Value.int .u8 x]) = cellsU l := flat_u _
  rw [hcu] at k1
  exact ⟨⟨a0, a1, a2, a3, A, n, c, l⟩, rfl, ⟨k1, hl3, Nat.le_trans k2 k3⟩, k2, k3⟩
theorem open_photos (hv : Value.okWide Try.prog W .any b0 26 v) (h : DataW.Trod enc Try.prog W 0 (fun _ => true) true 26 v d p) :
    ∃ (A : Option Addr) (n c : Nat) (l : List Ph), v = .slice A n c ∧ PsR W A n l ∧ n ≤ c ∧ c ≤ maxLen := by
  obtain ⟨A, n, c, row, rfl, h1, h2, h3, h4, h5⟩ := open_flat_recs (k := 4) (ts := [3, 3, 3, 3, 22]) Try.underlying26 (by kernel_rfl) (by kernel_rfl) (by decide) hv h
  obtain ⟨l, hl1, hl2, hl3⟩ := rows_recs (enc := encF) (Q := fun z => PR W z) (row := row) (n := n) fun i hi => by
    obtain ⟨a0, g0, _⟩ := (h5 i hi).int 0 rfl Try.underlying3
    obtain ⟨a1, g1, _⟩ := (h5 i hi).int 1 rfl Try.underlying3
    obtain ⟨a2, g2, _⟩ := (h5 i hi).int 2 rfl Try.underlying3
    obtain ⟨a3, g3, _⟩ := (h5 i hi).int 3 rfl Try.underlying3
    obtain ⟨A', n', c', row', g4, k1, k2, k3, k4, k5⟩ := (h5 i hi).recs (k := 4) (ts' := [5]) 4 rfl Try.underlying22 (by kernel_rfl) (by kernel_rfl) (by decide)
    obtain ⟨q, _, hq2, hq3⟩ := rows_recs (enc := fun x : Int => [Value.int .u8 x]) (Q := fun x => 0 ≤ x ∧ x ≤ 255) (row := row') (n := n') fun j hj => by
      obtain ⟨x, e0, e1⟩ := (k5 j hj).int 0 rfl Try.underlying5
      exact ⟨x, list1 (k4 j) e0, u8_wf e1⟩
    rw [hq2] at k1
    have hcu : q.flatMap (fun x : Int => [Value.int .u8 x]) = cellsU q := flat_u _
    rw [hcu] at k1
    exact ⟨⟨a0, a1, a2, a3, A', n', c', q⟩, list5 (h4 i) g0 g1 g2 g3 g4, k1, hq3, Nat.le_trans k2 k3⟩
  rw [hl2] at h1
  exact ⟨A, n, c, l, rfl, ⟨h1, hl3, hl1⟩, h2, h3⟩
end
theorem u64_wf {a : Int} (h : (Lit.int .u64 a).wf = true) : ∃ n : Nat, a = (n : Int) ∧ n < 18446744073709551616 := by
  change (decide (0 ≤ a) && decide (a ≤ 18446744073709551615)) = true at h
  rw [Bool.and_eq_true] at h
  have h1 := of_decide_eq_true h.1
  have h2 := of_decide_eq_true h.2
  exact ⟨a.toNat, by omega, by omega⟩
theorem eq47_refl (a b : Int) (w : World) : (Op.equalIn 10000 47 (.agg #[.int .i64 a, .int .i64 b]) (.agg #[.int .i64 a, .int .i64 b])).run Try.prog w = .ok true w := by
  obtain ⟨i, hi⟩ : ∃ i, Try.prog.info? 3 = some i := ⟨_, rfl⟩
  rw [run_equalIn_array (P := Try.prog) w 9999 (e := 3) (n := 2) (i := i) _ _ (by kernel_rfl) hi]
  have hc : Try.prog.cellsOf 3 = 1 := by kernel_rfl
  rw [hc, show List.range 2 = [0, 1] from rfl]
  simp [Op.eqItems, go_sem]
theorem rowP_len (f : Nat → Nat → Bool) (i : Nat) : ∀ m, (rowP f i m).length ≤ m
  | 0 => Nat.le_refl _
  | m + 1 => by
    have := rowP_len f i m
    show (rowP f i m ++ _).length ≤ _
    rw [List.length_append]
    split <;> simp <;> omega
theorem allP_len (f : Nat → Nat → Bool) (n : Nat) (hn : n ≤ 64) : ∀ k, (allP f n k).length ≤ 64 * k
  | 0 => Nat.le_refl _
  | k + 1 => by
    have := allP_len f n hn k
    have := rowP_len f k (n - 1 - k)
    show (allP f n k ++ rowP f k (n - 1 - k)).length ≤ _
    rw [List.length_append]; omega
theorem repP_len (l : List Ph) (lim : Int) : (repP l lim).length ≤ 4096 := by
  unfold repP
  split
  · rename_i h
    have hl : l.length ≤ 64 := by
      rcases Nat.lt_or_ge 64 l.length with g | g
      · rw [repE_full g] at h; exact absurd h (by decide)
      · exact g
    have := allP_len (nearB l lim) l.length hl l.length
    omega
  · simp
theorem rep_len {l : List Ph} {lim : Int} {xs : List (Int × Int)} {w : World} {B n : Nat} {A : Option Addr} (h : repP l lim = xs) (hr : Reads w B 2 A n (cellsPt xs)) : n ≤ 10000 := by
  have h1 := recs_len hr encPt_len (by omega)
  have h2 := repP_len l lim
  rw [h] at h2; omega
theorem one_photo (u : World) (g : Nat) (hg : u.heap.size = g) (p : Ph) (h : PR u p) : PsR (u.alloc (.cells #[.int .i64 p.ride, .int .i64 p.tm, .int .i64 p.W, .int .i64 p.H, .slice p.A p.n p.c] 24)) (some ⟨g, 0, none⟩) 1 [p] := by
  subst hg
  have h1 := Reads.fresh u 24 #[.int .i64 p.ride, .int .i64 p.tm, .int .i64 p.W, .int .i64 p.H, .slice p.A p.n p.c] 1 5 rfl
  have hb := (Below.refl u.heap.size u).alloc (Nat.le_refl _) (.cells #[.int .i64 p.ride, .int .i64 p.tm, .int .i64 p.W, .int .i64 p.H, .slice p.A p.n p.c] 24)
  refine ⟨h1.more (by simp), fun q hq => ?_, rfl⟩
  obtain rfl := List.mem_singleton.mp hq
  exact h.below hb
theorem few_one {p : Ph} {f : Bool} (h : decide (p.n ≤ 5000) = f) : fewF [p] 1 = f := by
  rw [← h]; simp [fewF]
/-- Two lists of pairs with the same pairs. -/
theorem pairs_any (A A' : Option Addr) (n c n' c' : Nat) (l : List Pt) (w : World) (hr : Reads w w.heap.size 2 A n (cellsPt l)) (hr' : Reads w w.heap.size 2 A' n' (cellsPt l)) (hn : n ≤ 10000) : Calls Try.prog 25 #[.slice A n c, .slice A' n' c'] w (RetB w true) := by
  have hl := recs_len hr encPt_len (by omega)
  obtain rfl : n = n' := by have := recs_len hr' encPt_len (by omega); omega
  have HL := Lib.hid hl
  clear hl
  go_enter Try.func25, Try.ntmps25
  go_wp2_with fail
  go_loopw [5] (fun j wr => ∃ (k q : Nat), k ≤ n ∧ j = .int .i64 k ∧ wr = w.drewN q) (fun j _ => n - (intOf j).toNat)
  case atStart => exact ⟨0, 0, Nat.zero_le _, rfl, rfl⟩
  case round =>
    obtain ⟨k, q, hk, rfl, rfl⟩ := hrel
    by_cases hlt : k < n
    · obtain ⟨b, off, rfl, hb1, hc⟩ := hr.recs encPt_len (by omega) (by omega)
      obtain ⟨b', off', rfl, hb2, hc'⟩ := hr'.recs encPt_len (by omega) (by omega)
      have hkl : k < l.length := by have := HL.out; omega
      have c0 : w.cell? ⟨b, off + k * 2, none⟩ = some (.int .i64 l[k].1) := hc k hkl 0 _ rfl
      have c1 : w.cell? ⟨b, off + k * 2 + 1, none⟩ = some (.int .i64 l[k].2) := hc k hkl 1 _ rfl
      have d0 : w.cell? ⟨b', off' + k * 2, none⟩ = some (.int .i64 l[k].1) := hc' k hkl 0 _ rfl
      have d1 : w.cell? ⟨b', off' + k * 2 + 1, none⟩ = some (.int .i64 l[k].2) := hc' k hkl 1 _ rfl
      have hk1 : (k : Int) < n := by omega
      have hk0 : (0 : Int) ≤ k := by omega
      have hq := fun w => eq47_refl l[k].1 l[k].2 w
      clear hc hc'
      go_wp2_with fail
      go_quiet (fail)
      go_wp2_with fail
      go_roundw
      case rel => exact ⟨k + 1, _, by omega, by go_num, rfl⟩
      case measure => simp [intOf]; omega
    · go_wp2_with fail
      go_ret
      exact ⟨rfl, below_drewN (Below.refl _ _) _⟩
theorem photoRepeats_walk (A : Option Addr) (n c : Nat) (l : List Ph) (lim : Int) (w : World) (h : PsR w A n l) (hnc : n ≤ c) (hc : c ≤ maxLen) : Calls Try.prog 5 #[.slice A n c, .int .i64 lim] w (AwakePost w) := by
  have hn' : n ≤ 9223372036854775807 := Nat.le_trans hnc hc
  have HPA : Hid (∀ u, Below w.heap.size w u → PsR u A n l) := Lib.hid fun u hu => h.below hu
  obtain ⟨f, hf⟩ : ∃ f, fewF l 70 = f := ⟨_, rfl⟩
  have HF := Lib.hid hf
  have kk := Below.refl w.heap.size w
  clear h hf hc hnc
  rcases f with _ | _
  · go_enter Try.func5, Try.ntmps5
    go_wp2_with fail
    refine (fewF_any A n c l 70 false _ (HPA.out _ kk) hn' HF.out).mono ?_
    rintro e w1 ⟨rfl, hb1⟩
    replace kk := below_next kk (Nat.le_refl _) hb1
    clear hb1
    go_wp2_with fail
    refine (awake_any _).mono ?_
    rintro e w2 ⟨rfl, hb2⟩
    replace kk := below_next kk (Nat.le_refl _) hb2
    clear hb2
    go_wp2_with fail
    go_ret
    exact ⟨rfl, kk⟩
  · obtain ⟨y, hy⟩ : ∃ y, repE l lim = y := ⟨_, rfl⟩
    obtain ⟨xs, hxs⟩ : ∃ xs, repP l lim = xs := ⟨_, rfl⟩
    have HY := Lib.hid hy
    have HXS := Lib.hid hxs
    clear hy hxs
    go_enter Try.func5, Try.ntmps5
    go_wp2_with fail
    refine (fewF_any A n c l 70 true _ (HPA.out _ kk) hn' HF.out).mono ?_
    rintro e w3 ⟨rfl, hb3⟩
    replace kk := below_next kk (Nat.le_refl _) hb3
    clear hb3
    go_wp2_with fail
    refine (repeats_any A n c l lim y xs _ (HPA.out _ kk) hn' HY.out HXS.out).mono ?_
    rintro e w2 ⟨A2, n2, c2, rfl, r2, hb2⟩
    have R2 := Lib.hid r2
    replace kk := below_next kk (Nat.le_refl _) hb2
    clear r2 hb2
    go_wp2_with fail
    refine (rrepeats_any A n c l lim y xs _ (HPA.out _ kk) hn' HY.out HXS.out).mono ?_
    rintro e w3 ⟨A3, n3, c3, rfl, r3, hb3⟩
    have R3 := Lib.hid r3
    replace R2 := Lib.hid ((R2.out.below hb3).more hb3.size)
    replace kk := below_next kk (Nat.le_refl _) hb3
    clear r3 hb3
    go_wp2_with fail
    refine (pairs_any A2 A3 n2 c2 n3 c3 xs _ R2.out R3.out (rep_len HXS.out R2.out)).mono ?_
    rintro e w4 ⟨rfl, hb4⟩
    replace kk := below_next kk (Nat.le_refl _) hb4
    clear hb4
    go_wp2_with fail
    refine (awake_any _).mono ?_
    rintro e w5 ⟨rfl, hb5⟩
    replace kk := below_next kk (Nat.le_refl _) hb5
    clear hb5
    go_wp2_with fail
    go_ret
    exact ⟨rfl, kk⟩
set_option maxHeartbeats 4000000 in
theorem photoMarks_walk (p : Ph) (a b : Nat) (w : World) (h : PR w p) (ha : a < 18446744073709551616) (hb : b < 18446744073709551616) : Calls Try.prog 4 #[aggF p, .int .u64 a, .int .u64 b] w (AwakePost w) := by
  have HPA : Hid (∀ u, Below w.heap.size w u → PR u p) := Lib.hid fun u hu => h.below hu
  obtain ⟨f, hf⟩ : ∃ f, decide (p.n ≤ 5000) = f := ⟨_, rfl⟩
  have HF := Lib.hid hf
  clear hf h
  obtain ⟨kk, hK⟩ := box1K w 24 #[.int .i64 p.ride, .int .i64 p.tm, .int .i64 p.W, .int .i64 p.H, .slice p.A p.n p.c]
  have HK := Lib.hid hK
  clear hK
  obtain ⟨B0, hbb⟩ := HK.out _ kk
  have c00 := B0.cell 0
  have c01 := B0.cell 1
  have c02 := B0.cell 2
  have c03 := B0.cell 3
  have c04 := B0.cell 4
  have HB := Lib.hid hbb
  clear B0 hbb
  rcases f with _ | _
  · go_enter Try.func4, Try.ntmps4
    go_wp2_with fail
    have HPS := Lib.hid (one_photo _ (w.heap.size + 1) (by simp) p (HPA.out _ HB.out))
    replace kk := kk.alloc kk.size (.cells #[.int .i64 p.ride, .int .i64 p.tm, .int .i64 p.W, .int .i64 p.H, .slice p.A p.n p.c] 24)
    clear c00 c01 c02 c03 c04 HB
    obtain ⟨B0, hbb⟩ := HK.out _ kk
    have c00 := B0.cell 0
    have c01 := B0.cell 1
    have c02 := B0.cell 2
    have c03 := B0.cell 3
    have c04 := B0.cell 4
    have HB := Lib.hid hbb
    clear B0 hbb
    refine (fewF_any (some ⟨w.heap.size + 1, 0, none⟩) 1 1 [p] 1 false _ HPS.out (by decide) (few_one HF.out)).mono ?_
    rintro e w1 ⟨rfl, hb1⟩
    replace kk := below_next kk (Nat.le_refl _) hb1
    clear c00 c01 c02 c03 c04 HB hb1
    obtain ⟨B0, hbb⟩ := HK.out _ kk
    have c00 := B0.cell 0
    have c01 := B0.cell 1
    have c02 := B0.cell 2
    have c03 := B0.cell 3
    have c04 := B0.cell 4
    have HB := Lib.hid hbb
    clear B0 hbb
    go_wp2_with fail
    refine (awake_any _).mono ?_
    rintro e w2 ⟨rfl, hb2⟩
    replace kk := below_next kk (Nat.le_refl _) hb2
    clear c00 c01 c02 c03 c04 HB hb2
    obtain ⟨B0, hbb⟩ := HK.out _ kk
    have c00 := B0.cell 0
    have c01 := B0.cell 1
    have c02 := B0.cell 2
    have c03 := B0.cell 3
    have c04 := B0.cell 4
    have HB := Lib.hid hbb
    clear B0 hbb
    go_wp2_with fail
    go_ret
    exact ⟨rfl, HB.out⟩
  · obtain ⟨m, hm⟩ : ∃ m, markN p = m := ⟨_, rfl⟩
    obtain ⟨x, hx⟩ : ∃ x, pcheckZ p = x := ⟨_, rfl⟩
    obtain ⟨d, hd⟩ : ∃ d : Int, (apartN a b : Int) = d := ⟨_, rfl⟩
    have HM := Lib.hid hm
    have HX := Lib.hid hx
    have HD := Lib.hid hd
    clear hm hx hd
    go_enter Try.func4, Try.ntmps4
    go_wp2_with fail
    have HPS := Lib.hid (one_photo _ (w.heap.size + 1) (by simp) p (HPA.out _ HB.out))
    replace kk := kk.alloc kk.size (.cells #[.int .i64 p.ride, .int .i64 p.tm, .int .i64 p.W, .int .i64 p.H, .slice p.A p.n p.c] 24)
    clear c00 c01 c02 c03 c04 HB
    obtain ⟨B0, hbb⟩ := HK.out _ kk
    have c00 := B0.cell 0
    have c01 := B0.cell 1
    have c02 := B0.cell 2
    have c03 := B0.cell 3
    have c04 := B0.cell 4
    have HB := Lib.hid hbb
    clear B0 hbb
    refine (fewF_any (some ⟨w.heap.size + 1, 0, none⟩) 1 1 [p] 1 true _ HPS.out (by decide) (few_one HF.out)).mono ?_
    rintro e w3 ⟨rfl, hb3⟩
    replace kk := below_next kk (Nat.le_refl _) hb3
    clear c00 c01 c02 c03 c04 HB hb3
    obtain ⟨B0, hbb⟩ := HK.out _ kk
    have c00 := B0.cell 0
    have c01 := B0.cell 1
    have c02 := B0.cell 2
    have c03 := B0.cell 3
    have c04 := B0.cell 4
    have HB := Lib.hid hbb
    clear B0 hbb
    clear HPS
    go_wp2_with fail
    refine (mark_any p m x _ (HPA.out _ HB.out) HM.out HX.out).mono ?_
    rintro e w4 ⟨rfl, hb4⟩
    replace kk := below_next kk (Nat.le_refl _) hb4
    clear c00 c01 c02 c03 c04 HB hb4
    obtain ⟨B0, hbb⟩ := HK.out _ kk
    have c00 := B0.cell 0
    have c01 := B0.cell 1
    have c02 := B0.cell 2
    have c03 := B0.cell 3
    have c04 := B0.cell 4
    have HB := Lib.hid hbb
    clear B0 hbb
    go_wp2_with fail
    refine (rmark_any p m x _ (HPA.out _ HB.out) HM.out HX.out).mono ?_
    rintro e w5 ⟨rfl, hb5⟩
    replace kk := below_next kk (Nat.le_refl _) hb5
    clear c00 c01 c02 c03 c04 HB hb5
    obtain ⟨B0, hbb⟩ := HK.out _ kk
    have c00 := B0.cell 0
    have c01 := B0.cell 1
    have c02 := B0.cell 2
    have c03 := B0.cell 3
    have c04 := B0.cell 4
    have HB := Lib.hid hbb
    clear B0 hbb
    go_wp2_with fail
    refine (apart_b a b d _ ha hb HD.out).mono ?_
    rintro e w6 ⟨rfl, hb6⟩
    replace kk := below_next kk (Nat.le_refl _) hb6
    clear c00 c01 c02 c03 c04 HB hb6
    obtain ⟨B0, hbb⟩ := HK.out _ kk
    have c00 := B0.cell 0
    have c01 := B0.cell 1
    have c02 := B0.cell 2
    have c03 := B0.cell 3
    have c04 := B0.cell 4
    have HB := Lib.hid hbb
    clear B0 hbb
    go_wp2_with fail
    refine (rapart_b a b d _ HD.out).mono ?_
    rintro e w7 ⟨rfl, hb7⟩
    replace kk := below_next kk (Nat.le_refl _) hb7
    clear c00 c01 c02 c03 c04 HB hb7
    obtain ⟨B0, hbb⟩ := HK.out _ kk
    have c00 := B0.cell 0
    have c01 := B0.cell 1
    have c02 := B0.cell 2
    have c03 := B0.cell 3
    have c04 := B0.cell 4
    have HB := Lib.hid hbb
    clear B0 hbb
    go_wp2_with fail
    refine (awake_any _).mono ?_
    rintro e w8 ⟨rfl, hb8⟩
    replace kk := below_next kk (Nat.le_refl _) hb8
    clear c00 c01 c02 c03 c04 HB hb8
    obtain ⟨B0, hbb⟩ := HK.out _ kk
    have c00 := B0.cell 0
    have c01 := B0.cell 1
    have c02 := B0.cell 2
    have c03 := B0.cell 3
    have c04 := B0.cell 4
    have HB := Lib.hid hbb
    clear B0 hbb
    go_wp2_with fail
    go_ret
    exact ⟨rfl, HB.out⟩
end Go.Proofs.Ytpipojgfpilhdaa
