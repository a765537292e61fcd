/- The walk of PhotoDigests. -/
import Derived.Test.YtpipojgfpilhdaaPhP
import Derived.Deep.RegionHeld3
import Derived.Deep.CutRange
namespace Go.Proofs.Ytpipojgfpilhdaa
open Go.RowKit
/-- The codes of the first k numbers lie in a slice. -/
def CodeR (w : World) (p : Ph) (k : Nat) (A : Option Addr) (n c : Nat) : Prop := Reads w w.heap.size 1 A n (cellsU (encTo (nums p) k)) ∧ n ≤ 40 ∧ n ≤ c ∧ (A = none → c = 0)
theorem CodeR.below {w w' : World} {p : Ph} {k n c : Nat} {A : Option Addr} (h : CodeR w p k A n c) (hb : Below w.heap.size w w') : CodeR w' p k A n c := ⟨(h.1.below hb).more hb.size, h.2⟩
theorem CodeR.zero (w : World) (p : Ph) : CodeR w p 0 none 0 0 := ⟨Reads.none_, by decide, by decide, fun _ => rfl⟩
theorem put_any (p : Ph) (hx : pcheckZ p = 0) (k : Nat) (v : Int) (hk : k < 4) (hv : (#[.int .i64 p.ride, .int .i64 p.tm, .int .i64 p.W, .int .i64 p.H] : Array Value)[k]? = some (.int .i64 v)) (A : Option Addr) (n c : Nat) (w : World) (h : CodeR w p k A n c) :
    Calls Try.prog 27 #[.slice A n c, .int .i64 v] w (fun e w' => ∃ A' n' c', e = .returned (.slice A' n' c') ∧ CodeR w' p (k + 1) A' n' c' ∧ Below w.heap.size w w') := by
  obtain ⟨x, h1, h2, h3⟩ := nums_at hx hk
  obtain rfl : v = (x : Int) := by rw [hv] at h1; injection h1 with h1; injection h1
  refine (putInt_any A n c _ x w h.1 (by have := h.2.1; omega) h.2.2.1 h.2.2.2 h2).mono ?_
  rintro e w' ⟨A', n', c', rfl, ho, hb⟩
  rw [← h3] at ho
  have hr := Reads.of_own ho
  have hl := encTo_len (nums p) (k + 1)
  have := reads_len hr
  exact ⟨A', n', c', rfl, ⟨hr, by omega, own_cap ho, own_none ho⟩, hb⟩
theorem own_empty (w : World) (base g : Nat) (hg : w.heap.size = g) (hb : base ≤ g) : (w.alloc (.cells #[] 5)).ownsRow base 5 1 (.slice (some ⟨g, 0, none⟩) 0 0) 0 (cellsU []) := by
  subst hg
  exact ⟨rfl, .inr ⟨w.heap.size, 0, #[], rfl, hb, by show (w.heap.push _)[w.heap.size]? = _; simp, Nat.le_refl _, by decide, rfl, rfl⟩⟩
set_option maxHeartbeats 8000000 in
set_option maxRecDepth 20000 in
theorem photoDigests_walk (p : Ph) (w : World) (h : PR w p) : Calls Try.prog 9 #[aggF p] w (AwakePost w) := by
  have HPA : Hid (∀ u, Below w.heap.size w u → PR u p) := Lib.hid fun u hu => h.below hu
  have HBY := Lib.hid h.2.1
  obtain ⟨f, hf⟩ : ∃ f, decide (p.n ≤ 5000) = f := ⟨_, rfl⟩
  have HF := Lib.hid hf
  clear hf h
  obtain ⟨kk, hK⟩ := box1K w 24 #[.int .i64 p.ride, .int .i64 p.tm, .int .i64 p.W, .int .i64 p.H, .slice p.A p.n p.c]
  have HK := Lib.hid hK
  clear hK
  obtain ⟨B0, hbb⟩ := HK.out _ kk
  have c00 := B0.cell 0
  have c01 := B0.cell 1
  have c02 := B0.cell 2
  have c03 := B0.cell 3
  have c04 := B0.cell 4
  have HB := Lib.hid hbb
  clear B0 hbb
  rcases f with _ | _
  · go_enter Try.func9, Try.ntmps9
    go_wp2_with fail
    have HPS := Lib.hid (one_photo _ (w.heap.size + 1) (by simp) p (HPA.out _ HB.out))
    replace kk := kk.alloc kk.size (.cells #[.int .i64 p.ride, .int .i64 p.tm, .int .i64 p.W, .int .i64 p.H, .slice p.A p.n p.c] 24)
    clear c00 c01 c02 c03 c04 HB
    obtain ⟨B0, hbb⟩ := HK.out _ kk
    have c00 := B0.cell 0
    have c01 := B0.cell 1
    have c02 := B0.cell 2
    have c03 := B0.cell 3
    have c04 := B0.cell 4
    have HB := Lib.hid hbb
    clear B0 hbb
    refine (fewF_any (some ⟨w.heap.size + 1, 0, none⟩) 1 1 [p] 1 false _ HPS.out (by decide) (few_one HF.out)).mono ?_
    rintro e w1 ⟨rfl, hb1⟩
    replace kk := below_next kk (Nat.le_refl _) hb1
    clear c00 c01 c02 c03 c04 HB hb1
    obtain ⟨B0, hbb⟩ := HK.out _ kk
    have c00 := B0.cell 0
    have c01 := B0.cell 1
    have c02 := B0.cell 2
    have c03 := B0.cell 3
    have c04 := B0.cell 4
    have HB := Lib.hid hbb
    clear B0 hbb
    go_wp2_with fail
    refine (awake_any _).mono ?_
    rintro e w2 ⟨rfl, hb2⟩
    replace kk := below_next kk (Nat.le_refl _) hb2
    clear c00 c01 c02 c03 c04 HB hb2
    obtain ⟨B0, hbb⟩ := HK.out _ kk
    have c00 := B0.cell 0
    have c01 := B0.cell 1
    have c02 := B0.cell 2
    have c03 := B0.cell 3
    have c04 := B0.cell 4
    have HB := Lib.hid hbb
    clear B0 hbb
    go_wp2_with fail
    go_ret
    exact ⟨rfl, HB.out⟩
  · have hn5 : p.n ≤ 5000 := of_decide_eq_true HF.out
    obtain ⟨d, hd⟩ : ∃ d, digZ p = d := ⟨_, rfl⟩
    obtain ⟨x, hx⟩ : ∃ x, pcheckZ p = x := ⟨_, rfl⟩
    have HX := Lib.hid hx
    have HD := Lib.hid hd
    by_cases h0 : x = 0
    · subst h0
      have HS : Hid (sumV 0 0 (encTo (nums p) 4 ++ p.px) = d) := Lib.hid (by rw [← hd]; unfold digZ; rw [if_pos hx]; rfl)
      clear hx hd
      obtain ⟨i0, hi0, hz0, hz1, hz2⟩ := info_parts infoByte
      go_enter Try.func9, Try.ntmps9
      go_wp2_with fail
      have HPS := Lib.hid (one_photo _ (w.heap.size + 1) (by simp) p (HPA.out _ HB.out))
      replace kk := kk.alloc kk.size (.cells #[.int .i64 p.ride, .int .i64 p.tm, .int .i64 p.W, .int .i64 p.H, .slice p.A p.n p.c] 24)
      clear c00 c01 c02 c03 c04 HB
      obtain ⟨B0, hbb⟩ := HK.out _ kk
      have c00 := B0.cell 0
      have c01 := B0.cell 1
      have c02 := B0.cell 2
      have c03 := B0.cell 3
      have c04 := B0.cell 4
      have HB := Lib.hid hbb
      clear B0 hbb
      refine (fewF_any (some ⟨w.heap.size + 1, 0, none⟩) 1 1 [p] 1 true _ HPS.out (by decide) (few_one HF.out)).mono ?_
      rintro e w3 ⟨rfl, hb3⟩
      replace kk := below_next kk (Nat.le_refl _) hb3
      clear c00 c01 c02 c03 c04 HB hb3
      obtain ⟨B0, hbb⟩ := HK.out _ kk
      have c00 := B0.cell 0
      have c01 := B0.cell 1
      have c02 := B0.cell 2
      have c03 := B0.cell 3
      have c04 := B0.cell 4
      have HB := Lib.hid hbb
      clear B0 hbb
      clear HPS
      go_wp2_with fail
      refine (digest_any p d 0 _ (HPA.out _ HB.out) HD.out HX.out).mono ?_
      rintro e w4 ⟨rfl, hb4⟩
      replace kk := below_next kk (Nat.le_refl _) hb4
      clear c00 c01 c02 c03 c04 HB hb4
      obtain ⟨B0, hbb⟩ := HK.out _ kk
      have c00 := B0.cell 0
      have c01 := B0.cell 1
      have c02 := B0.cell 2
      have c03 := B0.cell 3
      have c04 := B0.cell 4
      have HB := Lib.hid hbb
      clear B0 hbb
      go_upto_region 6 with fail
      have KS : ∀ {w'}, Below (w.alloc (.cells #[.int .i64 p.ride, .int .i64 p.tm, .int .i64 p.W, .int .i64 p.H, .slice p.A p.n p.c] 24)).heap.size (w.alloc (.cells #[.int .i64 p.ride, .int .i64 p.tm, .int .i64 p.W, .int .i64 p.H, .slice p.A p.n p.c] 24)) w' → (w'.cell? ⟨w.heap.size, 0, none⟩ = some (.int .i64 p.ride) ∧ w'.cell? ⟨w.heap.size, 1, none⟩ = some (.int .i64 p.tm) ∧ w'.cell? ⟨w.heap.size, 2, none⟩ = some (.int .i64 p.W) ∧ w'.cell? ⟨w.heap.size, 3, none⟩ = some (.int .i64 p.H)) := fun h => ⟨((HK.out _ h).1.cell 0).trans rfl, ((HK.out _ h).1.cell 1).trans rfl, ((HK.out _ h).1.cell 2).trans rfl, ((HK.out _ h).1.cell 3).trans rfl⟩
      clear HB c04
      go_region_held3 (fun w' => w'.cell? ⟨w.heap.size, 0, none⟩ = some (.int .i64 p.ride) ∧ w'.cell? ⟨w.heap.size, 1, none⟩ = some (.int .i64 p.tm) ∧ w'.cell? ⟨w.heap.size, 2, none⟩ = some (.int .i64 p.W) ∧ w'.cell? ⟨w.heap.size, 3, none⟩ = some (.int .i64 p.H)) (first | exact KS kk | exact KS (below_drew_ kk) | go_keep)
        (first
          | (go_at_call 27; (with_reducible show Calls Try.prog _ #[.slice none 0 0, .int .i64 p.ride] _ _); refine (put_any p HX.out 0 _ (by decide) rfl none 0 0 _ (CodeR.zero _ _)).mono ?_; rintro e w5 ⟨A1, n1, c1, rfl, q1, hb5⟩; have Q1 := Lib.hid q1; clear q1; first | (have kk := below_next kk (Nat.le_refl _) hb5) | (have kk := below_next (below_drew_ kk) (Nat.le_refl _) hb5))
          | (go_at_call 27; (with_reducible show Calls Try.prog _ #[.slice A1 n1 c1, .int .i64 p.tm] _ _); refine (put_any p HX.out 1 _ (by decide) rfl A1 n1 c1 _ Q1.out).mono ?_; rintro e w6 ⟨A2, n2, c2, rfl, q2, hb6⟩; have Q2 := Lib.hid q2; clear q2; have kk := below_next kk (Nat.le_refl _) hb6)
          | (go_at_call 27; (with_reducible show Calls Try.prog _ #[.slice A2 n2 c2, .int .i64 p.W] _ _); refine (put_any p HX.out 2 _ (by decide) rfl A2 n2 c2 _ Q2.out).mono ?_; rintro e w7 ⟨A3, n3, c3, rfl, q3, hb7⟩; have Q3 := Lib.hid q3; clear q3; have kk := below_next kk (Nat.le_refl _) hb7)
          | (go_at_call 27; (with_reducible show Calls Try.prog _ #[.slice A3 n3 c3, .int .i64 p.H] _ _); refine (put_any p HX.out 3 _ (by decide) rfl A3 n3 c3 _ Q3.out).mono ?_; rintro e w8 ⟨A4, n4, c4, rfl, q4, hb8⟩; have Q4 := Lib.hid q4; clear q4; have kk := below_next kk (Nat.le_refl _) hb8))
      all_goals
        clear KS
        have HOE := Lib.hid (own_empty w8 w8.heap.size w8.heap.size rfl (Nat.le_refl _))
        have HKA := Lib.hid (kk.alloc kk.size (.cells #[] 5))
        have q40 := Q4.out.2.1
        have HRA := Lib.hid (Q4.out.1.below ((Below.refl w8.heap.size w8).alloc (Nat.le_refl _) (.cells #[] 5)))
        have KK := Lib.hid kk
        clear kk HKA
        go_upto_region 8 with (at_builtin; refine wpList_append_any _ rfl (.tmp 42) (.tmp 43) _ rfl w8.heap.size 5 i0 _ 1 1 Try.underlying22 hi0 hz0 hz1 hz2 rfl (by omega) (.slice (some ⟨w8.heap.size, 0, none⟩) 0 0) 0 _ (by rfl) HOE.out _ A4 n4 c4 (cellsU (encTo (nums p) 4)) (by rfl) HRA.out oneU (le_max (by omega)) (by omega) (by simp) ?_; intro v9 w9 hown9 hg9 hat9; rw [← appU, List.nil_append, Nat.zero_add] at hown9; obtain ⟨A9, c9, rfl, hr9⟩ := own_reads hown9; have hb9 : Below w8.heap.size w8 w9 := below_own ((Below.refl w8.heap.size w8).alloc (Nat.le_refl _) (.cells #[] 5)) HOE.out hg9 (by simp) (Nat.le_refl _); have HB9 := Lib.hid hb9; have HO9 := Lib.hid hown9; clear hb9 hown9 hg9 hat9 hr9)
        have KK9 := Lib.hid (below_next KK.out (Nat.le_refl _) HB9.out)
        have d4 := ((HK.out _ KK9.out).1.cell 4).trans rfl
        have HP9 := Lib.hid (HPA.out _ (HK.out _ KK9.out).2)
        go_wp2_with (at_builtin; refine wpList_append_any _ rfl (.tmp 45) (.tmp 47) _ rfl w8.heap.size 5 i0 _ 1 1 Try.underlying22 hi0 hz0 hz1 hz2 rfl (by omega) (.slice A9 n4 c9) n4 _ (by rfl) HO9.out _ p.A p.n p.c (cellsU p.px) (by rfl) HP9.out.1 oneU (le_max (by omega)) (by omega) HB9.out.size ?_; intro v10 w10 hown10 hg10 hat10; rw [← appU] at hown10; obtain ⟨A10, c10, rfl, hr10⟩ := own_reads hown10; have hb10 : Below w8.heap.size w8 w10 := below_own HB9.out HO9.out hg10 HB9.out.size (Nat.le_refl _); have HB10 := Lib.hid hb10; have HO10 := Lib.hid hown10; clear hb10 hown10 hg10 hat10 hr10)
        have HR10 := Lib.hid (Reads.of_own HO10.out)
        refine (sum_any A10 (n4 + p.n) c10 _ 0 0 d _ HR10.out ((encTo_bytes _ _).append HBY.out) (by omega) (own_cap HO10.out) HS.out).mono ?_
        rintro e w11 ⟨rfl, hb11⟩
        have KK11 := Lib.hid (below_next (below_next KK.out (Nat.le_refl _) HB10.out) (Nat.le_refl _) hb11)
        clear hb11
        go_wp2_with fail
        refine (awake_any _).mono ?_
        rintro e w12 ⟨rfl, hb12⟩
        have KK12 := Lib.hid (HK.out _ (below_next KK11.out (Nat.le_refl _) hb12)).2
        clear hb12
        go_wp2_with fail
        go_ret
        exact ⟨rfl, KK12.out⟩
    · have HD0 : Hid (d = 0) := Lib.hid (by rw [← hd]; unfold digZ; rw [if_neg (by rw [hx]; exact h0)])
      have t0 := ne0_t h0
      clear hx hd h0
      have hd0 := HD0.out
      subst hd0
      go_enter Try.func9, Try.ntmps9
      go_wp2_with fail
      have HPS := Lib.hid (one_photo _ (w.heap.size + 1) (by simp) p (HPA.out _ HB.out))
      replace kk := kk.alloc kk.size (.cells #[.int .i64 p.ride, .int .i64 p.tm, .int .i64 p.W, .int .i64 p.H, .slice p.A p.n p.c] 24)
      clear c00 c01 c02 c03 c04 HB
      obtain ⟨B0, hbb⟩ := HK.out _ kk
      have c00 := B0.cell 0
      have c01 := B0.cell 1
      have c02 := B0.cell 2
      have c03 := B0.cell 3
      have c04 := B0.cell 4
      have HB := Lib.hid hbb
      clear B0 hbb
      refine (fewF_any (some ⟨w.heap.size + 1, 0, none⟩) 1 1 [p] 1 true _ HPS.out (by decide) (few_one HF.out)).mono ?_
      rintro e w5 ⟨rfl, hb5⟩
      replace kk := below_next kk (Nat.le_refl _) hb5
      clear c00 c01 c02 c03 c04 HB hb5
      obtain ⟨B0, hbb⟩ := HK.out _ kk
      have c00 := B0.cell 0
      have c01 := B0.cell 1
      have c02 := B0.cell 2
      have c03 := B0.cell 3
      have c04 := B0.cell 4
      have HB := Lib.hid hbb
      clear B0 hbb
      clear HPS
      go_wp2_with fail
      refine (digest_any p 0 x _ (HPA.out _ HB.out) HD.out HX.out).mono ?_
      rintro e w6 ⟨rfl, hb6⟩
      replace kk := below_next kk (Nat.le_refl _) hb6
      clear c00 c01 c02 c03 c04 HB hb6
      obtain ⟨B0, hbb⟩ := HK.out _ kk
      have c00 := B0.cell 0
      have c01 := B0.cell 1
      have c02 := B0.cell 2
      have c03 := B0.cell 3
      have c04 := B0.cell 4
      have HB := Lib.hid hbb
      clear B0 hbb
      go_wp2_with fail
      refine (pcheck_any p x _ HX.out).mono ?_
      rintro e w7 ⟨rfl, hb7⟩
      replace kk := below_next kk (Nat.le_refl _) hb7
      clear c00 c01 c02 c03 c04 HB hb7
      obtain ⟨B0, hbb⟩ := HK.out _ kk
      have c00 := B0.cell 0
      have c01 := B0.cell 1
      have c02 := B0.cell 2
      have c03 := B0.cell 3
      have c04 := B0.cell 4
      have HB := Lib.hid hbb
      clear B0 hbb
      go_wp2_with fail
      refine (awake_any _).mono ?_
      rintro e w8 ⟨rfl, hb8⟩
      replace kk := below_next kk (Nat.le_refl _) hb8
      clear c00 c01 c02 c03 c04 HB hb8
      obtain ⟨B0, hbb⟩ := HK.out _ kk
      have c00 := B0.cell 0
      have c01 := B0.cell 1
      have c02 := B0.cell 2
      have c03 := B0.cell 3
      have c04 := B0.cell 4
      have HB := Lib.hid hbb
      clear B0 hbb
      go_wp2_with fail
      go_ret
      exact ⟨rfl, HB.out⟩
end Go.Proofs.Ytpipojgfpilhdaa
