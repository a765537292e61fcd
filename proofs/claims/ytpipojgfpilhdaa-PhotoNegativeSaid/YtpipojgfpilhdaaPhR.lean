/- The walk of PhotoNegative. -/
import Derived.Test.YtpipojgfpilhdaaPhP
import Derived.Deep.RegionHeld3
import Derived.Deep.CutRange
import Derived.Deep.RegionLaw
namespace Go.Proofs.Ytpipojgfpilhdaa
open Go.RowKit
def negL (px : List Int) (k : Nat) : List Int := (px.take k).map fun b => 255 - b
theorem negL_step {px : List Int} {k : Nat} (h : k < px.length) : negL px (k + 1) = negL px k ++ [255 - uAt px k] := by
  unfold negL; rw [List.take_succ_eq_append_getElem h, List.map_append, uAt_get h]; rfl
theorem negL_at {px : List Int} {i : Nat} (h : i < px.length) : uAt (negL px px.length) i = 255 - uAt px i := by
  unfold negL
  rw [List.take_length, uAt_get (by simpa using h), uAt_get h]; simp
theorem negL_bytes {px : List Int} (h : Bytes px) (k : Nat) : Bytes (negL px k) := by
  intro b hb
  unfold negL at hb
  obtain ⟨a, ha, rfl⟩ := List.mem_map.mp hb
  have := h a (List.mem_of_mem_take ha)
  omega
theorem negL_len {px : List Int} : (negL px px.length).length = px.length := by simp [negL]
theorem sumTo_neg {f g : Nat → Int} {a : Nat} {c : Int} : ∀ {n : Nat}, (∀ i, i < n → g (a + i) = c - f (a + i)) → sumTo g a n = c * n - sumTo f a n
  | 0, _ => by simp [sumTo]
  | n + 1, h => by
    show sumTo g a n + g (a + n) = c * ((n + 1 : Nat) : Int) - (sumTo f a n + f (a + n))
    rw [sumTo_neg fun i hi => h i (by omega), h n (by omega), Int.natCast_add, Int.mul_add]
    omega
theorem cellS_neg {px : List Int} {W H c r : Nat} (hl : px.length = W * H) (hc : c ≤ 8) (hr : r ≤ 7) : cellS (negL px px.length) W H c r = 255 * (cellN W H c r : Int) - cellS px W H c r := by
  have hx := x0_max (W := W) (c := c + 1) (by omega)
  have hy := y0_max (H := H) (r := r + 1) (by omega)
  have row : ∀ y, y < H → pixRow (negL px px.length) W c y = 255 * ((x0 W (c + 1) - x0 W c : Nat) : Int) - pixRow px W c y := fun y hy => by
    unfold pixRow
    refine sumTo_neg (f := fun x => uAt px (y * W + x)) (g := fun x => uAt (negL px px.length) (y * W + x)) fun i hi => ?_
    exact negL_at (by rw [hl]; exact pix_lt (by omega) hy)
  unfold cellS
  rw [sumTo_neg (f := pixRow px W c) (c := 255 * ((x0 W (c + 1) - x0 W c : Nat) : Int)) fun i hi => row _ (by omega)]
  unfold cellN
  rw [Int.natCast_mul]
  congr 1
  rw [Int.mul_assoc, Int.mul_comm ((x0 W (c + 1) - x0 W c : Nat) : Int)]
theorem and_zero {f g : Nat → Bool} (h : ∀ i, i < 64 → ¬ (f i = true ∧ g i = true)) : markTo f 64 &&& markTo g 64 = 0 := by
  apply Nat.eq_of_testBit_eq
  intro i
  rw [Nat.testBit_and, markTo_bit, markTo_bit, Nat.zero_testBit]
  by_cases hi : i < 64
  · have := h i hi
    rcases hf : f i with _ | _ <;> rcases hg : g i with _ | _ <;> simp_all
  · rw [decide_eq_false hi]; rfl
theorem bit_neg {px : List Int} {W H k : Nat} (hl : px.length = W * H) (hk : k < 64) : ¬ (bitM px W H k = true ∧ bitM (negL px px.length) W H k = true) := by
  intro ⟨h1, h2⟩
  have h1 := of_decide_eq_true h1
  have h2 := of_decide_eq_true h2
  rw [cellS_neg hl (by omega) (by omega), cellS_neg hl (by omega) (by omega), Int.sub_mul, Int.sub_mul] at h2
  have e : (255 * (cellN W H (k % 8) (k / 8) : Int)) * (cellN W H (k % 8 + 1) (k / 8) : Int) = (255 * (cellN W H (k % 8 + 1) (k / 8) : Int)) * (cellN W H (k % 8) (k / 8) : Int) := by
    rw [Int.mul_assoc, Int.mul_assoc, Int.mul_comm (cellN W H (k % 8) (k / 8) : Int)]
  omega
/-- The negative. -/
def negP (p : Ph) (A : Option Addr) (n c : Nat) : Ph := ⟨p.ride, p.tm, p.W, p.H, A, n, c, negL p.px p.n⟩
theorem neg_check {p : Ph} {A : Option Addr} {c : Nat} : pcheckZ (negP p A p.n c) = pcheckZ p := rfl
theorem neg_mark {p : Ph} {A : Option Addr} {c : Nat} (hl : p.px.length = p.n) : markN p &&& markN (negP p A p.n c) = 0 := by
  unfold markN
  rw [neg_check]
  split
  · rename_i h
    obtain ⟨W, H, hW, hH, _, _, _, _, hn⟩ := ph_dims h
    refine and_zero fun i hi => ?_
    show ¬ (bitM p.px p.W.toNat p.H.toNat i = true ∧ bitM (negL p.px p.n) p.W.toNat p.H.toNat i = true)
    rw [← hl]
    have e1 : p.W.toNat = W := by omega
    have e2 : p.H.toNat = H := by omega
    rw [e1, e2]
    exact bit_neg (by omega) hi
  · rfl
theorem mx_map : ∀ (l : List Int) (a : Int), (l.map fun b => 255 - b).foldl max a = 255 - l.foldl min (255 - a)
  | [], a => by simp; omega
  | b :: l, a => by
    rw [List.map_cons, List.foldl_cons, List.foldl_cons, mx_map l]
    congr 2; omega
theorem mn_map : ∀ (l : List Int) (a : Int), (l.map fun b => 255 - b).foldl min a = 255 - l.foldl max (255 - a)
  | [], a => by simp; omega
  | b :: l, a => by
    rw [List.map_cons, List.foldl_cons, List.foldl_cons, mn_map l]
    congr 2; omega
theorem neg_usable {p : Ph} {A : Option Addr} {c : Nat} (hl : p.px.length = p.n) : usableB (negP p A p.n c) = usableB p := by
  have e1 : mxU (negL p.px p.n) = 255 - mnU p.px := by unfold mxU mnU negL; rw [← hl, List.take_length]; exact mx_map _ 0
  have e2 : mnU (negL p.px p.n) = 255 - mxU p.px := by unfold mxU mnU negL; rw [← hl, List.take_length]; exact mn_map _ 255
  have e3 : mxU (negP p A p.n c).px - mnU (negP p A p.n c).px = mxU p.px - mnU p.px := by
    show mxU (negL p.px p.n) - mnU (negL p.px p.n) = _
    rw [e1, e2]; omega
  unfold usableB
  rw [neg_check, e3]
theorem and_u64 {a b : Nat} (ha : a < 18446744073709551616) (hb : b < 18446744073709551616) (h : a &&& b = 0) : bits .and .u64 (a : Int) (b : Int) = 0 := by
  rw [bits_and_u64_nat a b ha hb, h]; rfl
set_option maxHeartbeats 8000000 in
set_option maxRecDepth 20000 in
theorem photoNegative_walk (p : Ph) (w : World) (h : PR w p) : Calls Try.prog 7 #[aggF p] w (AwakePost w) := by
  have HPA : Hid (∀ u, Below w.heap.size w u → PR u p) := Lib.hid fun u hu => h.below hu
  have HBY := Lib.hid h.2.1
  have HLN := Lib.hid h.len
  obtain ⟨f, hf⟩ : ∃ f, decide (p.n ≤ 5000) = f := ⟨_, rfl⟩
  have HF := Lib.hid hf
  clear hf h
  obtain ⟨kk, hK⟩ := box1K w 24 #[.int .i64 p.ride, .int .i64 p.tm, .int .i64 p.W, .int .i64 p.H, .slice p.A p.n p.c]
  have HK := Lib.hid hK
  clear hK
  obtain ⟨B0, hbb⟩ := HK.out _ kk
  have c00 := B0.cell 0
  have c01 := B0.cell 1
  have c02 := B0.cell 2
  have c03 := B0.cell 3
  have c04 := B0.cell 4
  have HB := Lib.hid hbb
  clear B0 hbb
  rcases f with _ | _
  · go_enter Try.func7, Try.ntmps7
    go_wp2_with fail
    have HPS := Lib.hid (one_photo _ (w.heap.size + 1) (by simp) p (HPA.out _ HB.out))
    replace kk := kk.alloc kk.size (.cells #[.int .i64 p.ride, .int .i64 p.tm, .int .i64 p.W, .int .i64 p.H, .slice p.A p.n p.c] 24)
    clear c00 c01 c02 c03 c04 HB
    obtain ⟨B0, hbb⟩ := HK.out _ kk
    have c00 := B0.cell 0
    have c01 := B0.cell 1
    have c02 := B0.cell 2
    have c03 := B0.cell 3
    have c04 := B0.cell 4
    have HB := Lib.hid hbb
    clear B0 hbb
    refine (fewF_any (some ⟨w.heap.size + 1, 0, none⟩) 1 1 [p] 1 false _ HPS.out (by decide) (few_one HF.out)).mono ?_
    rintro e w1 ⟨rfl, hb1⟩
    replace kk := below_next kk (Nat.le_refl _) hb1
    clear c00 c01 c02 c03 c04 HB hb1
    obtain ⟨B0, hbb⟩ := HK.out _ kk
    have c00 := B0.cell 0
    have c01 := B0.cell 1
    have c02 := B0.cell 2
    have c03 := B0.cell 3
    have c04 := B0.cell 4
    have HB := Lib.hid hbb
    clear B0 hbb
    go_wp2_with fail
    refine (awake_any _).mono ?_
    rintro e w2 ⟨rfl, hb2⟩
    replace kk := below_next kk (Nat.le_refl _) hb2
    clear c00 c01 c02 c03 c04 HB hb2
    obtain ⟨B0, hbb⟩ := HK.out _ kk
    have c00 := B0.cell 0
    have c01 := B0.cell 1
    have c02 := B0.cell 2
    have c03 := B0.cell 3
    have c04 := B0.cell 4
    have HB := Lib.hid hbb
    clear B0 hbb
    go_wp2_with fail
    go_ret
    exact ⟨rfl, HB.out⟩
  · have hn5 : p.n ≤ 5000 := of_decide_eq_true HF.out
    obtain ⟨i0, hi0, hz0, hz1, hz2⟩ := info_parts infoByte
    go_enter Try.func7, Try.ntmps7
    go_wp2_with fail
    have HPS := Lib.hid (one_photo _ (w.heap.size + 1) (by simp) p (HPA.out _ HB.out))
    replace kk := kk.alloc kk.size (.cells #[.int .i64 p.ride, .int .i64 p.tm, .int .i64 p.W, .int .i64 p.H, .slice p.A p.n p.c] 24)
    clear c00 c01 c02 c03 c04 HB
    obtain ⟨B0, hbb⟩ := HK.out _ kk
    have c00 := B0.cell 0
    have c01 := B0.cell 1
    have c02 := B0.cell 2
    have c03 := B0.cell 3
    have c04 := B0.cell 4
    have HB := Lib.hid hbb
    clear B0 hbb
    refine (fewF_any (some ⟨w.heap.size + 1, 0, none⟩) 1 1 [p] 1 true _ HPS.out (by decide) (few_one HF.out)).mono ?_
    rintro e w3 ⟨rfl, hb3⟩
    replace kk := below_next kk (Nat.le_refl _) hb3
    clear c00 c01 c02 c03 c04 HB hb3
    obtain ⟨B0, hbb⟩ := HK.out _ kk
    have c00 := B0.cell 0
    have c01 := B0.cell 1
    have c02 := B0.cell 2
    have c03 := B0.cell 3
    have c04 := B0.cell 4
    have HB := Lib.hid hbb
    clear B0 hbb
    clear HPS
    go_wp2_with fail
    obtain ⟨v1, hv1⟩ : ∃ v, w3.alloc (.cells #[.int .i64 p.ride, .int .i64 p.tm, .int .i64 p.W, .int .i64 p.H, .slice none 0 0] 24) = v := ⟨_, rfl⟩
    obtain ⟨g, hg⟩ : ∃ g, w3.heap.size = g := ⟨_, rfl⟩
    have KV := Lib.hid (kk.alloc kk.size (.cells #[.int .i64 p.ride, .int .i64 p.tm, .int .i64 p.W, .int .i64 p.H, .slice none 0 0] 24))
    have hVg := Nat.le_trans kk.size (Nat.le_of_eq hg)
    have HG0 : Hid (Grow v1 v1 v1.heap.size g p.ride p.tm p.W p.H none 0 0 (negL p.px 0)) := Lib.hid (by
      refine ⟨?_, World.ownsRow_nil _ _ _ _, ?_, Only.refl _ _, Nat.le_refl _⟩
      · rw [← hv1, ← hg]; exact Blk.new _ _ _
      · rw [← hv1, ← hg]; simp)
    rw [hv1] at KV ⊢
    rw [hg]
    clear hv1 hg kk HB c00 c01 c02 c03 c04
    go_loopw [4] (fun s4 wr => ∃ (k c : Nat) (A : Option Addr), k ≤ p.n ∧ s4 = .int .i64 k ∧ Hid (Grow v1 wr v1.heap.size g p.ride p.tm p.W p.H A k c (negL p.px k))) (fun s _ => p.n - (intOf s).toNat)
    case atStart => exact ⟨0, 0, none, Nat.zero_le _, rfl, HG0⟩
    case round =>
      obtain ⟨wo, rfl⟩ : ∃ wo : World, wo = wr := ⟨_, rfl⟩
      obtain ⟨k, c, A, hk, rfl, HG⟩ := hrel
      have KW := Lib.hid (KV.out.trans (HG.out.old hVg KV.out.size))
      obtain ⟨B0, hbw⟩ := HK.out _ KW.out
      have c04 := (B0.cell 4).trans rfl
      have HP := Lib.hid (HPA.out _ hbw)
      by_cases hlt : k < p.n
      · clear B0 hbw
        have g4 := (HG.out.blk.cell 4).trans rfl
        have zg := HG.out.blk.frozen 4
        have hglt := HG.out.blk.lt
        have hk0 : (0 : Int) ≤ k := by omega
        have hk1 : (k : Int) < p.n := by omega
        obtain ⟨b, off, e, _, hc⟩ := u_cells HP.out.1 (by omega)
        rw [e] at c04
        have d0 := hc k hlt
        have hby := HBY.out.at_ k
        have HC0 := Lib.hid (negL_step (px := p.px) (k := k) (by have := HLN.out; omega))
        obtain ⟨x, hx⟩ : ∃ x, uAt p.px k = x := ⟨_, rfl⟩
        rw [hx] at d0 hby HC0
        obtain ⟨y, hy⟩ : ∃ y, 255 - x = y := ⟨_, rfl⟩
        rw [hy] at HC0
        have r1 : IntKind.u8.wrap (255 - x) = y := by rw [IntKind.wrap_u8]; omega
        have r2 : (255 - x) % 256 = y := by omega
        have HGD := Lib.hid HG.out.drew
        have HNR := Lib.hid (fr1U wo.drew y)
        clear hc hx hy e hby
        go_upto_region 8 with fail
        go_region_law ((refine step_append_any _ rfl (.tmp 24) (.tmp 31) _ (by rfl) v1.heap.size 5 i0 _ 1 1 Try.underlying22 hi0 hz0 hz1 hz2 rfl (by omega) (.slice A k c) k _ (by rfl) (HGD.out.own.alloc _) (wo.heap.size + 1) (some ⟨wo.heap.size, 0, none⟩) 1 1 [.int .u8 y] (by rfl) HNR.out oneU1 (le_max (by omega)) (by omega) (Nat.le_trans HG.out.size (by simp)) ?_; intro v7 w7 hown7 hg7 hat7; obtain ⟨A7, c7, rfl, hr7⟩ := own_reads hown7; have HN := Lib.hid (HGD.out.push ((Below.refl wo.drew.heap.size wo.drew).alloc (Nat.le_refl _) _) hown7 hg7); have hB7 := (HGD.out.blk.below ((Below.refl wo.drew.heap.size wo.drew).alloc (Nat.le_refl _) _) hglt).grown hg7 (fun e => HGD.out.ne _ e.symm rfl); have g7 := (hB7.cell 4).trans rfl; have z7 := hB7.frozen 4; clear hown7 hg7 hat7 hr7 hB7))
        all_goals
          rw [← HC0.out] at HN
          go_wp2_with fail
          go_roundw
          case rel => exact ⟨k + 1, c7, A7, by omega, by go_num, HN⟩
          case measure => simp [intOf]; omega
      · obtain rfl : k = p.n := by omega
        obtain ⟨Q, hQ⟩ : ∃ Q, negP p A p.n c = Q := ⟨_, rfl⟩
        obtain ⟨m1, hm1⟩ : ∃ m, markN p = m := ⟨_, rfl⟩
        obtain ⟨m2, hm2⟩ : ∃ m, markN (negP p A p.n c) = m := ⟨_, rfl⟩
        obtain ⟨x, hx⟩ : ∃ x, pcheckZ p = x := ⟨_, rfl⟩
        obtain ⟨u, hu⟩ : ∃ u, usableB p = u := ⟨_, rfl⟩
        have hx2 : pcheckZ (negP p A p.n c) = x := hx
        have hu2 : usableB (negP p A p.n c) = u := (neg_usable HLN.out).trans hu
        have f1 : bits .and .u64 (m1 : Int) (m2 : Int) = 0 := and_u64 (by rw [← hm1]; exact markN_lt _) (by rw [← hm2]; exact markN_lt _) (by rw [← hm1, ← hm2]; exact neg_mark HLN.out)
        have HM1 := Lib.hid hm1; have HM2 := Lib.hid hm2; have HX := Lib.hid hx; have HX2 := Lib.hid hx2; have HU := Lib.hid hu; have HU2 := Lib.hid hu2
        have HQR : Hid (PR wo (negP p A p.n c)) := Lib.hid ⟨Reads.of_own HG.out.own, negL_bytes HBY.out _, by show p.n ≤ _; omega⟩
        have c00 := (B0.cell 0).trans rfl; have c01 := (B0.cell 1).trans rfl; have c02 := (B0.cell 2).trans rfl; have c03 := (B0.cell 3).trans rfl
        clear hQ hm1 hm2 hx hu hx2 hu2 B0 hbw hlt
        go_wp2_with fail
        refine (mark_any p m1 x _ HP.out HM1.out HX.out).mono ?_
        rintro e w5 ⟨rfl, hb5⟩
        have KK5 := Lib.hid (below_next KW.out (Nat.le_refl _) hb5)
        have HG5 := Lib.hid (HG.out.next hb5)
        have HQ5 := Lib.hid (HQR.out.below hb5)
        have g0 := (HG5.out.blk.cell 0).trans rfl; have g1 := (HG5.out.blk.cell 1).trans rfl; have g2 := (HG5.out.blk.cell 2).trans rfl; have g3 := (HG5.out.blk.cell 3).trans rfl; have g4 := (HG5.out.blk.cell 4).trans rfl
        clear c00 c01 c02 c03 c04 hb5
        go_wp2_with fail
        refine (mark_any (negP p A p.n c) m2 x _ HQ5.out HM2.out HX2.out).mono ?_
        rintro e w6 ⟨rfl, hb6⟩
        have KK6 := Lib.hid (below_next KK5.out (Nat.le_refl _) hb6)
        have HG6 := Lib.hid (HG5.out.next hb6)
        have HQ6 := Lib.hid (HQ5.out.below hb6)
        obtain ⟨B6, hbw6⟩ := HK.out _ KK6.out
        have HP6 := Lib.hid (HPA.out _ hbw6)
        have F0 : ∀ z : Fam w6, z.val.cell? ⟨w.heap.size, 0, none⟩ = some (.int .i64 p.ride) := fun z => z.some_ ((B6.cell 0).trans rfl)
        have F1 : ∀ z : Fam w6, z.val.cell? ⟨w.heap.size, 1, none⟩ = some (.int .i64 p.tm) := fun z => z.some_ ((B6.cell 1).trans rfl)
        have F2 : ∀ z : Fam w6, z.val.cell? ⟨w.heap.size, 2, none⟩ = some (.int .i64 p.W) := fun z => z.some_ ((B6.cell 2).trans rfl)
        have F3 : ∀ z : Fam w6, z.val.cell? ⟨w.heap.size, 3, none⟩ = some (.int .i64 p.H) := fun z => z.some_ ((B6.cell 3).trans rfl)
        have F4 : ∀ z : Fam w6, z.val.cell? ⟨w.heap.size, 4, none⟩ = some (.slice p.A p.n p.c) := fun z => z.some_ ((B6.cell 4).trans rfl)
        have G0 : ∀ z : Fam w6, z.val.cell? ⟨g, 0, none⟩ = some (.int .i64 p.ride) := fun z => z.some_ ((HG6.out.blk.cell 0).trans rfl)
        have G1 : ∀ z : Fam w6, z.val.cell? ⟨g, 1, none⟩ = some (.int .i64 p.tm) := fun z => z.some_ ((HG6.out.blk.cell 1).trans rfl)
        have G2 : ∀ z : Fam w6, z.val.cell? ⟨g, 2, none⟩ = some (.int .i64 p.W) := fun z => z.some_ ((HG6.out.blk.cell 2).trans rfl)
        have G3 : ∀ z : Fam w6, z.val.cell? ⟨g, 3, none⟩ = some (.int .i64 p.H) := fun z => z.some_ ((HG6.out.blk.cell 3).trans rfl)
        have G4 : ∀ z : Fam w6, z.val.cell? ⟨g, 4, none⟩ = some (.slice A p.n c) := fun z => z.some_ ((HG6.out.blk.cell 4).trans rfl)
        clear g0 g1 g2 g3 g4 hb6 B6
        go_wp2_with fail
        refine wp_region_fam (by kernel_rfl) (by kernel_rfl) ?_
        repeat (go_big_quiet_step ((first | (go_at_call 17; (with_reducible show Calls Try.prog _ #[.agg #[_, _, _, _, .slice p.A _ _]] _ _); exact fam_call (usable_any p u _ (HP6.out.below (Fam.prop _)) HU.out)) | (go_at_call 17; exact fam_call (usable_any (negP p A p.n c) u _ (HQ6.out.below (Fam.prop _)) HU2.out)) | (go_at_call 12; exact fam_call (awake_any _)))))
        refine wpQuiet_nil ?_
        rintro _ ⟨z1, rfl⟩
        have KK7 := Lib.hid (HK.out _ (below_next KK6.out (Nat.le_refl _) z1.prop)).2
        clear F0 F1 F2 F3 F4 G0 G1 G2 G3 G4
        go_wp2_with fail
        go_ret
        exact ⟨rfl, KK7.out⟩
end Go.Proofs.Ytpipojgfpilhdaa
