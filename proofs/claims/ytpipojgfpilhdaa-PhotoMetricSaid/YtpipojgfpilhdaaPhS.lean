/- The walk of PhotoLarge. -/
import Derived.Test.YtpipojgfpilhdaaPhSPure
import Derived.Deep.RegionHeld3
import Derived.Deep.CutRange
import Derived.Deep.RegionLaw
import Derived.Test.YtpipojgfpilhdaaMix
namespace Go.Proofs.Ytpipojgfpilhdaa
open Go.RowKit
theorem larL_len {px : List Int} {W k : Nat} : (larL px W k).length = k := by unfold larL; simp
theorem uAt_bytes {px : List Int} (h : Bytes px) (i : Nat) : 0 ≤ uAt px i ∧ uAt px i ≤ 255 := h.at_ i
theorem larL_bytes {px : List Int} (h : Bytes px) (W k : Nat) : Bytes (larL px W k) := by
  intro b hb
  unfold larL at hb
  obtain ⟨i, _, rfl⟩ := List.mem_map.mp hb
  exact h.at_ _
/-- The enlarged photo. -/
def larP (ride tm : Int) (px : List Int) (W H : Nat) (A : Option Addr) (c : Nat) : Ph := ⟨ride, tm, (2 * W : Nat), (2 * H : Nat), A, 2 * W * (2 * H), c, larL px W (2 * W * (2 * H))⟩
theorem lar_check {ride tm : Int} {px : List Int} {W H : Nat} {A A' : Option Addr} {n c c' : Nat} (h : pcheckZ ⟨ride, tm, W, H, A', n, c', px⟩ = 0) (hW : W ≤ 32) (hH : H ≤ 32) : pcheckZ (larP ride tm px W H A c) = 0 := by
  obtain ⟨h1, h2, h3, h4, h5, h6, h7, h8, h9⟩ := pcheck_inv h
  have h5' : (9 : Int) ≤ (W : Int) := h5
  have h7' : (9 : Int) ≤ (H : Int) := h7
  unfold pcheckZ larP
  rw [if_neg, if_neg]
  · show ¬ (((2 * W * (2 * H) : Nat)) : Int) ≠ ((2 * W : Nat) : Int) * ((2 * H : Nat) : Int)
    rw [Int.natCast_mul]; simp
  · show ¬ (ride < 1 ∨ 1000000 < ride ∨ tm < 0 ∨ 4294943999 < tm ∨ ((2 * W : Nat) : Int) < 9 ∨ 64 < ((2 * W : Nat) : Int) ∨ ((2 * H : Nat) : Int) < 9 ∨ 64 < ((2 * H : Nat) : Int))
    have h1' : 1 ≤ ride := h1
    have h2' : ride ≤ 1000000 := h2
    have h3' : 0 ≤ tm := h3
    have h4' : tm ≤ 4294943999 := h4
    omega
theorem lar_mark {ride tm : Int} {px : List Int} {W H : Nat} {A A' : Option Addr} {n c c' : Nat} (h : pcheckZ ⟨ride, tm, W, H, A', n, c', px⟩ = 0) (hW : W ≤ 32) (hH : H ≤ 32) (h9 : W % 9 = 0) (h8 : H % 8 = 0) : markN (larP ride tm px W H A c) = markN ⟨ride, tm, W, H, A', n, c', px⟩ := by
  unfold markN
  rw [if_pos (lar_check h hW hH), if_pos h]
  refine markTo_congr fun i hi => ?_
  show bitM (larL px W (2 * W * (2 * H))) ((2 * W : Nat) : Int).toNat ((2 * H : Nat) : Int).toNat i = bitM px ((W : Int)).toNat ((H : Int)).toNat i
  rw [Int.toNat_natCast, Int.toNat_natCast, Int.toNat_natCast, Int.toNat_natCast]
  exact bit_two h9 h8 hi
theorem lar_ix {W H k : Nat} (hW : 0 < W) (hk : k < 2 * W * (2 * H)) : k / (2 * W) / 2 * W + k % (2 * W) / 2 < W * H := by
  have h1 : k / (2 * W) < 2 * H := Nat.div_lt_of_lt_mul hk
  have h2 : k % (2 * W) < 2 * W := Nat.mod_lt _ (by omega)
  exact pix_lt (by omega) (by omega)
theorem wrap_i64 {n : Int} (h0 : 0 ≤ n) (h1 : n < 100000) : IntKind.i64.wrap n = n := by rw [IntKind.wrap_i64]; omega
set_option maxHeartbeats 8000000 in
set_option maxRecDepth 20000 in
theorem large_main (ride tm : Int) (W H : Nat) (A0 : Option Addr) (n0 c0 : Nat) (px : List Int) (w : World) (h : PR w ⟨ride, tm, W, H, A0, n0, c0, px⟩) (hf : decide (n0 ≤ 5000) = true) (hx : pcheckZ ⟨ride, tm, W, H, A0, n0, c0, px⟩ = 0) (hW : W ≤ 32) (hH : H ≤ 32) (h9 : W % 9 = 0) (h8 : H % 8 = 0) : Calls Try.prog 8 #[aggF ⟨ride, tm, W, H, A0, n0, c0, px⟩] w (AwakePost w) := by
  have HPA : Hid (∀ u, Below w.heap.size w u → PR u ⟨ride, tm, W, H, A0, n0, c0, px⟩) := Lib.hid fun u hu => h.below hu
  have HBY : Hid (Bytes px) := Lib.hid h.2.1
  have HLN : Hid (px.length = n0) := Lib.hid h.len
  have HF := Lib.hid hf
  have HX := Lib.hid hx
  have HBB : Hid (∀ b off, 0 < n0 → A0 = some ⟨b, off, none⟩ → b < w.heap.size) := Lib.hid fun b off h0 e => by
    obtain ⟨b0, off0, e0, hb0, _⟩ := u_cells h.1 h0
    have e0 : A0 = some ⟨b0, off0, none⟩ := e0
    rw [e] at e0
    injection e0 with e0
    injection e0 with e0
    omega
  have HXL : Hid (∀ A c, pcheckZ (larP ride tm px W H A c) = 0) := Lib.hid fun A c => lar_check hx hW hH
  have HML : Hid (∀ A c, markN (larP ride tm px W H A c) = markN ⟨ride, tm, W, H, A0, n0, c0, px⟩) := Lib.hid fun A c => lar_mark hx hW hH h9 h8
  obtain ⟨hW9, hH9, hn⟩ : 9 ≤ W ∧ 9 ≤ H ∧ n0 = W * H := by
    obtain ⟨W', H', e1, e2, h1, _, h2, _, h3⟩ := ph_dims hx
    have e1 : (W : Int) = W' := e1
    have e2 : (H : Int) = H' := e2
    obtain rfl : W = W' := by omega
    obtain rfl : H = H' := by omega
    exact ⟨h1, h2, h3⟩
  have r1 : (W : Int).tmod 9 = 0 := by rw [Int.tmod_eq_emod_of_nonneg (by omega)]; omega
  have r2 : (H : Int).tmod 8 = 0 := by rw [Int.tmod_eq_emod_of_nonneg (by omega)]; omega
  have hWi : (W : Int) ≤ 32 := by omega
  have hHi : (H : Int) ≤ 32 := by omega
  have hW9i : (9 : Int) ≤ W := by omega
  have hH9i : (9 : Int) ≤ H := by omega
  have HN0 := Lib.hid hn
  clear h hf hx h9 h8 hn
  obtain ⟨kk, hK⟩ := box1K w 24 #[.int .i64 ride, .int .i64 tm, .int .i64 (W : Int), .int .i64 (H : Int), .slice A0 n0 c0]
  have HK := Lib.hid hK
  clear hK
  obtain ⟨B0, hbb⟩ := HK.out _ kk
  have c00 := B0.cell 0
  have c01 := B0.cell 1
  have c02 := B0.cell 2
  have c03 := B0.cell 3
  have c04 := B0.cell 4
  have HB := Lib.hid hbb
  clear B0 hbb
  obtain ⟨i0, hi0, hz0, hz1, hz2⟩ := info_parts infoByte
  go_enter Try.func8, Try.ntmps8
  go_wp2_with fail
  have HPS := Lib.hid (one_photo _ (w.heap.size + 1) (by simp) ⟨ride, tm, W, H, A0, n0, c0, px⟩ (HPA.out _ HB.out))
  replace kk := kk.alloc kk.size (.cells #[.int .i64 ride, .int .i64 tm, .int .i64 W, .int .i64 H, .slice A0 n0 c0] 24)
  clear c00 c01 c02 c03 c04 HB
  obtain ⟨B0, hbb⟩ := HK.out _ kk
  have c00 := B0.cell 0
  have c01 := B0.cell 1
  have c02 := B0.cell 2
  have c03 := B0.cell 3
  have c04 := B0.cell 4
  have HB := Lib.hid hbb
  clear B0 hbb
  refine (fewF_any (some ⟨w.heap.size + 1, 0, none⟩) 1 1 [⟨ride, tm, W, H, A0, n0, c0, px⟩] 1 true _ HPS.out (by decide) (few_one HF.out)).mono ?_
  rintro e w1 ⟨rfl, hb1⟩
  replace kk := below_next kk (Nat.le_refl _) hb1
  clear c00 c01 c02 c03 c04 HB hb1
  obtain ⟨B0, hbb⟩ := HK.out _ kk
  have c00 := B0.cell 0
  have c01 := B0.cell 1
  have c02 := B0.cell 2
  have c03 := B0.cell 3
  have c04 := B0.cell 4
  have HB := Lib.hid hbb
  clear B0 hbb
  clear HPS
  go_wp2_with fail
  refine (pcheck_any ⟨ride, tm, W, H, A0, n0, c0, px⟩ 0 _ HX.out).mono ?_
  rintro e w2 ⟨rfl, hb2⟩
  replace kk := below_next kk (Nat.le_refl _) hb2
  clear c00 c01 c02 c03 c04 HB hb2
  obtain ⟨B0, hbb⟩ := HK.out _ kk
  have c00 := B0.cell 0
  have c01 := B0.cell 1
  have c02 := B0.cell 2
  have c03 := B0.cell 3
  have c04 := B0.cell 4
  have HB := Lib.hid hbb
  clear B0 hbb
  have hs2 : w.heap.size < w2.heap.size := by have := kk.size; simp at this; omega
  go_wp2_with fail
  obtain ⟨W2, hW2⟩ : ∃ W2, 2 * W = W2 := ⟨_, rfl⟩
  obtain ⟨H2, hH2⟩ : ∃ H2, 2 * H = H2 := ⟨_, rfl⟩
  have eW : 2 * (W : Int) = (W2 : Int) := by omega
  have eH : 2 * (H : Int) = (H2 : Int) := by omega
  obtain ⟨N, hN⟩ : ∃ N, W2 * H2 = N := ⟨_, rfl⟩
  have eN : (W2 : Int) * (H2 : Int) = (N : Int) := by rw [← Int.natCast_mul, hN]
  have hN4 : N ≤ 4096 := by rw [← hN]; exact Nat.mul_le_mul (show W2 ≤ 64 by omega) (show H2 ≤ 64 by omega)
  have hW2p : 0 < W2 := by omega
  have HIX : Hid (∀ k, k < N → k / W2 / 2 * W + k % W2 / 2 < n0) := Lib.hid fun k hk => by
    rw [HN0.out, ← hW2]
    exact lar_ix (by omega) (by rw [hW2, hH2, hN]; exact hk)
  have HST : Hid (∀ k, larL px W (k + 1) = larL px W k ++ [uAt px (k / W2 / 2 * W + k % W2 / 2)]) := Lib.hid fun k => by rw [← hW2]; exact larL_step _ _ _
  have HPX : Hid (∀ A c, larP ride tm px W H A c = ⟨ride, tm, W2, H2, A, N, c, larL px W N⟩) := Lib.hid fun A c => by unfold larP; rw [hW2, hH2, hN]
  have HN1 := Lib.hid hN
  rw [eW, eH]
  obtain ⟨v1, hv1⟩ : ∃ v, w2.alloc (.cells #[.int .i64 ride, .int .i64 tm, .int .i64 (W2 : Int), .int .i64 (H2 : Int), .slice none 0 0] 24) = v := ⟨_, rfl⟩
  obtain ⟨g, hg⟩ : ∃ g, w2.heap.size = g := ⟨_, rfl⟩
  have KV := Lib.hid (kk.alloc kk.size (.cells #[.int .i64 ride, .int .i64 tm, .int .i64 (W2 : Int), .int .i64 (H2 : Int), .slice none 0 0] 24))
  have hVg := Nat.le_trans kk.size (Nat.le_of_eq hg)
  have HG0 : Hid (Grow v1 v1 v1.heap.size g ride tm W2 H2 none 0 0 (larL px W 0)) := Lib.hid (by
    refine ⟨?_, World.ownsRow_nil _ _ _ _, ?_, Only.refl _ _, Nat.le_refl _⟩
    · rw [← hv1, ← hg]; exact Blk.new _ _ _
    · rw [← hv1, ← hg]; simp)
  have HVV : Hid (w.heap.size < v1.heap.size) := Lib.hid (by rw [← hv1]; simp; omega)
  rw [hv1] at KV ⊢
  rw [hg]
  clear hv1 hg kk HB c00 c01 c02 c03 c04 hN eW eH hs2 hW2 hH2
  go_loopw [4] (fun s4 wr => ∃ (k c : Nat) (A : Option Addr), k ≤ N ∧ s4 = .int .i64 k ∧ Hid (Grow v1 wr v1.heap.size g ride tm W2 H2 A k c (larL px W k))) (fun s _ => N - (intOf s).toNat)
  case atStart => exact ⟨0, 0, none, Nat.zero_le _, rfl, HG0⟩
  case round =>
    obtain ⟨wo, rfl⟩ : ∃ wo : World, wo = wr := ⟨_, rfl⟩
    obtain ⟨k, c, A, hk, rfl, HG⟩ := hrel
    have KW := Lib.hid (KV.out.trans (HG.out.old hVg KV.out.size))
    obtain ⟨B0, hbw⟩ := HK.out _ KW.out
    have HP := Lib.hid (HPA.out _ hbw)
    have g2 := (HG.out.blk.cell 2).trans rfl
    have g3 := (HG.out.blk.cell 3).trans rfl
    by_cases hlt : k < N
    · have c02 := (B0.cell 2).trans rfl
      have c04 := (B0.cell 4).trans rfl
      have HBp := Lib.hid B0
      clear B0 hbw
      have g4 := (HG.out.blk.cell 4).trans rfl
      have zg := HG.out.blk.frozen 4
      have hglt := HG.out.blk.lt
      have hk0 : (0 : Int) ≤ k := by omega
      have hk1 : (k : Int) < N := by omega
      obtain ⟨ix, hix⟩ : ∃ ix, k / W2 / 2 * W + k % W2 / 2 = ix := ⟨_, rfl⟩
      have hixn : ix < n0 := by rw [← hix]; exact HIX.out k hlt
      obtain ⟨b, off, e', _, hc⟩ := u_cells HP.out.1 (show 0 < n0 by omega)
      have e : A0 = some ⟨b, off, none⟩ := e'
      have hbb := HBB.out b off (by omega) e
      rw [e] at c04 HBp
      have d0 := hc ix hixn
      have hby := HBY.out.at_ ix
      have HC0 := Lib.hid (HST.out k)
      rw [hix] at HC0
      obtain ⟨y, hy⟩ : ∃ y, uAt px ix = y := ⟨_, rfl⟩
      have d0 : wo.cell? ⟨b, off + ix, none⟩ = some (.int .u8 y) := by rw [← hy]; exact d0
      rw [hy] at hby HC0
      obtain ⟨q1, hq1⟩ : ∃ q, k / W2 = q := ⟨_, rfl⟩
      obtain ⟨q2, hq2⟩ : ∃ q, q1 / 2 = q := ⟨_, rfl⟩
      obtain ⟨m1, hm1⟩ : ∃ q, q2 * W = q := ⟨_, rfl⟩
      obtain ⟨e1, he1⟩ : ∃ q, k % W2 = q := ⟨_, rfl⟩
      obtain ⟨e2, he2⟩ : ∃ q, e1 / 2 = q := ⟨_, rfl⟩
      have f1 : (k : Int).tdiv (W2 : Int) = (q1 : Int) := by rw [Int.tdiv_eq_ediv_of_nonneg (by omega), ← hq1]; rfl
      have f2 : (q1 : Int).tdiv 2 = (q2 : Int) := by rw [Int.tdiv_eq_ediv_of_nonneg (by omega)]; omega
      have f3 : (q2 : Int) * (W : Int) = (m1 : Int) := by rw [← Int.natCast_mul, hm1]
      have f4 : (k : Int).tmod (W2 : Int) = (e1 : Int) := by rw [Int.tmod_eq_emod_of_nonneg (by omega), ← he1]; rfl
      have f5 : (e1 : Int).tdiv 2 = (e2 : Int) := by rw [Int.tdiv_eq_ediv_of_nonneg (by omega)]; omega
      have f6 : (m1 : Int) + (e2 : Int) = (ix : Int) := by rw [← hix, hq1, hq2, hm1, he1, he2]; omega
      have hixi : (ix : Int) < n0 := by omega
      have hix0 : (0 : Int) ≤ ix := by omega
      have hW2n : W2 ≠ 0 := by omega
      have b1 : q1 ≤ k := by rw [← hq1]; exact Nat.div_le_self _ _
      have b2 : q2 ≤ q1 := by omega
      have b3 : e1 ≤ k := by rw [← he1]; exact Nat.mod_le _ _
      have b4 : m1 ≤ ix ∧ e2 ≤ ix := by rw [hq1, hq2, hm1, he1, he2] at hix; omega
      have b5 : n0 ≤ 1024 := by rw [HN0.out]; exact Nat.mul_le_mul hW hH
      have w1 : IntKind.i64.wrap (q1 : Int) = q1 := wrap_i64 (by omega) (by omega)
      have w2 : IntKind.i64.wrap (q2 : Int) = q2 := wrap_i64 (by omega) (by omega)
      have w3 : IntKind.i64.wrap (m1 : Int) = m1 := wrap_i64 (by omega) (by omega)
      have w4 : IntKind.i64.wrap (e1 : Int) = e1 := wrap_i64 (by omega) (by omega)
      have w5 : IntKind.i64.wrap (e2 : Int) = e2 := wrap_i64 (by omega) (by omega)
      have w6 : IntKind.i64.wrap (ix : Int) = ix := wrap_i64 (by omega) (by omega)
      clear b1 b2 b3 b4 b5
      have hHX := Lib.hid hix
      clear hix hq1 hq2 hm1 he1 he2 hy e e' hc hixn
      have HGD := Lib.hid HG.out.drew
      have HNR := Lib.hid (fr1U wo.drew y)
      go_upto_region 10 with fail
      obtain ⟨D, hD0, hDi, F2, F4, G2, G4, FP⟩ : ∃ D : World → Prop, D wo.drew ∧ (∀ u, Blk u w.heap.size 24 #[.int .i64 ride, .int .i64 tm, .int .i64 W, .int .i64 H, .slice (some ⟨b, off, none⟩) n0 c0] → Blk u g 24 #[.int .i64 ride, .int .i64 tm, .int .i64 W2, .int .i64 H2, .slice A k c] → u.cell? ⟨b, off + ix, none⟩ = some (.int .u8 y) → D u) ∧
          (∀ z : DFam D, z.val.cell? ⟨w.heap.size, 2, none⟩ = some (.int .i64 W)) ∧ (∀ z : DFam D, z.val.cell? ⟨w.heap.size, 4, none⟩ = some (.slice (some ⟨b, off, none⟩) n0 c0)) ∧ (∀ z : DFam D, z.val.cell? ⟨g, 2, none⟩ = some (.int .i64 W2)) ∧ (∀ z : DFam D, z.val.cell? ⟨g, 4, none⟩ = some (.slice A k c)) ∧ (∀ z : DFam D, z.val.cell? ⟨b, off + ix, none⟩ = some (.int .u8 y)) :=
        ⟨fun u => Blk u w.heap.size 24 #[.int .i64 ride, .int .i64 tm, .int .i64 W, .int .i64 H, .slice (some ⟨b, off, none⟩) n0 c0] ∧ Blk u g 24 #[.int .i64 ride, .int .i64 tm, .int .i64 W2, .int .i64 H2, .slice A k c] ∧ u.cell? ⟨b, off + ix, none⟩ = some (.int .u8 y),
          ⟨HBp.out.drew, HG.out.blk.drew, d0⟩, fun u h1 h2 h3 => ⟨h1, h2, h3⟩, fun z => (z.prop.1.cell 2).trans rfl, fun z => (z.prop.1.cell 4).trans rfl, fun z => (z.prop.2.1.cell 2).trans rfl, fun z => (z.prop.2.1.cell 4).trans rfl, fun z => z.prop.2.2⟩
      haveI : Nonempty (DFam D) := ⟨⟨_, hD0⟩⟩
      refine wp_region_mask [true, true, true, true, true, true, true, true, true, true, true, true, true, true, true, true, true, true, true, true, false, false, false, false] 3 D (by kernel_rfl) (by kernel_rfl) hD0 ?_
      simp only [selT, selF, List.take_succ_cons, List.take_zero, List.drop_succ_cons, List.drop_zero]
      repeat (go_big_quiet_step (fail))
      refine wpQuiet_nil (wpEarly_cons ?_)
      go_wp2_with fail
      obtain ⟨u1, hu1⟩ : ∃ u, (wo.alloc (.cells #[.int .u8 y] 5)).drew = u := ⟨_, rfl⟩
      have HBU : Hid (Below wo.heap.size wo u1) := Lib.hid (by rw [← hu1]; exact ⟨rfl, rfl, rfl, by simp, fun b hb => Below.heap_alloc wo _ b hb⟩)
      have HNR : Hid (Reads u1 (wo.heap.size + 1) 1 (some ⟨wo.heap.size, 0, none⟩) 1 [.int .u8 y]) := Lib.hid (by rw [← hu1]; exact fr1U wo y)
      have HOU : Hid (u1.ownsRow v1.heap.size 5 1 (.slice A k c) k (cellsU (larL px W k))) := Lib.hid (own_below HG.out.own HBU.out)
      have HSU : Hid (v1.heap.size ≤ u1.heap.size) := Lib.hid (Nat.le_trans HG.out.size HBU.out.size)
      have HPU := Lib.hid (HBp.out.below HBU.out HBp.out.lt)
      have HGU := Lib.hid (HG.out.blk.below HBU.out HG.out.blk.lt)
      rw [hu1]
      clear hu1
      refine QN_normal ⟨hDi _ HPU.out HGU.out ((HBU.out.cell (p := ⟨b, off + ix, none⟩) (World.block_lt_of_cell? wo _ d0)).trans d0), wpEarly_cons ?_⟩
      go_wp2_with (at_builtin; refine wpList_append_any _ rfl (.tmp 61) (.tmp 80) _ (by rfl) v1.heap.size 5 i0 _ 1 1 Try.underlying22 hi0 hz0 hz1 hz2 rfl (by omega) (.slice A k c) k _ (by rfl) HOU.out (wo.heap.size + 1) (some ⟨wo.heap.size, 0, none⟩) 1 1 [.int .u8 y] (by rfl) HNR.out oneU1 (le_max (by omega)) (by omega) HSU.out ?_; intro v7 w7 hown7 hg7 hat7)
      obtain ⟨A7, c7, rfl, hr7⟩ := own_reads hown7
      have HN := Lib.hid (HG.out.push HBU.out hown7 hg7)
      have hB7 := HGU.out.grown hg7 (fun e => HG.out.ne _ e.symm rfl)
      have hP7 : Blk w7 w.heap.size 24 #[.int .i64 ride, .int .i64 tm, .int .i64 W, .int .i64 H, .slice (some ⟨b, off, none⟩) n0 c0] := HPU.out.grown hg7 (fun e => by have := (HG.out.own.lt _ e.symm).1; have := HVV.out; omega)
      have g7 := (hB7.cell 4).trans rfl
      have z7 := hB7.frozen 4
      have d7 : w7.cell? ⟨b, off + ix, none⟩ = some (.int .u8 y) := by
        have e1 := World.cell?_of_block (a := ⟨b, off + ix, none⟩) (hg7.block b (by have := HBU.out.size; have := HVV.out; have := HSU.out; omega) (fun e => by have := (HG.out.own.lt _ e.symm).1; have := HVV.out; omega))
        rw [e1, HBU.out.cell (p := ⟨b, off + ix, none⟩) (World.block_lt_of_cell? wo _ d0)]
        exact d0
      have HD7 := Lib.hid (hDi _ hP7 hB7 d7)
      clear hown7 hg7 hat7 hr7
      refine QN_normal ⟨HD7.out, wpEarly_cons ?_⟩
      clear hP7 d7
      go_wp2_with fail
      refine QN_normal ⟨HD7.out, wpEarly_nil ?_⟩
      rw [← HC0.out] at HN
      go_wp2_with fail
      go_roundw
      case rel => exact ⟨k + 1, c7, A7, by omega, by go_num, HN⟩
      case measure => simp [intOf]; omega
    · obtain rfl : k = N := by omega
      have c00 := (B0.cell 0).trans rfl; have c01 := (B0.cell 1).trans rfl; have c02 := (B0.cell 2).trans rfl; have c03 := (B0.cell 3).trans rfl; have c04 := (B0.cell 4).trans rfl
      obtain ⟨m, hm⟩ : ∃ m, markN ⟨ride, tm, W, H, A0, n0, c0, px⟩ = m := ⟨_, rfl⟩
      have HM := Lib.hid hm
      have HM2 : Hid (markN ⟨ride, tm, W2, H2, A, k, c, larL px W k⟩ = m) := Lib.hid (by rw [← HPX.out, HML.out, hm])
      have HX2 : Hid (pcheckZ ⟨ride, tm, W2, H2, A, k, c, larL px W k⟩ = 0) := Lib.hid (by rw [← HPX.out, HXL.out])
      have HQR : Hid (PR wo ⟨ride, tm, W2, H2, A, k, c, larL px W k⟩) := Lib.hid ⟨Reads.of_own HG.out.own, larL_bytes HBY.out _ _, by show k ≤ _; omega⟩
      clear hm B0 hbw hlt
      go_wp2_with fail
      refine (mark_any ⟨ride, tm, W, H, A0, n0, c0, px⟩ m 0 _ HP.out HM.out HX.out).mono ?_
      rintro e w5 ⟨rfl, hb5⟩
      have KK5 := Lib.hid (below_next KW.out (Nat.le_refl _) hb5)
      have HG5 := Lib.hid (HG.out.next hb5)
      have HQ5 := Lib.hid (HQR.out.below hb5)
      have g0 := (HG5.out.blk.cell 0).trans rfl; have g1 := (HG5.out.blk.cell 1).trans rfl; have g2 := (HG5.out.blk.cell 2).trans rfl; have g3 := (HG5.out.blk.cell 3).trans rfl; have g4 := (HG5.out.blk.cell 4).trans rfl
      clear c00 c01 c02 c03 c04 hb5
      go_wp2_with fail
      refine (mark_any ⟨ride, tm, W2, H2, A, k, c, larL px W k⟩ m 0 _ HQ5.out HM2.out HX2.out).mono ?_
      rintro e w6 ⟨rfl, hb6⟩
      have KK6 := Lib.hid (below_next KK5.out (Nat.le_refl _) hb6)
      clear g0 g1 g2 g3 g4 hb6
      go_wp2_with fail
      refine (awake_any _).mono ?_
      rintro e w7 ⟨rfl, hb7⟩
      have KK7 := Lib.hid (HK.out _ (below_next KK6.out (Nat.le_refl _) hb7)).2
      clear hb7
      go_wp2_with fail
      go_ret
      exact ⟨rfl, KK7.out⟩
set_option maxHeartbeats 4000000 in
set_option maxRecDepth 20000 in
theorem large_few (p : Ph) (w : World) (h : PR w p) (hf : decide (p.n ≤ 5000) = false) : Calls Try.prog 8 #[aggF p] w (AwakePost w) := by
  have HPA : Hid (∀ u, Below w.heap.size w u → PR u p) := Lib.hid fun u hu => h.below hu
  have HF := Lib.hid hf
  clear h hf
  obtain ⟨kk, hK⟩ := box1K w 24 #[.int .i64 p.ride, .int .i64 p.tm, .int .i64 p.W, .int .i64 p.H, .slice p.A p.n p.c]
  have HK := Lib.hid hK
  clear hK
  obtain ⟨B0, hbb⟩ := HK.out _ kk
  have c00 := B0.cell 0
  have c01 := B0.cell 1
  have c02 := B0.cell 2
  have c03 := B0.cell 3
  have c04 := B0.cell 4
  have HB := Lib.hid hbb
  clear B0 hbb
  go_enter Try.func8, Try.ntmps8
  go_wp2_with fail
  have HPS := Lib.hid (one_photo _ (w.heap.size + 1) (by simp) p (HPA.out _ HB.out))
  replace kk := kk.alloc kk.size (.cells #[.int .i64 p.ride, .int .i64 p.tm, .int .i64 p.W, .int .i64 p.H, .slice p.A p.n p.c] 24)
  clear c00 c01 c02 c03 c04 HB
  obtain ⟨B0, hbb⟩ := HK.out _ kk
  have c00 := B0.cell 0
  have c01 := B0.cell 1
  have c02 := B0.cell 2
  have c03 := B0.cell 3
  have c04 := B0.cell 4
  have HB := Lib.hid hbb
  clear B0 hbb
  refine (fewF_any (some ⟨w.heap.size + 1, 0, none⟩) 1 1 [p] 1 false _ HPS.out (by decide) (few_one HF.out)).mono ?_
  rintro e w1 ⟨rfl, hb1⟩
  replace kk := below_next kk (Nat.le_refl _) hb1
  clear c00 c01 c02 c03 c04 HB hb1
  obtain ⟨B0, hbb⟩ := HK.out _ kk
  have c00 := B0.cell 0
  have c01 := B0.cell 1
  have c02 := B0.cell 2
  have c03 := B0.cell 3
  have c04 := B0.cell 4
  have HB := Lib.hid hbb
  clear B0 hbb
  clear HPS
  go_wp2_with fail
  refine (awake_any _).mono ?_
  rintro e w2 ⟨rfl, hb2⟩
  replace kk := below_next kk (Nat.le_refl _) hb2
  clear c00 c01 c02 c03 c04 HB hb2
  obtain ⟨B0, hbb⟩ := HK.out _ kk
  have c00 := B0.cell 0
  have c01 := B0.cell 1
  have c02 := B0.cell 2
  have c03 := B0.cell 3
  have c04 := B0.cell 4
  have HB := Lib.hid hbb
  clear B0 hbb
  go_wp2_with fail
  go_ret
  exact ⟨rfl, HB.out⟩
set_option maxHeartbeats 4000000 in
set_option maxRecDepth 20000 in
theorem large_check (p : Ph) (w : World) (h : PR w p) (hf : decide (p.n ≤ 5000) = true) (x : Int) (hx : pcheckZ p = x) (h0 : x ≠ 0) : Calls Try.prog 8 #[aggF p] w (AwakePost w) := by
  have HPA : Hid (∀ u, Below w.heap.size w u → PR u p) := Lib.hid fun u hu => h.below hu
  have HF := Lib.hid hf
  have HX := Lib.hid hx
  have t0 := ne0_t h0
  clear hx h0
  clear h hf
  obtain ⟨kk, hK⟩ := box1K w 24 #[.int .i64 p.ride, .int .i64 p.tm, .int .i64 p.W, .int .i64 p.H, .slice p.A p.n p.c]
  have HK := Lib.hid hK
  clear hK
  obtain ⟨B0, hbb⟩ := HK.out _ kk
  have c00 := B0.cell 0
  have c01 := B0.cell 1
  have c02 := B0.cell 2
  have c03 := B0.cell 3
  have c04 := B0.cell 4
  have HB := Lib.hid hbb
  clear B0 hbb
  go_enter Try.func8, Try.ntmps8
  go_wp2_with fail
  have HPS := Lib.hid (one_photo _ (w.heap.size + 1) (by simp) p (HPA.out _ HB.out))
  replace kk := kk.alloc kk.size (.cells #[.int .i64 p.ride, .int .i64 p.tm, .int .i64 p.W, .int .i64 p.H, .slice p.A p.n p.c] 24)
  clear c00 c01 c02 c03 c04 HB
  obtain ⟨B0, hbb⟩ := HK.out _ kk
  have c00 := B0.cell 0
  have c01 := B0.cell 1
  have c02 := B0.cell 2
  have c03 := B0.cell 3
  have c04 := B0.cell 4
  have HB := Lib.hid hbb
  clear B0 hbb
  refine (fewF_any (some ⟨w.heap.size + 1, 0, none⟩) 1 1 [p] 1 true _ HPS.out (by decide) (few_one HF.out)).mono ?_
  rintro e w1 ⟨rfl, hb1⟩
  replace kk := below_next kk (Nat.le_refl _) hb1
  clear c00 c01 c02 c03 c04 HB hb1
  obtain ⟨B0, hbb⟩ := HK.out _ kk
  have c00 := B0.cell 0
  have c01 := B0.cell 1
  have c02 := B0.cell 2
  have c03 := B0.cell 3
  have c04 := B0.cell 4
  have HB := Lib.hid hbb
  clear B0 hbb
  clear HPS
  go_wp2_with fail
  refine (pcheck_any p x _ HX.out).mono ?_
  rintro e w2 ⟨rfl, hb2⟩
  replace kk := below_next kk (Nat.le_refl _) hb2
  clear c00 c01 c02 c03 c04 HB hb2
  obtain ⟨B0, hbb⟩ := HK.out _ kk
  have c00 := B0.cell 0
  have c01 := B0.cell 1
  have c02 := B0.cell 2
  have c03 := B0.cell 3
  have c04 := B0.cell 4
  have HB := Lib.hid hbb
  clear B0 hbb
  go_wp2_with fail
  refine (awake_any _).mono ?_
  rintro e w3 ⟨rfl, hb3⟩
  replace kk := below_next kk (Nat.le_refl _) hb3
  clear c00 c01 c02 c03 c04 HB hb3
  obtain ⟨B0, hbb⟩ := HK.out _ kk
  have c00 := B0.cell 0
  have c01 := B0.cell 1
  have c02 := B0.cell 2
  have c03 := B0.cell 3
  have c04 := B0.cell 4
  have HB := Lib.hid hbb
  clear B0 hbb
  go_wp2_with fail
  go_ret
  exact ⟨rfl, HB.out⟩
set_option maxHeartbeats 4000000 in
set_option maxRecDepth 20000 in
theorem large_w (p : Ph) (w : World) (h : PR w p) (hf : decide (p.n ≤ 5000) = true) (hx : pcheckZ p = 0) (hW : 32 < p.W) : Calls Try.prog 8 #[aggF p] w (AwakePost w) := by
  have HPA : Hid (∀ u, Below w.heap.size w u → PR u p) := Lib.hid fun u hu => h.below hu
  have HF := Lib.hid hf
  have HX := Lib.hid hx
  clear hx
  clear h hf
  obtain ⟨kk, hK⟩ := box1K w 24 #[.int .i64 p.ride, .int .i64 p.tm, .int .i64 p.W, .int .i64 p.H, .slice p.A p.n p.c]
  have HK := Lib.hid hK
  clear hK
  obtain ⟨B0, hbb⟩ := HK.out _ kk
  have c00 := B0.cell 0
  have c01 := B0.cell 1
  have c02 := B0.cell 2
  have c03 := B0.cell 3
  have c04 := B0.cell 4
  have HB := Lib.hid hbb
  clear B0 hbb
  go_enter Try.func8, Try.ntmps8
  go_wp2_with fail
  have HPS := Lib.hid (one_photo _ (w.heap.size + 1) (by simp) p (HPA.out _ HB.out))
  replace kk := kk.alloc kk.size (.cells #[.int .i64 p.ride, .int .i64 p.tm, .int .i64 p.W, .int .i64 p.H, .slice p.A p.n p.c] 24)
  clear c00 c01 c02 c03 c04 HB
  obtain ⟨B0, hbb⟩ := HK.out _ kk
  have c00 := B0.cell 0
  have c01 := B0.cell 1
  have c02 := B0.cell 2
  have c03 := B0.cell 3
  have c04 := B0.cell 4
  have HB := Lib.hid hbb
  clear B0 hbb
  refine (fewF_any (some ⟨w.heap.size + 1, 0, none⟩) 1 1 [p] 1 true _ HPS.out (by decide) (few_one HF.out)).mono ?_
  rintro e w1 ⟨rfl, hb1⟩
  replace kk := below_next kk (Nat.le_refl _) hb1
  clear c00 c01 c02 c03 c04 HB hb1
  obtain ⟨B0, hbb⟩ := HK.out _ kk
  have c00 := B0.cell 0
  have c01 := B0.cell 1
  have c02 := B0.cell 2
  have c03 := B0.cell 3
  have c04 := B0.cell 4
  have HB := Lib.hid hbb
  clear B0 hbb
  clear HPS
  go_wp2_with fail
  refine (pcheck_any p 0 _ HX.out).mono ?_
  rintro e w2 ⟨rfl, hb2⟩
  replace kk := below_next kk (Nat.le_refl _) hb2
  clear c00 c01 c02 c03 c04 HB hb2
  obtain ⟨B0, hbb⟩ := HK.out _ kk
  have c00 := B0.cell 0
  have c01 := B0.cell 1
  have c02 := B0.cell 2
  have c03 := B0.cell 3
  have c04 := B0.cell 4
  have HB := Lib.hid hbb
  clear B0 hbb
  go_wp2_with fail
  refine (awake_any _).mono ?_
  rintro e w3 ⟨rfl, hb3⟩
  replace kk := below_next kk (Nat.le_refl _) hb3
  clear c00 c01 c02 c03 c04 HB hb3
  obtain ⟨B0, hbb⟩ := HK.out _ kk
  have c00 := B0.cell 0
  have c01 := B0.cell 1
  have c02 := B0.cell 2
  have c03 := B0.cell 3
  have c04 := B0.cell 4
  have HB := Lib.hid hbb
  clear B0 hbb
  go_wp2_with fail
  go_ret
  exact ⟨rfl, HB.out⟩
set_option maxHeartbeats 4000000 in
set_option maxRecDepth 20000 in
theorem large_h (p : Ph) (w : World) (h : PR w p) (hf : decide (p.n ≤ 5000) = true) (hx : pcheckZ p = 0) (hW : p.W ≤ 32) (hH : 32 < p.H) : Calls Try.prog 8 #[aggF p] w (AwakePost w) := by
  have HPA : Hid (∀ u, Below w.heap.size w u → PR u p) := Lib.hid fun u hu => h.below hu
  have HF := Lib.hid hf
  have HX := Lib.hid hx
  clear hx
  clear h hf
  obtain ⟨kk, hK⟩ := box1K w 24 #[.int .i64 p.ride, .int .i64 p.tm, .int .i64 p.W, .int .i64 p.H, .slice p.A p.n p.c]
  have HK := Lib.hid hK
  clear hK
  obtain ⟨B0, hbb⟩ := HK.out _ kk
  have c00 := B0.cell 0
  have c01 := B0.cell 1
  have c02 := B0.cell 2
  have c03 := B0.cell 3
  have c04 := B0.cell 4
  have HB := Lib.hid hbb
  clear B0 hbb
  go_enter Try.func8, Try.ntmps8
  go_wp2_with fail
  have HPS := Lib.hid (one_photo _ (w.heap.size + 1) (by simp) p (HPA.out _ HB.out))
  replace kk := kk.alloc kk.size (.cells #[.int .i64 p.ride, .int .i64 p.tm, .int .i64 p.W, .int .i64 p.H, .slice p.A p.n p.c] 24)
  clear c00 c01 c02 c03 c04 HB
  obtain ⟨B0, hbb⟩ := HK.out _ kk
  have c00 := B0.cell 0
  have c01 := B0.cell 1
  have c02 := B0.cell 2
  have c03 := B0.cell 3
  have c04 := B0.cell 4
  have HB := Lib.hid hbb
  clear B0 hbb
  refine (fewF_any (some ⟨w.heap.size + 1, 0, none⟩) 1 1 [p] 1 true _ HPS.out (by decide) (few_one HF.out)).mono ?_
  rintro e w1 ⟨rfl, hb1⟩
  replace kk := below_next kk (Nat.le_refl _) hb1
  clear c00 c01 c02 c03 c04 HB hb1
  obtain ⟨B0, hbb⟩ := HK.out _ kk
  have c00 := B0.cell 0
  have c01 := B0.cell 1
  have c02 := B0.cell 2
  have c03 := B0.cell 3
  have c04 := B0.cell 4
  have HB := Lib.hid hbb
  clear B0 hbb
  clear HPS
  go_wp2_with fail
  refine (pcheck_any p 0 _ HX.out).mono ?_
  rintro e w2 ⟨rfl, hb2⟩
  replace kk := below_next kk (Nat.le_refl _) hb2
  clear c00 c01 c02 c03 c04 HB hb2
  obtain ⟨B0, hbb⟩ := HK.out _ kk
  have c00 := B0.cell 0
  have c01 := B0.cell 1
  have c02 := B0.cell 2
  have c03 := B0.cell 3
  have c04 := B0.cell 4
  have HB := Lib.hid hbb
  clear B0 hbb
  go_wp2_with fail
  refine (awake_any _).mono ?_
  rintro e w3 ⟨rfl, hb3⟩
  replace kk := below_next kk (Nat.le_refl _) hb3
  clear c00 c01 c02 c03 c04 HB hb3
  obtain ⟨B0, hbb⟩ := HK.out _ kk
  have c00 := B0.cell 0
  have c01 := B0.cell 1
  have c02 := B0.cell 2
  have c03 := B0.cell 3
  have c04 := B0.cell 4
  have HB := Lib.hid hbb
  clear B0 hbb
  go_wp2_with fail
  go_ret
  exact ⟨rfl, HB.out⟩
set_option maxHeartbeats 4000000 in
set_option maxRecDepth 20000 in
theorem large_9 (p : Ph) (w : World) (h : PR w p) (hf : decide (p.n ≤ 5000) = true) (hx : pcheckZ p = 0) (hW : p.W ≤ 32) (hH : p.H ≤ 32) (h9 : p.W.tmod 9 ≠ 0) : Calls Try.prog 8 #[aggF p] w (AwakePost w) := by
  have HPA : Hid (∀ u, Below w.heap.size w u → PR u p) := Lib.hid fun u hu => h.below hu
  have HF := Lib.hid hf
  have HX := Lib.hid hx
  clear hx
  have t0 := ne0_t h9
  clear h9
  clear h hf
  obtain ⟨kk, hK⟩ := box1K w 24 #[.int .i64 p.ride, .int .i64 p.tm, .int .i64 p.W, .int .i64 p.H, .slice p.A p.n p.c]
  have HK := Lib.hid hK
  clear hK
  obtain ⟨B0, hbb⟩ := HK.out _ kk
  have c00 := B0.cell 0
  have c01 := B0.cell 1
  have c02 := B0.cell 2
  have c03 := B0.cell 3
  have c04 := B0.cell 4
  have HB := Lib.hid hbb
  clear B0 hbb
  go_enter Try.func8, Try.ntmps8
  go_wp2_with fail
  have HPS := Lib.hid (one_photo _ (w.heap.size + 1) (by simp) p (HPA.out _ HB.out))
  replace kk := kk.alloc kk.size (.cells #[.int .i64 p.ride, .int .i64 p.tm, .int .i64 p.W, .int .i64 p.H, .slice p.A p.n p.c] 24)
  clear c00 c01 c02 c03 c04 HB
  obtain ⟨B0, hbb⟩ := HK.out _ kk
  have c00 := B0.cell 0
  have c01 := B0.cell 1
  have c02 := B0.cell 2
  have c03 := B0.cell 3
  have c04 := B0.cell 4
  have HB := Lib.hid hbb
  clear B0 hbb
  refine (fewF_any (some ⟨w.heap.size + 1, 0, none⟩) 1 1 [p] 1 true _ HPS.out (by decide) (few_one HF.out)).mono ?_
  rintro e w1 ⟨rfl, hb1⟩
  replace kk := below_next kk (Nat.le_refl _) hb1
  clear c00 c01 c02 c03 c04 HB hb1
  obtain ⟨B0, hbb⟩ := HK.out _ kk
  have c00 := B0.cell 0
  have c01 := B0.cell 1
  have c02 := B0.cell 2
  have c03 := B0.cell 3
  have c04 := B0.cell 4
  have HB := Lib.hid hbb
  clear B0 hbb
  clear HPS
  go_wp2_with fail
  refine (pcheck_any p 0 _ HX.out).mono ?_
  rintro e w2 ⟨rfl, hb2⟩
  replace kk := below_next kk (Nat.le_refl _) hb2
  clear c00 c01 c02 c03 c04 HB hb2
  obtain ⟨B0, hbb⟩ := HK.out _ kk
  have c00 := B0.cell 0
  have c01 := B0.cell 1
  have c02 := B0.cell 2
  have c03 := B0.cell 3
  have c04 := B0.cell 4
  have HB := Lib.hid hbb
  clear B0 hbb
  go_wp2_with fail
  refine (awake_any _).mono ?_
  rintro e w3 ⟨rfl, hb3⟩
  replace kk := below_next kk (Nat.le_refl _) hb3
  clear c00 c01 c02 c03 c04 HB hb3
  obtain ⟨B0, hbb⟩ := HK.out _ kk
  have c00 := B0.cell 0
  have c01 := B0.cell 1
  have c02 := B0.cell 2
  have c03 := B0.cell 3
  have c04 := B0.cell 4
  have HB := Lib.hid hbb
  clear B0 hbb
  go_wp2_with fail
  go_ret
  exact ⟨rfl, HB.out⟩
set_option maxHeartbeats 4000000 in
set_option maxRecDepth 20000 in
theorem large_8 (p : Ph) (w : World) (h : PR w p) (hf : decide (p.n ≤ 5000) = true) (hx : pcheckZ p = 0) (hW : p.W ≤ 32) (hH : p.H ≤ 32) (h9 : p.W.tmod 9 = 0) (h8 : p.H.tmod 8 ≠ 0) : Calls Try.prog 8 #[aggF p] w (AwakePost w) := by
  have HPA : Hid (∀ u, Below w.heap.size w u → PR u p) := Lib.hid fun u hu => h.below hu
  have HF := Lib.hid hf
  have HX := Lib.hid hx
  clear hx
  have t0 := ne0_t h8
  clear h8
  clear h hf
  obtain ⟨kk, hK⟩ := box1K w 24 #[.int .i64 p.ride, .int .i64 p.tm, .int .i64 p.W, .int .i64 p.H, .slice p.A p.n p.c]
  have HK := Lib.hid hK
  clear hK
  obtain ⟨B0, hbb⟩ := HK.out _ kk
  have c00 := B0.cell 0
  have c01 := B0.cell 1
  have c02 := B0.cell 2
  have c03 := B0.cell 3
  have c04 := B0.cell 4
  have HB := Lib.hid hbb
  clear B0 hbb
  go_enter Try.func8, Try.ntmps8
  go_wp2_with fail
  have HPS := Lib.hid (one_photo _ (w.heap.size + 1) (by simp) p (HPA.out _ HB.out))
  replace kk := kk.alloc kk.size (.cells #[.int .i64 p.ride, .int .i64 p.tm, .int .i64 p.W, .int .i64 p.H, .slice p.A p.n p.c] 24)
  clear c00 c01 c02 c03 c04 HB
  obtain ⟨B0, hbb⟩ := HK.out _ kk
  have c00 := B0.cell 0
  have c01 := B0.cell 1
  have c02 := B0.cell 2
  have c03 := B0.cell 3
  have c04 := B0.cell 4
  have HB := Lib.hid hbb
  clear B0 hbb
  refine (fewF_any (some ⟨w.heap.size + 1, 0, none⟩) 1 1 [p] 1 true _ HPS.out (by decide) (few_one HF.out)).mono ?_
  rintro e w1 ⟨rfl, hb1⟩
  replace kk := below_next kk (Nat.le_refl _) hb1
  clear c00 c01 c02 c03 c04 HB hb1
  obtain ⟨B0, hbb⟩ := HK.out _ kk
  have c00 := B0.cell 0
  have c01 := B0.cell 1
  have c02 := B0.cell 2
  have c03 := B0.cell 3
  have c04 := B0.cell 4
  have HB := Lib.hid hbb
  clear B0 hbb
  clear HPS
  go_wp2_with fail
  refine (pcheck_any p 0 _ HX.out).mono ?_
  rintro e w2 ⟨rfl, hb2⟩
  replace kk := below_next kk (Nat.le_refl _) hb2
  clear c00 c01 c02 c03 c04 HB hb2
  obtain ⟨B0, hbb⟩ := HK.out _ kk
  have c00 := B0.cell 0
  have c01 := B0.cell 1
  have c02 := B0.cell 2
  have c03 := B0.cell 3
  have c04 := B0.cell 4
  have HB := Lib.hid hbb
  clear B0 hbb
  go_wp2_with fail
  refine (awake_any _).mono ?_
  rintro e w3 ⟨rfl, hb3⟩
  replace kk := below_next kk (Nat.le_refl _) hb3
  clear c00 c01 c02 c03 c04 HB hb3
  obtain ⟨B0, hbb⟩ := HK.out _ kk
  have c00 := B0.cell 0
  have c01 := B0.cell 1
  have c02 := B0.cell 2
  have c03 := B0.cell 3
  have c04 := B0.cell 4
  have HB := Lib.hid hbb
  clear B0 hbb
  go_wp2_with fail
  go_ret
  exact ⟨rfl, HB.out⟩
theorem photoLarge_walk (p : Ph) (w : World) (h : PR w p) : Calls Try.prog 8 #[aggF p] w (AwakePost w) := by
  rcases hf : decide (p.n ≤ 5000) with _ | _
  · exact large_few p w h hf
  by_cases hx : pcheckZ p = 0
  case neg => exact large_check p w h hf _ rfl hx
  by_cases hW : 32 < p.W
  · exact large_w p w h hf hx hW
  by_cases hH : 32 < p.H
  · exact large_h p w h hf hx (by omega) hH
  by_cases h9 : p.W.tmod 9 = 0
  case neg => exact large_9 p w h hf hx (by omega) (by omega) h9
  by_cases h8 : p.H.tmod 8 = 0
  case neg => exact large_8 p w h hf hx (by omega) (by omega) h9 h8
  obtain ⟨W, H, e1, e2, _, _, _, _, _⟩ := ph_dims hx
  obtain ⟨ride, tm, pW, pH, A, n, c, px⟩ := p
  have e1 : pW = (W : Int) := e1
  have e2 : pH = (H : Int) := e2
  subst e1 e2
  have h9 : (W : Int).tmod 9 = 0 := h9
  have h8 : (H : Int).tmod 8 = 0 := h8
  rw [Int.tmod_eq_emod_of_nonneg (by omega)] at h9 h8
  have hW : ¬ 32 < (W : Int) := hW
  have hH : ¬ 32 < (H : Int) := hH
  exact large_main ride tm W H A n c px w h hf hx (by omega) (by omega) (by omega) (by omega)
end Go.Proofs.Ytpipojgfpilhdaa
