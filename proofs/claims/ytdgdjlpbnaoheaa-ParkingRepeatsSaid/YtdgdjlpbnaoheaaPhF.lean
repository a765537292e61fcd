/- The cells of a photo: the program's walk. -/
import Derived.Test.YtdgdjlpbnaoheaaPhE
import Derived.Deep.MidRow
import Derived.StillTailTactics
import Derived.Deep.CutRange
namespace Go.Proofs.Ytdgdjlpbnaoheaa
open Go.RowKit
/-- The numbers of all cells, as the program's array holds them. -/
def arrI (f : Nat → Int) : Array Value := ((List.range 144).map fun k => Value.int .i64 (f k)).toArray
theorem arrI_get (f : Nat → Int) {k : Nat} (h : k < 144) : (arrI f)[k]? = some (.int .i64 (f k)) := by unfold arrI; simp [h]
theorem arrI_size (f : Nat → Int) : (arrI f).size = 144 := by simp [arrI]
def updI (f : Nat → Int) (k : Nat) (v : Int) : Nat → Int := fun i => if i = k then v else f i
theorem arrI_set (f : Nat → Int) (k : Nat) (v : Int) : (arrI f).setIfInBounds k (.int .i64 v) = arrI (updI f k v) := by
  apply Array.ext
  · simp [arrI]
  · intro i h1 h2
    simp only [Array.size_setIfInBounds, arrI_size] at h1
    rw [Array.getElem_setIfInBounds (by rw [arrI_size]; exact h1)]
    by_cases hk : k = i
    · subst hk; rw [if_pos rfl]; simp [arrI, updI]
    · rw [if_neg hk]; simp only [arrI, updI, List.getElem_toArray, List.getElem_map, List.getElem_range]; rw [if_neg (fun e => hk e.symm)]
theorem arrI_congr {f g : Nat → Int} (h : ∀ k, k < 144 → f k = g k) : arrI f = arrI g := by
  unfold arrI
  congr 1
  exact List.map_congr_left fun k hk => by rw [h k (by simpa using hk)]
theorem zeroCells (w : World) : (zeroValue 108).run Try.prog w = .ok (.agg (arrI fun _ => 0)) w := by kernel_rfl
theorem results_cell1 {fn : Func} {x : Tmp} {t : TypeId} (h : fn.results = #[.cell x t]) (tmps : Array Value) (P : Program) (w : World) (b : Addr) (v : Value) (ha : tmps.getD x undef = .pointer (some b)) (hv : (loadVar t b).run P w = .ok v w) : (results fn tmps).run P w = .ok v w := by
  unfold results
  rw [h]
  simp only [List.mapM_toArray, List.mapM_cons, List.mapM_nil, Sem.run_bind, ha, asAddr, Sem.run_pure]
  simp [hv]
theorem arrI_range {w : World} {g : Nat} {t : TypeId} {f : Nat → Int} (h : Blk w g t (arrI f)) : w.rangeAt g 0 (arrI f).toList := fun j v hv => by
  rw [Nat.zero_add, h.cell]
  rwa [Array.getElem?_toList] at hv
theorem arrI_there {w : World} {g : Nat} {t : TypeId} {f : Nat → Int} (h : Blk w g t (arrI f)) : w.there g 0 (arrI f).size := fun j hj => by
  rw [Nat.zero_add]
  rw [arrI_size] at hj
  exact ⟨by rw [h.cell, arrI_get f hj]; rfl, h.frozen j⟩
theorem arrI_one (f : Nat → Int) : (arrI f).all (·.oneCell') = true := by
  rw [Array.all_eq_true_iff_forall_mem]
  intro v hv
  simp only [arrI, List.mem_toArray, List.mem_map] at hv
  obtain ⟨k, _, rfl⟩ := hv
  rfl
theorem below_setCells {B : Nat} {w w' : World} (hb : Below B w w') {g : Nat} (hg : B ≤ g) : ∀ (vs : List Value) (o : Nat) , Below B w (w'.setCells g o vs) := by
  intro vs
  induction vs generalizing w' with
  | nil => intro o; exact hb
  | cons v vs ih => intro o; exact ih (hb.setCell (p := ⟨g, o, none⟩) hg v) (o + 1)
def stI (f : Nat → Int) (i : Nat) (t m : Int) : Nat → Int := updI (updI f i t) (i + 1) m
theorem stI_0 (f : Nat → Int) (i : Nat) (t m t' : Int) : updI (stI f i t m) i t' = stI f i t' m := by
  funext k; unfold stI updI
  by_cases h1 : k = i
  · subst h1; rw [if_pos rfl, if_neg (by omega), if_pos rfl]
  · rw [if_neg h1, if_neg h1, if_neg h1]
theorem stI_1 (f : Nat → Int) (i : Nat) (t m m' : Int) : updI (stI f i t m) (i + 1) m' = stI f i t m' := by
  funext k; unfold stI updI
  by_cases h1 : k = i + 1
  · rw [if_pos h1, if_pos h1]
  · rw [if_neg h1, if_neg h1, if_neg h1]
theorem stI_get0 (f : Nat → Int) (i : Nat) (t m : Int) : stI f i t m i = t := by unfold stI updI; rw [if_neg (by omega), if_pos rfl]
theorem stI_get1 (f : Nat → Int) (i : Nat) (t m : Int) : stI f i t m (i + 1) = m := by unfold stI updI; rw [if_pos rfl]
/-- The first q cells are done. -/
def gridF (px : List Int) (W H q : Nat) : Nat → Int := fun i => if i / 2 < q then (if i % 2 = 0 then cellS px W H (i / 2 % 9) (i / 2 / 9) else (cellN W H (i / 2 % 9) (i / 2 / 9) : Int)) else 0
theorem gridF_in (px : List Int) (W H q : Nat) : gridF px W H q = stI (gridF px W H q) (2 * q) 0 0 := by
  funext k; unfold stI updI gridF
  by_cases h1 : k = 2 * q + 1
  · rw [if_pos h1, if_neg (by omega)]
  · rw [if_neg h1]
    by_cases h2 : k = 2 * q
    · rw [if_pos h2, if_neg (by omega)]
    · rw [if_neg h2]
theorem gridF_out (px : List Int) (W H q : Nat) : stI (gridF px W H q) (2 * q) (cellS px W H (q % 9) (q / 9)) (cellN W H (q % 9) (q / 9)) = gridF px W H (q + 1) := by
  funext k; unfold stI updI gridF
  by_cases h1 : k = 2 * q + 1
  · subst h1
    rw [if_pos rfl, if_pos (by omega), if_neg (by omega), show (2 * q + 1) / 2 = q by omega]
  · rw [if_neg h1]
    by_cases h2 : k = 2 * q
    · subst h2
      rw [if_pos rfl, if_pos (by omega), if_pos (by omega), show (2 * q) / 2 = q by omega]
    · rw [if_neg h2]
      by_cases h3 : k / 2 < q
      · have h4 : k / 2 < q + 1 := by omega
        simp only [h3, h4, if_true]
      · have h4 : ¬ k / 2 < q + 1 := by omega
        simp only [h3, h4, if_false]
theorem gridF_0 (px : List Int) (W H : Nat) : gridF px W H 0 = fun _ => 0 := by funext k; unfold gridF; rw [if_neg (by omega)]
theorem Only.drew {F : Nat → Prop} {a b : World} (h : Only F a b) : Only F a b.drew := ⟨h.os, h.tape, h.output, h.size, h.block⟩
set_option maxHeartbeats 8000000 in
set_option maxRecDepth 20000 in
theorem cells_core (ride tm : Int) (W H : Nat) (A : Option Addr) (n cc : Nat) (px : List Int) (w : World) (h : Reads w w.heap.size 1 A n (cellsU px)) (hby : Bytes px) (hW1 : 9 ≤ W) (hH1 : 9 ≤ H) (hW2 : W ≤ 64) (hH2 : H ≤ 64) (hn : n = W * H) : Calls Try.prog 75 #[.agg #[.int .i64 ride, .int .i64 tm, .int .i64 (W : Int), .int .i64 (H : Int), .slice A n cc]] w (fun e w' => e = .returned (.agg (arrI (gridF px W H 72))) ∧ Below w.heap.size w w') := by
  have hz := zeroCells
  have HN := Lib.hid hn
  have hwh : 81 ≤ W * H ∧ W * H ≤ 4096 := ⟨Nat.mul_le_mul (show 9 ≤ W from hW1) (show 9 ≤ H from hH1), Nat.mul_le_mul (show W ≤ 64 from hW2) (show H ≤ 64 from hH2)⟩
  have hpos : 0 < n := by omega
  have hn2 : n ≤ 4096 := by omega
  have HRA : Hid (∀ u, Below w.heap.size w u → Reads u u.heap.size 1 A n (cellsU px)) := Lib.hid fun u hu => (h.below hu).more hu.size
  obtain ⟨b, off, rfl, _, _⟩ := u_cells h hpos
  have HBY := Lib.hid hby
  obtain ⟨v0, hv0⟩ : ∃ v : World, v = (((w.alloc (.cells #[.int .i64 ride, .int .i64 tm, .int .i64 (W : Int), .int .i64 (H : Int), .slice (some ⟨b, off, none⟩) n cc] 46)).alloc (.cells (arrI fun _ => 0) 108)).alloc (.cells (arrI fun _ => 0) 108)) := ⟨_, rfl⟩
  have HB0 : Hid (Blk v0 w.heap.size 46 #[.int .i64 ride, .int .i64 tm, .int .i64 (W : Int), .int .i64 (H : Int), .slice (some ⟨b, off, none⟩) n cc]) := Lib.hid (by rw [hv0]; exact ((Blk.new w _ _).alloc _).alloc _)
  have HB1 : Hid (Blk v0 (w.heap.size + 1) 108 (arrI fun _ => 0)) := Lib.hid (by rw [hv0]; have := (Blk.new (w.alloc (.cells #[.int .i64 ride, .int .i64 tm, .int .i64 (W : Int), .int .i64 (H : Int), .slice (some ⟨b, off, none⟩) n cc] 46)) 108 (arrI fun _ => 0)).alloc (.cells (arrI fun _ => 0) 108); simpa using this)
  have HB2 : Hid (Blk v0 (w.heap.size + 1 + 1) 108 (arrI fun _ => 0)) := Lib.hid (by rw [hv0]; have := Blk.new ((w.alloc (.cells #[.int .i64 ride, .int .i64 tm, .int .i64 (W : Int), .int .i64 (H : Int), .slice (some ⟨b, off, none⟩) n cc] 46)).alloc (.cells (arrI fun _ => 0) 108)) 108 (arrI fun _ => 0); simpa using this)
  have HBW : Hid (Below w.heap.size w v0) := Lib.hid (by rw [hv0]; exact below_alloc (below_alloc ((Below.refl _ _).alloc (Nat.le_refl _) _) (Nat.le_refl _) _) (Nat.le_refl _) _)
  have HV0 := Lib.hid hv0
  clear h hn hwh hby hv0
  go_enter Try.func75, Try.ntmps75
  go_wp2_with fail
  obtain ⟨v1, hv1⟩ : ∃ v, v = v0 := ⟨_, rfl⟩
  rw [← HV0.out, ← hv1]
  clear HV0 hz
  subst hv1
  go_loopw [8] (fun s8 wr => ∃ r : Nat, r ≤ 8 ∧ s8 = .int .i64 r ∧ Only (fun k => k = w.heap.size + 1 + 1) v1 wr ∧ Blk wr (w.heap.size + 1 + 1) 108 (arrI (gridF px W H (9 * r)))) (fun s _ => 8 - (intOf s).toNat)
  case atStart => exact ⟨0, by decide, rfl, Only.refl _ _, by rw [Nat.mul_zero, gridF_0]; exact HB2.out⟩
  case round =>
    obtain ⟨wo, rfl⟩ : ∃ wo : World, wo = wr := ⟨_, rfl⟩
    obtain ⟨r, hr, rfl, hO, hB⟩ := hrel
    have HO := Lib.hid hO; have HBr := Lib.hid hB
    clear hO hB
    by_cases hlt : r < 8
    · have hr8 : (r : Int) < 8 := by omega
      go_wp2_with fail
      go_loopw [11] (fun s11 wr => ∃ c : Nat, c ≤ 9 ∧ s11 = .int .i64 c ∧ Only (fun k => k = w.heap.size + 1 + 1) v1 wr ∧ Blk wr (w.heap.size + 1 + 1) 108 (arrI (gridF px W H (9 * r + c)))) (fun s _ => 9 - (intOf s).toNat)
      case atStart => exact ⟨0, by decide, rfl, HO.out, HBr.out⟩
      case round =>
        obtain ⟨wc, rfl⟩ : ∃ wc : World, wc = wr := ⟨_, rfl⟩
        obtain ⟨c, hc, rfl, hO, hB⟩ := hrel
        have HOc := Lib.hid hO; have HBc := Lib.hid hB
        have B0 := hO.blk HB0.out (by omega)
        have c02 := (B0.cell 2).trans rfl; have c03 := (B0.cell 3).trans rfl; have c04 := (B0.cell 4).trans rfl
        clear hO hB B0
        by_cases hlc : c < 9
        · have hc9 : (c : Int) < 9 := by omega
          obtain ⟨a0, ha0⟩ : ∃ a, r * H = a := ⟨_, rfl⟩
          obtain ⟨a1, ha1⟩ : ∃ a, (r + 1) * H = a := ⟨_, rfl⟩
          obtain ⟨b0, hb0⟩ : ∃ a, c * W = a := ⟨_, rfl⟩
          obtain ⟨b1, hb1⟩ : ∃ a, (c + 1) * W = a := ⟨_, rfl⟩
          have fa0 : (r : Int) * (H : Int) = (a0 : Int) := by rw [← ha0, Int.natCast_mul]
          have fa1 : ((r : Int) + 1) * (H : Int) = (a1 : Int) := by rw [← ha1, Int.natCast_mul]; rfl
          have fb0 : (c : Int) * (W : Int) = (b0 : Int) := by rw [← hb0, Int.natCast_mul]
          have fb1 : ((c : Int) + 1) * (W : Int) = (b1 : Int) := by rw [← hb1, Int.natCast_mul]; rfl
          have la1 : a1 ≤ 8 * H := by rw [← ha1]; exact Nat.mul_le_mul_right H (by omega)
          have lb1 : b1 ≤ 9 * W := by rw [← hb1]; exact Nat.mul_le_mul_right W (by omega)
          have la0 : a0 ≤ a1 := by rw [← ha0, ← ha1]; exact Nat.mul_le_mul_right H (by omega)
          have lb0 : b0 ≤ b1 := by rw [← hb0, ← hb1]; exact Nat.mul_le_mul_right W (by omega)
          have HY0 : Hid (y0 H r = a0 / 8) := Lib.hid (by unfold y0; rw [ha0])
          have HY1 : Hid (y0 H (r + 1) = a1 / 8) := Lib.hid (by unfold y0; rw [ha1])
          have HX0 : Hid (x0 W c = b0 / 9) := Lib.hid (by unfold x0; rw [hb0])
          have HX1 : Hid (x0 W (c + 1) = b1 / 9) := Lib.hid (by unfold x0; rw [hb1])
          obtain ⟨nx, hnx⟩ : ∃ nx, b1 / 9 - b0 / 9 = nx := ⟨_, rfl⟩
          have lnx : nx ≤ 64 := by omega
          have HNX : Hid (x0 W (c + 1) - x0 W c = nx) := Lib.hid (by rw [HX0.out, HX1.out]; exact hnx)
          have HIN : Hid (gridF px W H (9 * r + c) = stI (gridF px W H (9 * r + c)) (r * 18 + c * 2) 0 0) := Lib.hid (by
            rw [show r * 18 + c * 2 = 2 * (9 * r + c) by omega]; exact gridF_in px W H _)
          have HOUT := Lib.hid (gridF_out px W H (9 * r + c))
          rw [show 2 * (9 * r + c) = r * 18 + c * 2 by omega, show (9 * r + c) % 9 = c by omega, show (9 * r + c) / 9 = r by omega] at HOUT
          obtain ⟨F0, hF0⟩ : ∃ F0, gridF px W H (9 * r + c) = F0 := ⟨_, rfl⟩
          have HF0 := Lib.hid hF0
          rw [hF0] at HIN HOUT HBc
          clear ha0 ha1 hb0 hb1 hF0
          go_wp2_with fail
          go_loopw [6] (fun s6 wr => ∃ (k : Nat) (t m : Int), k ≤ a1 / 8 - a0 / 8 ∧ s6 = .int .i64 ((a0 / 8 + k : Nat) : Int) ∧ 0 ≤ t ∧ t ≤ 16320 * k ∧ 0 ≤ m ∧ m ≤ 64 * k ∧ Hid (sumTo (pixRow px W c) (y0 H r) k = t) ∧ Hid (((k * nx : Nat) : Int) = m) ∧ Only (fun k => k = w.heap.size + 1 + 1) v1 wr ∧ Blk wr (w.heap.size + 1 + 1) 108 (arrI (stI F0 (r * 18 + c * 2) t m))) (fun s _ => a1 / 8 - (intOf s).toNat)
          case atStart => exact ⟨0, 0, 0, Nat.zero_le _, by simp, by omega, by omega, by omega, by omega, Lib.hid rfl, Lib.hid (by simp), HOc.out, by rw [← HIN.out]; exact HBc.out⟩
          case round =>
            obtain ⟨wy, rfl⟩ : ∃ wy : World, wy = wr := ⟨_, rfl⟩
            obtain ⟨k, t, m, hk, rfl, ht0, ht1, hm0, hm1, HT, HMM, hO, hB⟩ := hrel
            have HOy := Lib.hid hO; have HBy := Lib.hid hB
            have B0 := hO.blk HB0.out (by omega)
            have d02 := (B0.cell 2).trans rfl; have d03 := (B0.cell 3).trans rfl; have d04 := (B0.cell 4).trans rfl
            clear hO hB B0
            obtain ⟨y, hy⟩ : ∃ y, a0 / 8 + k = y := ⟨_, rfl⟩
            rw [hy]
            by_cases hlt2 : y < a1 / 8
            · have hi1 : (y : Int) < (a1 : Int) / 8 := by omega
              obtain ⟨my, hmy⟩ : ∃ a, y * W = a := ⟨_, rfl⟩
              have fmy : (y : Int) * (W : Int) = (my : Int) := by rw [← hmy, Int.natCast_mul]
              have lmy : my + W ≤ W * H := by
                have : (y + 1) * W ≤ H * W := Nat.mul_le_mul_right W (by omega)
                rw [Nat.add_mul, Nat.mul_comm H W] at this; omega
              have lwh : W * H ≤ 4096 := Nat.mul_le_mul (show W ≤ 64 from hW2) (show H ≤ 64 from hH2)
              have HY := Lib.hid hy; have HMY := Lib.hid hmy
              clear hy hmy
              go_wp2_with fail
              go_loopw [7] (fun s7 wr => ∃ (j : Nat) (u : Int), j ≤ nx ∧ s7 = .int .i64 ((b0 / 9 + j : Nat) : Int) ∧ 0 ≤ u ∧ u ≤ 255 * j ∧ Hid (sumTo (fun x => uAt px (y * W + x)) (x0 W c) j = u) ∧ Only (fun k => k = w.heap.size + 1 + 1) v1 wr ∧ Blk wr (w.heap.size + 1 + 1) 108 (arrI (stI F0 (r * 18 + c * 2) (t + u) (m + j)))) (fun s _ => b1 / 9 - (intOf s).toNat)
              case atStart => exact ⟨0, 0, Nat.zero_le _, by simp, by omega, by omega, Lib.hid rfl, HOy.out, by rw [Int.add_zero, show ((0 : Nat) : Int) = 0 from rfl, Int.add_zero]; exact HBy.out⟩
              case round =>
                obtain ⟨wx, rfl⟩ : ∃ wx : World, wx = wr := ⟨_, rfl⟩
                obtain ⟨j, u, hj, rfl, hu0, hu1, HU, hO, hB⟩ := hrel
                have HOx := Lib.hid hO; have HBx := Lib.hid hB
                have B0 := hO.blk HB0.out (by omega)
                have g02 := (B0.cell 2).trans rfl; have g03 := (B0.cell 3).trans rfl; have g04 := (B0.cell 4).trans rfl
                obtain ⟨x, hx⟩ : ∃ x, b0 / 9 + j = x := ⟨_, rfl⟩
                rw [hx]
                by_cases hltx : x < b1 / 9
                · have hi2 : (x : Int) < (b1 : Int) / 9 := by omega
                  have hwx : Below w.heap.size w wx := HBW.out.trans (hO.below (fun k _ e => by omega) HBW.out.size)
                  obtain ⟨b', off', hbo, _, hcell⟩ := u_cells (HRA.out _ hwx) hpos
                  obtain ⟨rfl, rfl⟩ : b = b' ∧ off = off' := by simpa using hbo
                  have e1 := hcell (my + x) (by have := HN.out; omega)
                  have hub := HBY.out.at_ (my + x)
                  have hin1 : (my : Int) + (x : Int) < n := by have := HN.out; omega
                  have hin0 : (0 : Int) ≤ (my : Int) + (x : Int) := by omega
                  have htn : ((my : Int) + (x : Int)).toNat = my + x := by omega
                  obtain ⟨v, hv⟩ : ∃ v, uAt px (my + x) = v := ⟨_, rfl⟩
                  rw [hv] at e1 hub
                  have HUU : Hid (sumTo (fun x => uAt px (y * W + x)) (x0 W c) (j + 1) = u + v) := Lib.hid (by
                    show sumTo _ _ j + uAt px (y * W + (x0 W c + j)) = u + v
                    rw [HU.out, HX0.out, hx, HMY.out, hv])
                  have q0 : wx.cell? ⟨w.heap.size + 1 + 1, r * 18 + c * 2, none⟩ = some (.int .i64 (t + u)) := (hB.cell _).trans (by rw [arrI_get _ (by omega), stI_get0])
                  have q1 : wx.cell? ⟨w.heap.size + 1 + 1, r * 18 + c * 2 + 1, none⟩ = some (.int .i64 (m + j)) := (hB.cell _).trans (by rw [arrI_get _ (by omega), stI_get1])
                  have z0 := hB.frozen (r * 18 + c * 2)
                  have z1 := hB.frozen (r * 18 + c * 2 + 1)
                  have HX := Lib.hid hx
                  have hr0 : (0 : Int) ≤ r := by omega
                  have hc0 : (0 : Int) ≤ c := by omega
                  have w1 := wr_ (n := (my : Int)) (by omega)
                  have w2 := wr_ (n := (my : Int) + (x : Int)) (by omega)
                  have w3 := wr_ (n := v) (by omega)
                  have w4 := wr_ (n := t + u + v) (by omega)
                  have w5 := wr_ (n := m + j + 1) (by omega)
                  clear hO hB B0 hwx hbo hcell hv hx
                  clear c02 c03 c04 d02 d03 d04
                  go_upto_region 14 with fail
                  refine wp_region_still_tail 21 (by kernel_rfl) (by kernel_rfl) ?_
                  simp only [List.take_succ_cons, List.take_zero, List.drop_succ_cons, List.drop_zero]
                  change wpStill _ _ (World.drew wx) _ _ _
                  repeat still_step
                  refine wpStill_nil ?_
                  change wpList _ _ _ _ _ (World.drew wx)
                  obtain ⟨wa, hwa⟩ : ∃ wa, wa = (wx.setCell ⟨w.heap.size + 1 + 1, r * 18 + c * 2, none⟩ (.int .i64 (t + u + v))).drew := ⟨_, rfl⟩
                  have hOa : Only (fun k => k = w.heap.size + 1 + 1) v1 wa := by rw [hwa]; exact (HOx.out.setCell (p := ⟨w.heap.size + 1 + 1, r * 18 + c * 2, none⟩) (fun _ => rfl) _).drew
                  have hBa : Blk wa (w.heap.size + 1 + 1) 108 (arrI (stI F0 (r * 18 + c * 2) (t + u + v) (m + j))) := by
                    rw [hwa]
                    have := (HBx.out.set_ (r * 18 + c * 2) (.int .i64 (t + u + v))).drew
                    rwa [arrI_set, stI_0] at this
                  have q2 : wa.cell? ⟨w.heap.size + 1 + 1, r * 18 + c * 2 + 1, none⟩ = some (.int .i64 (m + j)) := (hBa.cell _).trans (by rw [arrI_get _ (by omega), stI_get1])
                  have z2 := hBa.frozen (r * 18 + c * 2 + 1)
                  have HOa := Lib.hid hOa; have HBa := Lib.hid hBa; have HWa := Lib.hid hwa
                  clear hOa hBa hwa
                  go_wp2_with fail
                  rw [← HWa.out]
                  clear q0 q1 z0 z1 e1 g02 g03 g04 w1 w2 w3 w4 HWa
                  refine wp_region_still_tail 10 (by kernel_rfl) (by kernel_rfl) ?_
                  simp only [List.take_succ_cons, List.take_zero, List.drop_succ_cons, List.drop_zero]
                  change wpStill _ _ (World.drew wa) _ _ _
                  repeat still_step
                  refine wpStill_nil ?_
                  change wpList _ _ _ _ _ (World.drew wa)
                  have HOb : Hid (Only (fun k => k = w.heap.size + 1 + 1) v1 (wa.setCell ⟨w.heap.size + 1 + 1, r * 18 + c * 2 + 1, none⟩ (.int .i64 (m + j + 1))).drew) := Lib.hid (HOa.out.setCell (p := ⟨w.heap.size + 1 + 1, r * 18 + c * 2 + 1, none⟩) (fun _ => rfl) _).drew
                  have HBb : Hid (Blk (wa.setCell ⟨w.heap.size + 1 + 1, r * 18 + c * 2 + 1, none⟩ (.int .i64 (m + j + 1))).drew (w.heap.size + 1 + 1) 108 (arrI (stI F0 (r * 18 + c * 2) (t + (u + v)) (m + ((j + 1 : Nat) : Int))))) := Lib.hid (by
                    have := (HBa.out.set_ (r * 18 + c * 2 + 1) (.int .i64 (m + j + 1))).drew
                    rw [arrI_set, stI_1] at this
                    rw [show t + (u + v) = t + u + v by omega, show m + ((j + 1 : Nat) : Int) = m + j + 1 by omega]
                    exact this)
                  go_wp2_with fail
                  go_roundw
                  case rel => exact ⟨j + 1, u + v, by have := HX.out; omega, by have := HX.out; go_num, by omega, by omega, HUU, HOb.out, HBb.out⟩
                  case measure => simp [intOf]; omega
                · have hje : j = nx := by omega
                  have HTT : Hid (sumTo (pixRow px W c) (y0 H r) (k + 1) = t + u) := Lib.hid (by
                    show sumTo _ _ k + pixRow px W c (y0 H r + k) = t + u
                    rw [HT.out, HY0.out, HY.out]
                    congr 1
                    unfold pixRow
                    rw [HNX.out, ← hje]
                    exact HU.out)
                  have HTM : Hid ((((k + 1) * nx : Nat) : Int) = m + j) := Lib.hid (by rw [Nat.add_mul, Int.natCast_add, HMM.out, hje]; omega)
                  have hi2 : ¬ ((x : Int) < (b1 : Int) / 9) := by omega
                  clear hO hB B0 hx hje
                  go_wp2_with fail
                  go_roundw
                  case rel => exact ⟨k + 1, t + u, m + j, by have := HY.out; omega, by have := HY.out; go_num, by omega, by omega, by omega, by omega, HTT, HTM, HOx.out, HBx.out⟩
                  case measure => simp [intOf]; omega
            · have hke : k = a1 / 8 - a0 / 8 := by omega
              have hi1 : ¬ ((y : Int) < (a1 : Int) / 8) := by omega
              have hES : t = cellS px W H c r := by rw [← HT.out]; unfold cellS; rw [HY0.out, HY1.out, ← hke]
              have hEM : m = (cellN W H c r : Int) := by rw [← HMM.out]; unfold cellN; rw [HY0.out, HY1.out, HNX.out, ← hke]
              have HBe : Hid (Blk wy (w.heap.size + 1 + 1) 108 (arrI (gridF px W H (9 * r + (c + 1))))) := Lib.hid (by
                have := HBy.out
                rw [hES, hEM, HOUT.out] at this
                exact this)
              clear hES hEM hy hke
              go_wp2_with fail
              go_roundw
              case rel => exact ⟨c + 1, by omega, by go_num, HOy.out, HBe.out⟩
              case measure => simp [intOf]; omega
        · obtain rfl : c = 9 := by omega
          have HB9 : Hid (Blk wc (w.heap.size + 1 + 1) 108 (arrI (gridF px W H (9 * (r + 1))))) := Lib.hid (by rw [Nat.mul_add]; exact HBc.out)
          go_wp2_with fail
          go_roundw
          case rel => exact ⟨r + 1, by omega, by go_num, HOc.out, HB9.out⟩
          case measure => simp [intOf]; omega
    · obtain rfl : r = 8 := by omega
      have B1 := HO.out.blk HB1.out (by omega)
      have hi : (Try.prog.info? 108).map (·.size) = some 144 := by kernel_rfl
      have ru := Try.underlying108
      obtain ⟨F, hF⟩ : ∃ F, gridF px W H (9 * 8) = F := ⟨_, rfl⟩
      have HF : Hid (gridF px W H 72 = F) := Lib.hid hF
      have hB2 := HBr.out
      rw [hF] at hB2
      have hrg := arrI_range hB2
      have hth : wo.there (w.heap.size + 1) 0 (arrI F).size := by have := arrI_there B1; rw [arrI_size] at this ⊢; exact this
      obtain ⟨wf, hwf⟩ : ∃ wf, wo.setCells (w.heap.size + 1) 0 (arrI F).toList = wf := ⟨_, rfl⟩
      have hr : (loadVar 108 ⟨w.heap.size + 1, 0, none⟩).run Try.prog wf = .ok (.agg (arrI F)) wf := by
        have := run_loadVar_mid (P := Try.prog) wf (w.heap.size + 1) 0 108 (arrI F).toList _ (by
          rw [← hwf]
          refine World.rangeAt_setCells_same _ _ _ _ ?_
          have := arrI_there B1; rw [arrI_size] at this; rw [Array.length_toList, arrI_size]; exact this) ru rfl (by rw [hi, Array.length_toList, arrI_size])
        rwa [Array.toArray_toList] at this
      have HBf : Hid (Below w.heap.size w wf) := Lib.hid (by
        rw [← hwf]
        exact below_setCells (HBW.out.trans (HO.out.below (fun k _ e => by omega) HBW.out.size)) (by omega) _ _)
      have hi1 : (Try.prog.info? 108).map (·.size) = some (arrI F).toList.length := by rw [hi, Array.length_toList, arrI_size]
      have hi2 : (Try.prog.info? 108).map (·.size) = some (arrI F).size := by rw [hi, arrI_size]
      go_upto_region 18 with fail
      refine wp_region_lit ?_
      refine wpList_load_mid rfl 108 (.tmp 3) rfl (w.heap.size + 1 + 1) 0 (by rfl) (arrI F).toList _ hrg ru rfl hi1 ?_
      refine wpList_store_mid rfl 108 (.tmp 2) (.tmp 77) rfl (w.heap.size + 1) 0 (arrI F) (by rfl) (by rw [Array.toArray_toList]; rfl) hth hi2 (arrI_one F) ?_
      rw [hwf]
      clear hF hB2 B1 hi ru hwf hrg hth hi1 hi2
      go_wp2_with fail
      exact bodyPost_ret (v := .agg (arrI F)) (results_cell1 Try.results75 _ _ _ _ _ rfl hr) rfl ⟨by rw [HF.out], HBf.out⟩
theorem cells_any (p : Ph) (W H : Nat) (f : Nat → Int) (w : World) (h : PR w p) (hW : p.W = (W : Int)) (hH : p.H = (H : Int)) (hW1 : 9 ≤ W) (hW2 : W ≤ 64) (hH1 : 9 ≤ H) (hH2 : H ≤ 64) (hn : p.n = W * H) (hf : gridF p.px W H 72 = f) : Calls Try.prog 75 #[aggF p] w (fun e w' => e = .returned (.agg (arrI f)) ∧ Below w.heap.size w w') := by
  have := cells_core p.ride p.tm W H p.A p.n p.c p.px w h.1 h.2.1 hW1 hH1 hW2 hH2 hn
  rw [← hW, ← hH, hf] at this
  exact this
end Go.Proofs.Ytdgdjlpbnaoheaa
