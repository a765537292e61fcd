/- The authentication code: the program's walk of Sum. -/
import Derived.Test.YtpipojgfpilhdaaPhK
import Derived.Test.YtpipojgfpilhdaaPhF
namespace Go.Proofs.Ytpipojgfpilhdaa
open Go.RowKit
def initV (ka kb : Int) : V4 := ⟨xorZ ka 8317987319222330741, xorZ kb 7237128888997146477, xorZ ka 7816392313619706465, xorZ kb 8387220255154660723⟩
def wordAt (xs : List Int) (k : Nat) : Int := wordF (fun i => uAt xs (8 * k + i)) 8
def absorb (xs : List Int) (v : V4) : Nat → V4
  | 0 => v
  | k + 1 => takeV (absorb xs v k) (wordAt xs k)
def lastW (xs : List Int) : Int := bits .or .u64 (wordF (fun i => uAt xs (8 * (xs.length / 8) + i)) (xs.length % 8)) (IntKind.u64.wrap ((xs.length : Int) * 72057594037927936))
def rndN (v : V4) : Nat → V4
  | 0 => v
  | k + 1 => rnd (rndN v k)
def endV (v : V4) : Int :=
  let u := rndN ⟨v.a, v.b, xorZ v.c 255, v.d⟩ 4
  xorZ (xorZ (xorZ u.a u.b) u.c) u.d
def sumV (ka kb : Int) (xs : List Int) : Int := endV (takeV (absorb xs (initV ka kb) (xs.length / 8)) (lastW xs))
theorem uAt_drop (xs : List Int) (k i : Nat) : uAt (xs.drop k) i = uAt xs (k + i) := by
  unfold uAt; rw [List.getD_eq_getElem?_getD, List.getD_eq_getElem?_getD, List.getElem?_drop]
theorem cellsU_drop (xs : List Int) (k : Nat) : (cellsU xs).drop k = cellsU (xs.drop k) := by simp [cellsU]
theorem cellsU_take (xs : List Int) (k : Nat) : (cellsU xs).take k = cellsU (xs.take k) := by simp [cellsU]
theorem uAt_take (xs : List Int) {k i : Nat} (h : i < k) : uAt (xs.take k) i = uAt xs i := by
  unfold uAt; rw [List.getD_eq_getElem?_getD, List.getD_eq_getElem?_getD, List.getElem?_take, if_pos h]
theorem Bytes.drop {l : List Int} (h : Bytes l) (k : Nat) : Bytes (l.drop k) := fun b hb => h b (List.mem_of_mem_drop hb)
theorem Bytes.take {l : List Int} (h : Bytes l) (k : Nat) : Bytes (l.take k) := fun b hb => h b (List.mem_of_mem_take hb)
theorem Reads.head {w : World} {B n : Nat} {A : Option Addr} {xs : List Int} (h : Reads w B 1 A n (cellsU xs)) {k : Nat} (hk : k ≤ n) : Reads w B 1 A k (cellsU (xs.take k)) := by
  refine ⟨by rw [cellsU_len, List.length_take, reads_len h]; omega, fun h0 => ?_⟩
  obtain ⟨ad, e, hb, hc⟩ := h.2 (by omega)
  refine ⟨ad, e, hb, fun j u hu => hc j u ?_⟩
  rw [← cellsU_take] at hu
  rw [List.getElem?_take] at hu
  split at hu
  · exact hu
  · cases hu
def sliceLen : Value → Int
  | .slice _ n _ => n
  | _ => 0
set_option maxHeartbeats 8000000 in
set_option maxRecDepth 20000 in
theorem sum_any (A : Option Addr) (n c : Nat) (xs : List Int) (ka kb x : Int) (w : World) (h : Reads w w.heap.size 1 A n (cellsU xs)) (hby : Bytes xs) (hn : n ≤ 20000) (hnc : n ≤ c) (hx : sumV ka kb xs = x) : Calls Try.prog 28 #[.agg #[.int .u64 ka, .int .u64 kb], .slice A n c] w (fun e w' => e = .returned (.int .u64 x) ∧ Below w.heap.size w w') := by
  have HL := Lib.hid (reads_len h)
  have HRA : Hid (∀ u, Below w.heap.size w u → Reads u u.heap.size 1 A n (cellsU xs)) := Lib.hid fun u hu => (h.below hu).more hu.size
  have HBY := Lib.hid hby; have HX := Lib.hid hx
  clear h hby hx
  go_enter Try.func28, Try.ntmps28
  go_wp2_with fail
  obtain ⟨v0, hv0⟩ : ∃ v, ((w.alloc (.cells #[.int .u64 ka, .int .u64 kb] 46)).alloc (.cells (arrV (initV ka kb)) 62)) = v := ⟨_, rfl⟩
  have HB0 : Hid (Blk v0 (w.heap.size + 1) 62 (arrV (initV ka kb))) := Lib.hid (by
    rw [← hv0]
    have := Blk.new (w.alloc (.cells #[.int .u64 ka, .int .u64 kb] 46)) 62 (arrV (initV ka kb))
    simpa using this)
  have HBW : Hid (Below w.heap.size w v0) := Lib.hid (by rw [← hv0]; exact below_alloc ((Below.refl _ _).alloc (Nat.le_refl _) _) (Nat.le_refl _) _)
  have hv0' : ((w.alloc (.cells #[.int .u64 ka, .int .u64 kb] 46)).alloc (.cells #[.int .u64 (bits .xor .u64 ka 8317987319222330741), .int .u64 (bits .xor .u64 kb 7237128888997146477), .int .u64 (bits .xor .u64 ka 7816392313619706465), .int .u64 (bits .xor .u64 kb 8387220255154660723)] 62)) = v0 := hv0
  rw [hv0']
  obtain ⟨g, hg⟩ : ∃ g, w.heap.size + 1 = g := ⟨_, rfl⟩
  have HGG : Hid (w.heap.size ≤ g) := Lib.hid (by omega)
  rw [hg] at HB0 ⊢
  obtain ⟨tl, htl⟩ : ∃ t, IntKind.u64.wrap ((n : Int) * 72057594037927936) = t := ⟨_, rfl⟩
  have HTL := Lib.hid htl
  rw [htl]
  clear hv0 hv0' hg htl
  obtain ⟨vi, hvi⟩ : ∃ v, initV ka kb = v := ⟨_, rfl⟩
  have HVI := Lib.hid hvi
  rw [hvi] at HB0
  clear hvi
  have HR0 : Hid (Reads w w.heap.size 1 A n (cellsU xs)) := Lib.hid (HRA.out w (Below.refl _ _))
  go_loopw [1] (fun s1 wr => ∃ (k m : Nat) (A' : Option Addr) (c' : Nat), m + 8 * k = n ∧ s1 = .slice A' m c' ∧ m ≤ c' ∧ Hid (Reads w w.heap.size 1 A' m (cellsU (xs.drop (8 * k)))) ∧ Only (fun b => b = g) v0 wr ∧ Blk wr g 62 (arrV (absorb xs vi k))) (fun s _ => (sliceLen s).toNat)
  case atStart => exact ⟨0, n, A, c, by omega, rfl, hnc, Lib.hid (by simpa using HR0.out), Only.refl _ _, HB0.out⟩
  case round =>
    obtain ⟨wo, rfl⟩ : ∃ wo : World, wo = wr := ⟨_, rfl⟩
    obtain ⟨k, m, A', c', hm, rfl, hmc, HR, hO, hB⟩ := hrel
    have HO := Lib.hid hO; have HB := Lib.hid hB
    have HBO := Lib.hid (HBW.out.trans (hO.below (B := w.heap.size) (fun k _ e => by rw [e]; exact HGG.out) HBW.out.size))
    clear hO hB
    by_cases h8 : 8 ≤ m
    · have h8i : (8 : Int) ≤ m := by omega
      have hmi : (m : Int) ≤ c' := by omega
      have HRo := Lib.hid (HR.out.below HBO.out)
      have HWD : Hid (wordF (uAt ((xs.drop (8 * k)).take 8)) 8 = wordAt xs k) := Lib.hid (wordF_congr fun i hi => by rw [uAt_take _ hi, uAt_drop])
      go_wp2_with fail
      refine (word_any A' 8 c' ((xs.drop (8 * k)).take 8) (wordAt xs k) wo ((HRo.out.head h8).more HBO.out.size) ((HBY.out.drop _).take _) (by decide) HWD.out).mono ?_
      rintro e w1 ⟨rfl, rfl⟩
      go_wp2_with fail
      refine (take_any g _ (wordAt xs k) _ HB.out).mono ?_
      rintro e w2 ⟨rfl, hB2, hO2⟩
      have HB2 : Hid (Blk w2 g 62 (arrV (absorb xs vi (k + 1)))) := Lib.hid hB2
      have HO2 : Hid (Only (fun b => b = g) v0 w2) := Lib.hid (HO.out.trans hO2 fun _ _ e => e)
      have HRC : Hid (Reads w w.heap.size 1 (if c' = 8 then A' else A'.map (·.add 8)) (m - 8) (cellsU (xs.drop (8 * (k + 1))))) := Lib.hid (by
        have := HR.out.cut (k := 8) (cap := c') h8 hmc
        rw [cellsU_drop, List.drop_drop] at this
        rw [show 8 * (k + 1) = 8 * k + 8 * 1 by omega]
        exact this)
      clear hB2 hO2
      go_wp2_with fail
      go_roundw
      case rel => exact ⟨k + 1, m - 8, _, c' - 8, by omega, rfl, by omega, HRC, HO2.out, HB2.out⟩
      case measure => simp [sliceLen]; omega
    · have h8i : (m : Int) < 8 := by omega
      have HK : Hid (k = n / 8) := Lib.hid (by omega)
      have HMK : Hid (m = n % 8) := Lib.hid (by omega)
      have HRo := Lib.hid ((HR.out.below HBO.out).more HBO.out.size)
      obtain ⟨wl, hwl⟩ : ∃ x, wordF (uAt (xs.drop (8 * k))) m = x := ⟨_, rfl⟩
      have HWL := Lib.hid hwl
      obtain ⟨lw, hlw⟩ : ∃ x, bits .or .u64 wl tl = x := ⟨_, rfl⟩
      have HLW : Hid (lastW xs = lw) := Lib.hid (by
        rw [← hlw, ← HTL.out, ← hwl]
        unfold lastW
        rw [HL.out, ← HK.out, ← HMK.out]
        congr 1
        exact wordF_congr fun i _ => (uAt_drop _ _ _).symm)
      have HLW2 := Lib.hid hlw
      clear hwl hlw
      go_wp2_with fail
      refine (word_any A' m c' (xs.drop (8 * k)) wl wo HRo.out (HBY.out.drop _) (by omega) HWL.out).mono ?_
      rintro e w1 ⟨rfl, rfl⟩
      have hlw := HLW2.out
      go_wp2_with fail
      refine (take_any g _ lw _ HB.out).mono ?_
      rintro e w2 ⟨rfl, hB2, hO2⟩
      obtain ⟨u, hu⟩ : ∃ u, takeV (absorb xs vi k) lw = u := ⟨_, rfl⟩
      rw [hu] at hB2
      have HU := Lib.hid hu
      have HB2 := Lib.hid hB2
      have HO2 : Hid (Only (fun b => b = g) v0 w2) := Lib.hid (HO.out.trans hO2 fun _ _ e => e)
      have e2 := (hB2.cell 2).trans rfl
      have z2 := hB2.frozen 2
      clear hB2 hO2 hu hlw
      obtain ⟨y, hy⟩ : ∃ y, bits .xor .u64 u.c 255 = y := ⟨_, rfl⟩
      have HYX : Hid (xorZ u.c 255 = y) := Lib.hid hy
      obtain ⟨w3, hw3⟩ : ∃ x, w2.setCell ⟨g, 2, none⟩ (.int .u64 y) = x := ⟨_, rfl⟩
      have HB3 : Hid (Blk w3 g 62 (arrV ⟨u.a, u.b, y, u.d⟩)) := Lib.hid (by rw [← hw3]; exact HB2.out.set_ 2 (.int .u64 y))
      have HO3 : Hid (Only (fun b => b = g) v0 w3) := Lib.hid (by rw [← hw3]; exact HO2.out.setCell (p := ⟨g, 2, none⟩) (fun _ => rfl) _)
      have HW3 := Lib.hid hw3
      clear hw3
      go_wp2_with fail
      rw [HW3.out]
      clear e2 z2 hy HW3
      go_loopw [42] (fun s wr => ∃ j : Nat, j ≤ 4 ∧ s = .int .i64 j ∧ Only (fun b => b = g) v0 wr ∧ Blk wr g 62 (arrV (rndN ⟨u.a, u.b, y, u.d⟩ j))) (fun s _ => 4 - (intOf s).toNat)
      case atStart => exact ⟨0, by decide, rfl, HO3.out, HB3.out⟩
      case round =>
        obtain ⟨wj, rfl⟩ : ∃ wj : World, wj = wr := ⟨_, rfl⟩
        obtain ⟨j, hj, rfl, hO, hB⟩ := hrel
        have HOj := Lib.hid hO; have HBj := Lib.hid hB
        by_cases hlj : j < 4
        · have hj4 : (j : Int) < 4 := by omega
          clear hO hB
          go_wp2_with fail
          refine (round_any g _ _ HBj.out).mono ?_
          rintro e w4 ⟨rfl, hB4, hO4⟩
          have HB4 : Hid (Blk w4 g 62 (arrV (rndN ⟨u.a, u.b, y, u.d⟩ (j + 1)))) := Lib.hid hB4
          have HO4 : Hid (Only (fun b => b = g) v0 w4) := Lib.hid (HOj.out.trans hO4 fun _ _ e => e)
          clear hB4 hO4
          go_wp2_with fail
          go_roundw
          case rel => exact ⟨j + 1, by omega, by go_num, HO4.out, HB4.out⟩
          case measure => simp [intOf]; omega
        · obtain rfl : j = 4 := by omega
          obtain ⟨q, hq⟩ : ∃ q, rndN ⟨u.a, u.b, y, u.d⟩ 4 = q := ⟨_, rfl⟩
          rw [hq] at hB
          have HE : Hid (xorZ (xorZ (xorZ q.a q.b) q.c) q.d = x) := Lib.hid (by
            rw [← HX.out]
            unfold sumV endV
            rw [HL.out, ← HK.out, HVI.out, HLW.out, HU.out, HYX.out, hq])
          have e0 := (hB.cell 0).trans rfl; have e1 := (hB.cell 1).trans rfl; have e2 := (hB.cell 2).trans rfl; have e3 := (hB.cell 3).trans rfl
          have HBF : Hid (Below w.heap.size w wj) := Lib.hid (HBW.out.trans (hO.below (B := w.heap.size) (fun k _ e => by rw [e]; exact HGG.out) HBW.out.size))
          clear hO hB hq
          go_wp2_with fail
          go_ret
          exact ⟨ret_int HE.out, HBF.out⟩
end Go.Proofs.Ytpipojgfpilhdaa
