/- The walks of the reference's find, Left, Count, Lots, with. -/
import Derived.Test.YthbmofijdhfeeaaStore
namespace Go.Proofs.Ythbmofijdhfeeaa
open Go.RowKit Go.Maps Go.WideMaps
def lots (l : List Lt) : List L4 := l.map (·.1)
def lefts (l : List Lt) : List Int := l.map (·.2)
theorem lots_at {l : List Lt} {i : Nat} (hi : i < l.length) : (lots l)[i]'(by simpa [lots] using hi) = l[i].1 := by simp [lots]
theorem lots_len (l : List Lt) : (lots l).length = l.length := by simp [lots]
theorem cellsI_at {l : List Lt} {i : Nat} (hi : i < l.length) : (cellsI (lefts l))[i]? = some (.int .i64 l[i].2) := by simp [cellsI, lefts, hi]
/-- Two slices are a store of the reference with the entries l. -/
def RefS (w : World) (A : Option Addr) (n : Nat) (A' : Option Addr) (l : List Lt) : Prop := Reads w w.heap.size 4 A n (cellsL (lots l)) ∧ Reads w w.heap.size 1 A' n (cellsI (lefts l)) ∧ l.length = n
theorem RefS.mk {w : World} {A A' : Option Addr} {n : Nat} {l : List Lt} (h1 : Reads w w.heap.size 4 A n (cellsL (lots l))) (h2 : Reads w w.heap.size 1 A' n (cellsI (lefts l))) : RefS w A n A' l :=
  ⟨h1, h2, by have := recs_len h1 encL_len (by omega); rwa [lots_len] at this⟩
theorem RefS.below {w w' : World} {A A' : Option Addr} {n : Nat} {l : List Lt} (h : RefS w A n A' l) (hb : Below w.heap.size w w') : RefS w' A n A' l := ⟨(h.1.below hb).more hb.size, (h.2.1.below hb).more hb.size, h.2.2⟩
theorem RefS.lot {w : World} {A A' : Option Addr} {n : Nat} {l : List Lt} (h : RefS w A n A' l) (hn : 0 < n) : ∃ b off, A = some ⟨b, off, none⟩ ∧ b < w.heap.size ∧ ∀ k (hk : k < l.length), w.cell? ⟨b, off + k * 4, none⟩ = some (.int .i64 l[k].1.1) ∧ w.cell? ⟨b, off + k * 4 + 1, none⟩ = some (.int .i64 l[k].1.2.1) ∧ w.cell? ⟨b, off + k * 4 + 2, none⟩ = some (.int .i64 l[k].1.2.2.1) ∧ w.cell? ⟨b, off + k * 4 + 3, none⟩ = some (.int .i64 l[k].1.2.2.2) := by
  obtain ⟨b, off, e, hb, hc⟩ := h.1.recs encL_len (by omega) hn
  refine ⟨b, off, e, hb, fun k hk => ?_⟩
  have := hc k (by rw [lots_len]; exact hk)
  rw [lots_at hk] at this
  exact ⟨this 0 _ rfl, this 1 _ rfl, this 2 _ rfl, this 3 _ rfl⟩
theorem RefS.left {w : World} {A A' : Option Addr} {n : Nat} {l : List Lt} (h : RefS w A n A' l) (hn : 0 < n) : ∃ b off, A' = some ⟨b, off, none⟩ ∧ b < w.heap.size ∧ ∀ k (hk : k < l.length), w.cell? ⟨b, off + k, none⟩ = some (.int .i64 l[k].2) := by
  obtain ⟨b, off, e, hb, hc⟩ := h.2.1.open_ hn (by omega)
  exact ⟨b, off, e, hb, fun k hk => hc k _ (cellsI_at hk)⟩
def posI (l : List Lt) (r : Int) : Int := match idx l r with | some i => (i : Int) | none => -1
theorem posI_some {l : List Lt} {r : Int} {i : Nat} (h : idx l r = some i) : posI l r = i := by simp [posI, h]
theorem posI_none {l : List Lt} {r : Int} (h : idx l r = none) : posI l r = -1 := by simp [posI, h]
set_option maxHeartbeats 1000000 in
theorem rfind_any (A A' : Option Addr) (n c c' : Nat) (l : List Lt) (r x : Int) (w : World) (h : RefS w A n A' l) (hn : n ≤ 100000) (hx : posI l r = x) :
    Calls Try.prog 31 #[.agg #[.slice A n c, .slice A' n c'], .int .i64 r] w (RetI w x) := by
  have hal := below_alloc (Below.refl w.heap.size w) (Nat.le_refl _) (.cells #[.slice A n c, .slice A' n c'] 30)
  have hB := Blk.new w 30 #[.slice A n c, .slice A' n c']
  have c0 := hB.cell 0
  have HH := Lib.hid (h.below hal)
  have HAL := Lib.hid hal
  have HX := Lib.hid hx
  have HL := Lib.hid h.2.2
  clear h hx hal hB
  go_enter Try.func31, Try.ntmps31
  go_wp2_with fail
  go_loop [5] (fun i => ∃ k : Nat, k ≤ n ∧ i = .int .i64 k ∧ Hid (∀ j (hj : j < l.length), j < k → l[j].1.1 ≠ r)) (fun i => n - (intOf i).toNat)
  case atStart => exact ⟨0, Nat.zero_le _, rfl, Lib.hid fun _ _ h => absurd h (Nat.not_lt_zero _)⟩
  case round =>
    obtain ⟨k, hk, rfl, HA⟩ := hrel
    by_cases hlt : k < n
    · have hkl : k < l.length := by have := HL.out; omega
      obtain ⟨b, off, rfl, hb, hc⟩ := HH.out.lot (by omega)
      have d0 := (hc k hkl).1
      have hk0 : (0 : Int) ≤ k := by omega
      have hk1 : (k : Int) < n := by omega
      clear hc
      by_cases he : l[k].1.1 = r
      · have t1 : (l[k].1.1 == r) = true := beq_iff_eq.2 he
        have HE : Hid ((k : Int) = x) := Lib.hid (by rw [← HX.out, posI_some (idx_at hkl he fun j hj hjk => HA.out j hj hjk)])
        clear he
        go_wp2_with fail
        go_ret
        exact ⟨ret_int HE.out, HAL.out⟩
      · have t1 : (l[k].1.1 == r) = false := beq_eq_false_iff_ne.2 he
        have HA2 : Hid (∀ j (hj : j < l.length), j < k + 1 → l[j].1.1 ≠ r) := Lib.hid fun j hj hjk => by
          rcases Nat.lt_or_ge j k with h1 | h1
          · exact HA.out j hj h1
          · have : j = k := by omega
            subst this; exact he
        clear he
        go_wp2_with fail
        go_round
        case rel => exact ⟨k + 1, by omega, by go_num, HA2⟩
        case measure => simp [intOf]; omega
    · have HE : Hid ((-1 : Int) = x) := Lib.hid (by rw [← HX.out, posI_none (idx_no fun j hj => HA.out j hj (by have := HL.out; omega))])
      go_wp2_with fail
      go_ret
      exact ⟨ret_int HE.out, HAL.out⟩
set_option maxHeartbeats 1000000 in
theorem rleft_any (A A' : Option Addr) (n c c' : Nat) (l : List Lt) (r x y : Int) (w : World) (h : RefS w A n A' l) (hn : n ≤ 100000) (hx : leftN l r = x) (hy : leftE l r = y) :
    Calls Try.prog 16 #[.agg #[.slice A n c, .slice A' n c'], .int .i64 r] w (RetII w x y) := by
  have hal := below_alloc (Below.refl w.heap.size w) (Nat.le_refl _) (.cells #[.slice A n c, .slice A' n c'] 30)
  have hB := Blk.new w 30 #[.slice A n c, .slice A' n c']
  have c0 := hB.cell 0
  have c1 := hB.cell 1
  have HH := Lib.hid (h.below hal)
  have HAL := Lib.hid hal
  have HL := Lib.hid h.2.2
  clear h hal
  rcases Option.eq_none_or_eq_some (idx l r) with hi | ⟨i, hi⟩
  · have H := left_none hi
    obtain rfl : x = 0 := hx.symm.trans H.2
    obtain rfl : y = 7 := hy.symm.trans H.1
    have HP := Lib.hid (posI_none hi)
    clear hx hy H hi hB
    go_enter Try.func16, Try.ntmps16
    go_wp2_with fail
    refine (rfind_any A A' n c c' l r (-1) _ HH.out hn HP.out).mono ?_
    rintro e w1 ⟨rfl, hb1⟩
    have HB1 := Lib.hid (HAL.out.trans (hb1.mono HAL.out.size))
    clear hb1
    go_wp2_with fail
    go_ret2
    exact ⟨rfl, HB1.out⟩
  · have H := left_some hi
    have hil := idx_lt hi
    have hin : i < n := by have := HL.out; omega
    obtain rfl : x = l[i].2 := hx.symm.trans H.2
    obtain rfl : y = 0 := hy.symm.trans H.1
    have HP := Lib.hid (posI_some hi)
    have HB := Lib.hid hB
    clear hx hy H hi hB
    go_enter Try.func16, Try.ntmps16
    go_wp2_with fail
    refine (rfind_any A A' n c c' l r i _ HH.out hn HP.out).mono ?_
    rintro e w1 ⟨rfl, hb1⟩
    have HB1 := Lib.hid (HAL.out.trans (hb1.mono HAL.out.size))
    have b1 := HB.out.below hb1 HB.out.lt
    have e1 := b1.cell 1
    obtain ⟨b, off, rfl, hbl, hc⟩ := (HH.out.below hb1).left (by omega)
    have d0 := hc i hil
    have hi0 : (0 : Int) ≤ i := by omega
    have hi1 : (i : Int) < n := by omega
    clear hb1 hc b1 c0 c1
    go_wp2_with fail
    go_ret2
    exact ⟨rfl, HB1.out⟩
set_option maxHeartbeats 1000000 in
theorem rcount_any (A A' : Option Addr) (n c c' : Nat) (l : List Lt) (k x : Int) (w : World) (h : RefS w A n A' l) (hf : fine l) (hx : countN l k = x) :
    Calls Try.prog 17 #[.agg #[.slice A n c, .slice A' n c'], .int .i64 k] w (RetI w x) := by
  have hal := below_alloc (Below.refl w.heap.size w) (Nat.le_refl _) (.cells #[.slice A n c, .slice A' n c'] 30)
  have hB := Blk.new w 30 #[.slice A n c, .slice A' n c']
  have c0 := hB.cell 0
  have c1 := hB.cell 1
  have HH := Lib.hid (h.below hal)
  have HAL := Lib.hid hal
  have HX := Lib.hid hx
  have HL := Lib.hid h.2.2
  have hn : n ≤ 512 := by have := HL.out; have := hf.1; omega
  clear h hx hal hB
  go_enter Try.func17, Try.ntmps17
  go_wp2_with fail
  go_loop [5, 6] (fun s i => ∃ j : Nat, j ≤ n ∧ i = .int .i64 j ∧ s = .int .i64 (countN (l.take j) k)) (fun _ i => n - (intOf i).toNat)
  case atStart => exact ⟨0, Nat.zero_le _, rfl, rfl⟩
  case round =>
    obtain ⟨j, hj, rfl, rfl⟩ := hrel
    by_cases hlt : j < n
    · have hjl : j < l.length := by have := HL.out; omega
      obtain ⟨b, off, rfl, hb, hc⟩ := HH.out.lot (by omega)
      obtain ⟨b', off', rfl, hb', hc'⟩ := HH.out.left (by omega)
      have d1 := (hc j hjl).2.1
      have e0 := hc' j hjl
      have hj0 : (0 : Int) ≤ j := by omega
      have hj1 : (j : Int) < n := by omega
      have b1 := countN_le l k j (fine_left hf) hf.1
      have b2 := fine_left hf _ (List.getElem_mem hjl)
      have HT := Lib.hid (countN_take hjl k)
      obtain ⟨b3, b4⟩ := b1
      obtain ⟨b5, b6⟩ := b2
      clear hc hc'
      by_cases he : l[j].1.2.1 = k
      · have t1 : (l[j].1.2.1 == k) = true := beq_iff_eq.2 he
        have HT2 : Hid (countN (l.take (j + 1)) k = countN (l.take j) k + l[j].2) := Lib.hid (by rw [HT.out, if_pos he])
        clear he
        go_wp2_with fail
        go_round
        case rel => exact ⟨j + 1, by omega, by go_num, by rw [HT2.out]⟩
        case measure => simp [intOf]; omega
      · have t1 : (l[j].1.2.1 == k) = false := beq_eq_false_iff_ne.2 he
        have HT2 : Hid (countN (l.take (j + 1)) k = countN (l.take j) k) := Lib.hid (by rw [HT.out, if_neg he, Int.add_zero])
        clear he
        go_wp2_with fail
        go_round
        case rel => exact ⟨j + 1, by omega, by go_num, by rw [HT2.out]⟩
        case measure => simp [intOf]; omega
    · have HE : Hid (countN (l.take j) k = x) := Lib.hid (by rw [List.take_of_length_le (by have := HL.out; omega), HX.out])
      go_wp2_with fail
      go_ret
      exact ⟨ret_int HE.out, HAL.out⟩
set_option maxHeartbeats 1000000 in
set_option maxRecDepth 10000 in
theorem rlots_any (A A' : Option Addr) (n c c' : Nat) (l : List Lt) (w : World) (h : RefS w A n A' l) (hn : n ≤ 512) :
    Calls Try.prog 19 #[.agg #[.slice A n c, .slice A' n c']] w (RetOwn w 47 4 (cellsL (lotsL l))) := by
  obtain ⟨i0, hi0, hz0, hz1, hz2⟩ := info_parts Try.info47
  have hal := below_alloc (Below.refl w.heap.size w) (Nat.le_refl _) (.cells #[.slice A n c, .slice A' n c'] 30)
  have hB := Blk.new w 30 #[.slice A n c, .slice A' n c']
  have HB := Lib.hid hB
  have HH := Lib.hid (h.below hal)
  have HAL := Lib.hid hal
  have HL := Lib.hid h.2.2
  clear h hal hB
  go_enter Try.func19, Try.ntmps19
  go_wp2_with fail
  go_loopw [3, 4] (fun out i wr => ∃ (j : Nat) (A1 : Option Addr) (c1 : Nat), j ≤ n ∧ i = .int .i64 j ∧ out = .slice A1 j c1 ∧ wr.ownsRow (w.heap.size + 1) 47 4 (.slice A1 j c1) j (cellsL (lotsL (l.take j))) ∧ Below (w.heap.size + 1) (w.alloc (.cells #[.slice A n c, .slice A' n c'] 30)) wr) (fun _ i _ => n - (intOf i).toNat)
  case atStart => exact ⟨0, none, 0, Nat.zero_le _, rfl, rfl, World.ownsRow_nil _ _ _ _, Below.refl _ _⟩
  case round =>
    obtain ⟨j, A1, c1, hj, rfl, rfl, hown, hbw⟩ := hrel
    have hbw' : Below (w.alloc (.cells #[.slice A n c, .slice A' n c'] 30)).heap.size (w.alloc (.cells #[.slice A n c, .slice A' n c'] 30)) wr := hbw.mono (by simp)
    have HO := Lib.hid hown
    have hBr := HB.out.below hbw' HB.out.lt
    have c0 := hBr.cell 0
    have c1' := hBr.cell 1
    have HHr := Lib.hid (HH.out.below hbw')
    have hsw : w.heap.size + 1 ≤ wr.heap.size := by have := hbw.size; simpa using this
    have HBW := Lib.hid hbw
    have hsw2 : w.heap.size < wr.heap.size := by omega
    clear hown hbw' hbw hBr
    by_cases hlt : j < n
    · have hjl : j < l.length := by have := HL.out; omega
      obtain ⟨b, off, rfl, hb, hc⟩ := HHr.out.lot (by omega)
      obtain ⟨b', off', rfl, hb', hc'⟩ := HHr.out.left (by omega)
      obtain ⟨d0, d1, d2, d3⟩ := hc j hjl
      have e0 := hc' j hjl
      have hj0 : (0 : Int) ≤ j := by omega
      have hj1 : (j : Int) < n := by omega
      have HT := Lib.hid (lotsL_take hjl)
      have HNR : Hid (Reads ((wr.alloc (.cells #[.int .i64 l[j].1.1, .int .i64 l[j].1.2.1, .int .i64 l[j].2, .int .i64 l[j].1.2.2.2] 47)).alloc (.cells #[.int .i64 l[j].1.1, .int .i64 l[j].1.2.1, .int .i64 l[j].2, .int .i64 l[j].1.2.2.2] 47)) (wr.heap.size + 1 + 1) 4 (some ⟨wr.heap.size + 1, 0, none⟩) 1 (encL (l[j].1.1, l[j].1.2.1, l[j].2, l[j].1.2.2.2))) := Lib.hid (by
        simpa [encL] using Reads.fresh (wr.alloc (.cells #[.int .i64 l[j].1.1, .int .i64 l[j].1.2.1, .int .i64 l[j].2, .int .i64 l[j].1.2.2.2] 47)) 47 #[.int .i64 l[j].1.1, .int .i64 l[j].1.2.1, .int .i64 l[j].2, .int .i64 l[j].1.2.2.2] 1 4 rfl)
      clear hc hc'
      go_wp2_with (at_builtin; go_loud (
                   refine wpList_append_any _ rfl (.tmp 24) (.tmp 26) _ rfl (w.heap.size + 1) 47 i0 _ 4 32 Try.underlying22 hi0 hz0 hz1 hz2 rfl (by omega) (.slice A1 j c1) j (cellsL (lotsL (l.take j))) rfl ((HO.out.alloc _).alloc _) (wr.heap.size + 1 + 1) (some ⟨wr.heap.size + 1, 0, none⟩) 1 1 (encL (l[j].1.1, l[j].1.2.1, l[j].2, l[j].1.2.2.2)) rfl HNR.out (one_encL _) (by simp only [maxLen]; omega) (by omega) (by simp; omega) ?_
                   intro v3 w3 hown3 hg3 hat3
                   obtain ⟨A3, c3, rfl, hr3⟩ := own_reads hown3
                   rw [← snocL, ← HT.out] at hown3))
      go_roundw
      case rel => exact ⟨j + 1, A3, c3, by omega, by go_num, rfl, hown3, below_own ((HBW.out.alloc hsw _).alloc (by simp; omega) _) ((HO.out.alloc _).alloc _) hg3 (by simp; omega) (Nat.le_refl _)⟩
      case measure => simp [intOf]; omega
    · obtain rfl : j = n := by omega
      have HE : Hid (lotsL (l.take j) = lotsL l) := Lib.hid (by rw [List.take_of_length_le (by have := HL.out; omega)])
      go_wp2_with fail
      go_ret
      exact ⟨A1, j, c1, rfl, by rw [← HE.out]; exact own_mono HO.out (by omega), HAL.out.trans (HBW.out.mono (by omega))⟩
end Go.Proofs.Ythbmofijdhfeeaa
