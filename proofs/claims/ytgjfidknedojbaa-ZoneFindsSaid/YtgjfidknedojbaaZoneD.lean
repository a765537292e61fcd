/- The walks of relation and discs: which zones a disc touches, and which cover it. -/
import Derived.Test.YtgjfidknedojbaaZoneC
import Derived.Test.YtgjfidknedojbaaTwo
import Derived.Test.YtgjfidknedojbaaFam
namespace Go.Proofs.Ytgjfidknedojbaa
open Go.RowKit
def cellsB (l : List Bool) : List Value := l.map Value.bool
theorem snocB (l : List Bool) (b : Bool) : cellsB (l ++ [b]) = cellsB l ++ [.bool b] := by simp [cellsB]
theorem oneB {b : Bool} : ∀ u ∈ [Value.bool b], u.oneCell' = true := by simp [Value.oneCell']
theorem infoBool : (Try.prog.info? 4).map (fun i => (i.zero, i.size, i.bytes)) = some (some (.bool false), 1, 1) := by kernel_rfl
theorem fr1B (u : World) (b : Bool) : Reads (u.alloc (.cells #[.bool b] 4)) (u.heap.size + 1) 1 (some ⟨u.heap.size, 0, none⟩) 1 [.bool b] := by simpa using Reads.fresh1 u 4 #[.bool b] 1 rfl
theorem Two.step {B : Nat} {v0 w w' : World} {tx sx nx ty sy ny : Nat} {VX VY : Value} {xs ys : List Value} (T : Two B v0 w tx sx VX nx xs ty sy VY ny ys) (h : Below w.heap.size w w') : Two B v0 w' tx sx VX nx xs ty sy VY ny ys :=
  ⟨T.1.trans (h.mono T.2.1), Nat.le_trans T.2.1 h.size, own_below T.ownX h, own_below T.ownY h, T.2.2.2.2⟩
def touchL (l : List Zn) (p : Pt) (r : Int) : List Bool := l.map fun z => touchB z.p p r
def coverL (l : List Zn) (p : Pt) (r : Int) : List Bool := l.map fun z => coverB z.p p r
def okD (l : List Zn) (p : Pt) (r : Int) : Bool := decide (zcheckZ l = 0) && l.all fun z => decide (discE z.p p r = 0)
/-- Both lists come back, or nothing. -/
def RetRel (w : World) (l : List Zn) (p : Pt) (r : Int) (e : Ending) (w' : World) : Prop :=
  Below w.heap.size w w' ∧ ((okD l p r = true ∧ ∃ A n c A2 c2, e = .returned (.tuple #[.slice A n c, .slice A2 n c2, .bool true]) ∧ Reads w' w'.heap.size 1 A n (cellsB (touchL l p r)) ∧ Reads w' w'.heap.size 1 A2 n (cellsB (coverL l p r)) ∧ n = l.length) ∨ (okD l p r = false ∧ e = .returned (.tuple #[.slice none 0 0, .slice none 0 0, .bool false])))
theorem okD_no {l : List Zn} {p : Pt} {r : Int} (h : zcheckZ l ≠ 0) : okD l p r = false := by unfold okD; rw [decide_eq_false h]; rfl
theorem okD_bad {l : List Zn} {p : Pt} {r : Int} {k : Nat} (hk : k < l.length) (h : discE l[k].p p r ≠ 0) : okD l p r = false := by
  have : (l.all fun z => decide (discE z.p p r = 0)) = false := by
    rw [List.all_eq_false]; exact ⟨l[k], List.getElem_mem hk, by simp [h]⟩
  unfold okD; rw [this, Bool.and_false]
theorem okD_yes {l : List Zn} {p : Pt} {r : Int} (h0 : zcheckZ l = 0) (h : ∀ k (hk : k < l.length), discE l[k].p p r = 0) : okD l p r = true := by
  have : (l.all fun z => decide (discE z.p p r = 0)) = true := by
    rw [List.all_eq_true]
    intro z hz
    obtain ⟨k, hk, rfl⟩ := List.getElem_of_mem hz
    rw [h k hk]; rfl
  unfold okD; rw [this, decide_eq_true h0]; rfl
theorem touchL_take (l : List Zn) (p : Pt) (r : Int) {k : Nat} (hk : k < l.length) : touchL (l.take (k + 1)) p r = touchL (l.take k) p r ++ [touchB l[k].p p r] := by
  unfold touchL; rw [List.take_succ_eq_append_getElem hk, List.map_append]; rfl
theorem coverL_take (l : List Zn) (p : Pt) (r : Int) {k : Nat} (hk : k < l.length) : coverL (l.take (k + 1)) p r = coverL (l.take k) p r ++ [coverB l[k].p p r] := by
  unfold coverL; rw [List.take_succ_eq_append_getElem hk, List.map_append]; rfl
set_option maxHeartbeats 4000000 in
set_option maxRecDepth 10000 in
theorem relation_any (A : Option Addr) (n c : Nat) (l : List Zn) (p : Pt) (r : Int) (w : World) (h : ZR w A n l) (hn : n ≤ 9223372036854775807) (hnc : n ≤ c) : Calls Try.prog 31 #[.slice A n c, aggP p, .int .i64 r] w (RetRel w l p r) := by
  obtain ⟨i0, hi0, hz0, hz1, hz2⟩ := info_parts infoBool
  obtain ⟨kk, hK⟩ := box1K w 28 #[.int .i64 p.1, .int .i64 p.2]
  have HK := Lib.hid hK
  clear hK
  obtain ⟨B0, hbb⟩ := HK.out _ kk
  have c00 := B0.cell 0
  have c01 := B0.cell 1
  have HB := Lib.hid hbb
  clear B0 hbb
  have HL := Lib.hid h.2.2
  have HZA : Hid (∀ u, Below w.heap.size w u → ZR u A n l) := Lib.hid fun u hu => h.below hu
  clear h
  obtain ⟨y, hy⟩ : ∃ y, zcheckZ l = y := ⟨_, rfl⟩
  have HY := Lib.hid hy
  by_cases h0 : y = 0
  · subst h0
    clear hy
    have hn16 : n ≤ 16 := by
      have := HY.out; unfold zcheckZ at this
      by_cases g : 16 < l.length
      · rw [if_pos g] at this; exact absurd this (by decide)
      · have := HL.out; omega
    go_enter Try.func31, Try.ntmps31
    go_wp2_with fail
    refine (zcheck_any A n c l 0 _ (HZA.out _ HB.out) hn hnc HY.out).mono ?_
    rintro e w1 ⟨rfl, hb1⟩
    replace kk := below_next kk (Nat.le_refl _) hb1
    clear c00 c01 HB hb1
    obtain ⟨B0, hbb⟩ := HK.out _ kk
    have c00 := B0.cell 0
    have c01 := B0.cell 1
    have HB := Lib.hid hbb
    clear B0 hbb
    clear c00 c01
    have hT0 : Two w1.heap.size w1 w1 4 1 (.slice none 0 0) 0 [] 4 1 (.slice none 0 0) 0 [] := ⟨Below.refl _ _, Nat.le_refl _, World.ownsRow_nil _ _ _ _, World.ownsRow_nil _ _ _ _, fun g h => by simp [Value.ownBlock] at h⟩
    have HT0 := Lib.hid hT0
    have HKK := Lib.hid kk
    clear kk hT0 HB
    go_wp2_with fail
    go_loopw [6, 7, 19] (fun s1 s2 s3 wr => ∃ (k : Nat) (A1 A2 : Option Addr) (c1 c2 : Nat), k ≤ n ∧ s1 = .slice A1 k c1 ∧ s2 = .slice A2 k c2 ∧ s3 = .int .i64 k ∧ Hid (∀ j (hj : j < l.length), j < k → discE l[j].p p r = 0) ∧ Two w1.heap.size w1 wr 4 1 (.slice A1 k c1) k (cellsB (touchL (l.take k) p r)) 4 1 (.slice A2 k c2) k (cellsB (coverL (l.take k) p r))) (fun _ _ s _ => n - (intOf s).toNat)
    case atStart => exact ⟨0, none, none, 0, 0, Nat.zero_le _, rfl, rfl, rfl, Lib.hid (fun _ _ h => absurd h (Nat.not_lt_zero _)), HT0.out⟩
    case round =>
      obtain ⟨k, A1, A2, c1, c2, hk, rfl, rfl, rfl, HA, hT⟩ := hrel
      have HT := Lib.hid hT
      have hbw := hT.below
      have hkr := below_next HKK.out (Nat.le_refl _) hbw
      have HKR := Lib.hid hkr
      obtain ⟨B0, hbb⟩ := HK.out _ hkr
      have HB0 := Lib.hid B0; have HBB := Lib.hid hbb
      have HZr := Lib.hid (HZA.out _ hbb)
      have hwlt : w.heap.size < wr.heap.size := B0.lt
      clear hT hbw hkr B0 hbb
      by_cases hlt : k < n
      · have hkl : k < l.length := by have := HL.out; omega
        obtain ⟨b, off, rfl, hb, hc⟩ := HZr.out.cells (by omega)
        obtain ⟨d0, d1, d2⟩ := hc k hkl
        have hk0 : (0 : Int) ≤ k := by omega
        have hk1 : (k : Int) < n := by omega
        have HOK := Lib.hid (HZr.out.2.1 _ (List.getElem_mem hkl))
        obtain ⟨B1, hg⟩ := box1 wr 45 #[.string l[k].s, .slice l[k].A l[k].n l[k].c, .int .i64 l[k].r]
        have e1 := (B1.cell 1).trans rfl
        have B0' := HB0.out.ofBelow hg
        have c00 := (B0'.cell 0).trans rfl; have c01 := (B0'.cell 1).trans rfl
        have HB1 := Lib.hid B1; have HB0' := Lib.hid B0'; have HG := Lib.hid hg
        have HT1 := Lib.hid (HT.out.alloc (.cells #[.string l[k].s, .slice l[k].A l[k].n l[k].c, .int .i64 l[k].r] 45))
        have HTT := Lib.hid (touchL_take l p r hkl); have HTC := Lib.hid (coverL_take l p r hkl)
        have hzn := HOK.out.2.1
        clear hc B1 B0' hg
        obtain ⟨v, hv⟩ : ∃ v, discE l[k].p p r = v := ⟨_, rfl⟩
        obtain ⟨bt, hbt⟩ : ∃ b, touchB l[k].p p r = b := ⟨_, rfl⟩
        obtain ⟨bc, hbc⟩ : ∃ b, coverB l[k].p p r = b := ⟨_, rfl⟩
        have HV := Lib.hid hv; have HBT := Lib.hid hbt; have HBC := Lib.hid hbc
        rw [hbt] at HTT; rw [hbc] at HTC
        clear hbt hbc
        by_cases hv0 : v = 0
        · subst hv0
          clear hv
          go_wp2_with fail
          refine (touches_any l[k].A l[k].n l[k].c l[k].p p r bt 0 _ ((HOK.out.1.below HG.out).more HG.out.size) hzn HBT.out HV.out).mono ?_
          rintro e w5 ⟨rfl, hb5⟩
          have HT5 := Lib.hid (HT1.out.step hb5)
          have HG5 := Lib.hid (below_next HG.out (Nat.le_refl _) hb5)
          have B1 := HB1.out.ofBelow hb5; have B0 := HB0'.out.ofBelow hb5
          clear hb5 e1 c00 c01
          have e1 := (B1.cell 1).trans rfl; have c00 := (B0.cell 0).trans rfl; have c01 := (B0.cell 1).trans rfl
          clear B1 B0
          go_wp2_with fail
          refine (covers_any l[k].A l[k].n l[k].c l[k].p p r bc 0 _ ((HOK.out.1.below HG5.out).more HG5.out.size) hzn HBC.out HV.out).mono ?_
          rintro e w6 ⟨rfl, hb6⟩
          have T := HT5.out.step hb6
          have HG6 := Lib.hid (below_next HG5.out (Nat.le_refl _) hb6)
          clear hb6 e1 c00 c01
          go_wp2_with (first | (at_builtin; refine wpList_append_any _ rfl (.tmp 43) (.tmp 45) _ rfl _ 4 i0 _ 1 1 Try.underlying54 hi0 hz0 hz1 hz2 rfl (by omega) (.slice A1 k c1) k _ rfl (T.alloc _).ownX _ _ 1 1 [.bool bt] (by rfl) (fr1B _ bt) oneB (by simp only [maxLen]; omega) (by omega) (T.alloc _).base ?_; intro v7 w7 hown7 hg7 hat7; obtain ⟨A7, c7, rfl, hr7⟩ := own_reads hown7; rw [← snocB, ← HTT.out] at hown7; have T := (T.alloc _).left hown7 hg7 hat7; clear hown7 hg7 hat7 hr7) | (at_builtin; refine wpList_append_any _ rfl (.tmp 47) (.tmp 49) _ rfl _ 4 i0 _ 1 1 Try.underlying54 hi0 hz0 hz1 hz2 rfl (by omega) (.slice A2 k c2) k _ rfl (T.alloc _).ownY _ _ 1 1 [.bool bc] (by rfl) (fr1B _ bc) oneB (by simp only [maxLen]; omega) (by omega) (T.alloc _).base ?_; intro v8 w8 hown8 hg8 hat8; obtain ⟨A8, c8, rfl, hr8⟩ := own_reads hown8; rw [← snocB, ← HTC.out] at hown8; have T := (T.alloc _).right hown8 hg8 hat8; clear hown8 hg8 hat8 hr8))
          go_roundw
          case rel => exact ⟨k + 1, A7, A8, c7, c8, by omega, rfl, rfl, by go_num, Lib.hid (fun j hj hjk => by
            rcases Nat.lt_or_ge j k with h1 | h1
            · exact HA.out j hj h1
            · have : j = k := by omega
              subst this; exact HV.out), T⟩
          case measure => simp [intOf]; omega
        · have hok : okD l p r = false := okD_bad hkl (by rw [hv]; exact hv0)
          have HOKD := Lib.hid hok
          have t0 := ne0_t hv0
          clear hv hv0 hok
          go_wp2_with fail
          refine (touches_any l[k].A l[k].n l[k].c l[k].p p r bt v _ ((HOK.out.1.below HG.out).more HG.out.size) hzn HBT.out HV.out).mono ?_
          rintro e w5 ⟨rfl, hb5⟩
          have HB5 := Lib.hid (HK.out _ (below_next HKR.out (Nat.le_refl _) (below_next HG.out (Nat.le_refl _) hb5))).2
          clear hb5 e1 c00 c01
          go_wp2_with fail
          go_ret3
          exact ⟨HB5.out, .inr ⟨HOKD.out, rfl⟩⟩
      · have hle : l.take k = l := List.take_of_length_le (by have := HL.out; omega)
        have HRX := Lib.hid (Reads.of_own HT.out.ownX); have HRY := Lib.hid (Reads.of_own HT.out.ownY)
        rw [hle] at HRX HRY
        have HOKD := Lib.hid (okD_yes HY.out fun j hj => HA.out j hj (by have := HL.out; omega))
        clear hle
        go_wp2_with fail
        go_ret3
        exact ⟨HBB.out, .inl ⟨HOKD.out, A1, k, c1, A2, c2, rfl, HRX.out, HRY.out, by have := HL.out; omega⟩⟩
  · have hok : okD l p r = false := okD_no (by rw [hy]; exact h0)
    have HOKD := Lib.hid hok
    have t0 := ne0_t h0
    clear hy h0 hok
    go_enter Try.func31, Try.ntmps31
    go_wp2_with fail
    refine (zcheck_any A n c l y _ (HZA.out _ HB.out) hn hnc HY.out).mono ?_
    rintro e w2 ⟨rfl, hb2⟩
    replace kk := below_next kk (Nat.le_refl _) hb2
    clear c00 c01 HB hb2
    obtain ⟨B0, hbb⟩ := HK.out _ kk
    have c00 := B0.cell 0
    have c01 := B0.cell 1
    have HB := Lib.hid hbb
    clear B0 hbb
    go_wp2_with fail
    go_ret3
    exact ⟨HB.out, .inr ⟨HOKD.out, rfl⟩⟩
end Go.Proofs.Ytgjfidknedojbaa
