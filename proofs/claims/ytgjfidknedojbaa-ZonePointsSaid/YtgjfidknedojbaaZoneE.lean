/- The walk of the reference's discs. -/
import Derived.Test.YtgjfidknedojbaaZoneD
namespace Go.Proofs.Ytgjfidknedojbaa
open Go.RowKit
set_option maxHeartbeats 4000000 in
set_option maxRecDepth 10000 in
theorem discs_any (A : Option Addr) (n c : Nat) (l : List Zn) (p : Pt) (r : Int) (w : World) (h : ZR w A n l) (hn : n ≤ 9223372036854775807) : Calls Try.prog 32 #[.slice A n c, aggP p, .int .i64 r] w (RetRel w l p r) := by
  obtain ⟨i0, hi0, hz0, hz1, hz2⟩ := info_parts infoBool
  obtain ⟨kk, hK⟩ := box1K w 28 #[.int .i64 p.1, .int .i64 p.2]
  have HK := Lib.hid hK
  clear hK
  obtain ⟨B0, hbb⟩ := HK.out _ kk
  have c00 := B0.cell 0
  have c01 := B0.cell 1
  have HB := Lib.hid hbb
  clear B0 hbb
  have HL := Lib.hid h.2.2
  have HZA : Hid (∀ u, Below w.heap.size w u → ZR u A n l) := Lib.hid fun u hu => h.below hu
  clear h
  obtain ⟨y, hy⟩ : ∃ y, zcheckZ l = y := ⟨_, rfl⟩
  have HY := Lib.hid hy
  by_cases h0 : y = 0
  · subst h0
    clear hy
    have hn16 : n ≤ 16 := by
      have := HY.out; unfold zcheckZ at this
      by_cases g : 16 < l.length
      · rw [if_pos g] at this; exact absurd this (by decide)
      · have := HL.out; omega
    go_enter Try.func32, Try.ntmps32
    go_wp2_with fail
    refine (rzcheck_any A n c l 0 _ (HZA.out _ HB.out) hn HY.out).mono ?_
    rintro e w1 ⟨rfl, hb1⟩
    replace kk := below_next kk (Nat.le_refl _) hb1
    clear c00 c01 HB hb1
    obtain ⟨B0, hbb⟩ := HK.out _ kk
    have c00 := B0.cell 0
    have c01 := B0.cell 1
    have HB := Lib.hid hbb
    clear B0 hbb
    clear c00 c01
    have hT0 : Two w1.heap.size w1 w1 4 1 (.slice none 0 0) 0 [] 4 1 (.slice none 0 0) 0 [] := ⟨Below.refl _ _, Nat.le_refl _, World.ownsRow_nil _ _ _ _, World.ownsRow_nil _ _ _ _, fun g h => by simp [Value.ownBlock] at h⟩
    have HT0 := Lib.hid hT0
    have HKK := Lib.hid kk
    clear kk hT0 HB
    go_wp2_with fail
    go_loopw [9, 10, 11] (fun s1 s2 s3 wr => ∃ (k : Nat) (A1 A2 : Option Addr) (c1 c2 : Nat), k ≤ n ∧ s1 = .slice A1 k c1 ∧ s2 = .slice A2 k c2 ∧ s3 = .int .i64 k ∧ Hid (∀ j (hj : j < l.length), j < k → discE l[j].p p r = 0) ∧ Two w1.heap.size w1 wr 4 1 (.slice A1 k c1) k (cellsB (touchL (l.take k) p r)) 4 1 (.slice A2 k c2) k (cellsB (coverL (l.take k) p r))) (fun _ _ s _ => n - (intOf s).toNat)
    case atStart => exact ⟨0, none, none, 0, 0, Nat.zero_le _, rfl, rfl, rfl, Lib.hid (fun _ _ h => absurd h (Nat.not_lt_zero _)), HT0.out⟩
    case round =>
      obtain ⟨k, A1, A2, c1, c2, hk, rfl, rfl, rfl, HA, hT⟩ := hrel
      have HT := Lib.hid hT
      have hbw := hT.below
      have hkr := below_next HKK.out (Nat.le_refl _) hbw
      have HKR := Lib.hid hkr
      obtain ⟨B0, hbb⟩ := HK.out _ hkr
      have HB0 := Lib.hid B0; have HBB := Lib.hid hbb
      have HZr := Lib.hid (HZA.out _ hbb)
      have hwlt : w.heap.size < wr.heap.size := B0.lt
      clear hT hbw hkr B0 hbb
      by_cases hlt : k < n
      · have hkl : k < l.length := by have := HL.out; omega
        obtain ⟨b, off, rfl, hb, hc⟩ := HZr.out.cells (by omega)
        obtain ⟨d0, d1, d2⟩ := hc k hkl
        have hk0 : (0 : Int) ≤ k := by omega
        have hk1 : (k : Int) < n := by omega
        have HOK := Lib.hid (HZr.out.2.1 _ (List.getElem_mem hkl))
        have HTT := Lib.hid (touchL_take l p r hkl); have HTC := Lib.hid (coverL_take l p r hkl)
        have hzn := HOK.out.2.1
        have F1 : ∀ z : Fam wr, z.val.cell? ⟨b, off + k * 3 + 1, none⟩ = some (.slice l[k].A l[k].n l[k].c) := fun z => z.some_ d1
        have F2 : ∀ z : Fam wr, z.val.cell? ⟨w.heap.size, 0, none⟩ = some (.int .i64 p.1) := fun z => (z.blk HB0.out).cell 0
        have F3 : ∀ z : Fam wr, z.val.cell? ⟨w.heap.size, 1, none⟩ = some (.int .i64 p.2) := fun z => (z.blk HB0.out).cell 1
        clear hc d0 d1 d2
        obtain ⟨v, hv⟩ : ∃ v, discE l[k].p p r = v := ⟨_, rfl⟩
        obtain ⟨bt, hbt⟩ : ∃ b, touchB l[k].p p r = b := ⟨_, rfl⟩
        obtain ⟨bc, hbc⟩ : ∃ b, coverB l[k].p p r = b := ⟨_, rfl⟩
        have HV := Lib.hid hv; have HBT := Lib.hid hbt; have HBC := Lib.hid hbc
        rw [hbt] at HTT; rw [hbc] at HTC
        clear hbt hbc
        have HBT' : Hid (rtouchB l[k].p p r = bt) := Lib.hid (by rw [← touch_eq]; exact HBT.out)
        have HBC' : Hid (rcoverB l[k].p p r = bc) := Lib.hid (by rw [← cover_eq]; exact HBC.out)
        have HV' : Hid (rdiscE l[k].p p r = v) := Lib.hid (by rw [← discE_eq]; exact hv)
        by_cases hv0 : v = 0
        · subst hv0
          clear hv
          go_wp2_with fail
          refine wp_region_fam (by kernel_rfl) (by kernel_rfl) ?_
          repeat (go_big_quiet_step ((go_at_call 49; exact fam_call (rtouches_any l[k].A l[k].n l[k].c l[k].p p r bt 0 _ (Fam.reads _ HOK.out.1) hzn HBT'.out HV'.out))))
          refine wpQuiet_nil ?_
          rintro _ ⟨z1, rfl⟩
          have G1 : ∀ z : Fam z1.val, z.val.cell? ⟨b, off + k * 3 + 1, none⟩ = some (.slice l[k].A l[k].n l[k].c) := fun z => z.some_ (F1 z1)
          have G2 : ∀ z : Fam z1.val, z.val.cell? ⟨w.heap.size, 0, none⟩ = some (.int .i64 p.1) := fun z => z.some_ (F2 z1)
          have G3 : ∀ z : Fam z1.val, z.val.cell? ⟨w.heap.size, 1, none⟩ = some (.int .i64 p.2) := fun z => z.some_ (F3 z1)
          have HR1 := Lib.hid (z1.reads HOK.out.1)
          clear F1 F2 F3
          go_wp2_with fail
          refine wp_region_fam (by kernel_rfl) (by kernel_rfl) ?_
          repeat (go_big_quiet_step ((go_at_call 50; exact fam_call (rcovers_any l[k].A l[k].n l[k].c l[k].p p r bc 0 _ (Fam.reads _ HR1.out) hzn HBC'.out HV'.out))))
          refine wpQuiet_nil ?_
          rintro _ ⟨z2, rfl⟩
          clear G1 G2 G3
          have T := (HT.out.step z1.prop).step z2.prop
          go_wp2_with (first | (at_builtin; refine wpList_append_any _ rfl (.tmp 53) (.tmp 55) _ rfl _ 4 i0 _ 1 1 Try.underlying54 hi0 hz0 hz1 hz2 rfl (by omega) (.slice A1 k c1) k _ rfl (T.alloc _).ownX _ _ 1 1 [.bool bt] (by rfl) (fr1B _ bt) oneB (by simp only [maxLen]; omega) (by omega) (T.alloc _).base ?_; intro v7 w7 hown7 hg7 hat7; obtain ⟨A7, c7, rfl, hr7⟩ := own_reads hown7; rw [← snocB, ← HTT.out] at hown7; have T := (T.alloc _).left hown7 hg7 hat7; clear hown7 hg7 hat7 hr7) | (at_builtin; refine wpList_append_any _ rfl (.tmp 57) (.tmp 59) _ rfl _ 4 i0 _ 1 1 Try.underlying54 hi0 hz0 hz1 hz2 rfl (by omega) (.slice A2 k c2) k _ rfl (T.alloc _).ownY _ _ 1 1 [.bool bc] (by rfl) (fr1B _ bc) oneB (by simp only [maxLen]; omega) (by omega) (T.alloc _).base ?_; intro v8 w8 hown8 hg8 hat8; obtain ⟨A8, c8, rfl, hr8⟩ := own_reads hown8; rw [← snocB, ← HTC.out] at hown8; have T := (T.alloc _).right hown8 hg8 hat8; clear hown8 hg8 hat8 hr8))
          go_roundw
          case rel => exact ⟨k + 1, A7, A8, c7, c8, by omega, rfl, rfl, by go_num, Lib.hid (fun j hj hjk => by
            rcases Nat.lt_or_ge j k with h1 | h1
            · exact HA.out j hj h1
            · have : j = k := by omega
              subst this; exact HV.out), T⟩
          case measure => simp [intOf]; omega
        · have hok : okD l p r = false := okD_bad hkl (by rw [hv]; exact hv0)
          have HOKD := Lib.hid hok
          have t0 := ne0_t hv0
          clear hv hv0 hok
          go_wp2_with fail
          refine wp_region_fam (by kernel_rfl) (by kernel_rfl) ?_
          repeat (go_big_quiet_step ((go_at_call 49; exact fam_call (rtouches_any l[k].A l[k].n l[k].c l[k].p p r bt v _ (Fam.reads _ HOK.out.1) hzn HBT'.out HV'.out))))
          refine wpQuiet_nil ?_
          rintro _ ⟨z1, rfl⟩
          have G1 : ∀ z : Fam z1.val, z.val.cell? ⟨b, off + k * 3 + 1, none⟩ = some (.slice l[k].A l[k].n l[k].c) := fun z => z.some_ (F1 z1)
          have G2 : ∀ z : Fam z1.val, z.val.cell? ⟨w.heap.size, 0, none⟩ = some (.int .i64 p.1) := fun z => z.some_ (F2 z1)
          have G3 : ∀ z : Fam z1.val, z.val.cell? ⟨w.heap.size, 1, none⟩ = some (.int .i64 p.2) := fun z => z.some_ (F3 z1)
          have HR1 := Lib.hid (z1.reads HOK.out.1)
          clear F1 F2 F3
          go_wp2_with fail
          refine wp_region_fam (by kernel_rfl) (by kernel_rfl) ?_
          repeat (go_big_quiet_step ((go_at_call 50; exact fam_call (rcovers_any l[k].A l[k].n l[k].c l[k].p p r bc v _ (Fam.reads _ HR1.out) hzn HBC'.out HV'.out))))
          refine wpQuiet_nil ?_
          rintro _ ⟨z2, rfl⟩
          clear G1 G2 G3
          have HB5 := Lib.hid (HK.out _ (below_next HKR.out (Nat.le_refl _) (below_next z1.prop (Nat.le_refl _) z2.prop))).2
          go_wp2_with fail
          go_ret3
          exact ⟨HB5.out, .inr ⟨HOKD.out, rfl⟩⟩
      · have hle : l.take k = l := List.take_of_length_le (by have := HL.out; omega)
        have HRX := Lib.hid (Reads.of_own HT.out.ownX); have HRY := Lib.hid (Reads.of_own HT.out.ownY)
        rw [hle] at HRX HRY
        have HOKD := Lib.hid (okD_yes HY.out fun j hj => HA.out j hj (by have := HL.out; omega))
        clear hle
        go_wp2_with fail
        go_ret3
        exact ⟨HBB.out, .inl ⟨HOKD.out, A1, k, c1, A2, c2, rfl, HRX.out, HRY.out, by have := HL.out; omega⟩⟩
  · have hok : okD l p r = false := okD_no (by rw [hy]; exact h0)
    have HOKD := Lib.hid hok
    have t0 := ne0_t h0
    clear hy h0 hok
    go_enter Try.func32, Try.ntmps32
    go_wp2_with fail
    refine (rzcheck_any A n c l y _ (HZA.out _ HB.out) hn HY.out).mono ?_
    rintro e w2 ⟨rfl, hb2⟩
    replace kk := below_next kk (Nat.le_refl _) hb2
    clear c00 c01 HB hb2
    obtain ⟨B0, hbb⟩ := HK.out _ kk
    have c00 := B0.cell 0
    have c01 := B0.cell 1
    have HB := Lib.hid hbb
    clear B0 hbb
    go_wp2_with fail
    go_ret3
    exact ⟨HB.out, .inr ⟨HOKD.out, rfl⟩⟩
end Go.Proofs.Ytgjfidknedojbaa
