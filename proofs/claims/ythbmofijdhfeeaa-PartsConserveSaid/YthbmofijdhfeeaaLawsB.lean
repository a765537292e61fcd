/- The walks of PartsBack and PartsFirst. -/
import Derived.Test.YthbmofijdhfeeaaLawsA
import Derived.Test.YthbmofijdhfeeaaPlain
namespace Go.Proofs.Ythbmofijdhfeeaa
open Go.RowKit Go.Maps Go.WideMaps
/-- A row of the statement's own, apart from the store. -/
def RowA (w : World) (F : Nat → Prop) (B : Nat) (T : TypeId) (size : Nat) (v : Value) (n : Nat) (xs : List Value) : Prop := w.ownsRow B T size v n xs ∧ ∀ j, v.ownBlock = some j → ¬ F j
theorem RowA.only {w w' : World} {F F' : Nat → Prop} {B : Nat} {T : TypeId} {size : Nat} {v : Value} {n : Nat} {xs : List Value} (h : RowA w F B T size v n xs) (ho : Only F w w') (hF : ∀ k, F' k → With F w w' k) : RowA w' F' B T size v n xs :=
  ⟨ho.own h.1 h.2, fun j hj e => (hF j e).elim (h.2 j hj) fun e => by have := (h.1.lt j hj).2; omega⟩
theorem RowA.below {w w' : World} {F : Nat → Prop} {B : Nat} {T : TypeId} {size : Nat} {v : Value} {n : Nat} {xs : List Value} (h : RowA w F B T size v n xs) (hb : Below w.heap.size w w') : RowA w' F B T size v n xs := ⟨own_below h.1 hb, h.2⟩
theorem RowA.new {w : World} {F : Nat → Prop} {B : Nat} {T : TypeId} {size : Nat} {v : Value} {n : Nat} {xs : List Value} (h : w.ownsRow B T size v n xs) (hF : ∀ k, F k → k < B) : RowA w F B T size v n xs :=
  ⟨h, fun j hj e => by have := (h.lt j hj).1; have := hF j e; omega⟩
theorem RowA.reads {w : World} {F : Nat → Prop} {B : Nat} {T : TypeId} {size n c : Nat} {A : Option Addr} {xs : List Value} (h : RowA w F B T size (.slice A n c) n xs) : Reads w w.heap.size size A n xs := Reads.of_own h.1
set_option maxHeartbeats 8000000 in
set_option maxRecDepth 10000 in
theorem partsBack_walk (A : Option Addr) (n c : Nat) (ops : List Op5) (kd t : Int) (turn : Bool) (w : World) (hr : Reads w w.heap.size 5 A n (cellsO ops)) (hnc : n ≤ c) (hc : c ≤ maxLen) (hwl : ∀ o ∈ ops, (Lit.int .i64 o.2.1).wf = true) :
    Calls Try.prog 7 #[.slice A n c, .int .i64 kd, .int .i64 t, .bool turn] w (AwakePost w) := by
  have hn' : n ≤ 9223372036854775807 := Nat.le_trans hnc hc
  clear hnc hc
  by_cases h100 : n ≤ 100
  · have HP := Lib.hid (played_any A n c ops w hr (by omega) hwl)
    obtain ⟨l, hl⟩ : ∃ l, playL ops = l := ⟨_, rfl⟩
    have hfd := playL_fine ops
    rw [hl] at HP hfd
    have HFI := Lib.hid hfd.1
    have HDI := Lib.hid hfd.2
    clear hr hwl hl hfd
    obtain ⟨x, hx⟩ : ∃ x, takeE l kd t = x := ⟨_, rfl⟩
    have HX := Lib.hid hx
    have hl5 : (lotsL l).length ≤ 512 := by have := HFI.out.1; unfold lotsL; simpa using this
    have HL5 := Lib.hid hl5
    clear hx hl5
    by_cases h0 : x = 0
    · subst h0
      obtain ⟨T, hT⟩ : ∃ T, takeO kd t l = T := ⟨_, rfl⟩
      obtain ⟨m, hm⟩ : ∃ m, takeX kd t l = m := ⟨_, rfl⟩
      have HT := Lib.hid hT; have HM := Lib.hid hm
      have HIN := Lib.hid (takeE_inv HX.out)
      have ht6 : t ≤ 1000000 := (show 1 ≤ t ∧ t ≤ 1000000 from of_decide_eq_true HIN.out.2.1).2
      have hV : ∃ V : List T2, V.length = T.length ∧ (∀ u ∈ V, u ∈ T) ∧ (∀ r, sumT V r = sumT T r) ∧ ∀ i (hi : i < V.length), ∃ j, ∃ hj : j < T.length, V[i] = T[j] ∧ j = (if turn = true then T.length - 1 - i else i) := by
        rcases turn with _ | _
        · exact ⟨T, rfl, fun _ h => h, fun _ => rfl, fun i hi => ⟨i, hi, rfl, rfl⟩⟩
        · exact ⟨T.reverse, by simp, fun u h => by simpa using h, fun r => sumT_rev T r, fun i hi => ⟨T.length - 1 - i, by simp at hi; omega, by rw [List.getElem_reverse], rfl⟩⟩
      obtain ⟨V, hV1, hV2, hV3, hV4⟩ := hV
      have HV1 := Lib.hid hV1; have HV4 := Lib.hid hV4
      have hback : ∀ i (hi : i < V.length), backE (addT m (V.take i)) V[i].1 V[i].2 = 0 ∧ backL (addT m (V.take i)) V[i].1 V[i].2 = addT m (V.take (i + 1)) := fun i hi => by
        have := put_back (k := kd) (n := t) HFI.out HDI.out ht6 (V := V) (fun u hu => by rw [HT.out]; exact hV2 u hu) (fun r => by rw [HT.out]; exact hV3 r) hi
        rw [HM.out] at this
        exact this
      have HBK := Lib.hid hback
      have HEND : Hid (addT m V = l) := Lib.hid (by
        have := take_put kd l t (dist_pair HDI.out)
        rw [HM.out, HT.out] at this
        rw [addT_congr hV3]; exact this)
      have hfine : ∀ i, fine (addT m (V.take i)) := fun i => by
        induction i with
        | zero => rw [List.take_zero, addT_nil, ← HM.out]; have := fine_take (k := kd) (n := t) HFI.out; rwa [tookX_ok HX.out] at this
        | succ i ih =>
          by_cases hi : i < V.length
          · rw [← (HBK.out i hi).2]; exact fine_back ih
          · rw [List.take_of_length_le (by omega)]; rw [List.take_of_length_le (by omega)] at ih; exact ih
      have HFV := Lib.hid hfine
      have hid : ∀ i (hi : i < V.length), 1 ≤ V[i].1 ∧ V[i].1 ≤ 1000000 := fun i hi => by
        obtain ⟨y, hy, h1, _⟩ := takeO_mem kd l t V[i] (by rw [HT.out]; exact hV2 _ (List.getElem_mem hi))
        have := okL_iff.1 (HFI.out.2 y hy).1
        rw [← h1]; omega
      have HID := Lib.hid hid
      have hTl : Hid (T.length ≤ 512) := Lib.hid (by have := takeO_len kd l t; rw [HT.out] at this; have := HFI.out.1; omega)
      clear hT hm hV1 hV2 hV3 hV4 hback hfine hid
      go_enter Try.func7, Try.ntmps7
      go_wp2_with fail
      refine HP.out.mono ?_
      rintro e w1 ⟨F, g, rfl, hs1, hF1, hb1⟩
      have HS1 := Lib.hid hs1; have HF1 := Lib.hid hF1; have HB1 := Lib.hid hb1
      clear hs1 hF1 hb1
      go_wp2_with fail
      refine (lots_any F g l _ HS1.out HFI.out.1).mono ?_
      rintro e w2 ⟨A2, n2, c2, rfl, ho2, hb2⟩
      have HRB2 := Lib.hid (RowA.new ho2 HS1.out.2.1)
      have HS2 := Lib.hid (HS1.out.below hb2)
      have HB2 := Lib.hid (below_next HB1.out (Nat.le_refl _) hb2)
      clear ho2 hb2 HS1
      go_wp2_with fail
      refine (take_any F g l m kd t 0 T _ HS2.out HFI.out HX.out ((tookX_ok HX.out).trans HM.out) ((tookO_ok HX.out).trans HT.out)).mono ?_
      rintro e w3 ⟨A3, n3, c3, rfl, ho3, hs3, hx3, hon3⟩
      have HL3 := Lib.hid (recs_len (Reads.of_own ho3) encT_len (by omega))
      have hn3 : n3 ≤ 512 := by have := HL3.out; have := hTl.out; omega
      have HRT3 : Hid (RowA w3 F w2.heap.size 58 2 (.slice A3 n3 c3) n3 (cellsT T)) := Lib.hid ⟨ho3, hx3⟩
      have HRB3 := Lib.hid (HRB2.out.only hon3 (fun k hk => .inl hk))
      have HS3 := Lib.hid hs3
      have HB3 := Lib.hid (HB2.out.trans (hon3.below (fun k _ hk => HF1.out k hk) HB2.out.size))
      clear ho3 hs3 hx3 hon3 HRB2 HS2
      go_wp2_with fail
      go_loopw [13] (fun i wr => ∃ (i' : Nat) (F' : Nat → Prop), i' ≤ n3 ∧ i = .int .i64 i' ∧ StoreF wr F' g (addT m (V.take i')) ∧ (∀ k, F' k → w.heap.size ≤ k) ∧ RowA wr F' w2.heap.size 58 2 (.slice A3 n3 c3) n3 (cellsT T) ∧ RowA wr F' w1.heap.size 47 4 (.slice A2 n2 c2) n2 (cellsL (lotsL l)) ∧ Below w.heap.size w wr) (fun i _ => n3 - (intOf i).toNat)
      case atStart => exact ⟨0, F, Nat.zero_le _, rfl, by rw [List.take_zero, addT_nil]; exact HS3.out, HF1.out, HRT3.out, HRB3.out, HB3.out⟩
      case round =>
        obtain ⟨i, F', hi, rfl, hs, hF, hrt, hrb, hbw⟩ := hrel
        have HS := Lib.hid hs; have HF := Lib.hid hF; have HRT := Lib.hid hrt; have HRB := Lib.hid hrb; have HBW := Lib.hid hbw
        clear hs hF hrt hrb hbw HS3 HRT3 HRB3 HB3
        by_cases hlt : i < n3
        · have hiV : i < V.length := by have := HV1.out; have := HL3.out; omega
          obtain ⟨j, hj, hVj, hjj⟩ := HV4.out i hiV
          have HVJ := Lib.hid hVj
          obtain ⟨b, off, rfl, hb2, hcc⟩ := HRT.out.reads.recs encT_len (by omega) (by omega)
          have e0 : wr.cell? ⟨b, off + j * 2, none⟩ = some (.int .i64 V[i].1) := by rw [hVj]; exact hcc j hj 0 _ rfl
          have e1 : wr.cell? ⟨b, off + j * 2 + 1, none⟩ = some (.int .i64 V[i].2) := by rw [hVj]; exact hcc j hj 1 _ rfl
          have hidv := HID.out i hiV
          obtain ⟨q1, q2⟩ := hidv
          have HST := Lib.hid (HBK.out i hiV)
          have hi0 : (0 : Int) ≤ i := by omega
          have hi1 : (i : Int) < n3 := by omega
          have hTn := HL3.out
          have fin : ∀ w', Below wr.heap.size wr w' → Calls Try.prog 26 #[.pointer (some ⟨g, 0, none⟩), .agg #[.int .i64 V[i].1, .int .i64 V[i].2]] w' (StorePost w' F' g 0 (addT m (V.take (i + 1)))) := fun w' hb =>
            back_any F' g _ _ V[i].1 V[i].2 0 w' (HS.out.below hb) (WalkArith.wf_i64 (by omega)) (HFV.out i) HST.out.1 HST.out.2
          have FIN := Lib.hid fin
          clear hcc hVj fin
          rcases turn with _ | _
          · obtain rfl : j = i := hjj
            clear hTn
            go_wp2_with fail
            refine (FIN.out _ (Below.refl _ _)).mono ?_
            rintro e w4 ⟨rfl, hs4, ho4⟩
            have HS4 := Lib.hid hs4
            have HF4 := Lib.hid (With.ge (w' := w4) HF.out HBW.out.size)
            have HRT4 := Lib.hid (HRT.out.only ho4 (fun k hk => hk))
            have HRB4 := Lib.hid (HRB.out.only ho4 (fun k hk => hk))
            have HB4 := Lib.hid (HBW.out.trans (ho4.below (fun k _ hk => HF.out k hk) HBW.out.size))
            clear hs4 ho4
            go_wp2_with fail
            go_roundw
            case rel => exact ⟨j + 1, _, by omega, by go_num, HS4.out, HF4.out, HRT4.out, HRB4.out, HB4.out⟩
            case measure => simp [intOf]; omega
          · have hjn : j = n3 - 1 - i := by rw [hjj, if_pos rfl, hTn]
            subst hjn
            have hi2 : (0 : Int) ≤ (n3 : Int) - 1 - i := by omega
            have hi3 : (n3 : Int) - 1 - i < n3 := by omega
            clear hjj hTn
            go_wp2_with fail
            refine (FIN.out _ (Below.refl _ _)).mono ?_
            rintro e w4 ⟨rfl, hs4, ho4⟩
            have HS4 := Lib.hid hs4
            have HF4 := Lib.hid (With.ge (w' := w4) HF.out HBW.out.size)
            have HRT4 := Lib.hid (HRT.out.only ho4 (fun k hk => hk))
            have HRB4 := Lib.hid (HRB.out.only ho4 (fun k hk => hk))
            have HB4 := Lib.hid (HBW.out.trans (ho4.below (fun k _ hk => HF.out k hk) HBW.out.size))
            clear hs4 ho4
            go_wp2_with fail
            go_roundw
            case rel => exact ⟨i + 1, _, by omega, by go_num, HS4.out, HF4.out, HRT4.out, HRB4.out, HB4.out⟩
            case measure => simp [intOf]; omega
        · have HE : Hid (addT m (V.take i) = l) := Lib.hid (by rw [List.take_of_length_le (by have := HV1.out; have := HL3.out; omega)]; exact HEND.out)
          have HSE : Hid (StoreF wr F' g l) := Lib.hid (by rw [← HE.out]; exact HS.out)
          clear HS
          go_wp2_with fail
          refine (lots_any F' g l _ HSE.out HFI.out.1).mono ?_
          rintro e w5 ⟨A5, n5, c5, rfl, ho5, hb5⟩
          have hr5 := Reads.of_own ho5
          have hr2 := (HRB.out.below hb5).reads
          have hn5 : n5 ≤ 100000 := by have := recs_len hr5 encL_len (by omega); have := HL5.out; omega
          have HB5 := Lib.hid (below_next HBW.out (Nat.le_refl _) hb5)
          have HR5 := Lib.hid hr5; have HR2 := Lib.hid hr2
          clear ho5 hb5 hr5 hr2
          go_wp2_with fail
          refine (sameL_any A5 A2 n5 c5 n2 c2 _ _ true _ _ _ HR5.out HR2.out hn5 (sameL_refl _)).mono ?_
          rintro e w6 ⟨rfl, q, rfl⟩
          go_wp2_with fail
          refine (awake_any _).mono ?_
          rintro e w7 ⟨rfl, hb7⟩
          go_wp2_with fail
          go_ret
          exact ⟨rfl, (below_drewN HB5.out q).trans (hb7.mono (below_drewN HB5.out q).size)⟩
    · have h1 := ne0_t h0
      have HM : Hid (tookX l kd t = l) := Lib.hid (tookX_no (by rw [HX.out]; exact h0))
      have HO : Hid (tookO l kd t = []) := Lib.hid (tookO_no (by rw [HX.out]; exact h0))
      clear h0
      go_enter Try.func7, Try.ntmps7
      go_wp2_with fail
      refine HP.out.mono ?_
      rintro e w1 ⟨F, g, rfl, hs1, hF1, hb1⟩
      have HS1 := Lib.hid hs1; have HF1 := Lib.hid hF1; have HB1 := Lib.hid hb1
      clear hs1 hF1 hb1
      go_wp2_with fail
      refine (lots_any F g l _ HS1.out HFI.out.1).mono ?_
      rintro e w2 ⟨A2, n2, c2, rfl, ho2, hb2⟩
      have HRB2 := Lib.hid (RowA.new ho2 HS1.out.2.1)
      have HS2 := Lib.hid (HS1.out.below hb2)
      have HB2 := Lib.hid (below_next HB1.out (Nat.le_refl _) hb2)
      clear ho2 hb2 HS1
      go_wp2_with fail
      refine (take_any F g l l kd t x [] _ HS2.out HFI.out HX.out HM.out HO.out).mono ?_
      rintro e w3 ⟨A3, n3, c3, rfl, _, hs3, _, hon3⟩
      have HRB3 := Lib.hid (HRB2.out.only hon3 (fun k hk => .inl hk))
      have HS3 := Lib.hid hs3
      have HB3 := Lib.hid (HB2.out.trans (hon3.below (fun k _ hk => HF1.out k hk) HB2.out.size))
      clear hs3 hon3 HRB2 HS2
      go_wp2_with fail
      refine (lots_any F g l _ HS3.out HFI.out.1).mono ?_
      rintro e w5 ⟨A5, n5, c5, rfl, ho5, hb5⟩
      have hr5 := Reads.of_own ho5
      have hr2 := (HRB3.out.below hb5).reads
      have hn5 : n5 ≤ 100000 := by have := recs_len hr5 encL_len (by omega); have := HL5.out; omega
      have HB5 := Lib.hid (below_next HB3.out (Nat.le_refl _) hb5)
      have HR5 := Lib.hid hr5; have HR2 := Lib.hid hr2
      clear ho5 hb5 hr5 hr2
      go_wp2_with fail
      refine (sameL_any A5 A2 n5 c5 n2 c2 _ _ true _ _ _ HR5.out HR2.out hn5 (sameL_refl _)).mono ?_
      rintro e w6 ⟨rfl, q, rfl⟩
      go_wp2_with fail
      refine (awake_any _).mono ?_
      rintro e w7 ⟨rfl, hb7⟩
      go_wp2_with fail
      go_ret
      exact ⟨rfl, (below_drewN HB5.out q).trans (hb7.mono (below_drewN HB5.out q).size)⟩
  · have h41 : 100 < n := by omega
    go_enter Try.func7, Try.ntmps7
    go_wp2_with fail
    refine (awake_any _).mono ?_
    rintro e w1 ⟨rfl, hb⟩
    go_wp2_with fail
    go_ret
    exact ⟨rfl, hb⟩
end Go.Proofs.Ythbmofijdhfeeaa
