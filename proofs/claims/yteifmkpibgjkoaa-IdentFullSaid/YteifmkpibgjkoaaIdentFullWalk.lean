/- The walk of IdentFull. -/
import Derived.Test.YteifmkpibgjkoaaLong
namespace Go.Proofs.Yteifmkpibgjkoaa
open Go.RowKit
/-- What IdentFull wants: by the identifiers so far looked at. -/
def wantTo (s : ByteArray) (k : Nat) : Int := if (posOf (longs k) s).isSome then 6 else if validS s = false then 5 else 8
theorem want_full (s : ByteArray) : wantTo s 512 = addE (longs 512) s := by
  unfold wantTo
  rcases hp : posOf (longs 512) s with _ | i
  · rcases hv : validS s with _ | _
    · rw [addE_name hv]; simp
    · rw [addE_full hv hp (by rw [longs_len]; exact Nat.le_refl _)]; simp
  · obtain ⟨hi, he⟩ := posOf_get hp
    have hi' : i < 512 := by rw [longs_len] at hi; exact hi
    have hv : validS s = true := by rw [← he, longs_get 512 i hi']; exact longS_valid i
    rw [addE_twice hv (by rw [hp]; rfl)]
    simp
theorem want_hit {s : ByteArray} {k : Nat} (hk : k < 512) (h : eqS s (longS k) = true) : wantTo s (k + 1) = 6 := by
  rw [eqS_iff] at h
  subst h
  unfold wantTo
  rw [longs_pos (by omega) (Nat.lt_succ_self k)]
  rfl
theorem want_miss {s : ByteArray} {k : Nat} (hk : k < 512) (h : eqS s (longS k) = false) : wantTo s (k + 1) = wantTo s k := by
  unfold wantTo
  have hn : ¬ eqS (longS k) s = true := by
    intro e
    rw [eqS_iff] at e
    rw [e, eqS_refl] at h
    cases h
  rw [longs_succ, posOf_snoc s (longs_new hk), if_neg hn]

set_option maxHeartbeats 2000000 in
set_option maxRecDepth 10000 in
theorem identFull_walk (s : ByteArray) (hs : s.size ≤ maxLen) (w : World) : Calls Try.prog 8 #[.string s] w (AwakePost w) := by
  have HM := Lib.hid hs
  clear hs
  by_cases h : 100 < s.size
  · go_enter Try.func8, Try.ntmps8
    go_wp2_with (go_at_call 10; refine (awake_any _).mono ?_; rintro e w1 ⟨rfl, hb⟩)
    go_ret
    exact ⟨rfl, hb⟩
  go_enter Try.func8, Try.ntmps8
  go_wp2_with fail
  refine (new_ok none 0 0 [] _ Reads.none_ (by omega) (fun x hx => by cases hx) rfl).mono ?_
  rintro e w1 ⟨g, rfl, ht, hb1⟩
  have HT := Lib.hid ht
  clear ht
  go_wp2_with fail
  go_loopw [5] (fun j wr => ∃ k : Nat, k ≤ 512 ∧ j = .int .i64 k ∧ Tab wr w.heap.size g (longs k) ∧ Below w.heap.size w wr) (fun j _ => 512 - (intOf j).toNat)
  case atStart => exact ⟨0, by omega, rfl, HT.out, hb1⟩
  case round =>
    obtain ⟨k, hk, rfl, ht, hbw⟩ := hrel
    have HT2 := Lib.hid ht
    clear ht
    by_cases hlt : k < 512
    · go_wp2_with fail
      refine (long_any k (by omega) wr).mono ?_
      rintro e w2 ⟨rfl, hb2⟩
      have HT3 := Lib.hid (HT2.out.below hb2)
      go_wp2_with fail
      refine (add_at _ g (longs k) (longs (k + 1)) (longS k) 0 k w2 HT3.out (by rw [longS_size]; decide) (by rw [longs_len]; omega) (longs_add hlt) (by rw [addN_ok (longs_add hlt), longs_len]) (by rw [addL_ok (longs_add hlt), longs_succ])).mono ?_
      rintro e w3 ⟨rfl, ht3, hb3⟩
      have HT4 := Lib.hid ht3
      clear ht3
      go_wp2_with fail
      go_roundw
      case rel => exact ⟨k + 1, by omega, by go_num, HT4.out, (hbw.trans (hb2.mono hbw.size)).trans hb3⟩
      case measure => simp [intOf]; omega
    · have HK : Hid (k = 512) := Lib.hid (by omega)
      obtain rfl := HK.out
      obtain ⟨x, y, hx, hy⟩ : ∃ x y : Int, addE (longs 512) s = x ∧ addN (longs 512) s = y := ⟨_, _, rfl, rfl⟩
      have hx0 : x ≠ 0 := fun e => by have := (addE_zero.1 (hx.trans e)).2.2; rw [longs_len] at this; omega
      have C17 := Lib.hid (add_at _ g (longs 512) (longs 512) s x y wr HT2.out HM.out (by rw [longs_len]; omega) hx hy (addL_no (by rw [hx]; exact hx0)))
      have HX := Lib.hid hx
      clear hx hy hx0
      go_wp2_with fail
      refine C17.out.mono ?_
      rintro e w2 ⟨rfl, ht2, hb2⟩
      have hbw2 := hbw.trans hb2
      clear hb2
      go_wp2_with fail
      refine (long_any 511 (by omega) w2).mono ?_
      rintro e w3 ⟨rfl, hb3⟩
      have ht3 := ht2.below hb3
      have hbw3 := hbw2.trans (hb3.mono hbw2.size)
      have HT3 := Lib.hid ht3
      clear ht2 hb3 ht3
      go_wp2_with fail
      refine (add_at _ g (longs 512) (longs 512) (longS 511) 6 0 w3 HT3.out (by rw [longS_size]; decide) (by rw [longs_len]; omega) (addE_twice (longS_valid _) (by rw [longs_pos (by omega) (by omega)]; rfl)) (addN_no (by rw [addE_twice (longS_valid _) (by rw [longs_pos (by omega) (by omega)]; rfl)]; decide)) (addL_no (by rw [addE_twice (longS_valid _) (by rw [longs_pos (by omega) (by omega)]; rfl)]; decide))).mono ?_
      rintro e w4 ⟨rfl, ht4, hb4⟩
      have hbw4 := hbw3.trans hb4
      clear hb4
      go_wp2_with fail
      refine (long_any 300 (by omega) w4).mono ?_
      rintro e w5 ⟨rfl, hb5⟩
      have ht5 := ht4.below hb5
      have hbw5 := hbw4.trans (hb5.mono hbw4.size)
      have HT5 := Lib.hid ht5
      clear ht4 hb5 ht5
      go_wp2_with fail
      refine (tfind_at _ g (longs 512) (longS 300) 300 true w5 HT5.out (by rw [longS_size]; decide) (placeN_some (longs_pos (by omega) (by omega))) (by rw [longs_pos (by omega) (by omega)]; rfl)).mono ?_
      rintro e w' ⟨rfl, rfl⟩
      go_wp2_with fail
      refine (rvalid_any s HM.out w5).mono ?_
      rintro e w6 ⟨rfl, nq, rfl⟩
      have hbw6 := below_drewN hbw5 nq
      have HT6 : Hid (Tab (w5.drewN nq) w.heap.size g (longs 512)) := Lib.hid (HT5.out.drewN nq)
      have HW1 : Hid (validS s = false → wantTo s 0 = 5) := Lib.hid fun h => by simp [wantTo, longs, posOf_nil, h]
      have HW2 : Hid (validS s = true → wantTo s 0 = 8) := Lib.hid fun h => by simp [wantTo, longs, posOf_nil, h]
      clear hbw5 hbw4 hbw3 hbw2 hbw
      rcases hv : validS s with _ | _
      all_goals
        have HV := Lib.hid hv
        clear hv
        go_wp2_with fail
        go_loopw [14, 15] (fun v j wr => ∃ k : Nat, k ≤ 512 ∧ j = .int .i64 k ∧ v = .int .i64 (wantTo s k) ∧ Tab wr w.heap.size g (longs 512) ∧ Below w.heap.size w wr) (fun _ j _ => 512 - (intOf j).toNat)
        case atStart => first | exact ⟨0, by omega, rfl, by rw [HW1.out HV.out], HT6.out, hbw6⟩ | exact ⟨0, by omega, rfl, by rw [HW2.out HV.out], HT6.out, hbw6⟩
        case round =>
          obtain ⟨k, hk, rfl, rfl, ht7, hbw7⟩ := hrel
          have HT7 := Lib.hid ht7
          clear ht7
          by_cases hlt : k < 512
          · rcases he : eqS s (longS k) with _ | _
            · have he' : (s.toList == (longS k).toList) = false := by rw [eqS_walk]; exact he
              have HE := Lib.hid (want_miss hlt he)
              clear he
              go_wp2_with fail
              refine (long_any k (by omega) _).mono ?_
              rintro e w8 ⟨rfl, hb8⟩
              go_wp2_with fail
              go_roundw
              case rel => exact ⟨k + 1, by omega, by go_num, by rw [HE.out], HT7.out.below hb8, hbw7.trans (hb8.mono hbw7.size)⟩
              case measure => simp [intOf]; omega
            · have he' : (s.toList == (longS k).toList) = true := by rw [eqS_walk]; exact he
              have HE := Lib.hid (want_hit hlt he)
              clear he
              go_wp2_with fail
              refine (long_any k (by omega) _).mono ?_
              rintro e w8 ⟨rfl, hb8⟩
              go_wp2_with fail
              go_roundw
              case rel => exact ⟨k + 1, by omega, by go_num, by rw [HE.out], HT7.out.below hb8, hbw7.trans (hb8.mono hbw7.size)⟩
              case measure => simp [intOf]; omega
          · have HK : Hid (k = 512) := Lib.hid (by omega)
            obtain rfl := HK.out
            obtain ⟨z, hz⟩ : ∃ z, wantTo s 512 = z := ⟨_, rfl⟩
            have hxz : x = z := by rw [← hz, want_full, HX.out]
            subst hxz
            rw [hz]
            have C19 := Lib.hid (len_any _ g (longs 512) _ HT7.out)
            have HL : Hid ((longs 512).length = 512) := Lib.hid (longs_len 512)
            clear hz
            go_wp2_with fail
            refine C19.out.mono ?_
            rw [HL.out]
            rintro e w' ⟨rfl, rfl⟩
            go_wp2_with (go_at_call 10; refine (awake_any _).mono ?_; rintro e w9 ⟨rfl, hb9⟩)
            go_ret
            exact ⟨rfl, hbw7.trans (hb9.mono hbw7.size)⟩
end Go.Proofs.Yteifmkpibgjkoaa
