/- The walk of IdentOnce. -/
import Derived.Test.YteifmkpibgjkoaaIdentTableWalk
namespace Go.Proofs.Yteifmkpibgjkoaa
open Go.RowKit
open Classical in
/-- The first k strings are different identifiers. -/
noncomputable def gOut (l : List ByteArray) (k : Nat) : Bool := decide (∀ i (hi : i < l.length), i < k → validS l[i] = true ∧ ∀ j (hj : j < i), eqS l[i] l[j] = false)
open Classical in
/-- .. and string k is one, and differs from the first m. -/
noncomputable def gIn (l : List ByteArray) (k m : Nat) : Bool := gOut l k && decide (∀ (hk : k < l.length), validS l[k] = true ∧ ∀ j (hj : j < k), j < m → eqS l[k] l[j] = false)
theorem gOut_iff {l : List ByteArray} {k : Nat} : gOut l k = true ↔ ∀ i (hi : i < l.length), i < k → validS l[i] = true ∧ ∀ j (hj : j < i), eqS l[i] l[j] = false := by
  unfold gOut; rw [decide_eq_true_eq]
theorem gIn_iff {l : List ByteArray} {k m : Nat} (hk : k < l.length) : gIn l k m = true ↔ gOut l k = true ∧ validS l[k] = true ∧ ∀ j (hj : j < k), j < m → eqS l[k] l[j] = false := by
  unfold gIn
  rw [Bool.and_eq_true, decide_eq_true_eq]
  exact ⟨fun h => ⟨h.1, h.2 hk⟩, fun h => ⟨h.1, fun _ => h.2⟩⟩
theorem gOut_zero (l : List ByteArray) : gOut l 0 = true := gOut_iff.2 fun _ _ h => absurd h (Nat.not_lt_zero _)
theorem gIn_zero {l : List ByteArray} {k : Nat} (hk : k < l.length) : gIn l k 0 = (gOut l k && validS l[k]) := by
  rw [Bool.eq_iff_iff, gIn_iff hk, Bool.and_eq_true]
  exact ⟨fun h => ⟨h.1, h.2.1⟩, fun h => ⟨h.1, h.2, fun _ _ h => absurd h (Nat.not_lt_zero _)⟩⟩
theorem gIn_succ {l : List ByteArray} {k m : Nat} (hk : k < l.length) (hm : m < k) : gIn l k (m + 1) = (gIn l k m && !eqS l[k] l[m]) := by
  rw [Bool.eq_iff_iff, gIn_iff hk, Bool.and_eq_true, gIn_iff hk, Bool.not_eq_true']
  constructor
  · exact fun h => ⟨⟨h.1, h.2.1, fun j hj hjm => h.2.2 j hj (by omega)⟩, h.2.2 m hm (by omega)⟩
  · intro h
    refine ⟨h.1.1, h.1.2.1, fun j hj hjm => ?_⟩
    rcases Nat.lt_or_eq_of_le (Nat.lt_succ_iff.1 hjm) with h' | rfl
    · exact h.1.2.2 j hj h'
    · exact h.2
theorem gOut_succ {l : List ByteArray} {k : Nat} (hk : k < l.length) : gOut l (k + 1) = gIn l k k := by
  rw [Bool.eq_iff_iff, gOut_iff, gIn_iff hk, gOut_iff]
  constructor
  · exact fun h => ⟨fun i hi hik => h i hi (by omega), (h k hk (by omega)).1, fun j hj _ => (h k hk (by omega)).2 j hj⟩
  · intro h i hi hik
    rcases Nat.lt_or_eq_of_le (Nat.lt_succ_iff.1 hik) with h' | rfl
    · exact h.1 i hi h'
    · exact ⟨h.2.1, fun j hj => h.2.2 j hj hj⟩
/-- New takes just the lists of different identifiers. -/
theorem gOut_new {l : List ByteArray} (hl : l.length ≤ 60) : gOut l l.length = true ↔ newE [] l = 0 := by
  rw [gOut_iff, newE_iff]
  constructor
  · intro h j hj _
    obtain ⟨hv, hd⟩ := h j hj hj
    refine addE_ok hv (posOf_none fun i hi => ?_) (by simp; omega)
    have hij : i < j := by simp at hi; omega
    rw [List.getElem_take]
    have := hd i hij
    rw [Bool.eq_false_iff] at this ⊢
    intro e
    rw [eqS_iff] at e
    exact this (eqS_iff.2 e.symm)
  · intro h i hi _
    obtain ⟨hv, hp, _⟩ := addE_zero.1 (h i hi hi)
    refine ⟨hv, fun j hj => ?_⟩
    rw [Bool.eq_false_iff]
    intro e
    rw [eqS_iff] at e
    have hm : l[j]'(by omega) ∈ l.take i := List.mem_take_iff_getElem.2 ⟨j, by omega, rfl⟩
    rw [← e] at hm
    exact posOf_mem.1 hp hm
theorem again_twice {l : List ByteArray} {i : Nat} (hi : i < l.length) (h : gOut l l.length = true) : addE l l[i] = 6 := by
  have hv := (gOut_iff.1 h i hi hi).1
  refine addE_twice hv ?_
  rcases hp : posOf l l[i] with _ | _
  · exact absurd (List.getElem_mem hi) (posOf_mem.1 hp)
  · rfl
theorem neS_walk (a b : ByteArray) (x : Bool) (h : eqS a b = x) : (a.toList == b.toList) = x := by rw [eqS_walk]; exact h

set_option maxHeartbeats 4000000 in
set_option maxRecDepth 10000 in
theorem identOnce_walk (A : Option Addr) (n c : Nat) (l : List ByteArray) (w : World) (hr : Reads w w.heap.size 1 A n (strs l)) (hnc : n ≤ c) (hc : c ≤ maxLen) (hs : ∀ x ∈ l, x.size ≤ maxLen) :
    Calls Try.prog 7 #[.slice A n c] w (AwakePost w) := by
  have HL := Lib.hid (reads_len hr)
  have HS := Lib.hid hs
  have hn : n ≤ maxLen := Nat.le_trans hnc hc
  have C13 := Lib.hid (few_any A n c l w.heap.size w hr hn)
  clear hs hnc hc hn
  rcases hf : fewB l with _ | _
  · rw [hf] at C13
    go_enter Try.func7, Try.ntmps7
    go_wp2_with (first | (go_at_call 13; refine C13.out.mono ?_; rintro e w' ⟨rfl, rfl⟩) | (go_at_call 10; refine (awake_any _).mono ?_; rintro e w1 ⟨rfl, hb⟩))
    go_ret
    exact ⟨rfl, hb⟩
  rw [hf] at C13
  have hn60 : n ≤ 60 := by have := few_len hf; have := HL.out; omega
  clear hf
  go_enter Try.func7, Try.ntmps7
  go_wp2_with (go_at_call 13; refine C13.out.mono ?_; rintro e w' ⟨rfl, rfl⟩)
  go_loopw [3, 4] (fun v j wr => ∃ (k nq : Nat), k ≤ n ∧ j = .int .i64 k ∧ v = .bool (gOut l k) ∧ wr = w.drewN nq) (fun _ j _ => n - (intOf j).toNat)
  case atStart => exact ⟨0, 0, Nat.zero_le _, rfl, by rw [gOut_zero], rfl⟩
  case round =>
    obtain ⟨k, nq, hk, rfl, rfl, rfl⟩ := hrel
    by_cases hlt : k < n
    · obtain ⟨ad, u, rfl, hb, hx, hc⟩ := hr.at_ hlt
      have hkl : k < l.length := by have := HL.out; omega
      obtain rfl := strs_at hx hkl
      clear hx
      have HSZ : Hid (l[k].size ≤ maxLen) := HS.out _ (List.getElem_mem hkl)
      have G0 := Lib.hid (gIn_zero hkl)
      have GS := Lib.hid (gOut_succ hkl)
      rcases hg : gOut l k with _ | _
      · have HG := Lib.hid hg
        clear hg
        go_wp2_with fail
        go_loopw [3, 5] (fun v j wr => ∃ (m nq : Nat), m ≤ k ∧ j = .int .i64 m ∧ v = .bool (gIn l k m) ∧ wr = w.drewN nq) (fun _ j _ => k - (intOf j).toNat)
        case atStart => exact ⟨0, nq, Nat.zero_le _, rfl, by rw [G0.out, HG.out]; rfl, rfl⟩
        case round =>
          obtain ⟨m, nq2, hm, rfl, rfl, rfl⟩ := hrel
          by_cases hmk : m < k
          · have hml : m < l.length := by omega
            obtain ⟨ad2, u2, he2, hb2, hx2, hc2⟩ := hr.at_ (show m < n by omega)
            obtain rfl := Option.some.inj he2
            obtain rfl := strs_at hx2 hml
            clear hx2 he2
            have GM := Lib.hid (gIn_succ hkl hmk)
            have hk1 : (k : Int) < n := by omega
            have hm1 : (m : Int) < n := by omega
            have hk0 : (0 : Int) ≤ k := by omega
            have hm0 : (0 : Int) ≤ m := by omega
            rcases hgi : gIn l k m with _ | _
            · have HGI := Lib.hid hgi
              clear hgi
              go_wp2_with fail
              go_quiet (fail)
              go_wp2_with fail
              go_roundw
              case rel => exact ⟨m + 1, _, by omega, by go_num, by rw [GM.out, HGI.out]; rfl, rfl⟩
              case measure => simp [intOf]; omega
            · have HGI := Lib.hid hgi
              clear hgi
              rcases he : eqS l[k] l[m] with _ | _
              all_goals
                have he' := neS_walk _ _ _ he
                have HE := Lib.hid he
                clear he
                go_wp2_with fail
                go_quiet (fail)
                go_wp2_with fail
                go_roundw
                case rel => exact ⟨m + 1, _, by omega, by go_num, by rw [GM.out, HGI.out, HE.out]; rfl, rfl⟩
                case measure => simp [intOf]; omega
          · have HK : Hid (m = k) := Lib.hid (by omega)
            go_wp2_with fail
            go_roundw
            case rel => exact ⟨k + 1, nq2, by omega, by go_num, by rw [GS.out, HK.out], rfl⟩
            case measure => simp [intOf]; omega
      · have HG := Lib.hid hg
        clear hg
        go_wp2_with fail
        refine (valid_any l[k] HSZ.out _).mono ?_
        rintro e w' ⟨rfl, rfl⟩
        go_wp2_with fail
        go_loopw [3, 5] (fun v j wr => ∃ (m nq : Nat), m ≤ k ∧ j = .int .i64 m ∧ v = .bool (gIn l k m) ∧ wr = w.drewN nq) (fun _ j _ => k - (intOf j).toNat)
        case atStart => exact ⟨0, nq, Nat.zero_le _, rfl, by rw [G0.out, HG.out]; rfl, rfl⟩
        case round =>
          obtain ⟨m, nq2, hm, rfl, rfl, rfl⟩ := hrel
          by_cases hmk : m < k
          · have hml : m < l.length := by omega
            obtain ⟨ad2, u2, he2, hb2, hx2, hc2⟩ := hr.at_ (show m < n by omega)
            obtain rfl := Option.some.inj he2
            obtain rfl := strs_at hx2 hml
            clear hx2 he2
            have GM := Lib.hid (gIn_succ hkl hmk)
            have hk1 : (k : Int) < n := by omega
            have hm1 : (m : Int) < n := by omega
            have hk0 : (0 : Int) ≤ k := by omega
            have hm0 : (0 : Int) ≤ m := by omega
            rcases hgi : gIn l k m with _ | _
            · have HGI := Lib.hid hgi
              clear hgi
              go_wp2_with fail
              go_quiet (fail)
              go_wp2_with fail
              go_roundw
              case rel => exact ⟨m + 1, _, by omega, by go_num, by rw [GM.out, HGI.out]; rfl, rfl⟩
              case measure => simp [intOf]; omega
            · have HGI := Lib.hid hgi
              clear hgi
              rcases he : eqS l[k] l[m] with _ | _
              all_goals
                have he' := neS_walk _ _ _ he
                have HE := Lib.hid he
                clear he
                go_wp2_with fail
                go_quiet (fail)
                go_wp2_with fail
                go_roundw
                case rel => exact ⟨m + 1, _, by omega, by go_num, by rw [GM.out, HGI.out, HE.out]; rfl, rfl⟩
                case measure => simp [intOf]; omega
          · have HK : Hid (m = k) := Lib.hid (by omega)
            go_wp2_with fail
            go_roundw
            case rel => exact ⟨k + 1, nq2, by omega, by go_num, by rw [GS.out, HK.out], rfl⟩
            case measure => simp [intOf]; omega
    · have HK : Hid (k = l.length) := Lib.hid (by have := HL.out; omega)
      have hl60 : l.length ≤ 60 := by have := HL.out; omega
      have HN := Lib.hid (gOut_new hl60)
      have hr2 := (hr.below (below_drewN (Below.refl _ _) nq)).more (Nat.le_refl _)
      rcases hg : gOut l k with _ | _
      · obtain ⟨x, hx⟩ : ∃ x, newE [] l = x := ⟨_, rfl⟩
        have hx0 : x ≠ 0 := fun e => by
          have h1 := HN.out.2 (hx.trans e)
          rw [← HK.out, hg] at h1
          cases h1
        have hx1 := eq0_f hx0
        have HX := Lib.hid hx
        have HX0 := Lib.hid hx0
        clear hg hx hx0
        go_wp2_with fail
        refine (new_no A n c l x _ hr2 (by omega) HS.out HX.out HX0.out).mono ?_
        rintro e w1 ⟨rfl, hb1⟩
        go_wp2_with fail
        go_loop [8] (fun j => j = .int .i64 0) (fun _ => 0)
        case atStart => rfl
        case round =>
          obtain rfl := hrel
          rcases Nat.eq_zero_or_pos n with h0 | h0
          all_goals
            go_wp2_with (go_at_call 10; refine (awake_any _).mono ?_; rintro e w3 ⟨rfl, hb3⟩)
            go_ret
            exact ⟨rfl, ((below_drewN (Below.refl _ _) nq).trans hb1).trans (hb3.mono hb1.size)⟩
      · have H0 : Hid (newE [] l = 0) := Lib.hid (HN.out.1 (by rw [← HK.out]; exact hg))
        have HG : Hid (gOut l l.length = true) := Lib.hid (by rw [← HK.out]; exact hg)
        clear hg
        go_wp2_with fail
        refine (new_ok A n c l _ hr2 (by omega) HS.out H0.out).mono ?_
        rintro e w1 ⟨g, rfl, ht1, hb1⟩
        have HT := Lib.hid ht1
        clear ht1
        have hbw1 : Below w.heap.size w w1 := (below_drewN (Below.refl _ _) nq).trans hb1
        clear hb1 hr2
        go_wp2_with fail
        go_loopw [8] (fun j wr => ∃ i : Nat, i ≤ n ∧ j = .int .i64 i ∧ Tab wr w.heap.size g l ∧ Below w.heap.size w wr) (fun j _ => n - (intOf j).toNat)
        case atStart => exact ⟨0, Nat.zero_le _, rfl, HT.out, hbw1⟩
        case round =>
          obtain ⟨i, hi, rfl, ht, hbw⟩ := hrel
          have HT2 := Lib.hid ht
          clear ht
          by_cases hin : i < n
          · obtain ⟨ad, u, rfl, hb, hx, hc⟩ := (hr.below hbw).at_ hin
            have hil : i < l.length := by have := HL.out; omega
            obtain rfl := strs_at hx hil
            clear hx
            have h6 := again_twice hil HG.out
            have C17 := Lib.hid (add_at _ g l l l[i] 6 0 wr HT2.out (HS.out _ (List.getElem_mem hil)) (by omega) h6 (addN_no (by rw [h6]; decide)) (addL_no (by rw [h6]; decide)))
            clear h6
            go_wp2_with fail
            refine C17.out.mono ?_
            rintro e w2 ⟨rfl, ht3, hb3⟩
            have HT3 := Lib.hid ht3
            clear ht3
            go_wp2_with fail
            go_roundw
            case rel => exact ⟨i + 1, by omega, by go_num, HT3.out, hbw.trans hb3⟩
            case measure => simp [intOf]; omega
          · have C19 : Hid (Calls Try.prog 19 #[.pointer (some ⟨g, 0, none⟩)] wr fun e w' => e = .returned (.int .i64 n) ∧ wr = w') := Lib.hid (by have := len_any _ g l wr HT2.out; rw [HL.out] at this; exact this)
            go_wp2_with fail
            refine C19.out.mono ?_
            rintro e w' ⟨rfl, rfl⟩
            go_wp2_with (go_at_call 10; refine (awake_any _).mono ?_; rintro e w3 ⟨rfl, hb3⟩)
            go_ret
            exact ⟨rfl, hbw.trans (hb3.mono hbw.size)⟩
end Go.Proofs.Yteifmkpibgjkoaa
