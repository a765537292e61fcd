/- The walks of the statements' own helpers: same and awake. -/
import Derived.Test.YteifmkpibgjkoaaTable
namespace Go.Proofs.Yteifmkpibgjkoaa
open Go.RowKit Go.Maps Go.WideMaps

theorem placeN_some {l : List ByteArray} {s : ByteArray} {i : Nat} (h : posOf l s = some i) : placeN l s = i := by rw [placeN, h]; rfl
theorem placeN_none {l : List ByteArray} {s : ByteArray} (h : posOf l s = none) : placeN l s = 0 := by rw [placeN, h]; rfl
theorem toList_nil_t : (ByteArray.empty.toList == ([] : List UInt8)) = true := by decide +kernel

set_option maxHeartbeats 1000000 in
set_option maxRecDepth 10000 in
theorem same_any (base g : Nat) (A : Option Addr) (n c B : Nat) (l : List ByteArray) (s : ByteArray) (i : Int) (w : World) (h : Tab w base g l) (hr : Reads w B 1 A n (strs l)) (hn : n ≤ 90000) (hs : s.size ≤ maxLen) :
    Calls Try.prog 16 #[.pointer (some ⟨g, 0, none⟩), .slice A n c, .string s, .int .i64 i] w fun e w' => e = .returned (.bool true) ∧ w = w' := by
  have HL := Lib.hid (reads_len hr)
  have HT := Lib.hid h
  have HR := Lib.hid hr
  clear h hr
  have C19 : Hid (Calls Try.prog 19 #[.pointer (some ⟨g, 0, none⟩)] w fun e w' => e = .returned (.int .i64 n) ∧ w = w') := Lib.hid (by have := len_any base g l w HT.out; rw [HL.out] at this; exact this)
  have C21 : Hid (Calls Try.prog 21 #[.pointer (some ⟨g, 0, none⟩), .string s] w fun e w' => e = .returned (.tuple #[.int .i64 (placeN l s), .bool (posOf l s).isSome]) ∧ w = w') := Lib.hid (tfind_any base g l s hs w HT.out)
  have C24 : Hid (Calls Try.prog 24 #[.slice A n c, .string s] w fun e w' => e = .returned (.int .i64 (findI l s)) ∧ w = w') := Lib.hid (find_any A n c l s B w HR.out (by omega))
  have C20 : Hid (Calls Try.prog 20 #[.pointer (some ⟨g, 0, none⟩), .int .i64 i] w fun e w' => e = .returned (.tuple #[.string (nameS l i), .int .i64 (nameE l i)]) ∧ w = w') := Lib.hid (name_any base g l i w HT.out)
  have D : ∃ (P K : Int) (O : Bool), placeN l s = P ∧ (posOf l s).isSome = O ∧ findI l s = K ∧ ((O = true ∧ 0 ≤ K ∧ P = K) ∨ (O = false ∧ K < 0 ∧ P = 0)) := by
    rcases hp : posOf l s with _ | p
    · exact ⟨_, _, _, rfl, rfl, rfl, .inr ⟨rfl, by rw [findI_none hp]; omega, placeN_none hp⟩⟩
    · exact ⟨_, _, _, rfl, rfl, rfl, .inl ⟨rfl, by rw [findI_some hp]; omega, by rw [placeN_some hp, findI_some hp]⟩⟩
  obtain ⟨P, K, O, e1, e2, e3, hD⟩ := D
  rw [e1, e2] at C21
  rw [e3] at C24
  have HS := Lib.hid hs
  clear e1 e2 e3 hs
  rcases (by omega : i < 0 ∨ (n : Int) ≤ i ∨ (0 ≤ i ∧ i < n)) with hi | hi | ⟨hi, hi'⟩
  · have E1 : nameS l i = ByteArray.empty := by unfold nameS; rw [if_neg (by omega)]
    have E2 : nameE l i = 7 := by unfold nameE; rw [if_pos (.inl hi)]
    rw [E1, E2] at C20
    clear E1 E2
    rcases hD with ⟨rfl, hK, rfl⟩ | ⟨rfl, hK, rfl⟩
    all_goals
      go_enter Try.func16, Try.ntmps16
      go_wp2_with (first
        | (go_at_call 21; refine C21.out.mono ?_; rintro e w' ⟨rfl, rfl⟩)
        | (go_at_call 24; refine C24.out.mono ?_; rintro e w' ⟨rfl, rfl⟩)
        | (go_at_call 19; refine C19.out.mono ?_; rintro e w' ⟨rfl, rfl⟩)
        | (go_at_call 20; refine C20.out.mono ?_; rintro e w' ⟨rfl, rfl⟩))
      go_ret
      exact ⟨rfl, rfl⟩
  · obtain ⟨k, rfl⟩ := Int.eq_ofNat_of_zero_le (by omega : 0 ≤ i)
    have E1 : nameS l k = ByteArray.empty := by unfold nameS; rw [if_pos (by omega)]; simp only [Int.toNat_natCast]; rw [List.getD_eq_getElem?_getD, List.getElem?_eq_none (by rw [HL.out]; omega)]; rfl
    have E2 : nameE l k = 7 := by unfold nameE; rw [if_pos (.inr (by have := HL.out; omega))]
    rw [E1, E2] at C20
    clear E1 E2
    rcases hD with ⟨rfl, hK, rfl⟩ | ⟨rfl, hK, rfl⟩
    all_goals
      go_enter Try.func16, Try.ntmps16
      go_wp2_with (first
        | (go_at_call 21; refine C21.out.mono ?_; rintro e w' ⟨rfl, rfl⟩)
        | (go_at_call 24; refine C24.out.mono ?_; rintro e w' ⟨rfl, rfl⟩)
        | (go_at_call 19; refine C19.out.mono ?_; rintro e w' ⟨rfl, rfl⟩)
        | (go_at_call 20; refine C20.out.mono ?_; rintro e w' ⟨rfl, rfl⟩))
      go_ret
      exact ⟨rfl, rfl⟩
  · obtain ⟨k, rfl⟩ := Int.eq_ofNat_of_zero_le hi
    have hk : k < n := by omega
    have hkl : k < l.length := by have := HL.out; omega
    have E1 : nameS l k = l[k] := by unfold nameS; rw [if_pos (by omega)]; simp only [Int.toNat_natCast]; rw [List.getD_eq_getElem?_getD, List.getElem?_eq_getElem hkl]; rfl
    have E2 : nameE l k = 0 := by unfold nameE; rw [if_neg (by have := HL.out; omega)]
    rw [E1, E2] at C20
    clear E1 E2
    obtain ⟨ad, u, rfl, hb, hx, hc⟩ := HR.out.at_ hk
    obtain rfl := strs_at hx hkl
    clear hx
    rcases hD with ⟨rfl, hK, rfl⟩ | ⟨rfl, hK, rfl⟩
    all_goals
      go_enter Try.func16, Try.ntmps16
      go_wp2_with (first
        | (go_at_call 21; refine C21.out.mono ?_; rintro e w' ⟨rfl, rfl⟩)
        | (go_at_call 24; refine C24.out.mono ?_; rintro e w' ⟨rfl, rfl⟩)
        | (go_at_call 19; refine C19.out.mono ?_; rintro e w' ⟨rfl, rfl⟩)
        | (go_at_call 20; refine C20.out.mono ?_; rintro e w' ⟨rfl, rfl⟩))
      go_ret
      exact ⟨rfl, rfl⟩

end Go.Proofs.Yteifmkpibgjkoaa
