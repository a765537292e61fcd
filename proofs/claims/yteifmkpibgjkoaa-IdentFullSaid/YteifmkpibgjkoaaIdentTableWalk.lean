/- The walk of IdentTable. -/
import Derived.Test.YteifmkpibgjkoaaIdentAddsWalk
namespace Go.Proofs.Yteifmkpibgjkoaa
open Go.RowKit

/-- The lists that come of adding: each string at its own first place, and an identifier. -/
def Good (acc : List ByteArray) : Prop := ∀ i (hi : i < acc.length), posOf acc acc[i] = some i ∧ validS acc[i] = true
theorem good_nil : Good [] := fun _ hi => absurd hi (Nat.not_lt_zero _)
theorem good_add {acc : List ByteArray} (s : ByteArray) (h : Good acc) : Good (addL acc s) := by
  by_cases h0 : addE acc s = 0
  · rw [addL_ok h0]
    obtain ⟨hv, hp, _⟩ := addE_zero.1 h0
    intro i hi
    by_cases hlt : i < acc.length
    · rw [List.getElem_append_left hlt, posOf_snoc _ hp]
      have hne : eqS s acc[i] = false := by
        rw [Bool.eq_false_iff]
        intro e
        rw [eqS_iff] at e
        have := (posOf_mem.1 hp)
        exact this (e ▸ List.getElem_mem hlt)
      rw [if_neg (by rw [hne]; simp)]
      exact h i hlt
    · have he : i = acc.length := by simp at hi; omega
      subst he
      rw [List.getElem_append_right (Nat.le_refl _)]
      simp only [Nat.sub_self, List.getElem_cons_zero]
      rw [posOf_snoc _ hp, if_pos (eqS_refl s)]
      exact ⟨rfl, hv⟩
  · rw [addL_no h0]; exact h

def TRel (w wr : World) (g : Nat) (acc : List ByteArray) (A' : Option Addr) (n' c' : Nat) : Prop :=
  ∃ F : Nat → Prop, TabF wr F g acc ∧ wr.ownsRow 0 9 1 (.slice A' n' c') n' (strs acc) ∧ (∀ b, (Value.slice A' n' c').ownBlock = some b → ¬ F b ∧ w.heap.size ≤ b) ∧ (∀ b, F b → w.heap.size ≤ b) ∧ Below w.heap.size w wr ∧ Good acc
theorem trel_no {w wr w2 : World} {F : Nat → Prop} {g : Nat} {acc l2 : List ByteArray} {A' : Option Addr} {n' c' : Nat} (h2 : wr.ownsRow 0 9 1 (.slice A' n' c') n' (strs acc))
    (h3 : ∀ b, (Value.slice A' n' c').ownBlock = some b → ¬ F b ∧ w.heap.size ≤ b) (h4 : ∀ b, F b → w.heap.size ≤ b) (hb : Below w.heap.size w wr) (hg : Good acc) (ht : TabF w2 (With F wr w2) g l2) (ho : Only F wr w2) (hl : l2 = acc) : TRel w w2 g acc A' n' c' := by
  subst hl
  refine ⟨With F wr w2, ht, ho.own h2 fun b e => (h3 b e).1, fun b e => ⟨fun h => h.elim (h3 b e).1 fun h => ?_, (h3 b e).2⟩, fun b h => h.elim (h4 b) fun h => Nat.le_trans hb.size h.1, hb.trans (ho.below (fun b _ h => h4 b h) hb.size), hg⟩
  have := (h2.lt b e).2
  omega
theorem trel_yes {w wr w2 w3 : World} {F : Nat → Prop} {g : Nat} {acc l2 : List ByteArray} {s : ByteArray} {A' A3 : Option Addr} {n' c' n3 c3 : Nat} (h2 : wr.ownsRow 0 9 1 (.slice A' n' c') n' (strs acc))
    (h3 : ∀ b, (Value.slice A' n' c').ownBlock = some b → ¬ F b ∧ w.heap.size ≤ b) (h4 : ∀ b, F b → w.heap.size ≤ b) (hb : Below w.heap.size w wr) (hg : Good l2) (ht : TabF w2 (With F wr w2) g l2) (ho : Only F wr w2) (hl : l2 = acc ++ [s])
    {o : Obj} (hgr : (w2.alloc o).grownBy w3 (Value.slice A' n' c').ownBlock) (hown : w3.ownsRow 0 9 1 (.slice A3 n3 c3) n3 (strs acc ++ strs [s]))
    (hat : (Value.slice A3 n3 c3).ownBlock = (Value.slice A' n' c').ownBlock ∨ (Value.slice A3 n3 c3).ownBlock = some (w2.alloc o).heap.size) : TRel w w3 g l2 A3 n3 c3 := by
  have o3 : Only (fun b => (Value.slice A' n' c').ownBlock = some b) w2 w3 := ((Only.refl _ w2).alloc o).grown hgr fun k hk _ => hk
  have hsz : w2.heap.size ≤ (w2.alloc o).heap.size := by simp
  have b2 : Below w.heap.size w w2 := hb.trans (ho.below (fun b _ h => h4 b h) hb.size)
  have hd : ∀ k, With F wr w2 k → ¬ (Value.slice A' n' c').ownBlock = some k := fun k h e => h.elim (h3 k e).1 fun h => by have := (h2.lt k e).2; omega
  refine ⟨With F wr w2, ht.keep o3 hd, by rw [hl]; simpa using hown, fun b e => ?_, fun b h => h.elim (h4 b) fun h => Nat.le_trans hb.size h.1, b2.trans (o3.below (fun b _ h => (h3 b h).2) b2.size), hg⟩
  rcases hat with e1 | e1
  · rw [e1] at e
    exact ⟨fun h => hd b h e, (h3 b e).2⟩
  · rw [e1] at e
    injection e with e
    refine ⟨fun h => by have := ht.2.1 b h; omega, by have := b2.size; omega⟩

set_option maxHeartbeats 2000000 in
set_option maxRecDepth 10000 in
theorem identTable_walk (A : Option Addr) (n c : Nat) (l : List ByteArray) (w : World) (hr : Reads w w.heap.size 1 A n (strs l)) (hnc : n ≤ c) (hc : c ≤ maxLen) (hs : ∀ x ∈ l, x.size ≤ maxLen) :
    Calls Try.prog 6 #[.slice A n c] w (AwakePost w) := by
  obtain ⟨i0, hi0, hz0, hz1, hz2⟩ := info_parts Try.info9
  have HL := Lib.hid (reads_len hr)
  have HS := Lib.hid hs
  have hn : n ≤ maxLen := Nat.le_trans hnc hc
  have C13 := Lib.hid (few_any A n c l w.heap.size w hr hn)
  clear hs hnc hc hn
  rcases hf : fewB l with _ | _
  · rw [hf] at C13
    go_enter Try.func6, Try.ntmps6
    go_wp2_with (first | (go_at_call 13; refine C13.out.mono ?_; rintro e w' ⟨rfl, rfl⟩) | (go_at_call 10; refine (awake_any _).mono ?_; rintro e w1 ⟨rfl, hb⟩))
    go_ret
    exact ⟨rfl, hb⟩
  rw [hf] at C13
  have hn60 : n ≤ 60 := by have := few_len hf; have := HL.out; omega
  clear hf
  go_enter Try.func6, Try.ntmps6
  go_wp2_with (go_at_call 13; refine C13.out.mono ?_; rintro e w' ⟨rfl, rfl⟩)
  refine (new_ok none 0 0 [] _ Reads.none_ (by omega) (fun x hx => by cases hx) rfl).mono ?_
  rintro e w1 ⟨g, rfl, ht, hb1⟩
  have HT := Lib.hid ht
  clear ht
  go_wp2_with fail
  go_loopw [5, 6] (fun x j wr => ∃ (k : Nat) (acc : List ByteArray) (A' : Option Addr) (n' c' : Nat), k ≤ n ∧ j = .int .i64 k ∧ x = .slice A' n' c' ∧ TRel w wr g acc A' n' c' ∧ acc.length ≤ k) (fun _ j _ => n - (intOf j).toNat)
  case atStart =>
    obtain ⟨F, hF, ht⟩ := HT.out
    exact ⟨0, [], none, 0, 0, Nat.zero_le _, rfl, rfl, ⟨F, ht, World.ownsRow_nil _ _ _ _, fun b e => by simp [Value.ownBlock] at e, hF, hb1, good_nil⟩, Nat.le_refl _⟩
  case round =>
    obtain ⟨k, acc, A', n', c', hk, rfl, rfl, ⟨F, ht, hown, hsep, hF, hbw, hgood⟩, hacc⟩ := hrel
    have HT2 := Lib.hid ht
    have HO := Lib.hid hown
    have HSe := Lib.hid hsep
    have HF := Lib.hid hF
    have HA := Lib.hid hacc
    have HG := Lib.hid hgood
    have HN : Hid (acc.length = n') := Lib.hid (by have := hown.1; simpa using this)
    have hn' : n' ≤ 60 := by have := HN.out; omega
    clear ht hown hsep hF hacc hgood
    by_cases hlt : k < n
    · obtain ⟨ad, u, rfl, hb, hx, hc⟩ := (hr.below hbw).at_ hlt
      have hkl : k < l.length := by have := HL.out; omega
      obtain rfl := strs_at hx hkl
      clear hx
      have HSZ : Hid (l[k].size ≤ maxLen) := HS.out _ (List.getElem_mem hkl)
      by_cases h0 : addE acc l[k] = 0
      · have H0 := Lib.hid h0
        have HAL := Lib.hid (addL_ok h0)
        have C17 := Lib.hid (addF_at F g acc l[k] 0 n' wr HT2.out HSZ.out h0 (by rw [addN_ok h0]; have := HN.out; omega))
        clear h0
        go_wp2_with fail
        refine C17.out.mono ?_
        rintro e w2 ⟨rfl, ht2, ho2⟩
        have HT3 := Lib.hid ht2
        have hb2 : Below w.heap.size w w2 := hbw.trans (ho2.below (fun b _ h => HF.out b h) hbw.size)
        have hc2 : w2.cell? (ad.add k) = some (.string l[k]) := (hb2.cell (p := ad.add k) (by rw [block_of_add]; exact hb)).trans ((hbw.cell (p := ad.add k) (by rw [block_of_add]; exact hb)).symm.trans hc)
        have hO2 := Lib.hid (ho2.own HO.out fun b e => (HSe.out b e).1)
        clear ht2
        go_wp2_with (at_builtin; refine wpList_append_any _ rfl (.tmp 43) (.tmp 48) _ rfl 0 9 i0 _ 1 16 Try.underlying24 hi0 hz0 hz1 hz2 rfl (by omega) (.slice A' n' c') n' (strs acc) rfl (hO2.out.alloc _) (w2.heap.size + 1) (some ⟨w2.heap.size, 0, none⟩) 1 1 (strs [l[k]]) rfl (Reads.fresh w2 9 #[.string l[k]] 1 1 rfl) (one_strs [l[k]]) (by simp only [maxLen]; omega) (by omega) (Nat.zero_le _) ?_; intro v3 w3 hown3 hg3 hat3; obtain ⟨A3, c3, rfl, _⟩ := own_reads hown3)
        go_roundw
        case rel => exact ⟨k + 1, addL acc l[k], A3, n' + 1, c3, by omega, by go_num, rfl, trel_yes HO.out HSe.out HF.out hbw (good_add _ HG.out) HT3.out ho2 HAL.out hg3 hown3 hat3, by have h2 := addL_le acc l[k]; have h3 := HA.out; omega⟩
        case measure => simp [intOf]; omega
      · obtain ⟨x, hx⟩ : ∃ x, addE acc l[k] = x := ⟨_, rfl⟩
        have hx0 : x ≠ 0 := fun e => h0 (hx.trans e)
        have HAL := Lib.hid (addL_no h0)
        have hx1 := ne0_t hx0
        have hx2 := eq0_f hx0
        have C17 := Lib.hid (addF_at F g acc l[k] x 0 wr HT2.out HSZ.out hx (addN_no h0))
        clear h0 hx hx0
        go_wp2_with fail
        refine C17.out.mono ?_
        rintro e w2 ⟨rfl, ht2, ho2⟩
        have HT3 := Lib.hid ht2
        clear ht2
        go_wp2_with fail
        go_roundw
        case rel => exact ⟨k + 1, acc, A', n', c', by omega, by go_num, rfl, trel_no HO.out HSe.out HF.out hbw HG.out HT3.out ho2 HAL.out, by have h3 := HA.out; omega⟩
        case measure => simp [intOf]; omega
    · have C19 : Hid (Calls Try.prog 19 #[.pointer (some ⟨g, 0, none⟩)] wr fun e w' => e = .returned (.int .i64 n') ∧ wr = w') := Lib.hid (by have := lenF_any F g acc wr HT2.out; rw [HN.out] at this; exact this)
      have hrd := Reads.of_own HO.out
      go_wp2_with (go_at_call 19; refine C19.out.mono ?_; rintro e w' ⟨rfl, rfl⟩)
      go_loop [9] (fun j => ∃ i : Nat, i ≤ n' ∧ j = .int .i64 i) (fun j => n' - (intOf j).toNat)
      case atStart => exact ⟨0, Nat.zero_le _, rfl⟩
      case round =>
        obtain ⟨i, hi, rfl⟩ := hrel
        by_cases hin : i < n'
        · obtain ⟨ad, u, rfl, hb, hx, hc⟩ := hrd.at_ hin
          have hil : i < acc.length := by have := HN.out; omega
          obtain rfl := strs_at hx hil
          clear hx
          have hg1 := HG.out i hil
          have HV := Lib.hid hg1.2
          have HSZ : Hid (acc[i].size ≤ maxLen) := Lib.hid (by have := ((validS_iff acc[i]).1 hg1.2).2.1; unfold maxLen; omega)
          have C20 : Hid (Calls Try.prog 20 #[.pointer (some ⟨g, 0, none⟩), .int .i64 i] wr fun e w' => e = .returned (.tuple #[.string acc[i], .int .i64 0]) ∧ wr = w') := Lib.hid (by
            have E1 : nameS acc i = acc[i] := by unfold nameS; rw [if_pos (by omega)]; simp only [Int.toNat_natCast]; rw [List.getD_eq_getElem?_getD, List.getElem?_eq_getElem hil]; rfl
            have E2 : nameE acc i = 0 := by unfold nameE; rw [if_neg (by omega)]
            have := nameF_any F g acc i wr HT2.out
            rw [E1, E2] at this
            exact this)
          have C21 : Hid (Calls Try.prog 21 #[.pointer (some ⟨g, 0, none⟩), .string acc[i]] wr fun e w' => e = .returned (.tuple #[.int .i64 i, .bool true]) ∧ wr = w') := Lib.hid (by
            have := tfindF_any F g acc acc[i] HSZ.out wr HT2.out
            rw [placeN_some hg1.1, hg1.1] at this
            exact this)
          have C11 : Hid (Calls Try.prog 11 #[.string acc[i]] wr fun e w' => e = .returned (.bool true) ∧ wr = w') := Lib.hid (by have := valid_any acc[i] HSZ.out wr; rw [HV.out] at this; exact this)
          clear hg1
          go_wp2_with (first
            | (go_at_call 20; refine C20.out.mono ?_; rintro e w' ⟨rfl, rfl⟩)
            | (go_at_call 21; refine C21.out.mono ?_; rintro e w' ⟨rfl, rfl⟩)
            | (go_at_call 11; refine C11.out.mono ?_; rintro e w' ⟨rfl, rfl⟩))
          go_round
          case rel => exact ⟨i + 1, by omega, by go_num⟩
          case measure => simp [intOf]; omega
        · go_wp2_with (go_at_call 10; refine (awake_any _).mono ?_; rintro e w3 ⟨rfl, hb3⟩)
          go_ret
          exact ⟨rfl, hbw.trans (hb3.mono hbw.size)⟩
end Go.Proofs.Yteifmkpibgjkoaa
