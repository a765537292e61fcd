/- The walk of IdentAdds. -/
import Derived.Test.YteifmkpibgjkoaaIdentNewsWalk
namespace Go.Proofs.Yteifmkpibgjkoaa
open Go.RowKit
theorem addF_at (F : Nat → Prop) (g : Nat) (l : List ByteArray) (s : ByteArray) (x y : Int) (w : World) (h : TabF w F g l) (hs : s.size ≤ maxLen) (h1 : addE l s = x) (h2 : addN l s = y) :
    Calls Try.prog 17 #[.pointer (some ⟨g, 0, none⟩), .string s] w fun e w' => e = .returned (.tuple #[.int .i64 y, .int .i64 x]) ∧ TabF w' (With F w w') g (addL l s) ∧ Only F w w' := by
  refine (addF_any F g l s hs w h).mono ?_
  rintro e w' ⟨he, ht, hb⟩
  exact ⟨by rw [he, h1, h2], ht, hb⟩
theorem radd_at (G : Nat → Prop) (A : Option Addr) (n c : Nat) (l : List ByteArray) (s : ByteArray) (x : Int) (w : World) (hg : RIn w G 1 A n (strs l)) (hn : n ≤ 100000) (hs : s.size ≤ maxLen) (h1 : addE l s = x) :
    Calls Try.prog 18 #[.slice A n c, .string s] w (RetIn w G 1 (strs (addL l s)) x) := by
  rw [← h1]; exact radd_in G A n c l s w hg hn hs

/-- What holds in IdentAdds' and IdentTable's loops: table and list hold the same, apart. -/
def Both (w0 wr : World) (g : Nat) (acc : List ByteArray) (A' : Option Addr) (n' : Nat) : Prop :=
  ∃ F : Nat → Prop, TabF wr F g acc ∧ RIn wr (fun b => ¬ F b) 1 A' n' (strs acc) ∧ (∀ b, F b → w0.heap.size ≤ b)

theorem rin_apart {F : Nat → Prop} {wr w2 : World} {A' : Option Addr} {n' : Nat} {xs : List Value} (hin : RIn wr (fun b => ¬ F b) 1 A' n' xs) (ho : Only F wr w2) : RIn w2 (fun b => ¬ With F wr w2 b) 1 A' n' xs :=
  ((hin.mono (G' := fun b => ¬ F b ∧ b < wr.heap.size) fun _ hk h => ⟨h, hk⟩).keep ho fun _ _ h => h.1).mono fun _ _ h e => e.elim h.1 fun e => by have := h.2; omega
theorem both_step {w wr w2 w3 : World} {F : Nat → Prop} {g : Nat} {l : List ByteArray} {A2 : Option Addr} {n2 : Nat} (hF : ∀ b, F b → w.heap.size ≤ b) (hw : w.heap.size ≤ wr.heap.size) (ht : TabF w2 (With F wr w2) g l)
    (hr : RIn w3 (fun b => ¬ With F wr w2 b ∨ w2.heap.size ≤ b) 1 A2 n2 (strs l)) (hb : Below w2.heap.size w2 w3) : Both w w3 g l A2 n2 ∧ Tab w3 w.heap.size g l := by
  have h1 : TabF w3 (With F wr w2) g l := ht.keep (Only.of_new hb fun _ => False) fun _ _ e => e
  have h2 : ∀ b, With F wr w2 b → w.heap.size ≤ b := fun b h => h.elim (hF b) fun e => Nat.le_trans hw e.1
  exact ⟨⟨_, h1, hr.mono fun b _ h e => h.elim (fun h => h e) fun h => by have := ht.2.1 b e; omega, h2⟩, ⟨_, h2, h1⟩⟩

set_option maxHeartbeats 2000000 in
set_option maxRecDepth 10000 in
theorem identAdds_walk (A : Option Addr) (n c : Nat) (l : List ByteArray) (s : ByteArray) (i : Int) (w : World) (hr : Reads w w.heap.size 1 A n (strs l)) (hnc : n ≤ c) (hc : c ≤ maxLen) (hs : ∀ x ∈ l, x.size ≤ maxLen) (hsz : s.size ≤ maxLen) :
    Calls Try.prog 5 #[.slice A n c, .string s, .int .i64 i] w (AwakePost w) := by
  have HL := Lib.hid (reads_len hr)
  have HS := Lib.hid hs
  have HZ := Lib.hid hsz
  have hn : n ≤ maxLen := Nat.le_trans hnc hc
  have C13 := Lib.hid (few_any A n c l w.heap.size w hr hn)
  clear hs hsz hnc hc hn
  rcases hf : fewB l with _ | _
  · rw [hf] at C13
    go_enter Try.func5, Try.ntmps5
    go_wp2_with (first | (go_at_call 13; refine C13.out.mono ?_; rintro e w' ⟨rfl, rfl⟩) | (go_at_call 10; refine (awake_any _).mono ?_; rintro e w1 ⟨rfl, hb⟩))
    go_ret
    exact ⟨rfl, hb⟩
  rw [hf] at C13
  have hn60 : n ≤ 60 := by have := few_len hf; have := HL.out; omega
  clear hf
  by_cases h100 : 100 < s.size
  · go_enter Try.func5, Try.ntmps5
    go_wp2_with (first | (go_at_call 13; refine C13.out.mono ?_; rintro e w' ⟨rfl, rfl⟩) | (go_at_call 10; refine (awake_any _).mono ?_; rintro e w1 ⟨rfl, hb⟩))
    go_ret
    exact ⟨rfl, hb⟩
  go_enter Try.func5, Try.ntmps5
  go_wp2_with (go_at_call 13; refine C13.out.mono ?_; rintro e w' ⟨rfl, rfl⟩)
  refine (new_ok none 0 0 [] _ Reads.none_ (by omega) (fun x hx => by cases hx) rfl).mono ?_
  rintro e w1 ⟨g, rfl, ht, hb1⟩
  have HT := Lib.hid ht
  clear ht
  go_wp2_with fail
  go_loopw [9, 10] (fun x j wr => ∃ (k : Nat) (acc : List ByteArray) (A' : Option Addr) (n' c' : Nat), k ≤ n ∧ j = .int .i64 k ∧ x = .slice A' n' c' ∧ Both w wr g acc A' n' ∧ acc.length ≤ k ∧ Below w.heap.size w wr) (fun _ j _ => n - (intOf j).toNat)
  case atStart =>
    obtain ⟨F, hF, ht⟩ := HT.out
    exact ⟨0, [], none, 0, 0, Nat.zero_le _, rfl, rfl, ⟨F, ht, RIn.none_, hF⟩, Nat.le_refl _, hb1⟩
  case round =>
    obtain ⟨k, acc, A', n', c', hk, rfl, rfl, ⟨F, ht, hin, hF⟩, hacc, hbw⟩ := hrel
    have HT2 := Lib.hid ht
    have HI := Lib.hid hin
    have HF := Lib.hid hF
    have HA := Lib.hid hacc
    have HN : Hid (acc.length = n') := Lib.hid (reads_len hin.reads)
    have hn' : n' ≤ 60 := by have := reads_len hin.reads; omega
    clear ht hin hF hacc
    by_cases hlt : k < n
    · obtain ⟨ad, u, rfl, hb, hx, hc⟩ := (hr.below hbw).at_ hlt
      have hkl : k < l.length := by have := HL.out; omega
      obtain rfl := strs_at hx hkl
      clear hx
      have HSZ : Hid (l[k].size ≤ maxLen) := HS.out _ (List.getElem_mem hkl)
      obtain ⟨x, y, hx, hy, hxy⟩ : ∃ x y : Int, addE acc l[k] = x ∧ addN acc l[k] = y ∧ ((x = 0 ∧ y = n') ∨ (x ≠ 0 ∧ y = 0)) := by
        by_cases h0 : addE acc l[k] = 0
        · exact ⟨_, _, rfl, rfl, .inl ⟨h0, by rw [addN_ok h0]; have := HN.out; omega⟩⟩
        · exact ⟨_, _, rfl, rfl, .inr ⟨h0, addN_no h0⟩⟩
      have C17 := Lib.hid (addF_at F g acc l[k] x y wr HT2.out HSZ.out hx hy)
      have HX := Lib.hid hx
      clear hx hy
      rcases hxy with ⟨rfl, rfl⟩ | ⟨hx0, rfl⟩
      · go_wp2_with fail
        refine C17.out.mono ?_
        rintro e w2 ⟨rfl, ht2, ho2⟩
        have HT3 := Lib.hid ht2
        have hi2 := Lib.hid (rin_apart HI.out ho2)
        have hb2 : Below w.heap.size w w2 := hbw.trans (ho2.below (fun b _ h => HF.out b h) hbw.size)
        have hc2 : w2.cell? (ad.add k) = some (.string l[k]) := (hb2.cell (p := ad.add k) (by rw [block_of_add]; exact hb)).trans ((hbw.cell (p := ad.add k) (by rw [block_of_add]; exact hb)).symm.trans hc)
        have hs2 := hb2.size
        clear ht2
        go_wp2_with fail
        refine (radd_at _ A' n' c' acc l[k] 0 w2 hi2.out (by omega) HSZ.out HX.out).mono ?_
        rintro e w3 ⟨A2, n2, c2, rfl, hr3, hb3⟩
        have HB3 := Lib.hid (both_step HF.out hbw.size HT3.out hr3 hb3)
        have hbw3 : Below w.heap.size w w3 := hb2.trans (hb3.mono hb2.size)
        have hc3 : w3.cell? (ad.add k) = some (.string l[k]) := (hbw3.cell (p := ad.add k) (by rw [block_of_add]; exact hb)).trans ((hb2.cell (p := ad.add k) (by rw [block_of_add]; exact hb)).symm.trans hc2)
        have hn2 : n2 ≤ 90000 := by have h1 := reads_len hr3.reads; have h2 := addL_le acc l[k]; have h3 := HN.out; omega
        have C16a := Lib.hid (same_any _ g A2 n2 c2 _ (addL acc l[k]) s i w3 HB3.out.2 hr3.reads hn2 HZ.out)
        have C16b := Lib.hid (same_any _ g A2 n2 c2 _ (addL acc l[k]) l[k] k w3 HB3.out.2 hr3.reads hn2 HSZ.out)
        have HR3 := Lib.hid hr3
        clear hr3 hn2
        go_wp2_with fail
        refine C16a.out.mono ?_
        rintro e w' ⟨rfl, rfl⟩
        go_wp2_with fail
        refine C16b.out.mono ?_
        rintro e w' ⟨rfl, rfl⟩
        go_wp2_with fail
        go_roundw
        case rel => exact ⟨k + 1, addL acc l[k], A2, n2, c2, by omega, by go_num, rfl, HB3.out.1, by have h2 := addL_le acc l[k]; have h3 := HA.out; omega, hbw3⟩
        case measure => simp [intOf]; omega
      · have hx1 := ne0_t hx0
        have hx2 := eq0_f hx0
        clear hx0
        go_wp2_with fail
        refine C17.out.mono ?_
        rintro e w2 ⟨rfl, ht2, ho2⟩
        have HT3 := Lib.hid ht2
        have hi2 := Lib.hid (rin_apart HI.out ho2)
        have hb2 : Below w.heap.size w w2 := hbw.trans (ho2.below (fun b _ h => HF.out b h) hbw.size)
        have hc2 : w2.cell? (ad.add k) = some (.string l[k]) := (hb2.cell (p := ad.add k) (by rw [block_of_add]; exact hb)).trans ((hbw.cell (p := ad.add k) (by rw [block_of_add]; exact hb)).symm.trans hc)
        have hs2 := hb2.size
        clear ht2
        go_wp2_with fail
        refine (radd_at _ A' n' c' acc l[k] x w2 hi2.out (by omega) HSZ.out HX.out).mono ?_
        rintro e w3 ⟨A2, n2, c2, rfl, hr3, hb3⟩
        have HB3 := Lib.hid (both_step HF.out hbw.size HT3.out hr3 hb3)
        have hbw3 : Below w.heap.size w w3 := hb2.trans (hb3.mono hb2.size)
        have hc3 : w3.cell? (ad.add k) = some (.string l[k]) := (hbw3.cell (p := ad.add k) (by rw [block_of_add]; exact hb)).trans ((hb2.cell (p := ad.add k) (by rw [block_of_add]; exact hb)).symm.trans hc2)
        have hn2 : n2 ≤ 90000 := by have h1 := reads_len hr3.reads; have h2 := addL_le acc l[k]; have h3 := HN.out; omega
        have C16a := Lib.hid (same_any _ g A2 n2 c2 _ (addL acc l[k]) s i w3 HB3.out.2 hr3.reads hn2 HZ.out)
        have C16b := Lib.hid (same_any _ g A2 n2 c2 _ (addL acc l[k]) l[k] k w3 HB3.out.2 hr3.reads hn2 HSZ.out)
        have HR3 := Lib.hid hr3
        clear hr3 hn2
        go_wp2_with fail
        refine C16a.out.mono ?_
        rintro e w' ⟨rfl, rfl⟩
        go_wp2_with fail
        refine C16b.out.mono ?_
        rintro e w' ⟨rfl, rfl⟩
        go_wp2_with fail
        go_roundw
        case rel => exact ⟨k + 1, addL acc l[k], A2, n2, c2, by omega, by go_num, rfl, HB3.out.1, by have h2 := addL_le acc l[k]; have h3 := HA.out; omega, hbw3⟩
        case measure => simp [intOf]; omega
    · go_wp2_with (go_at_call 10; refine (awake_any _).mono ?_; rintro e w3 ⟨rfl, hb3⟩)
      go_ret
      exact ⟨rfl, hbw.trans (hb3.mono hbw.size)⟩
end Go.Proofs.Yteifmkpibgjkoaa
