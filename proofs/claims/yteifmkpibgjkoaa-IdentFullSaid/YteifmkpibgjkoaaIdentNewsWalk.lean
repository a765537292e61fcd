/- The walk of IdentNews. -/
import Derived.Test.YteifmkpibgjkoaaAwake
namespace Go.Proofs.Yteifmkpibgjkoaa
open Go.RowKit
theorem few_len {l : List ByteArray} (h : fewB l = true) : l.length ≤ 60 := by
  unfold fewB at h
  simp only [Bool.and_eq_true, decide_eq_true_eq] at h
  exact h.2
theorem few_size {l : List ByteArray} (h : fewB l = true) : ∀ s ∈ l, s.size ≤ 100 := by
  unfold fewB at h
  simp only [Bool.and_eq_true, decide_eq_true_eq] at h
  exact h.1
set_option maxHeartbeats 1000000 in
set_option maxRecDepth 10000 in
theorem identNews_walk (A : Option Addr) (n c : Nat) (l : List ByteArray) (s : ByteArray) (i : Int) (w : World) (hr : Reads w w.heap.size 1 A n (strs l)) (hnc : n ≤ c) (hc : c ≤ maxLen) (hs : ∀ x ∈ l, x.size ≤ maxLen) (hsz : s.size ≤ maxLen) :
    Calls Try.prog 4 #[.slice A n c, .string s, .int .i64 i] w (AwakePost w) := by
  have HL := Lib.hid (reads_len hr)
  have HS := Lib.hid hs
  have HZ := Lib.hid hsz
  have hn : n ≤ maxLen := Nat.le_trans hnc hc
  have C13 := Lib.hid (few_any A n c l w.heap.size w hr hn)
  clear hs hsz hnc hc hn
  rcases hf : fewB l with _ | _
  · rw [hf] at C13
    go_enter Try.func4, Try.ntmps4
    go_wp2_with (first | (go_at_call 13; refine C13.out.mono ?_; rintro e w' ⟨rfl, rfl⟩) | (go_at_call 10; refine (awake_any _).mono ?_; rintro e w1 ⟨rfl, hb⟩))
    go_ret
    exact ⟨rfl, hb⟩
  rw [hf] at C13
  have hn60 : n ≤ 60 := by have := few_len hf; have := HL.out; omega
  clear hf
  by_cases h100 : 100 < s.size
  · go_enter Try.func4, Try.ntmps4
    go_wp2_with (first | (go_at_call 13; refine C13.out.mono ?_; rintro e w' ⟨rfl, rfl⟩) | (go_at_call 10; refine (awake_any _).mono ?_; rintro e w1 ⟨rfl, hb⟩))
    go_ret
    exact ⟨rfl, hb⟩
  by_cases h0 : newE [] l = 0
  · have H0 := Lib.hid h0
    have HNL : Hid (newL l = l) := Lib.hid (by unfold newL; rw [if_pos h0])
    clear h0
    go_enter Try.func4, Try.ntmps4
    go_wp2_with (go_at_call 13; refine C13.out.mono ?_; rintro e w' ⟨rfl, rfl⟩)
    refine (new_ok A n c l _ hr (by omega) HS.out H0.out).mono ?_
    rintro e w1 ⟨g, rfl, ht, hb⟩
    have HT := Lib.hid ht
    clear ht
    go_wp2_with fail
    refine (rnew_any A n c l w1 ((hr.below hb).more hb.size) (by omega) HS.out).mono ?_
    rintro e w2 ⟨A2, n2, c2, he, hr2, hb2⟩
    rw [H0.out] at he
    rw [HNL.out] at hr2
    subst he
    have HT2 := Lib.hid (HT.out.below hb2)
    have hn2 : n2 ≤ 90000 := by have h1 := reads_len hr2; have h2 := HL.out; omega
    have C16 := Lib.hid (same_any _ g A2 n2 c2 _ l s i w2 HT2.out hr2 hn2 HZ.out)
    clear hn2
    go_wp2_with (first | (go_at_call 16; refine C16.out.mono ?_; rintro e w' ⟨rfl, rfl⟩) | (go_at_call 10; refine (awake_any _).mono ?_; rintro e w3 ⟨rfl, hb3⟩))
    go_ret
    exact ⟨rfl, (hb.trans (hb2.mono hb.size)).trans (hb3.mono (Nat.le_trans hb.size hb2.size))⟩
  · have HB : Hid (newL l = []) := Lib.hid (by unfold newL; rw [if_neg h0])
    obtain ⟨x, hx⟩ : ∃ x, newE [] l = x := ⟨_, rfl⟩
    have H0 : Hid (newE [] l = x) := Lib.hid hx
    have hx0 : x ≠ 0 := fun e => h0 (hx.trans e)
    have hx1 := ne0_t hx0
    have HX := Lib.hid hx0
    clear h0 hx hx0
    go_enter Try.func4, Try.ntmps4
    go_wp2_with (go_at_call 13; refine C13.out.mono ?_; rintro e w' ⟨rfl, rfl⟩)
    refine (new_no A n c l x _ hr (by omega) HS.out H0.out HX.out).mono ?_
    rintro e w1 ⟨rfl, hb⟩
    go_wp2_with fail
    refine (rnew_any A n c l w1 ((hr.below hb).more hb.size) (by omega) HS.out).mono ?_
    rintro e w2 ⟨A2, n2, c2, he, hr2, hb2⟩
    rw [H0.out] at he
    subst he
    clear hr2
    go_wp2_with (go_at_call 10; refine (awake_any _).mono ?_; rintro e w3 ⟨rfl, hb3⟩)
    go_ret
    exact ⟨rfl, (hb.trans (hb2.mono hb.size)).trans (hb3.mono (Nat.le_trans hb.size hb2.size))⟩
end Go.Proofs.Yteifmkpibgjkoaa
