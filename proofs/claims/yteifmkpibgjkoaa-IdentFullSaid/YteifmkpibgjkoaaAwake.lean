/- The walk of the statements' awake: the chapter's examples, met by the contracts. -/
import Derived.Test.YteifmkpibgjkoaaSame
namespace Go.Proofs.Yteifmkpibgjkoaa
open Go.RowKit Go.Maps Go.WideMaps

theorem new_ok (A : Option Addr) (n c : Nat) (l : List ByteArray) (w : World) (hr : Reads w w.heap.size 1 A n (strs l)) (hn : n ≤ 90000) (hs : ∀ s ∈ l, s.size ≤ maxLen) (h0 : newE [] l = 0) :
    Calls Try.prog 14 #[.slice A n c] w fun e w' => ∃ g, e = .returned (.tuple #[.pointer (some ⟨g, 0, none⟩), .int .i64 0]) ∧ Tab w' w.heap.size g l ∧ Below w.heap.size w w' := by
  refine (new_any A n c l w hr hn hs).mono ?_
  rintro e w' ⟨hb, ⟨_, g, he, ht⟩ | ⟨h, _⟩⟩
  · exact ⟨g, he, ht, hb⟩
  · exact absurd h0 h
theorem new_no (A : Option Addr) (n c : Nat) (l : List ByteArray) (x : Int) (w : World) (hr : Reads w w.heap.size 1 A n (strs l)) (hn : n ≤ 90000) (hs : ∀ s ∈ l, s.size ≤ maxLen) (h0 : newE [] l = x) (hx : x ≠ 0) :
    Calls Try.prog 14 #[.slice A n c] w fun e w' => e = .returned (.tuple #[.pointer none, .int .i64 x]) ∧ Below w.heap.size w w' := by
  refine (new_any A n c l w hr hn hs).mono ?_
  rintro e w' ⟨hb, ⟨h, _⟩ | ⟨_, he⟩⟩
  · exact absurd (h0.symm.trans h) hx
  · exact ⟨by rw [he, h0], hb⟩
theorem add_at (base g : Nat) (l l' : List ByteArray) (s : ByteArray) (x y : Int) (w : World) (h : Tab w base g l) (hs : s.size ≤ maxLen) (hl : l.length ≤ 100000) (h1 : addE l s = x) (h2 : addN l s = y) (h3 : addL l s = l') :
    Calls Try.prog 17 #[.pointer (some ⟨g, 0, none⟩), .string s] w fun e w' => e = .returned (.tuple #[.int .i64 y, .int .i64 x]) ∧ Tab w' base g l' ∧ Below base w w' := by
  refine (add_any base g l s hs w h hl).mono ?_
  rintro e w' ⟨he, ht, hb⟩
  exact ⟨by rw [he, h1, h2], h3 ▸ ht, hb⟩
theorem tfind_at (base g : Nat) (l : List ByteArray) (s : ByteArray) (y : Int) (o : Bool) (w : World) (h : Tab w base g l) (hs : s.size ≤ maxLen) (h1 : placeN l s = y) (h2 : (posOf l s).isSome = o) :
    Calls Try.prog 21 #[.pointer (some ⟨g, 0, none⟩), .string s] w fun e w' => e = .returned (.tuple #[.int .i64 y, .bool o]) ∧ w = w' := by
  rw [← h1, ← h2]; exact tfind_any base g l s hs w h
theorem name_at (base g : Nat) (l : List ByteArray) (i : Int) (s : ByteArray) (x : Int) (w : World) (h : Tab w base g l) (h1 : nameS l i = s) (h2 : nameE l i = x) :
    Calls Try.prog 20 #[.pointer (some ⟨g, 0, none⟩), .int .i64 i] w fun e w' => e = .returned (.tuple #[.string s, .int .i64 x]) ∧ w = w' := by
  rw [← h1, ← h2]; exact name_any base g l i w h

def harbour : ByteArray := ⟨#[104, 97, 114, 98, 111, 117, 114]⟩
def oldTown : ByteArray := ⟨#[111, 108, 100, 45, 116, 111, 119, 110]⟩
def park : ByteArray := ⟨#[112, 97, 114, 107]⟩
theorem k1 : newE [] [⟨#[104, 97, 114, 98, 111, 117, 114]⟩, ⟨#[111, 108, 100, 45, 116, 111, 119, 110]⟩] = 0 := by decide +kernel
theorem k2 : newE [] [⟨#[97]⟩, ⟨#[45]⟩, ⟨#[97]⟩] = 5 := by decide +kernel
theorem k3 : newE [] [⟨#[97]⟩, ⟨#[98]⟩, ⟨#[97]⟩] = 6 := by decide +kernel
theorem k4 : validS ⟨#[122, 57]⟩ = true := by decide +kernel
theorem k5 : validS ⟨#[57, 122]⟩ = false := by decide +kernel
abbrev L2 : List ByteArray := [⟨#[104, 97, 114, 98, 111, 117, 114]⟩, ⟨#[111, 108, 100, 45, 116, 111, 119, 110]⟩]
abbrev L3 : List ByteArray := [⟨#[104, 97, 114, 98, 111, 117, 114]⟩, ⟨#[111, 108, 100, 45, 116, 111, 119, 110]⟩, ⟨#[112, 97, 114, 107]⟩]
theorem mem_small {l : List ByteArray} (h : (l.all fun s => decide (s.size ≤ 1000)) = true) : ∀ s ∈ l, s.size ≤ maxLen := fun s hs => by
  have := of_decide_eq_true (List.all_eq_true.1 h s hs)
  unfold maxLen
  omega

theorem Tab.alloc {w : World} {base g : Nat} {l : List ByteArray} (h : Tab w base g l) (o : Obj) : Tab (w.alloc o) base g l := h.below ((Below.refl _ _).alloc (Nat.le_refl _) o)
def AwakePost (w : World) (e : Ending) (w' : World) : Prop := e = .returned (.bool true) ∧ Below w.heap.size w w'
set_option maxHeartbeats 1000000 in
set_option maxRecDepth 10000 in
theorem awake_any (w : World) : Calls Try.prog 10 #[] w (AwakePost w) := by
  go_enter Try.func10, Try.ntmps10
  go_wp2_with fail
  refine (new_ok (some ⟨w.heap.size, 0, none⟩) 2 2 L2 _ ((Reads.fresh w 9 _ 2 1 rfl).more (by simp)) (by omega) (mem_small (by decide +kernel)) k1).mono ?_
  rintro e w1 ⟨g, rfl, ht, hb⟩
  go_wp2_with fail
  refine (add_at _ g L2 L2 _ 6 0 w1 ht (by decide +kernel) (by decide) (by decide +kernel) (by decide +kernel) (by decide +kernel)).mono ?_
  rintro e w2 ⟨rfl, ht2, hb2⟩
  go_wp2_with fail
  refine (add_at _ g L2 L3 _ 0 2 w2 ht2 (by decide +kernel) (by decide) (by decide +kernel) (by decide +kernel) (by decide +kernel)).mono ?_
  rintro e w3 ⟨rfl, ht3, hb3⟩
  go_wp2_with fail
  refine (tfind_at _ g L3 _ 1 true w3 ht3 (by decide +kernel) (by decide +kernel) (by decide +kernel)).mono ?_
  rintro e w' ⟨rfl, rfl⟩
  go_wp2_with fail
  refine (name_at _ g L3 2 ⟨#[112, 97, 114, 107]⟩ 0 w3 ht3 (by decide +kernel) (by decide +kernel)).mono ?_
  rintro e w' ⟨rfl, rfl⟩
  go_wp2_with fail
  refine (new_no (some ⟨w3.heap.size, 0, none⟩) 3 3 [⟨#[97]⟩, ⟨#[45]⟩, ⟨#[97]⟩] 5 _ ((Reads.fresh w3 9 _ 3 1 rfl).more (by simp)) (by omega) (mem_small (by decide +kernel)) k2 (by decide)).mono ?_
  rintro e w4 ⟨rfl, hb4⟩
  have ht4 := (ht3.alloc _).below hb4
  go_wp2_with fail
  refine (new_no (some ⟨w4.heap.size, 0, none⟩) 3 3 [⟨#[97]⟩, ⟨#[98]⟩, ⟨#[97]⟩] 6 _ ((Reads.fresh w4 9 _ 3 1 rfl).more (by simp)) (by omega) (mem_small (by decide +kernel)) k3 (by decide)).mono ?_
  rintro e w5 ⟨rfl, hb5⟩
  have ht5 := (ht4.alloc _).below hb5
  have C19 := Lib.hid (len_any _ g L3 w5 ht5)
  go_wp2_with fail
  refine C19.out.mono ?_
  rintro e w' ⟨rfl, rfl⟩
  go_wp2_with fail
  refine (valid_any ⟨#[122, 57]⟩ (by decide +kernel) _).mono ?_
  rw [k4]
  rintro e w' ⟨rfl, rfl⟩
  go_wp2_with fail
  refine (valid_any ⟨#[57, 122]⟩ (by decide +kernel) _).mono ?_
  rw [k5]
  rintro e w' ⟨rfl, rfl⟩
  go_wp2_with fail
  go_ret
  refine ⟨rfl, ?_⟩
  have a1 : Below w.heap.size w w1 := ((Below.refl _ _).alloc (Nat.le_refl _) _).trans (hb.mono (by simp))
  have a3 : Below w.heap.size w w3 := (a1.trans (hb2.mono (by simp))).trans (hb3.mono (by simp))
  have a4 : Below w.heap.size w w4 := (a3.alloc a3.size _).trans (hb4.mono (by have := a3.size; simp; omega))
  exact (a4.alloc a4.size _).trans (hb5.mono (by have := a4.size; simp; omega))
end Go.Proofs.Yteifmkpibgjkoaa
