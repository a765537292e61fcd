/- The walk of the statements' awake: the chapter's examples, met by the contracts. -/
import Derived.Test.YtdfmngnhmiemgaaSpend
import Derived.Test.YtdfmngnhmiemgaaPower
import Derived.Test.YtdfmngnhmiemgaaSame
namespace Go.Proofs.Ytdfmngnhmiemgaa
open Go.RowKit Go.Maps
theorem spend_at (A : Option Addr) (n c : Nat) (l m : List Sp) (lim a b units x : Int) (w : World) (hr : Reads w w.heap.size 2 A n (cellsS l)) (hn : n ≤ maxLen) (h1 : spendE l lim a b units = x) (h2 : spendL l lim a b units = m) :
    Calls Try.prog 14 #[.slice A n c, .int .i64 lim, .agg #[.int .i64 a, .int .i64 b], .int .i64 units] w (RetSC w 2 (cellsS m) x) := by
  rw [← h1, ← h2]; exact spend_any A n c l lim a b units w hr hn
theorem left_at (A : Option Addr) (n c : Nat) (l : List Sp) (lim day x y : Int) (w : World) (hr : Reads w w.heap.size 2 A n (cellsS l)) (hn : n ≤ maxLen) (h1 : leftN l lim day = x) (h2 : leftE l lim day = y) :
    Calls Try.prog 10 #[.slice A n c, .int .i64 lim, .int .i64 day] w (RetII w x y) := by
  rw [← h1, ← h2]; exact left_any A n c l lim day w hr hn
theorem check_at (A : Option Addr) (n c : Nat) (l : List Sp) (lim x : Int) (w : World) (hr : Reads w w.heap.size 2 A n (cellsS l)) (hn : n ≤ maxLen) (h1 : checkE l lim = x) :
    Calls Try.prog 12 #[.slice A n c, .int .i64 lim] w (RetI w x) := by
  rw [← h1]; exact check_any A n c l lim w hr hn
theorem power_at (num den k x y z : Int) (w : World) (h1 : powN num den k = x) (h2 : powD num den k = y) (h3 : powE num den k = z) :
    Calls Try.prog 17 #[.agg #[.int .i64 num, .int .i64 den], .int .i64 k] w (RetP w x y z) := by
  rw [← h1, ← h2, ← h3]; exact power_any num den k w
theorem same_at_ (A A' : Option Addr) (n c n' c' : Nat) (l m : List Sp) (x : Bool) (B B' : Nat) (w : World) (hr : Reads w B 2 A n (cellsS l)) (hr' : Reads w B' 2 A' n' (cellsS m)) (hn : n ≤ 100000) (h : sameB l m = x) :
    Calls Try.prog 16 #[.slice A n c, .slice A' n' c'] w fun e w' => e = .returned (.bool x) ∧ ∃ q, w' = w.drewN q := by
  rw [← h]; exact same_any A A' n c n' c' l m B B' w hr hr' hn
abbrev L0 : List Sp := [(0, 2), (1, 2)]
theorem k1 : spendE [] 3 86399 86401 2 = 0 := by decide +kernel
theorem k2 : spendL [] 3 86399 86401 2 = L0 := by decide +kernel
theorem k3 : leftN L0 3 0 = 1 := by decide +kernel
theorem k4 : leftE L0 3 0 = 0 := by decide +kernel
theorem k5 : spendE L0 3 100000 100001 2 = 31 := by decide +kernel
theorem k6 : spendL L0 3 100000 100001 2 = [] := by decide +kernel
theorem k7 : spendE L0 3 86400 86400 2 = 0 := by decide +kernel
theorem k8 : spendL L0 3 86400 86400 2 = L0 := by decide +kernel
theorem k9 : powN 3 2 4 = 81 ∧ powD 3 2 4 = 16 ∧ powE 3 2 4 = 0 := by decide +kernel
theorem k10 : powN 1024 1 6 = 0 ∧ powD 1024 1 6 = 0 ∧ powE 1024 1 6 = 2 := by decide +kernel
theorem k11 : checkE L0 1 = 31 := by decide +kernel
theorem max_of {w : World} {A : Option Addr} {n : Nat} {l : List Sp} (h : Reads w w.heap.size 2 A n (cellsS l)) (h2 : l.length ≤ 100) : n ≤ maxLen := by
  have := recs_len h encS_len (by omega); unfold maxLen; omega
def AwakePost (w : World) (e : Ending) (w' : World) : Prop := e = .returned (.bool true) ∧ Below w.heap.size w w'
set_option maxHeartbeats 2000000 in
set_option maxRecDepth 10000 in
theorem awake_any (w : World) : Calls Try.prog 9 #[] w (AwakePost w) := by
  go_enter Try.func9, Try.ntmps9
  go_wp2_with fail
  refine (spend_at none 0 0 [] L0 3 86399 86401 2 0 _ Reads.none_ (by decide) k1 k2).mono ?_
  rintro e w1 ⟨A1, n1, c1, rfl, hr1, _, hb1⟩
  go_wp2_with fail
  refine (left_at A1 n1 c1 L0 3 0 1 0 _ hr1 (max_of hr1 (by decide)) k3 k4).mono ?_
  rintro e w2 ⟨rfl, hb2⟩
  have hr2 := (hr1.below hb2).more hb2.size
  go_wp2_with fail
  refine (spend_at A1 n1 c1 L0 [] 3 100000 100001 2 31 _ hr2 (max_of hr2 (by decide)) k5 k6).mono ?_
  rintro e w3 ⟨A3, n3, c3, rfl, _, _, hb3⟩
  have hr3 := (hr2.below hb3).more hb3.size
  go_wp2_with fail
  refine (spend_at A1 n1 c1 L0 L0 3 86400 86400 2 0 _ hr3 (max_of hr3 (by decide)) k7 k8).mono ?_
  rintro e w4 ⟨A4, n4, c4, rfl, hq4, _, hb4⟩
  have hr4 := (hr3.below hb4).more hb4.size
  go_wp2_with fail
  refine (power_at 3 2 4 81 16 0 _ k9.1 k9.2.1 k9.2.2).mono ?_
  rintro e w5 ⟨rfl, hb5⟩
  have hr5 := (hr4.below hb5).more hb5.size
  have hq5 := (hq4.below hb5).more hb5.size
  go_wp2_with fail
  refine (power_at 1024 1 6 0 0 2 _ k10.1 k10.2.1 k10.2.2).mono ?_
  rintro e w6 ⟨rfl, hb6⟩
  have hB6 := (Blk.new w5 36 #[.int .i64 81, .int .i64 16]).below hb6 (by simp)
  have hr6 := ((hr5.alloc (Nat.le_refl _) (.cells #[.int .i64 81, .int .i64 16] 36)).more (by simp)).below hb6 |>.more hb6.size
  have hq6 := ((hq5.alloc (Nat.le_refl _) (.cells #[.int .i64 81, .int .i64 16] 36)).more (by simp)).below hb6 |>.more hb6.size
  have hz6 : w5.heap.size + 1 ≤ w6.heap.size := by have := hb6.size; simpa using this
  have hsz : w6.heap.size + 2 ≤ ((w6.alloc (.cells #[.int .i64 0, .int .i64 0] 36)).alloc (.cells #[.int .i64 0, .int .i64 2, .int .i64 1, .int .i64 2] 41)).heap.size := by simp
  go_wp2_with fail
  refine (same_at_ A1 (some ⟨w6.heap.size + 1, 0, none⟩) n1 c1 2 2 L0 L0 true w6.heap.size (w6.heap.size + 2) _ ?_ ?_ ?_ (by decide +kernel)).mono ?_
  · exact ((hr6.alloc (Nat.le_refl _) _).alloc (by simp) _).more (by omega)
  · have := Reads.fresh (w6.alloc (.cells #[.int .i64 0, .int .i64 0] 36)) 41 #[.int .i64 0, .int .i64 2, .int .i64 1, .int .i64 2] 2 2 rfl
    rw [show (w6.alloc (.cells #[.int .i64 0, .int .i64 0] 36)).heap.size = w6.heap.size + 1 from by simp] at this
    exact this
  · have := recs_len hr1 encS_len (by omega); simp at this; omega
  rintro e w7 ⟨rfl, q, rfl⟩
  go_wp2_with fail
  refine (same_at_ A4 A1 n4 c4 n1 c1 L0 L0 true w6.heap.size w6.heap.size _ ?_ ?_ ?_ (by decide +kernel)).mono ?_
  · exact ((hq6.alloc (Nat.le_refl _) _).alloc (by simp) _).drewN q
  · exact ((hr6.alloc (Nat.le_refl _) _).alloc (by simp) _).drewN q
  · have := recs_len hq4 encS_len (by omega); simp at this; omega
  rintro e w8 ⟨rfl, q2, rfl⟩
  have c80 := hB6.cell 0
  have c81 := hB6.cell 1
  have hz7 : w5.heap.size < w6.heap.size := by omega
  go_wp2_with fail
  refine (check_at A1 n1 c1 L0 1 31 _ ?_ (max_of hr1 (by decide)) k11).mono ?_
  · exact ((((hr6.alloc (Nat.le_refl _) _).alloc (by simp) _).drewN _).more (by simp; omega))
  rintro e w9 ⟨rfl, hb9⟩
  go_wp2_with fail
  go_ret
  refine ⟨rfl, ?_⟩
  have b4 : Below w.heap.size w w4 := ((hb1.trans (hb2.mono hb1.size)).trans (hb3.mono (by have := hb1.size; have := hb2.size; omega))).trans (hb4.mono (by have := hb1.size; have := hb2.size; have := hb3.size; omega))
  have b5 : Below w.heap.size w w5 := b4.trans (hb5.mono b4.size)
  have b6 : Below w.heap.size w w6 := (below_alloc b5 (Nat.le_refl _) (.cells #[.int .i64 81, .int .i64 16] 36)).trans (hb6.mono (by have := b5.size; simp; omega))
  exact (below_drewN (below_alloc (below_alloc b6 (Nat.le_refl _) _) (Nat.le_refl _) _) _).trans (hb9.mono (by have := b6.size; simp; omega))
end Go.Proofs.Ytdfmngnhmiemgaa
