/- The walks of the small functions on fences, windows and kinds. -/
import Derived.Test.YtdgdjlpbnaoheaaFcPure
namespace Go.Proofs.Ytdgdjlpbnaoheaa
open Go.RowKit
abbrev RetSame (w : World) (x : Bool) (e : Ending) (w' : World) : Prop := e = .returned (.bool x) ∧ w = w'
set_option maxHeartbeats 2000000 in
theorem kind_any (k : Int) (x : Bool) (w : World) (hx : kindB k = x) : Calls Try.prog 63 #[.int .i64 k] w (RetSame w x) := by
  have hcs : (k < 1) ∨ (1 ≤ k ∧ 3 < k) ∨ (1 ≤ k ∧ k ≤ 3) := by omega
  rcases hcs with g0 | ⟨g0, g1⟩ | ⟨g0, g1⟩
  · obtain rfl : x = false := by
      rw [← hx]; unfold kindB; simp; omega
    clear hx
    go_enter Try.func63, Try.ntmps63
    go_wp2_with fail
    go_ret
    exact ⟨ret_bool (by simp; try omega), rfl⟩
  · obtain rfl : x = false := by
      rw [← hx]; unfold kindB; simp; omega
    clear hx
    go_enter Try.func63, Try.ntmps63
    go_wp2_with fail
    go_ret
    exact ⟨ret_bool (by simp; try omega), rfl⟩
  · obtain rfl : x = true := by
      rw [← hx]; unfold kindB; simp; omega
    clear hx
    go_enter Try.func63, Try.ntmps63
    go_wp2_with fail
    go_ret
    exact ⟨ret_bool (by simp; try omega), rfl⟩
set_option maxHeartbeats 2000000 in
theorem rkind_any (k : Int) (x : Bool) (w : World) (hx : kindB k = x) : Calls Try.prog 38 #[.int .i64 k] w (RetSame w x) := by
  have hcs : (k < 1) ∨ (1 ≤ k ∧ 3 < k) ∨ (1 ≤ k ∧ k ≤ 3) := by omega
  rcases hcs with g0 | ⟨g0, g1⟩ | ⟨g0, g1⟩
  · obtain rfl : x = false := by
      rw [← hx]; unfold kindB; simp; omega
    clear hx
    go_enter Try.func38, Try.ntmps38
    go_wp2_with fail
    go_ret
    exact ⟨ret_bool (by simp; try omega), rfl⟩
  · obtain rfl : x = false := by
      rw [← hx]; unfold kindB; simp; omega
    clear hx
    go_enter Try.func38, Try.ntmps38
    go_wp2_with fail
    go_ret
    exact ⟨ret_bool (by simp; try omega), rfl⟩
  · obtain rfl : x = true := by
      rw [← hx]; unfold kindB; simp; omega
    clear hx
    go_enter Try.func38, Try.ntmps38
    go_wp2_with fail
    go_ret
    exact ⟨ret_bool (by simp; try omega), rfl⟩
set_option maxHeartbeats 2000000 in
theorem win_any (a : Int × Int) (x : Bool) (w : World) (hx : winB a = x) : Calls Try.prog 65 #[aggW a] w (RetB w x) := by
  obtain ⟨kk, hK⟩ := box1K w 59 #[.int .i64 a.1, .int .i64 a.2]
  have HK := Lib.hid hK
  clear hK
  obtain ⟨B0, hbb⟩ := HK.out _ kk
  have c00 := B0.cell 0
  have c01 := B0.cell 1
  have HB := Lib.hid hbb
  clear B0 hbb
  have hcs : (a.1 < 0) ∨ (0 ≤ a.1 ∧ a.2 < a.1) ∨ (0 ≤ a.1 ∧ a.1 ≤ a.2 ∧ 4294944000 < a.2) ∨ (0 ≤ a.1 ∧ a.1 ≤ a.2 ∧ a.2 ≤ 4294944000) := by omega
  rcases hcs with g0 | ⟨g0, g1⟩ | ⟨g0, g1, g2⟩ | ⟨g0, g1, g2⟩
  · obtain rfl : x = false := by
      rw [← hx]; unfold winB; simp; omega
    clear hx
    go_enter Try.func65, Try.ntmps65
    go_wp2_with fail
    go_ret
    exact ⟨ret_bool (by simp; try omega), HB.out⟩
  · obtain rfl : x = false := by
      rw [← hx]; unfold winB; simp; omega
    clear hx
    go_enter Try.func65, Try.ntmps65
    go_wp2_with fail
    go_ret
    exact ⟨ret_bool (by simp; try omega), HB.out⟩
  · obtain rfl : x = false := by
      rw [← hx]; unfold winB; simp; omega
    clear hx
    go_enter Try.func65, Try.ntmps65
    go_wp2_with fail
    go_ret
    exact ⟨ret_bool (by simp; try omega), HB.out⟩
  · obtain rfl : x = true := by
      rw [← hx]; unfold winB; simp; omega
    clear hx
    go_enter Try.func65, Try.ntmps65
    go_wp2_with fail
    go_ret
    exact ⟨ret_bool (by simp; try omega), HB.out⟩
set_option maxHeartbeats 2000000 in
theorem rwin_any (a : Int × Int) (x : Bool) (w : World) (hx : winB a = x) : Calls Try.prog 40 #[aggW a] w (RetB w x) := by
  obtain ⟨kk, hK⟩ := box1K w 59 #[.int .i64 a.1, .int .i64 a.2]
  have HK := Lib.hid hK
  clear hK
  obtain ⟨B0, hbb⟩ := HK.out _ kk
  have c00 := B0.cell 0
  have c01 := B0.cell 1
  have HB := Lib.hid hbb
  clear B0 hbb
  have hcs : (a.1 < 0) ∨ (0 ≤ a.1 ∧ a.2 < a.1) ∨ (0 ≤ a.1 ∧ a.1 ≤ a.2 ∧ 4294944000 < a.2) ∨ (0 ≤ a.1 ∧ a.1 ≤ a.2 ∧ a.2 ≤ 4294944000) := by omega
  rcases hcs with g0 | ⟨g0, g1⟩ | ⟨g0, g1, g2⟩ | ⟨g0, g1, g2⟩
  · obtain rfl : x = false := by
      rw [← hx]; unfold winB; simp; omega
    clear hx
    go_enter Try.func40, Try.ntmps40
    go_wp2_with fail
    go_ret
    exact ⟨ret_bool (by simp; try omega), HB.out⟩
  · obtain rfl : x = false := by
      rw [← hx]; unfold winB; simp; omega
    clear hx
    go_enter Try.func40, Try.ntmps40
    go_wp2_with fail
    go_ret
    exact ⟨ret_bool (by simp; try omega), HB.out⟩
  · obtain rfl : x = false := by
      rw [← hx]; unfold winB; simp; omega
    clear hx
    go_enter Try.func40, Try.ntmps40
    go_wp2_with fail
    go_ret
    exact ⟨ret_bool (by simp; try omega), HB.out⟩
  · obtain rfl : x = true := by
      rw [← hx]; unfold winB; simp; omega
    clear hx
    go_enter Try.func40, Try.ntmps40
    go_wp2_with fail
    go_ret
    exact ⟨ret_bool (by simp; try omega), HB.out⟩
set_option maxHeartbeats 2000000 in
theorem within_any (a : Int × Int) (t : Int) (x : Bool) (w : World) (hx : inW a t = x) : Calls Try.prog 88 #[aggW a, .int .i64 t] w (RetB w x) := by
  obtain ⟨kk, hK⟩ := box1K w 59 #[.int .i64 a.1, .int .i64 a.2]
  have HK := Lib.hid hK
  clear hK
  obtain ⟨B0, hbb⟩ := HK.out _ kk
  have c00 := B0.cell 0
  have c01 := B0.cell 1
  have HB := Lib.hid hbb
  clear B0 hbb
  have hcs : (t < a.1) ∨ (a.1 ≤ t ∧ a.2 ≤ t) ∨ (a.1 ≤ t ∧ t < a.2) := by omega
  rcases hcs with g0 | ⟨g0, g1⟩ | ⟨g0, g1⟩
  · obtain rfl : x = false := by
      rw [← hx]; unfold inW; simp; omega
    clear hx
    go_enter Try.func88, Try.ntmps88
    go_wp2_with fail
    go_ret
    exact ⟨ret_bool (by simp; try omega), HB.out⟩
  · obtain rfl : x = false := by
      rw [← hx]; unfold inW; simp; omega
    clear hx
    go_enter Try.func88, Try.ntmps88
    go_wp2_with fail
    go_ret
    exact ⟨ret_bool (by simp; try omega), HB.out⟩
  · obtain rfl : x = true := by
      rw [← hx]; unfold inW; simp; omega
    clear hx
    go_enter Try.func88, Try.ntmps88
    go_wp2_with fail
    go_ret
    exact ⟨ret_bool (by simp; try omega), HB.out⟩
set_option maxHeartbeats 2000000 in
theorem far_any (t : Int) (x : Bool) (w : World) (hx : (!okC t) = x) : Calls Try.prog 98 #[.int .i64 t] w (RetSame w x) := by
  have hcs : (t < -16384) ∨ (-16384 ≤ t ∧ 16384 < t) ∨ (-16384 ≤ t ∧ t ≤ 16384) := by omega
  rcases hcs with g0 | ⟨g0, g1⟩ | ⟨g0, g1⟩
  · obtain rfl : x = true := by
      rw [← hx]; unfold okC; simp; omega
    clear hx
    go_enter Try.func98, Try.ntmps98
    go_wp2_with fail
    go_ret
    exact ⟨ret_bool (by simp; try omega), rfl⟩
  · obtain rfl : x = true := by
      rw [← hx]; unfold okC; simp; omega
    clear hx
    go_enter Try.func98, Try.ntmps98
    go_wp2_with fail
    go_ret
    exact ⟨ret_bool (by simp; try omega), rfl⟩
  · obtain rfl : x = false := by
      rw [← hx]; unfold okC; simp; omega
    clear hx
    go_enter Try.func98, Try.ntmps98
    go_wp2_with fail
    go_ret
    exact ⟨ret_bool (by simp; try omega), rfl⟩
set_option maxHeartbeats 2000000 in
theorem ractive_any (f : Fc) (t : Int) (x : Bool) (w : World) (hx : activeB f t = x) : Calls Try.prog 42 #[aggFc f, .int .i64 t] w (RetB w x) := by
  obtain ⟨kk, hK⟩ := box1K w 61 #[.int .i64 f.k, .slice f.A f.n f.c, .int .i64 f.wf, .int .i64 f.wt, .int .i64 f.hf, .int .i64 f.ht]
  have HK := Lib.hid hK
  clear hK
  obtain ⟨B0, hbb⟩ := HK.out _ kk
  have c00 := B0.cell 0
  have c01 := B0.cell 1
  have c02 := B0.cell 2
  have c03 := B0.cell 3
  have c04 := B0.cell 4
  have c05 := B0.cell 5
  have HB := Lib.hid hbb
  clear B0 hbb
  have hcs : (t < 0) ∨ (0 ≤ t ∧ 4294943999 < t) ∨ (0 ≤ t ∧ t ≤ 4294943999 ∧ t < f.wf) ∨ (0 ≤ t ∧ t ≤ 4294943999 ∧ f.wf ≤ t ∧ f.wt ≤ t) ∨ (0 ≤ t ∧ t ≤ 4294943999 ∧ f.wf ≤ t ∧ t < f.wt ∧ t % 86400 < f.hf) ∨ (0 ≤ t ∧ t ≤ 4294943999 ∧ f.wf ≤ t ∧ t < f.wt ∧ f.hf ≤ t % 86400 ∧ f.ht ≤ t % 86400) ∨ (0 ≤ t ∧ t ≤ 4294943999 ∧ f.wf ≤ t ∧ t < f.wt ∧ f.hf ≤ t % 86400 ∧ t % 86400 < f.ht) := by omega
  rcases hcs with g0 | ⟨g0, g1⟩ | ⟨g0, g1, g2⟩ | ⟨g0, g1, g2, g3⟩ | ⟨g0, g1, g2, g3, g4⟩ | ⟨g0, g1, g2, g3, g4, g5⟩ | ⟨g0, g1, g2, g3, g4, g5⟩
  · obtain rfl : x = false := by
      rw [← hx]; unfold activeB inW; simp; omega
    clear hx
    go_enter Try.func42, Try.ntmps42
    go_wp2_with fail
    go_ret
    exact ⟨ret_bool (by simp; try omega), HB.out⟩
  · obtain rfl : x = false := by
      rw [← hx]; unfold activeB inW; simp; omega
    clear hx
    go_enter Try.func42, Try.ntmps42
    go_wp2_with fail
    go_ret
    exact ⟨ret_bool (by simp; try omega), HB.out⟩
  · obtain rfl : x = false := by
      rw [← hx]; unfold activeB inW; simp; omega
    clear hx
    go_enter Try.func42, Try.ntmps42
    go_wp2_with fail
    go_ret
    exact ⟨ret_bool (by simp; try omega), HB.out⟩
  · obtain rfl : x = false := by
      rw [← hx]; unfold activeB inW; simp; omega
    clear hx
    go_enter Try.func42, Try.ntmps42
    go_wp2_with fail
    go_ret
    exact ⟨ret_bool (by simp; try omega), HB.out⟩
  · obtain rfl : x = false := by
      rw [← hx]; unfold activeB inW; simp; omega
    clear hx
    go_enter Try.func42, Try.ntmps42
    go_wp2_with fail
    go_ret
    exact ⟨ret_bool (by simp; try omega), HB.out⟩
  · obtain rfl : x = false := by
      rw [← hx]; unfold activeB inW; simp; omega
    clear hx
    go_enter Try.func42, Try.ntmps42
    go_wp2_with fail
    go_ret
    exact ⟨ret_bool (by simp; try omega), HB.out⟩
  · obtain rfl : x = true := by
      rw [← hx]; unfold activeB inW; simp; omega
    clear hx
    go_enter Try.func42, Try.ntmps42
    go_wp2_with fail
    go_ret
    exact ⟨ret_bool (by simp; try omega), HB.out⟩
set_option maxHeartbeats 2000000 in
theorem active_any (f : Fc) (t : Int) (x : Bool) (w : World) (hx : activeB f t = x) : Calls Try.prog 71 #[aggFc f, .int .i64 t] w (RetB w x) := by
  obtain ⟨kk, hK⟩ := box1K w 61 #[.int .i64 f.k, .slice f.A f.n f.c, .int .i64 f.wf, .int .i64 f.wt, .int .i64 f.hf, .int .i64 f.ht]
  have HK := Lib.hid hK
  clear hK
  obtain ⟨B0, hbb⟩ := HK.out _ kk
  have c00 := B0.cell 0
  have c01 := B0.cell 1
  have c02 := B0.cell 2
  have c03 := B0.cell 3
  have c04 := B0.cell 4
  have c05 := B0.cell 5
  have HB := Lib.hid hbb
  clear B0 hbb
  have hcs : (t < 0) ∨ (0 ≤ t ∧ 4294943999 < t) ∨ (0 ≤ t ∧ t ≤ 4294943999) := by omega
  rcases hcs with g0 | ⟨g0, g1⟩ | ⟨g0, g1⟩
  · obtain rfl : x = false := by
      rw [← hx]; unfold activeB; simp; omega
    clear hx
    go_enter Try.func71, Try.ntmps71
    go_wp2_with fail
    go_ret
    exact ⟨ret_bool (by simp; try omega), HB.out⟩
  · obtain rfl : x = false := by
      rw [← hx]; unfold activeB; simp; omega
    clear hx
    go_enter Try.func71, Try.ntmps71
    go_wp2_with fail
    go_ret
    exact ⟨ret_bool (by simp; try omega), HB.out⟩
  · have hx2 : (inW (f.wf, f.wt) t && inW (f.hf, f.ht) (t % 86400)) = x := by
      rw [← hx]; unfold activeB; rw [decide_eq_true g0, decide_eq_true g1]; rfl
    clear hx
    rcases hy : inW (f.wf, f.wt) t with _ | _
    · obtain rfl : x = false := by rw [← hx2, hy]; rfl
      have HY := Lib.hid hy
      clear hx2 hy
      go_enter Try.func71, Try.ntmps71
      go_wp2_with fail
      refine (within_any (f.wf, f.wt) t false _ HY.out).mono ?_
      rintro e w1 ⟨rfl, hb1⟩
      replace kk := below_next kk (Nat.le_refl _) hb1
      clear c00 c01 c02 c03 c04 c05 HB hb1
      obtain ⟨B0, hbb⟩ := HK.out _ kk
      have c00 := B0.cell 0
      have c01 := B0.cell 1
      have c02 := B0.cell 2
      have c03 := B0.cell 3
      have c04 := B0.cell 4
      have c05 := B0.cell 5
      have HB := Lib.hid hbb
      clear B0 hbb
      go_wp2_with fail
      go_ret
      exact ⟨rfl, HB.out⟩
    · have HY2 : Hid (inW (f.hf, f.ht) (t % 86400) = x) := Lib.hid (by rw [← hx2, hy]; rfl)
      have HY := Lib.hid hy
      clear hx2 hy
      go_enter Try.func71, Try.ntmps71
      go_wp2_with fail
      refine (within_any (f.wf, f.wt) t true _ HY.out).mono ?_
      rintro e w2 ⟨rfl, hb2⟩
      replace kk := below_next kk (Nat.le_refl _) hb2
      clear c00 c01 c02 c03 c04 c05 HB hb2
      obtain ⟨B0, hbb⟩ := HK.out _ kk
      have c00 := B0.cell 0
      have c01 := B0.cell 1
      have c02 := B0.cell 2
      have c03 := B0.cell 3
      have c04 := B0.cell 4
      have c05 := B0.cell 5
      have HB := Lib.hid hbb
      clear B0 hbb
      go_wp2_with fail
      refine (within_any (f.hf, f.ht) (t % 86400) x _ HY2.out).mono ?_
      rintro e w3 ⟨rfl, hb3⟩
      replace kk := below_next kk (Nat.le_refl _) hb3
      clear c00 c01 c02 c03 c04 c05 HB hb3
      obtain ⟨B0, hbb⟩ := HK.out _ kk
      have c00 := B0.cell 0
      have c01 := B0.cell 1
      have c02 := B0.cell 2
      have c03 := B0.cell 3
      have c04 := B0.cell 4
      have c05 := B0.cell 5
      have HB := Lib.hid hbb
      clear B0 hbb
      go_wp2_with fail
      go_ret
      exact ⟨rfl, HB.out⟩
end Go.Proofs.Ytdgdjlpbnaoheaa
