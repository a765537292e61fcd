/- The walks of both Paid, of slices.IndexFunc and of the closure it is handed. -/
import Derived.Test.YtakjdffebpcmnaaPay
namespace Go.Proofs.Ytakjdffebpcmnaa
open Go.RowKit Go.Maps
def pos (l : List P3) (r : Int) : Int := match l.findIdx? (fun x => decide (x.1 = r)) with | some i => (i : Int) | none => -1
theorem pos_at {l : List P3} {r : Int} {k : Nat} (hk : k < l.length) (h : l[k].1 = r) (hb : ∀ j (hj : j < l.length), j < k → l[j].1 ≠ r) : pos l r = k := by
  unfold pos
  rw [List.findIdx?_eq_some_iff_getElem.2 ⟨hk, decide_eq_true h, fun j hj => by simpa using hb j (by omega) hj⟩]
theorem pos_no {l : List P3} {r : Int} (hb : ∀ j (hj : j < l.length), l[j].1 ≠ r) : pos l r = -1 := by
  unfold pos
  rw [List.findIdx?_eq_none_iff.2]
  intro x hx
  obtain ⟨j, hj, rfl⟩ := List.getElem_of_mem hx
  exact decide_eq_false (hb j hj)
theorem pos_cases (l : List P3) (r : Int) : (pos l r = -1 ∧ paidP l r = z3 ∧ paidB l r = false) ∨ ∃ k, ∃ hk : k < l.length, pos l r = k ∧ paidP l r = l[k] ∧ paidB l r = true := by
  unfold pos paidP paidB
  rcases h : l.findIdx? (fun x => decide (x.1 = r)) with _ | i
  · have h0 : l.find? (fun x => decide (x.1 = r)) = none := by
      rw [List.findIdx?_eq_none_iff] at h
      rw [List.find?_eq_none]
      intro x hx; rw [h x hx]; decide
    exact .inl ⟨by rw [h], by rw [h0]; rfl, by rw [h0]; rfl⟩
  · obtain ⟨hi, h1, h2⟩ := List.findIdx?_eq_some_iff_getElem.1 h
    have h0 := find_at (f := fun x : P3 => decide (x.1 = r)) hi h1 (fun j hj hji => by simpa using h2 j hji)
    exact .inr ⟨i, hi, by rw [h], by rw [h0]; rfl, by rw [h0]; rfl⟩

set_option maxHeartbeats 400000 in
theorem is42 (a b c r : Int) (ad : Addr) (w : World) (hc : w.cell? ad = some (.int .i64 r)) (hb : ad.block < w.heap.size) :
    Calls Try.prog 42 #[.agg #[.int .i64 a, .int .i64 b, .int .i64 c], .pointer (some ad)] w (RetB w (a == r)) := by
  go_enter Try.func42, Try.ntmps42
  go_wp2_with fail
  go_ret
  exact ⟨rfl, (Below.refl _ _).alloc (Nat.le_refl _) _⟩
set_option maxHeartbeats 1000000 in
set_option maxRecDepth 10000 in
theorem find41 (A : Option Addr) (n c : Nat) (l : List P3) (r : Int) (ad : Addr) (w : World) (hr : Reads w w.heap.size 3 A n (cellsP l)) (hn : n ≤ 100000) (hc : w.cell? ad = some (.int .i64 r)) (hb : ad.block < w.heap.size) :
    Calls Try.prog 41 #[.slice A n c, .func (.func 42) #[] #[.pointer (some ad)]] w (RetI w (pos l r)) := by
  have HL := Lib.hid (recs_len hr encP_len (by omega))
  go_enter Try.func41, Try.ntmps41
  go_wp2_with fail
  go_loopw [5, 8] (fun _ i wr => ∃ k : Nat, k ≤ n ∧ i = .int .i64 k ∧ (∀ j (hj : j < l.length), j < k → l[j].1 ≠ r) ∧ Below w.heap.size w wr) (fun _ i _ => n - (intOf i).toNat)
  case atStart => exact ⟨0, Nat.zero_le _, rfl, fun _ _ h => absurd h (Nat.not_lt_zero _), Below.refl _ _⟩
  case round =>
    obtain ⟨k, hk, rfl, hall, hbw⟩ := hrel
    have HA := Lib.hid hall
    clear hall
    have hcw : wr.cell? ad = some (.int .i64 r) := (hbw.cell hb).trans hc
    have hbw' : ad.block < wr.heap.size := Nat.lt_of_lt_of_le hb hbw.size
    by_cases hlt : k < n
    · obtain ⟨b, off, rfl, hb2, hd⟩ := (hr.below hbw).recs encP_len (by omega) (by omega)
      have hkl : k < l.length := by have := HL.out; omega
      have d0 : wr.cell? ⟨b, off + k * 3, none⟩ = some (.int .i64 l[k].1) := hd k hkl 0 _ rfl
      have d1 : wr.cell? ⟨b, off + k * 3 + 1, none⟩ = some (.int .i64 l[k].2.1) := hd k hkl 1 _ rfl
      have d2 : wr.cell? ⟨b, off + k * 3 + 2, none⟩ = some (.int .i64 l[k].2.2) := hd k hkl 2 _ rfl
      clear hd
      have C := Lib.hid (is42 l[k].1 l[k].2.1 l[k].2.2 r ad wr hcw hbw')
      by_cases h1 : l[k].1 = r
      · have HE := Lib.hid (pos_at hkl h1 HA.out)
        have e2 : (l[k].1 == r) = true := beq_iff_eq.2 h1
        rw [e2] at C
        clear h1 e2
        go_wp2_with fail
        refine C.out.mono ?_
        rintro e w1 ⟨rfl, hb1⟩
        go_wp2_with fail
        go_ret
        exact ⟨ret_int HE.out.symm, hbw.trans (hb1.mono hbw.size)⟩
      · have HE := Lib.hid h1
        have e2 : (l[k].1 == r) = false := beq_eq_false_iff_ne.2 h1
        rw [e2] at C
        clear h1 e2
        go_wp2_with fail
        refine C.out.mono ?_
        rintro e w1 ⟨rfl, hb1⟩
        go_wp2_with fail
        go_roundw
        case rel =>
          refine ⟨k + 1, by omega, by go_num, fun j hj hjk => ?_, hbw.trans (hb1.mono hbw.size)⟩
          rcases Nat.lt_or_eq_of_le (Nat.lt_succ_iff.1 hjk) with h' | rfl
          · exact HA.out j hj h'
          · exact HE.out
        case measure => simp [intOf]; omega
    · have HE := Lib.hid (pos_no (l := l) (r := r) fun j hj => HA.out j hj (by have := HL.out; omega))
      go_wp2_with fail
      go_ret
      exact ⟨ret_int HE.out.symm, hbw⟩
/-- A payment comes back, and whether there is one. -/
def RetPB (w : World) (p : P3) (b : Bool) (e : Ending) (w' : World) : Prop :=
  e = .returned (.tuple #[.agg #[.int .i64 p.1, .int .i64 p.2.1, .int .i64 p.2.2], .bool b]) ∧ Below w.heap.size w w'
set_option maxHeartbeats 1000000 in
set_option maxRecDepth 10000 in
theorem paid28 (A : Option Addr) (n c : Nat) (l : List P3) (r : Int) (w : World) (hr : Reads w w.heap.size 3 A n (cellsP l)) (hn : n ≤ 100000) :
    Calls Try.prog 28 #[.agg #[.slice A n c], .int .i64 r] w (RetPB w (paidP l r) (paidB l r)) := by
  have HL := Lib.hid (recs_len hr encP_len (by omega))
  have hmf : ∀ (fn : Fn) (first cap : Array Value) (w : World), (Instr.makeFunc fn first cap).run Try.prog w = .ok (.func fn first cap) w := fun _ _ _ _ => rfl
  have hal : Below w.heap.size w (((w.alloc (.cells #[.slice A n c] 51)).alloc (.cells #[.int .i64 r] 3)).alloc (.cells #[.int .i64 0, .int .i64 0, .int .i64 0] 23)) := (((Below.refl _ _).alloc (Nat.le_refl _) _).alloc (by simp) _).alloc (by simp; omega) _
  have HAL := Lib.hid hal
  clear hal
  have hb0 : Blk (((w.alloc (.cells #[.slice A n c] 51)).alloc (.cells #[.int .i64 r] 3)).alloc (.cells #[.int .i64 0, .int .i64 0, .int .i64 0] 23)) w.heap.size 51 #[.slice A n c] := by simpa using ((Blk.new w 51 #[.slice A n c]).alloc (.cells #[.int .i64 r] 3)).alloc (.cells #[.int .i64 0, .int .i64 0, .int .i64 0] 23)
  have hb1 : Blk (((w.alloc (.cells #[.slice A n c] 51)).alloc (.cells #[.int .i64 r] 3)).alloc (.cells #[.int .i64 0, .int .i64 0, .int .i64 0] 23)) (w.heap.size + 1) 3 #[.int .i64 r] := by simpa using (Blk.new (w.alloc (.cells #[.slice A n c] 51)) 3 #[.int .i64 r]).alloc (.cells #[.int .i64 0, .int .i64 0, .int .i64 0] 23)
  have hb2 : Blk (((w.alloc (.cells #[.slice A n c] 51)).alloc (.cells #[.int .i64 r] 3)).alloc (.cells #[.int .i64 0, .int .i64 0, .int .i64 0] 23)) (w.heap.size + 1 + 1) 23 #[.int .i64 0, .int .i64 0, .int .i64 0] := by simpa using Blk.new ((w.alloc (.cells #[.slice A n c] 51)).alloc (.cells #[.int .i64 r] 3)) 23 #[.int .i64 0, .int .i64 0, .int .i64 0]
  have C := Lib.hid (find41 A n c l r ⟨w.heap.size + 1, 0, none⟩ _ ((hr.below HAL.out).more HAL.out.size) hn (hb1.cell 0) hb1.lt)
  have hr3 := hr.below HAL.out
  have HB0 := Lib.hid hb0
  have HB2 := Lib.hid hb2
  have HR3 := Lib.hid hr3
  clear hb0 hb1 hb2 hr3 hr
  rcases pos_cases l r with ⟨e1, e2, e3⟩ | ⟨k, hkl, e1, e2, e3⟩
  · rw [e1] at C
    have E2 := Lib.hid e2
    have E3 := Lib.hid e3
    clear e1 e2 e3
    go_enter Try.func28, Try.ntmps28
    go_wp2_with fail
    refine C.out.mono ?_
    rintro e w1 ⟨rfl, hb1'⟩
    have hb1 : Below (w.heap.size + 3) (((w.alloc (.cells #[.slice A n c] 51)).alloc (.cells #[.int .i64 r] 3)).alloc (.cells #[.int .i64 0, .int .i64 0, .int .i64 0] 23)) w1 := hb1'.mono (by simp)
    clear hb1'
    have hbw1 : Below w.heap.size w w1 := HAL.out.trans (hb1.mono (by omega))
    have hB2 := HB2.out.below hb1 (by omega)
    have q0 := hB2.cell 0
    have q1 := hB2.cell 1
    have q2 := hB2.cell 2
    have fq := hB2.frozen 0
    have fq1 := hB2.frozen 1
    have fq2 := hB2.frozen 2
    clear C HB0 HB2 HR3 HAL
    go_wp2_with fail
    exact bodyPost_ret (v := .tuple #[.agg #[.int .i64 0, .int .i64 0, .int .i64 0], .bool false]) (by simp [results, Try.results28, go_sem, q0, q1, q2]) rfl ⟨by rw [E2.out, E3.out]; rfl, by repeat (first | exact hbw1 | refine Below.setCell ?_ (show w.heap.size ≤ w.heap.size + 1 + 1 by omega) _)⟩
  · rw [e1] at C
    have E2 := Lib.hid e2
    have E3 := Lib.hid e3
    clear e1 e2 e3
    have hkn : k < n := by have := HL.out; omega
    go_enter Try.func28, Try.ntmps28
    go_wp2_with fail
    refine C.out.mono ?_
    rintro e w1 ⟨rfl, hb1'⟩
    have hb1 : Below (w.heap.size + 3) (((w.alloc (.cells #[.slice A n c] 51)).alloc (.cells #[.int .i64 r] 3)).alloc (.cells #[.int .i64 0, .int .i64 0, .int .i64 0] 23)) w1 := hb1'.mono (by simp)
    clear hb1'
    have hbw1 : Below w.heap.size w w1 := HAL.out.trans (hb1.mono (by omega))
    have hB0 := HB0.out.below hb1 (by omega)
    have hB2 := HB2.out.below hb1 (by omega)
    obtain ⟨b, off, rfl, hb2, hd⟩ := (HR3.out.below (hb1.mono (by omega))).recs encP_len (by omega) (by omega)
    have d0 : w1.cell? ⟨b, off + k * 3, none⟩ = some (.int .i64 l[k].1) := hd k hkl 0 _ rfl
    have d1 : w1.cell? ⟨b, off + k * 3 + 1, none⟩ = some (.int .i64 l[k].2.1) := hd k hkl 1 _ rfl
    have d2 : w1.cell? ⟨b, off + k * 3 + 2, none⟩ = some (.int .i64 l[k].2.2) := hd k hkl 2 _ rfl
    have c0 := hB0.cell 0
    have q0 := hB2.cell 0
    have q1 := hB2.cell 1
    have q2 := hB2.cell 2
    have fq := hB2.frozen 0
    have fq1 := hB2.frozen 1
    have fq2 := hB2.frozen 2
    clear C HB0 HB2 HR3 HAL hd
    go_wp2_with fail
    exact bodyPost_ret (v := .tuple #[.agg #[.int .i64 l[k].1, .int .i64 l[k].2.1, .int .i64 l[k].2.2], .bool true]) (by simp [results, Try.results28, go_sem, q0, q1, q2]) rfl ⟨by rw [E2.out, E3.out], by repeat (first | exact hbw1 | refine Below.setCell ?_ (show w.heap.size ≤ w.heap.size + 1 + 1 by omega) _)⟩

set_option maxHeartbeats 1000000 in
set_option maxRecDepth 10000 in
theorem paid29 (A : Option Addr) (n c : Nat) (l : List P3) (r : Int) (w : World) (hr : Reads w w.heap.size 3 A n (cellsP l)) (hn : n ≤ 100000) :
    Calls Try.prog 29 #[.agg #[.slice A n c], .int .i64 r] w (RetPB w (paidP l r) (paidB l r)) := by
  have HL := Lib.hid (recs_len hr encP_len (by omega))
  have hal : Below w.heap.size w ((w.alloc (.cells #[.slice A n c] 51)).alloc (.cells #[.int .i64 0, .int .i64 0, .int .i64 0] 23)) := ((Below.refl _ _).alloc (Nat.le_refl _) _).alloc (by simp) _
  have HAL := Lib.hid hal
  clear hal
  have hb0 : Blk ((w.alloc (.cells #[.slice A n c] 51)).alloc (.cells #[.int .i64 0, .int .i64 0, .int .i64 0] 23)) w.heap.size 51 #[.slice A n c] := by simpa using (Blk.new w 51 #[.slice A n c]).alloc (.cells #[.int .i64 0, .int .i64 0, .int .i64 0] 23)
  have hb2 : Blk ((w.alloc (.cells #[.slice A n c] 51)).alloc (.cells #[.int .i64 0, .int .i64 0, .int .i64 0] 23)) (w.heap.size + 1) 23 #[.int .i64 0, .int .i64 0, .int .i64 0] := by simpa using Blk.new (w.alloc (.cells #[.slice A n c] 51)) 23 #[.int .i64 0, .int .i64 0, .int .i64 0]
  have HB0 := Lib.hid hb0
  have HB2 := Lib.hid hb2
  have HR3 := Lib.hid (hr.below HAL.out)
  clear hb0 hb2 hr
  go_enter Try.func29, Try.ntmps29
  go_wp2_with fail
  go_loopw [6] (fun i wr => ∃ k : Nat, k ≤ n ∧ i = .int .i64 k ∧ (∀ j (hj : j < l.length), j < k → l[j].1 ≠ r) ∧ Hid (wr = ((w.alloc (.cells #[.slice A n c] 51)).alloc (.cells #[.int .i64 0, .int .i64 0, .int .i64 0] 23)))) (fun i _ => n - (intOf i).toNat)
  case atStart => exact ⟨0, Nat.zero_le _, rfl, fun _ _ h => absurd h (Nat.not_lt_zero _), rfl⟩
  case round =>
    obtain ⟨k, hk, rfl, hall, HW⟩ := hrel
    have HA := Lib.hid hall
    clear hall
    have hB0 := HB0.out
    have hB2 := HB2.out
    have hr3 := HR3.out
    have hbw := HAL.out
    rw [← HW.out] at hB0 hB2 hr3 hbw
    have c0 := hB0.cell 0
    have q0 := hB2.cell 0
    have q1 := hB2.cell 1
    have q2 := hB2.cell 2
    have fq := hB2.frozen 0
    have fq1 := hB2.frozen 1
    have fq2 := hB2.frozen 2
    by_cases hlt : k < n
    · obtain ⟨b, off, rfl, hb2, hd⟩ := hr3.recs encP_len (by omega) (by omega)
      have hkl : k < l.length := by have := HL.out; omega
      have d0 : wr.cell? ⟨b, off + k * 3, none⟩ = some (.int .i64 l[k].1) := hd k hkl 0 _ rfl
      have d1 : wr.cell? ⟨b, off + k * 3 + 1, none⟩ = some (.int .i64 l[k].2.1) := hd k hkl 1 _ rfl
      have d2 : wr.cell? ⟨b, off + k * 3 + 2, none⟩ = some (.int .i64 l[k].2.2) := hd k hkl 2 _ rfl
      clear hd
      by_cases h1 : l[k].1 = r
      · have hf := find_at (f := fun x : P3 => decide (x.1 = r)) hkl (decide_eq_true h1) (fun j hj hji => decide_eq_false (HA.out j hj hji))
        have E2 : Hid (paidP l r = l[k]) := Lib.hid (by unfold paidP; rw [hf]; rfl)
        have E3 : Hid (paidB l r = true) := Lib.hid (by unfold paidB; rw [hf]; rfl)
        have e2 : (l[k].1 == r) = true := beq_iff_eq.2 h1
        clear h1 hf
        go_wp2_with fail
        exact bodyPost_ret (v := .tuple #[.agg #[.int .i64 l[k].1, .int .i64 l[k].2.1, .int .i64 l[k].2.2], .bool true]) (by simp [results, Try.results29, go_sem, q0, q1, q2]) rfl ⟨by rw [E2.out, E3.out], by repeat (first | exact hbw | refine Below.setCell ?_ (show w.heap.size ≤ w.heap.size + 1 by omega) _)⟩
      · have HE := Lib.hid h1
        have e2 : (l[k].1 == r) = false := beq_eq_false_iff_ne.2 h1
        clear h1
        go_wp2_with fail
        go_roundw
        case rel =>
          refine ⟨k + 1, by omega, by go_num, fun j hj hjk => ?_, HW⟩
          rcases Nat.lt_or_eq_of_le (Nat.lt_succ_iff.1 hjk) with h' | rfl
          · exact HA.out j hj h'
          · exact HE.out
        case measure => simp [intOf]; omega
    · have hf := find_no (f := fun x : P3 => decide (x.1 = r)) (l := l) (fun j hj => decide_eq_false (HA.out j hj (by have := HL.out; omega)))
      have E2 : Hid (paidP l r = z3) := Lib.hid (by unfold paidP; rw [hf]; rfl)
      have E3 : Hid (paidB l r = false) := Lib.hid (by unfold paidB; rw [hf]; rfl)
      clear hf
      go_wp2_with fail
      exact bodyPost_ret (v := .tuple #[.agg #[.int .i64 0, .int .i64 0, .int .i64 0], .bool false]) (by simp [results, Try.results29, go_sem, q0, q1, q2]) rfl ⟨by rw [E2.out, E3.out]; rfl, by repeat (first | exact hbw | refine Below.setCell ?_ (show w.heap.size ≤ w.heap.size + 1 by omega) _)⟩
end Go.Proofs.Ytakjdffebpcmnaa
