/- The law's helpers: few, square, at, picture, permitted, and the reference's Same. -/
import Derived.Test.YtdgdjlpbnaoheaaPkI
namespace Go.Proofs.Ytdgdjlpbnaoheaa
open Go.RowKit
def AwakePost (w : World) (e : Ending) (w' : World) : Prop := e = .returned (.bool true) ∧ Below w.heap.size w w'
def fewK (l : List Fc) (ps : List Ph) : Bool := decide (l.length ≤ 40) && fewF ps 70 && l.all fun f => decide (f.n ≤ 40)
theorem fewK_inv {l : List Fc} {ps : List Ph} (h : fewK l ps = true) : fewF ps 70 = true := by unfold fewK at h; simp at h; exact h.1.2
set_option maxHeartbeats 2000000 in
theorem fewk_any (A : Option Addr) (n c : Nat) (l : List Fc) (A2 : Option Addr) (m c2 : Nat) (ps : List Ph) (x : Bool) (w : World) (h : FcR w A n l) (hn : n ≤ 9223372036854775807) (h2 : PsR w A2 m ps) (hm : m ≤ 9223372036854775807) (hx : fewK l ps = x) : Calls Try.prog 10 #[.slice A n c, .slice A2 m c2] w (RetB w x) := by
  have HL := Lib.hid h.2.2
  have HZ := Lib.hid h; have HP := Lib.hid h2; have HX := Lib.hid hx
  clear h h2 hx
  by_cases hbig : 40 < n
  · have hb1 : (40 : Int) < n := by omega
    have HX2 : Hid (false = x) := Lib.hid (by rw [← HX.out]; unfold fewK; rw [decide_eq_false (by have := HL.out; omega)]; rfl)
    go_enter Try.func10, Try.ntmps10
    go_wp2_with fail
    go_ret
    exact ⟨ret_bool HX2.out, Below.refl _ _⟩
  have hb1 : (n : Int) ≤ 40 := by omega
  have HN40 : Hid (decide (l.length ≤ 40) = true) := Lib.hid (decide_eq_true (by have := HL.out; omega))
  obtain ⟨f, hf⟩ : ∃ f, fewF ps 70 = f := ⟨_, rfl⟩
  have HF := Lib.hid hf
  clear hf hbig
  rcases f with _ | _
  · have HX2 : Hid (false = x) := Lib.hid (by rw [← HX.out]; unfold fewK; rw [HF.out, Bool.and_false]; rfl)
    go_enter Try.func10, Try.ntmps10
    go_wp2_with fail
    refine (fewF_any A2 m c2 ps 70 false _ HP.out hm HF.out).mono ?_
    rintro e w1 ⟨rfl, hb1'⟩
    go_wp2_with fail
    go_ret
    exact ⟨ret_bool HX2.out, hb1'⟩
  go_enter Try.func10, Try.ntmps10
  go_wp2_with fail
  refine (fewF_any A2 m c2 ps 70 true _ HP.out hm HF.out).mono ?_
  rintro e w1 ⟨rfl, hb1'⟩
  have HB1 := Lib.hid hb1'
  clear hb1'
  go_wp2_with fail
  go_loopw [5] (fun s wr => ∃ k : Nat, k ≤ n ∧ s = .int .i64 k ∧ Hid (∀ j (hj : j < l.length), j < k → l[j].n ≤ 40) ∧ Below w.heap.size w wr) (fun s _ => n - (intOf s).toNat)
  case atStart => exact ⟨0, Nat.zero_le _, rfl, Lib.hid (fun _ _ h => absurd h (Nat.not_lt_zero _)), HB1.out⟩
  case round =>
    obtain ⟨k, hk, rfl, HA, hbw⟩ := hrel
    have HBW := Lib.hid hbw
    have HZr := Lib.hid (HZ.out.below hbw)
    clear hbw
    by_cases hlt : k < n
    · have hkl : k < l.length := by have := HL.out; omega
      obtain ⟨b, off, rfl, hb, hc⟩ := HZr.out.cells (by omega)
      obtain ⟨d0, d1, d2, d3, d4, d5⟩ := hc k hkl
      have hk0 : (0 : Int) ≤ k := by omega
      have hk1 : (k : Int) < n := by omega
      clear hc
      by_cases h40 : 40 < l[k].n
      · have h41 : (40 : Int) < l[k].n := by omega
        have HX2 : Hid (false = x) := Lib.hid (by
          rw [← HX.out]
          unfold fewK
          have : (l.all fun f => decide (f.n ≤ 40)) = false := by
            rw [List.all_eq_false]; exact ⟨l[k], List.getElem_mem hkl, by simp; omega⟩
          rw [this, Bool.and_false])
        go_wp2_with fail
        go_ret
        exact ⟨ret_bool HX2.out, HBW.out⟩
      · have h41 : (l[k].n : Int) ≤ 40 := by omega
        have h42 : l[k].n ≤ 40 := by omega
        have HA2 : Hid (∀ j (hj : j < l.length), j < k + 1 → l[j].n ≤ 40) := Lib.hid (fun j hj hjk => by
          rcases Nat.lt_or_eq_of_le (Nat.lt_succ_iff.1 hjk) with h' | rfl
          · exact HA.out j hj h'
          · exact h42)
        clear h40
        go_wp2_with fail
        go_roundw
        case rel => exact ⟨k + 1, by omega, by go_num, HA2, HBW.out⟩
        case measure => simp [intOf]; omega
    · have HX2 : Hid (true = x) := Lib.hid (by
        rw [← HX.out]
        unfold fewK
        have : (l.all fun f => decide (f.n ≤ 40)) = true := by
          rw [List.all_eq_true]; intro f hf
          obtain ⟨j, hj, rfl⟩ := List.getElem_of_mem hf
          exact decide_eq_true (HA.out j hj (by have := HL.out; omega))
        rw [this, HN40.out, HF.out]; rfl)
      go_wp2_with fail
      go_ret
      exact ⟨ret_bool HX2.out, HBW.out⟩
theorem Reads.far {w : World} {B size n : Nat} {ad : Addr} {xs : List Value} (h : Reads w B size (some ad) n xs) {p : Addr} (hp : p.block ≠ ad.block) (u : Value) : Reads (w.setCell p u) B size (some ad) n xs :=
  ⟨h.1, fun hn => by
    obtain ⟨ad', e, hb, hc⟩ := h.2 hn
    injection e with e
    subst e
    exact ⟨_, rfl, hb, fun j v hv => (World.cell?_setCell_other w p _ u (fun e => hp (by rw [e, block_of_add]))).trans (hc j v hv)⟩⟩
/-- The square of the examples. -/
def sqFc (k : Int) (A : Option Addr) : Fc := ⟨k, A, 4, 4, [(0, 0), (100, 0), (100, 100), (0, 100)], 0, 4294944000, 0, 86400⟩
def RetSqF (w : World) (k : Int) (e : Ending) (w' : World) : Prop := ∃ A, e = .returned (aggFc (sqFc k A)) ∧ Below w.heap.size w w' ∧ Reads w' w'.heap.size 2 A 4 (cellsPt [(0, 0), (100, 0), (100, 100), (0, 100)])
set_option maxHeartbeats 2000000 in
theorem square_any (k : Int) (w : World) : Calls Try.prog 25 #[.int .i64 k] w (RetSqF w k) := by
  obtain ⟨w0, hw0⟩ : ∃ u, w.alloc (.cells #[.int .i64 0, .slice none 0 0, .int .i64 0, .int .i64 0, .int .i64 0, .int .i64 0] 61) = u := ⟨_, rfl⟩
  have B0 := Blk.new w 61 #[.int .i64 0, .slice none 0 0, .int .i64 0, .int .i64 0, .int .i64 0, .int .i64 0]
  have hbw := (Below.refl w.heap.size w).alloc (Nat.le_refl _) (.cells #[.int .i64 0, .slice none 0 0, .int .i64 0, .int .i64 0, .int .i64 0, .int .i64 0] 61)
  have hsz : w0.heap.size = w.heap.size + 1 := by rw [← hw0]; simp
  rw [hw0] at B0 hbw
  have BV := B0.alloc (.cells #[.int .i64 0, .int .i64 0, .int .i64 100, .int .i64 0, .int .i64 100, .int .i64 100, .int .i64 0, .int .i64 100] 25)
  have HR := Reads.fresh w0 25 #[.int .i64 0, .int .i64 0, .int .i64 100, .int .i64 0, .int .i64 100, .int .i64 100, .int .i64 0, .int .i64 100] 4 2 rfl
  have hb1 := hbw.alloc (show w.heap.size ≤ w0.heap.size by omega) (.cells #[.int .i64 0, .int .i64 0, .int .i64 100, .int .i64 0, .int .i64 100, .int .i64 100, .int .i64 0, .int .i64 100] 25)
  have q0 := (BV.cell 0).trans rfl; have q1 := (BV.cell 1).trans rfl; have q2 := (BV.cell 2).trans rfl; have q3 := (BV.cell 3).trans rfl; have q4 := (BV.cell 4).trans rfl; have q5 := (BV.cell 5).trans rfl
  have z0 := BV.frozen 0; have z1 := BV.frozen 1; have z2 := BV.frozen 2; have z3 := BV.frozen 3; have z4 := BV.frozen 4; have z5 := BV.frozen 5
  have HRR := Lib.hid HR; have HB1 := Lib.hid hb1; have HSZ := Lib.hid hsz
  clear B0 BV HR hbw hb1 hsz
  go_enter Try.func25, Try.ntmps25
  go_wp2_with fail
  exact bodyPost_ret (v := .agg #[.int .i64 k, .slice (some ⟨w0.heap.size, 0, none⟩) 4 4, .int .i64 0, .int .i64 4294944000, .int .i64 0, .int .i64 86400]) (by simp [results, Try.results25, go_sem, q0, q1, q2, q3, q4, q5]) rfl ⟨some ⟨w0.heap.size, 0, none⟩, rfl, by repeat (first | (with_reducible exact HB1.out) | refine Below.setCell ?_ (show w.heap.size ≤ w.heap.size from Nat.le_refl _) _), by
    have h := HRR.out
    refine Reads.more ?_ (show w0.heap.size + 1 ≤ _ by simp)
    repeat (refine Reads.far ?_ (show w.heap.size ≠ w0.heap.size by have := HSZ.out; omega) _)
    exact h⟩
/-- What at returns. -/
def atK (ride x : Int) : Pk := ⟨ride, 3, 1000, x, 50, 20⟩
def RetK (w : World) (p : Pk) (e : Ending) (w' : World) : Prop := e = .returned (aggK p) ∧ Below w.heap.size w w'
theorem at_any (ride x : Int) (w : World) : Calls Try.prog 27 #[.int .i64 ride, .int .i64 x] w (RetK w (atK ride x)) := by
  go_enter Try.func27, Try.ntmps27
  go_wp2_with fail
  have B1 := (Blk.new w 27 #[.int .i64 ride, .int .i64 3, .int .i64 1000, .int .i64 x, .int .i64 50, .int .i64 20])
  have r0 := (B1.cell 0).trans rfl; have r1 := (B1.cell 1).trans rfl; have r2 := (B1.cell 2).trans rfl; have r3 := (B1.cell 3).trans rfl; have r4 := (B1.cell 4).trans rfl; have r5 := (B1.cell 5).trans rfl
  exact bodyPost_ret (v := .agg #[.int .i64 ride, .int .i64 3, .int .i64 1000, .int .i64 x, .int .i64 50, .int .i64 20]) (by simp [results, Try.results27, go_sem, r0, r1, r2, r3, r4, r5]) rfl ⟨rfl, ((Below.refl _ _).alloc (Nat.le_refl _) _)⟩
def arr8 (f : Nat → Int) : Array Value := ((List.range 81).map fun k => Value.int .u8 (f k)).toArray
theorem arr8_size (f : Nat → Int) : (arr8 f).size = 81 := by simp [arr8]
theorem arr8_get (f : Nat → Int) {k : Nat} (h : k < 81) : (arr8 f)[k]? = some (.int .u8 (f k)) := by unfold arr8; simp [h]
theorem arr8_set (f : Nat → Int) (k : Nat) (v : Int) : (arr8 f).setIfInBounds k (.int .u8 v) = arr8 (fun i => if i = k then v else f i) := by
  apply Array.ext
  · simp [arr8]
  · intro i h1 h2
    simp only [Array.size_setIfInBounds, arr8_size] at h1
    rw [Array.getElem_setIfInBounds (by rw [arr8_size]; exact h1)]
    by_cases hk : k = i
    · subst hk; rw [if_pos rfl]; simp [arr8]
    · rw [if_neg hk]; simp only [arr8, List.getElem_toArray, List.getElem_map, List.getElem_range]; rw [if_neg (fun e => hk e.symm)]
def pix (i : Nat) : Int := ((i % 9 * 20 : Nat) : Int)
def pixTo (k : Nat) : Nat → Int := fun i => if i < k then pix i else 0
theorem pixTo_step (k : Nat) : (fun i => if i = k then pix k else pixTo k i) = pixTo (k + 1) := by
  funext i; unfold pixTo
  by_cases h : i = k
  · subst h; rw [if_pos rfl, if_pos (by omega)]
  · rw [if_neg h]
    by_cases g : i < k
    · rw [if_pos g, if_pos (by omega)]
    · rw [if_neg g, if_neg (by omega)]
def picL : List Int := (List.range 81).map pix
theorem arr8_pic : (arr8 (pixTo 81)).toList = cellsU picL := by
  unfold arr8 cellsU picL
  rw [List.map_map]
  refine List.map_congr_left fun i hi => ?_
  have : i < 81 := by simpa using hi
  simp [pixTo, this]
theorem infoByte : (Try.prog.info? 5).map (fun i => (i.zero, i.size, i.bytes)) = some (some (.int .u8 0), 1, 1) := by kernel_rfl
theorem arr8_made : madeCells #[.int .u8 0] (81 * 1) = arr8 (fun _ => 0) := by
  apply Array.ext
  · simp [arr8, madeCells]
  · intro i h1 h2
    simp [arr8, madeCells, Nat.mod_one]
theorem mk81 (w : World) : (Instr.makeSlice 44 (.int .i64 81) (.int .i64 81)).run Try.prog w = .ok (.slice (some ⟨w.heap.size, 0, none⟩) 81 81) (w.alloc (.cells (arr8 fun _ => 0) 5)) := by
  obtain ⟨i0, hi0, hz0, hz1, hz2⟩ := info_parts infoByte
  have := run_make_rowN 44 5 i0 _ Try.underlying44 hi0 hz0 .i64 .i64 81 81 (Nat.le_refl _) (by rw [hz2]; decide) (by decide) w
  rw [hz1, show (Value.int IntKind.u8 0).cells = #[Value.int .u8 0] from rfl, arr8_made] at this
  exact this
abbrev picP (ride tm : Int) (A : Option Addr) : Ph := ⟨ride, tm, 9, 9, A, 81, 81, picL⟩
def RetPic (w : World) (ride tm : Int) (e : Ending) (w' : World) : Prop := ∃ A, e = .returned (aggF (picP ride tm A)) ∧ Below w.heap.size w w' ∧ Reads w' w'.heap.size 1 A 81 (cellsU picL)
set_option maxHeartbeats 4000000 in
set_option maxRecDepth 20000 in
theorem picture_any (ride tm : Int) (w : World) : Calls Try.prog 26 #[.int .i64 ride, .int .i64 tm] w (RetPic w ride tm) := by
  have hmk := mk81 (w.alloc (.cells #[.int .i64 0, .int .i64 0, .int .i64 0, .int .i64 0, .slice none 0 0] 46))
  go_enter Try.func26, Try.ntmps26
  go_wp2_with fail
  clear hmk
  obtain ⟨v1, hv1⟩ : ∃ v, (((w.alloc (.cells #[.int .i64 0, .int .i64 0, .int .i64 0, .int .i64 0, .slice none 0 0] 46)).alloc (.cells (arr8 fun _ => 0) 5)).alloc (.cells #[.int .i64 ride, .int .i64 tm, .int .i64 9, .int .i64 9, .slice (some ⟨w.heap.size + 1, 0, none⟩) 81 81] 46)) = v := ⟨_, rfl⟩
  have HX0 : Hid (Blk v1 w.heap.size 46 #[.int .i64 0, .int .i64 0, .int .i64 0, .int .i64 0, .slice none 0 0] ∧ Blk v1 (w.heap.size + 1) 5 (arr8 (pixTo 0)) ∧ Blk v1 (w.heap.size + 1 + 1) 46 #[.int .i64 ride, .int .i64 tm, .int .i64 9, .int .i64 9, .slice (some ⟨w.heap.size + 1, 0, none⟩) 81 81] ∧ Below w.heap.size w v1) := Lib.hid (by
    have h := box3 w 46 5 46 #[.int .i64 0, .int .i64 0, .int .i64 0, .int .i64 0, .slice none 0 0] (arr8 fun _ => 0) #[.int .i64 ride, .int .i64 tm, .int .i64 9, .int .i64 9, .slice (some ⟨w.heap.size + 1, 0, none⟩) 81 81]
    rw [hv1] at h
    rw [show pixTo 0 = fun _ => 0 from funext fun i => if_neg (Nat.not_lt_zero i)]
    exact h)
  rw [hv1]
  clear hv1
  go_loopw [6] (fun s wr => ∃ k : Nat, k ≤ 81 ∧ s = .int .i64 k ∧ Hid (Blk wr w.heap.size 46 #[.int .i64 0, .int .i64 0, .int .i64 0, .int .i64 0, .slice none 0 0] ∧ Blk wr (w.heap.size + 1) 5 (arr8 (pixTo k)) ∧ Blk wr (w.heap.size + 1 + 1) 46 #[.int .i64 ride, .int .i64 tm, .int .i64 9, .int .i64 9, .slice (some ⟨w.heap.size + 1, 0, none⟩) 81 81] ∧ Below w.heap.size w wr)) (fun s _ => 81 - (intOf s).toNat)
  case atStart => exact ⟨0, by decide, rfl, HX0⟩
  case round =>
    obtain ⟨wo, rfl⟩ : ∃ wo : World, wo = wr := ⟨_, rfl⟩
    obtain ⟨k, hk, rfl, HG⟩ := hrel
    obtain ⟨B0, B1, B2, hbw⟩ := HG.out
    have g4 := (B2.cell 4).trans rfl
    by_cases hlt : k < 81
    · have hk1 : (k : Int) < 81 := by omega
      obtain ⟨q, hq⟩ : ∃ q, k % 9 = q := ⟨_, rfl⟩
      have r1 : (k : Int).tmod 9 = (q : Int) := by rw [Int.tmod_eq_emod_of_nonneg (by omega)]; omega
      have hql : q ≤ 8 := by omega
      obtain ⟨b, hb⟩ : ∃ b : Nat, q * 20 = b := ⟨_, rfl⟩
      have hbb : b ≤ 160 := by omega
      have r2 : (q : Int) * 20 = (b : Int) := by omega
      have r3 : (k : Int) % 9 = (q : Int) := by omega
      have r4 : (b : Int) % 256 = b := by omega
      have hc : (arr8 (pixTo k))[k]? = some (.int .u8 (pixTo k k)) := arr8_get _ hlt
      have e1 := (B1.cell k).trans hc
      have z1 := B1.frozen k
      have HN : Hid (Blk (wo.setCell ⟨w.heap.size + 1, k, none⟩ (.int .u8 (b : Int))) w.heap.size 46 #[.int .i64 0, .int .i64 0, .int .i64 0, .int .i64 0, .slice none 0 0] ∧ Blk (wo.setCell ⟨w.heap.size + 1, k, none⟩ (.int .u8 (b : Int))) (w.heap.size + 1) 5 (arr8 (pixTo (k + 1))) ∧ Blk (wo.setCell ⟨w.heap.size + 1, k, none⟩ (.int .u8 (b : Int))) (w.heap.size + 1 + 1) 46 #[.int .i64 ride, .int .i64 tm, .int .i64 9, .int .i64 9, .slice (some ⟨w.heap.size + 1, 0, none⟩) 81 81] ∧ Below w.heap.size w (wo.setCell ⟨w.heap.size + 1, k, none⟩ (.int .u8 (b : Int)))) := Lib.hid (by
        refine ⟨B0.far (by show w.heap.size ≠ w.heap.size + 1; omega) _, ?_, B2.far (by show w.heap.size + 1 + 1 ≠ w.heap.size + 1; omega) _, hbw.setCell (show w.heap.size ≤ w.heap.size + 1 by omega) _⟩
        have := B1.set_ k (.int .u8 (b : Int))
        rw [arr8_set] at this
        rw [← pixTo_step, show pix k = (b : Int) from by unfold pix; rw [hq, hb]]
        exact this)
      clear hc B0 B1 B2 hbw hq hb
      go_wp2_with fail
      go_roundw
      case rel => exact ⟨k + 1, by omega, by go_num, HN⟩
      case measure => simp [intOf]; omega
    · obtain rfl : k = 81 := by omega
      have a0 := (B2.cell 0).trans rfl; have a1 := (B2.cell 1).trans rfl; have a2 := (B2.cell 2).trans rfl; have a3 := (B2.cell 3).trans rfl
      have q0 := (B0.cell 0).trans rfl; have q1 := (B0.cell 1).trans rfl; have q2 := (B0.cell 2).trans rfl; have q3 := (B0.cell 3).trans rfl; have q4 := (B0.cell 4).trans rfl
      have y0 := B0.frozen 0; have y1 := B0.frozen 1; have y2 := B0.frozen 2; have y3 := B0.frozen 3; have y4 := B0.frozen 4
      have HR : Hid (Reads wo wo.heap.size 1 (some ⟨w.heap.size + 1, 0, none⟩) 81 (cellsU picL)) := Lib.hid ⟨by simp [cellsU, picL], fun _ => ⟨_, rfl, B1.lt, fun j u hu => by
        rw [show (Addr.add ⟨w.heap.size + 1, 0, none⟩ j) = ⟨w.heap.size + 1, j, none⟩ from by unfold Addr.add; by_cases h0 : j = 0 <;> simp [h0]]
        rw [B1.cell j, ← hu, ← arr8_pic, Array.getElem?_toList]⟩⟩
      have HBL := Lib.hid hbw
      clear B0 B1 B2 hbw HG
      go_wp2_with fail
      exact bodyPost_ret (v := .agg #[.int .i64 ride, .int .i64 tm, .int .i64 9, .int .i64 9, .slice (some ⟨w.heap.size + 1, 0, none⟩) 81 81]) (by simp [results, Try.results26, go_sem, q0, q1, q2, q3, q4]) rfl ⟨some ⟨w.heap.size + 1, 0, none⟩, rfl, by repeat (first | (with_reducible exact HBL.out) | refine Below.setCell ?_ (show w.heap.size ≤ w.heap.size from Nat.le_refl _) _), by
        have h := HR.out
        refine Reads.more ?_ (show wo.heap.size ≤ _ by simp [World.setCell])
        repeat (refine Reads.far ?_ (show w.heap.size ≠ w.heap.size + 1 by omega) _)
        exact h⟩
theorem pic_bytes : Bytes picL := fun b hb => by
  unfold picL pix at hb
  obtain ⟨i, _, rfl⟩ := List.mem_map.1 hb
  omega
theorem pic_any (ride tm : Int) (w : World) : Calls Try.prog 26 #[.int .i64 ride, .int .i64 tm] w (fun e w' => ∃ A, e = .returned (aggF (picP ride tm A)) ∧ Below w.heap.size w w' ∧ PR w' (picP ride tm A)) :=
  (picture_any ride tm w).mono fun _ _ ⟨A, h1, h2, h3⟩ => ⟨A, h1, h2, h3, pic_bytes, (by decide : 81 ≤ 9223372036854775807)⟩
/-- Two equal verdicts, by the program's comparison. -/
theorem eqVd (a b c d : Int) (w : World) : (Op.equalIn 10000 31 (.agg #[.int .i64 a, .int .i64 b, .int .i64 c, .int .i64 d]) (.agg #[.int .i64 a, .int .i64 b, .int .i64 c, .int .i64 d])).run Try.prog w = .ok true w := by
  simp [go_sem]
  done
/-- Two lists of the same verdicts. -/
theorem vsame_any (A A' : Option Addr) (n c n' c' : Nat) (l : List Vd) (w : World) (hr : Reads w w.heap.size 4 A n (cellsVd l)) (hr' : Reads w w.heap.size 4 A' n' (cellsVd l)) (hn : n ≤ 10000) : Calls Try.prog 20 #[.slice A n c, .slice A' n' c'] w (RetB w true) := by
  have hl := recs_len hr encVd_len (by omega)
  obtain rfl : n = n' := by have := recs_len hr' encVd_len (by omega); omega
  have HL := Lib.hid hl
  clear hl
  go_enter Try.func20, Try.ntmps20
  go_wp2_with fail
  go_loopw [5] (fun j wr => ∃ (k q : Nat), k ≤ n ∧ j = .int .i64 k ∧ wr = w.drewN q) (fun j _ => n - (intOf j).toNat)
  case atStart => exact ⟨0, 0, Nat.zero_le _, rfl, rfl⟩
  case round =>
    obtain ⟨k, q, hk, rfl, rfl⟩ := hrel
    by_cases hlt : k < n
    · obtain ⟨b, off, rfl, hb1, hc⟩ := hr.recs encVd_len (by omega) (by omega)
      obtain ⟨b', off', rfl, hb2, hc'⟩ := hr'.recs encVd_len (by omega) (by omega)
      have hkl : k < l.length := by have := HL.out; omega
      have c0 : w.cell? ⟨b, off + k * 4, none⟩ = some (.int .i64 l[k].1) := hc k hkl 0 _ rfl
      have c1 : w.cell? ⟨b, off + k * 4 + 1, none⟩ = some (.int .i64 l[k].2.1) := hc k hkl 1 _ rfl
      have c2 : w.cell? ⟨b, off + k * 4 + 2, none⟩ = some (.int .i64 l[k].2.2.1) := hc k hkl 2 _ rfl
      have c3 : w.cell? ⟨b, off + k * 4 + 3, none⟩ = some (.int .i64 l[k].2.2.2) := hc k hkl 3 _ rfl
      have d0 : w.cell? ⟨b', off' + k * 4, none⟩ = some (.int .i64 l[k].1) := hc' k hkl 0 _ rfl
      have d1 : w.cell? ⟨b', off' + k * 4 + 1, none⟩ = some (.int .i64 l[k].2.1) := hc' k hkl 1 _ rfl
      have d2 : w.cell? ⟨b', off' + k * 4 + 2, none⟩ = some (.int .i64 l[k].2.2.1) := hc' k hkl 2 _ rfl
      have d3 : w.cell? ⟨b', off' + k * 4 + 3, none⟩ = some (.int .i64 l[k].2.2.2) := hc' k hkl 3 _ rfl
      have hk1 : (k : Int) < n := by omega
      have hk0 : (0 : Int) ≤ k := by omega
      have hq := fun w => eqVd l[k].1 l[k].2.1 l[k].2.2.1 l[k].2.2.2 w
      clear hc hc'
      go_wp2_with fail
      go_quiet (fail)
      go_wp2_with fail
      go_roundw
      case rel => exact ⟨k + 1, _, by omega, by go_num, rfl⟩
      case measure => simp [intOf]; omega
    · go_wp2_with fail
      go_ret
      exact ⟨rfl, below_drewN (Below.refl _ _) _⟩
end Go.Proofs.Ytdgdjlpbnaoheaa
