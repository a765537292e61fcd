/- The law's helpers: few, has, at, square, Same. -/
import Derived.Test.YtgjfidknedojbaaZoneH
import Derived.Test.YtgjfidknedojbaaZoneI
namespace Go.Proofs.Ytgjfidknedojbaa
open Go.RowKit
def AwakePost (w : World) (e : Ending) (w' : World) : Prop := e = .returned (.bool true) ∧ Below w.heap.size w w'
def RetAgg (w : World) (p : Pt) (e : Ending) (w' : World) : Prop := e = .returned (.agg #[.int .i64 p.1, .int .i64 p.2]) ∧ Below w.heap.size w w'
theorem at_any (x y : Int) (w : World) : Calls Try.prog 22 #[.int .i64 x, .int .i64 y] w (RetAgg w (x, y)) := by
  obtain ⟨B0, hb⟩ := box1 w 28 #[.int .i64 0, .int .i64 0]
  have z0 := (B0.cell 0).trans rfl; have z1 := (B0.cell 1).trans rfl
  have hb2 := set2_below (.int .i64 x) (.int .i64 y) hb (Nat.le_refl _)
  have x0 := set2_blk B0 (.int .i64 x) (.int .i64 y)
  go_enter Try.func22, Try.ntmps22
  go_wp2_with fail
  have B1 := (Blk.new w 28 #[.int .i64 x, .int .i64 y])
  have r0 := (B1.cell 0).trans rfl; have r1 := (B1.cell 1).trans rfl
  exact bodyPost_ret (v := .agg #[.int .i64 x, .int .i64 y]) (by simp [results, Try.results22, go_sem, r0, r1]) rfl ⟨rfl, ((Below.refl _ _).alloc (Nat.le_refl _) _)⟩
def sqP (a b : Int) : List Pt := [(a, a), (b, a), (b, b), (a, b)]
def RetSq (w : World) (p : List Pt) (e : Ending) (w' : World) : Prop := Below w.heap.size w w' ∧ ∃ A, e = .returned (.slice A 4 4) ∧ Reads w' w'.heap.size 2 A 4 (cellsPt p)
theorem square_any (a b : Int) (w : World) : Calls Try.prog 25 #[.int .i64 a, .int .i64 b] w (RetSq w (sqP a b)) := by
  have HR := Lib.hid (Reads.fresh w 28 #[.int .i64 a, .int .i64 a, .int .i64 b, .int .i64 a, .int .i64 b, .int .i64 b, .int .i64 a, .int .i64 b] 4 2 rfl)
  go_enter Try.func25, Try.ntmps25
  go_wp2_with fail
  go_ret
  exact ⟨(Below.refl _ _).alloc (Nat.le_refl _) _, _, rfl, HR.out.more (by simp)⟩
def iAt (l : List Int) (k : Nat) : Int := l.getD k 0
theorem iAt_get {l : List Int} {k : Nat} (h : k < l.length) : iAt l k = l[k] := by unfold iAt; rw [List.getD_eq_getElem?_getD, List.getElem?_eq_getElem h]; rfl
theorem cellsI_map (l : List Int) : cellsI l = l.map (Value.int .i64) := by
  induction l with
  | nil => rfl
  | cons a l ih => unfold cellsI at ih ⊢; rw [List.flatMap_cons, ih]; rfl
theorem ints_cells {w : World} {B n : Nat} {A : Option Addr} {m : List Int} (h : Reads w B 1 A n (cellsI m)) (hn : 0 < n) : ∃ b off, A = some ⟨b, off, none⟩ ∧ b < B ∧ ∀ k, k < n → w.cell? ⟨b, off + k, none⟩ = some (.int .i64 (iAt m k)) := by
  have hl : m.length = n := recs_len h encI_len (by omega)
  obtain ⟨b, off, e, hb, hc⟩ := h.open_ hn (by omega)
  refine ⟨b, off, e, hb, fun k hk => hc k _ ?_⟩
  rw [iAt_get (by omega), cellsI_map]
  simp [hl, hk]
theorem ext_iAt {l m : List Int} (h : l.length = m.length) (ha : ∀ j, j < l.length → iAt l j = iAt m j) : l = m :=
  List.ext_getElem h fun i h1 h2 => by have := ha i h1; rwa [iAt_get h1, iAt_get h2] at this
set_option maxHeartbeats 2000000 in
theorem same_any (A A' : Option Addr) (n c n' c' : Nat) (l m : List Int) (x : Bool) (w : World) (hr : Reads w w.heap.size 1 A n (cellsI l)) (hr' : Reads w w.heap.size 1 A' n' (cellsI m)) (hn : n ≤ 1000) (hx : decide (l = m) = x) : Calls Try.prog 18 #[.slice A n c, .slice A' n' c'] w (RetB w x) := by
  have HL := Lib.hid (recs_len hr encI_len (by omega)); have HM := Lib.hid (recs_len hr' encI_len (by omega))
  have HR := Lib.hid hr; have HR' := Lib.hid hr'; have HX := Lib.hid hx
  clear hr hr' hx
  by_cases hnn : n = n'
  · subst hnn
    go_enter Try.func18, Try.ntmps18
    go_wp2_with fail
    go_loopw [5] (fun s wr => ∃ k : Nat, k ≤ n ∧ s = .int .i64 k ∧ Hid (∀ j, j < k → iAt l j = iAt m j) ∧ Below w.heap.size w wr) (fun s _ => n - (intOf s).toNat)
    case atStart => exact ⟨0, Nat.zero_le _, rfl, Lib.hid (fun _ h => absurd h (Nat.not_lt_zero _)), Below.refl _ _⟩
    case round =>
      obtain ⟨k, hk, rfl, HA, hbw⟩ := hrel
      have HBW := Lib.hid hbw
      have HRr := Lib.hid ((HR.out.below hbw).more hbw.size); have HRr' := Lib.hid ((HR'.out.below hbw).more hbw.size)
      clear hbw
      by_cases hlt : k < n
      · obtain ⟨b, off, rfl, hb, hc⟩ := ints_cells HRr.out (by omega)
        obtain ⟨b', off', rfl, hb', hc'⟩ := ints_cells HRr'.out (by omega)
        have e0 := hc k hlt; have e1 := hc' k hlt
        have hk0 : (0 : Int) ≤ k := by omega
        have hk1 : (k : Int) < n := by omega
        clear hc hc'
        obtain ⟨u, hu⟩ : ∃ u, iAt l k = u := ⟨_, rfl⟩
        obtain ⟨v, hv⟩ : ∃ u, iAt m k = u := ⟨_, rfl⟩
        rw [hu] at e0; rw [hv] at e1
        have HU := Lib.hid hu; have HV := Lib.hid hv
        clear hu hv
        by_cases huv : u = v
        · have hd : (u != v) = false := by simp [huv]
          have HA2 : Hid (∀ j, j < k + 1 → iAt l j = iAt m j) := Lib.hid fun j hj => by
            rcases Nat.lt_or_ge j k with h1 | h1
            · exact HA.out j h1
            · obtain rfl : j = k := by omega
              rw [HU.out, HV.out, huv]
          clear huv
          go_wp2_with fail
          go_quiet (fail)
          go_wp2_with fail
          go_roundw
          case rel => exact ⟨k + 1, by omega, by go_num, HA2, below_drewN HBW.out _⟩
          case measure => simp [intOf]; omega
        · have hd : (u != v) = true := by simp [huv]
          have HX2 : Hid (false = x) := Lib.hid (by rw [← HX.out]; exact (decide_eq_false fun e => huv (by rw [← HU.out, ← HV.out, e])).symm)
          clear huv
          go_wp2_with fail
          go_quiet (fail)
          go_wp2_with fail
          go_ret
          exact ⟨ret_bool HX2.out, below_drewN HBW.out _⟩
      · have HX2 : Hid (true = x) := Lib.hid (by rw [← HX.out]; exact (decide_eq_true (ext_iAt (by rw [HL.out, HM.out]) fun j hj => HA.out j (by have := HL.out; omega))).symm)
        go_wp2_with fail
        go_ret
        exact ⟨ret_bool HX2.out, HBW.out⟩
  · have hb : ((n : Int) != n') = true := by simp; omega
    have HX2 : Hid (false = x) := Lib.hid (by rw [← HX.out]; exact (decide_eq_false fun e => hnn (by rw [← HL.out, ← HM.out, e])).symm)
    clear hnn
    go_enter Try.func18, Try.ntmps18
    go_wp2_with fail
    go_ret
    exact ⟨ret_bool HX2.out, Below.refl _ _⟩
def fewZ (z : Zn) : Bool := decide (z.n ≤ 40) && decide (z.s.size ≤ 100)
def fewB (l : List Zn) : Bool := decide (l.length ≤ 20) && l.all fewZ
theorem few_len {l : List Zn} (h : fewB l = true) : l.length ≤ 20 := by unfold fewB at h; rw [Bool.and_eq_true] at h; simpa using h.1
theorem few_big {l : List Zn} (h : 20 < l.length) : fewB l = false := by unfold fewB; rw [decide_eq_false (by omega)]; rfl
theorem few_bad {l : List Zn} {k : Nat} (hk : k < l.length) (h : fewZ (zAt l k) = false) : fewB l = false := by
  have : l.all fewZ = false := by rw [List.all_eq_false]; exact ⟨l[k], List.getElem_mem hk, by rw [← zAt_get hk, h]; decide⟩
  unfold fewB; rw [this, Bool.and_false]
theorem few_yes {l : List Zn} (h0 : l.length ≤ 20) (h : ∀ k, k < l.length → fewZ (zAt l k) = true) : fewB l = true := by
  have : l.all fewZ = true := by
    rw [List.all_eq_true]; intro z hz
    obtain ⟨k, hk, rfl⟩ := List.getElem_of_mem hz
    rw [← zAt_get hk]; exact h k hk
  unfold fewB; rw [this, decide_eq_true h0]; rfl
set_option maxHeartbeats 2000000 in
theorem few_any (A : Option Addr) (n c : Nat) (l : List Zn) (x : Bool) (w : World) (h : ZR w A n l) (hn : n ≤ 9223372036854775807) (hx : fewB l = x) : Calls Try.prog 10 #[.slice A n c] w (RetB w x) := by
  have HZ := Lib.hid h; have HX := Lib.hid hx; have HL := Lib.hid h.2.2
  clear h hx
  by_cases hbig : 20 < n
  · have hd : (20 : Int) < n := by omega
    have HX2 : Hid (false = x) := Lib.hid (by rw [← HX.out, few_big (by have := HL.out; omega)])
    go_enter Try.func10, Try.ntmps10
    go_wp2_with fail
    go_ret
    exact ⟨ret_bool HX2.out, Below.refl _ _⟩
  · have hd : (n : Int) ≤ 20 := by omega
    go_enter Try.func10, Try.ntmps10
    go_wp2_with fail
    go_loopw [3] (fun s wr => ∃ k : Nat, k ≤ n ∧ s = .int .i64 k ∧ Hid (∀ j, j < k → fewZ (zAt l j) = true) ∧ Below w.heap.size w wr) (fun s _ => n - (intOf s).toNat)
    case atStart => exact ⟨0, Nat.zero_le _, rfl, Lib.hid (fun _ h => absurd h (Nat.not_lt_zero _)), Below.refl _ _⟩
    case round =>
      obtain ⟨k, hk, rfl, HA, hbw⟩ := hrel
      have HBW := Lib.hid hbw
      have HZr := Lib.hid (HZ.out.below hbw)
      clear hbw
      by_cases hlt : k < n
      · have hkl : k < l.length := by have := HL.out; omega
        obtain ⟨b, off, rfl, hb, hc⟩ := HZr.out.cells (by omega)
        obtain ⟨d0, d1, d2⟩ := hc k hkl
        have hk0 : (0 : Int) ≤ k := by omega
        have hk1 : (k : Int) < n := by omega
        have hzs := (HZr.out.2.1 _ (List.getElem_mem hkl)).2
        obtain ⟨hz1, hz2⟩ := hzs
        have HAK := Lib.hid (zAt_get hkl)
        clear hc
        by_cases g1 : 40 < l[k].n
        · have g1' : (40 : Int) < l[k].n := by omega
          have HX2 : Hid (false = x) := Lib.hid (by rw [← HX.out, few_bad hkl (by rw [HAK.out]; unfold fewZ; rw [decide_eq_false (by omega)]; rfl)])
          clear g1
          go_wp2_with fail
          go_ret
          exact ⟨ret_bool HX2.out, HBW.out⟩
        · have g1' : (l[k].n : Int) ≤ 40 := by omega
          by_cases g2 : 100 < l[k].s.size
          · have g2' : (100 : Int) < l[k].s.size := by omega
            have HX2 : Hid (false = x) := Lib.hid (by rw [← HX.out, few_bad hkl (by rw [HAK.out]; unfold fewZ; rw [decide_eq_false (show ¬ l[k].s.size ≤ 100 by omega), Bool.and_false])])
            clear g1 g2
            go_wp2_with fail
            go_ret
            exact ⟨ret_bool HX2.out, HBW.out⟩
          · have g2' : (l[k].s.size : Int) ≤ 100 := by omega
            have HA2 : Hid (∀ j, j < k + 1 → fewZ (zAt l j) = true) := Lib.hid fun j hj => by
              rcases Nat.lt_or_ge j k with h1 | h1
              · exact HA.out j h1
              · obtain rfl : j = k := by omega
                rw [HAK.out]; unfold fewZ; rw [decide_eq_true (by omega), decide_eq_true (show l[j].s.size ≤ 100 by omega)]; rfl
            clear g1 g2
            go_wp2_with fail
            go_roundw
            case rel => exact ⟨k + 1, by omega, by go_num, HA2, HBW.out⟩
            case measure => simp [intOf]; omega
      · have HX2 : Hid (true = x) := Lib.hid (by rw [← HX.out, few_yes (by have := HL.out; omega) fun j hj => HA.out j (by have := HL.out; omega)])
        go_wp2_with fail
        go_ret
        exact ⟨ret_bool HX2.out, HBW.out⟩
end Go.Proofs.Ytgjfidknedojbaa
