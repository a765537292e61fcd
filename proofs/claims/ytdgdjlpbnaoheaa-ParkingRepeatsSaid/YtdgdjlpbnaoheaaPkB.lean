/- The walks of slices.ContainsFunc and slices.IndexFunc for fences, photos and seen marks, and of the closures they are handed. -/
import Derived.Test.YtdgdjlpbnaoheaaPkA
namespace Go.Proofs.Ytdgdjlpbnaoheaa
open Go.RowKit
/-- The first index of which a thing is true; -1 if there is none. -/
def idxQ {α : Type} (q : α → Bool) (l : List α) : Int := if l.any q = true then (l.findIdx q : Int) else -1
theorem idxQ_yes {α : Type} {q : α → Bool} {l : List α} {k : Nat} (hk : k < l.length) (h : q l[k] = true) (hb : ∀ j (hj : j < l.length), j < k → q l[j] = false) : idxQ q l = k := by
  have h1 : l.any q = true := List.any_eq_true.2 ⟨l[k], List.getElem_mem hk, h⟩
  have h2 : l.findIdx q = k := (List.findIdx_eq hk).2 ⟨h, fun j hj => hb j (Nat.lt_trans hj hk) hj⟩
  unfold idxQ
  rw [if_pos h1, h2]
theorem idxQ_no {α : Type} {q : α → Bool} {l : List α} (hb : ∀ j (hj : j < l.length), q l[j] = false) : idxQ q l = -1 := by
  have h1 : l.any q = false := by
    rw [List.any_eq_false]
    intro x hx
    obtain ⟨j, hj, rfl⟩ := List.getElem_of_mem hx
    rw [hb j hj]; decide
  unfold idxQ
  rw [h1]; rfl
theorem idxQ_any {α : Type} (q : α → Bool) (l : List α) : decide (0 ≤ idxQ q l) = l.any q := by
  unfold idxQ
  rcases h : l.any q with _ | _
  · rfl
  · rw [if_pos rfl]; exact decide_eq_true (Int.natCast_nonneg _)
theorem idxQ_bd {α : Type} (q : α → Bool) (l : List α) : -1 ≤ idxQ q l := by
  unfold idxQ
  split <;> omega
structure Sn where
  ride : Int
  mark : Nat
def encSn (s : Sn) : List Value := [.int .i64 s.ride, .int .u64 (s.mark : Int)]
def cellsSn (l : List Sn) : List Value := l.flatMap encSn
theorem encSn_len (s : Sn) : (encSn s).length = 2 := rfl
abbrev aggSn (s : Sn) : Value := .agg #[.int .i64 s.ride, .int .u64 (s.mark : Int)]
/-- Seen marks in memory. -/
def SnR (w : World) (A : Option Addr) (n : Nat) (l : List Sn) : Prop := Reads w w.heap.size 2 A n (cellsSn l) ∧ l.length = n
theorem SnR.below {w w' : World} {A : Option Addr} {n : Nat} {l : List Sn} (h : SnR w A n l) (hb : Below w.heap.size w w') : SnR w' A n l := ⟨(h.1.below hb).more hb.size, h.2⟩
theorem SnR.cells {w : World} {A : Option Addr} {n : Nat} {l : List Sn} (h : SnR w A n l) (hn : 0 < n) : ∃ b off, A = some ⟨b, off, none⟩ ∧ b < w.heap.size ∧ ∀ k (hk : k < l.length), w.cell? ⟨b, off + k * 2, none⟩ = some (.int .i64 l[k].ride) ∧ w.cell? ⟨b, off + k * 2 + 1, none⟩ = some (.int .u64 (l[k].mark : Int)) := by
  obtain ⟨b, off, e, hb, hc⟩ := h.1.recs encSn_len (by omega) hn
  exact ⟨b, off, e, hb, fun k hk => ⟨hc k hk 0 _ rfl, hc k hk 1 _ rfl⟩⟩
theorem mf_ (fn : Fn) (first cap : Array Value) (w : World) : (Instr.makeFunc fn first cap).run Try.prog w = .ok (.func fn first cap) w := rfl
theorem fam_same' {P : Program} {f : FuncId} {args : Array Value} {w : World} {z : Fam w} {v : Value} (h : Calls P f args z.val fun e w' => e = .returned v ∧ w' = z.val) :
    Calls P f args z.val fun e w'' => e = .returned v ∧ ∃ m : Fam w, w'' = m.val :=
  h.mono fun _ _ ⟨he, hb⟩ => ⟨he, z, hb⟩
set_option maxHeartbeats 2000000 in
theorem relclos_any (f : Fc) (k : Int) (p : Pk) (g1 g2 : Nat) (x : Bool) (w : World) (h1 : Blk w g1 3 #[.int .i64 k]) (h2 : Blk w g2 27 #[.int .i64 p.ride, .int .i64 p.rider, .int .i64 p.tm, .int .i64 p.x, .int .i64 p.y, .int .i64 p.r]) (hx : (decide (f.k = k) && activeB f p.tm) = x) : Calls Try.prog 70 #[aggFc f, .pointer (some ⟨g1, 0, none⟩), .pointer (some ⟨g2, 0, none⟩)] w (RetB w x) := by
  obtain ⟨kk, hK⟩ := box1K w 61 #[.int .i64 f.k, .slice f.A f.n f.c, .int .i64 f.wf, .int .i64 f.wt, .int .i64 f.hf, .int .i64 f.ht]
  have HK := Lib.hid hK
  clear hK
  obtain ⟨B0, hbb⟩ := HK.out _ kk
  have c00 := B0.cell 0
  have c01 := B0.cell 1
  have c02 := B0.cell 2
  have c03 := B0.cell 3
  have c04 := B0.cell 4
  have c05 := B0.cell 5
  have HB := Lib.hid hbb
  clear B0 hbb
  have b1 := h1.ofBelow HB.out; have b2 := h2.ofBelow HB.out
  have e0 := (b1.cell 0).trans rfl; have e2 := (b2.cell 2).trans rfl
  clear b1 b2 h1 h2
  by_cases hk : f.k = k
  · have hk2 : (f.k == k) = true := by simp [hk]
    have hk3 : decide (f.k = k) = true := by simp [hk]
    have HA : Hid (activeB f p.tm = x) := Lib.hid (by rw [← hx, hk3]; rfl)
    clear hk hx
    go_enter Try.func70, Try.ntmps70
    go_wp2_with fail
    refine (active_any f p.tm x _ HA.out).mono ?_
    rintro e w1 ⟨rfl, hb1⟩
    replace kk := below_next kk (Nat.le_refl _) hb1
    clear c00 c01 c02 c03 c04 c05 HB hb1
    obtain ⟨B0, hbb⟩ := HK.out _ kk
    have c00 := B0.cell 0
    have c01 := B0.cell 1
    have c02 := B0.cell 2
    have c03 := B0.cell 3
    have c04 := B0.cell 4
    have c05 := B0.cell 5
    have HB := Lib.hid hbb
    clear B0 hbb
    go_wp2_with fail
    go_ret
    exact ⟨rfl, HB.out⟩
  · have hk2 : (f.k == k) = false := by simp [hk]
    have hk3 : decide (f.k = k) = false := by simp [hk]
    have HA : Hid (false = x) := Lib.hid (by rw [← hx, hk3]; rfl)
    clear hk hx
    go_enter Try.func70, Try.ntmps70
    go_wp2_with fail
    go_ret
    exact ⟨ret_bool HA.out, HB.out⟩
set_option maxHeartbeats 2000000 in
theorem countclos_any (f : Ph) (p : Pk) (g1 : Nat) (x : Bool) (w : World) (h : PR w f) (h2 : Blk w g1 27 #[.int .i64 p.ride, .int .i64 p.rider, .int .i64 p.tm, .int .i64 p.x, .int .i64 p.y, .int .i64 p.r]) (hp : 0 ≤ p.tm ∧ p.tm ≤ 4294943999) (hx : countB f p = x) : Calls Try.prog 45 #[aggF f, .pointer (some ⟨g1, 0, none⟩)] w (RetB w x) := by
  obtain ⟨kk, hK⟩ := box1K w 46 #[.int .i64 f.ride, .int .i64 f.tm, .int .i64 f.W, .int .i64 f.H, .slice f.A f.n f.c]
  have HK := Lib.hid hK
  clear hK
  obtain ⟨B0, hbb⟩ := HK.out _ kk
  have c00 := B0.cell 0
  have c01 := B0.cell 1
  have c02 := B0.cell 2
  have c03 := B0.cell 3
  have c04 := B0.cell 4
  have HB := Lib.hid hbb
  clear B0 hbb
  have HPA : Hid (∀ u, Below w.heap.size w u → PR u f) := Lib.hid fun u hu => h.below hu
  have b2 := h2.ofBelow HB.out
  have e0 := (b2.cell 0).trans rfl; have e2 := (b2.cell 2).trans rfl
  clear b2 h h2
  have f1 := wr_ (n := p.tm - 300) (by omega)
  have f2 := wr_ (n := p.tm + 300) (by omega)
  obtain ⟨b, hb⟩ : ∃ b, inB f.tm (p.tm - 300) (p.tm + 300) = b := ⟨_, rfl⟩
  obtain ⟨u, hu⟩ : ∃ u, usableB f = u := ⟨_, rfl⟩
  have HIN := Lib.hid hb; have HU := Lib.hid hu
  have HWR := Lib.hid (HPA.out _ HB.out)
  by_cases hk : f.ride = p.ride
  · have hk2 : (f.ride == p.ride) = true := by simp [hk]
    have hk3 : decide (f.ride = p.ride) = true := by simp [hk]
    rcases b with _ | _
    · have HA : Hid (false = x) := Lib.hid (by rw [← hx]; unfold countB; rw [hb, Bool.and_false]; rfl)
      clear hk hx hb hu
      go_enter Try.func45, Try.ntmps45
      go_wp2_with fail
      refine (in_any f.tm (p.tm - 300) (p.tm + 300) false _ HIN.out).mono ?_
      rintro e w1 ⟨rfl, rfl⟩
      go_wp2_with fail
      go_ret
      exact ⟨ret_bool HA.out, HB.out⟩
    · have HA : Hid (u = x) := Lib.hid (by rw [← hx]; unfold countB; rw [hb, hk3, hu]; rfl)
      clear hk hx hb hu
      go_enter Try.func45, Try.ntmps45
      go_wp2_with fail
      refine (in_any f.tm (p.tm - 300) (p.tm + 300) true _ HIN.out).mono ?_
      rintro e w1 ⟨rfl, rfl⟩
      go_wp2_with fail
      refine (usable_any f u _ HWR.out HU.out).mono ?_
      rintro e w1 ⟨rfl, hb1⟩
      replace kk := below_next kk (Nat.le_refl _) hb1
      clear c00 c01 c02 c03 c04 HB hb1
      obtain ⟨B0, hbb⟩ := HK.out _ kk
      have c00 := B0.cell 0
      have c01 := B0.cell 1
      have c02 := B0.cell 2
      have c03 := B0.cell 3
      have c04 := B0.cell 4
      have HB := Lib.hid hbb
      clear B0 hbb
      go_wp2_with fail
      go_ret
      exact ⟨ret_bool HA.out, HB.out⟩
  · have hk2 : (f.ride == p.ride) = false := by simp [hk]
    have hk3 : decide (f.ride = p.ride) = false := by simp [hk]
    have HA : Hid (false = x) := Lib.hid (by rw [← hx]; unfold countB; rw [hk3]; rfl)
    clear hk hx hb hu
    go_enter Try.func45, Try.ntmps45
    go_wp2_with fail
    go_ret
    exact ⟨ret_bool HA.out, HB.out⟩
def snB (ride : Int) (m : Nat) (s : Sn) : Bool := decide (s.ride ≠ ride) && decide (apartN s.mark m ≤ 4)
set_option maxHeartbeats 2000000 in
theorem snclos_any (s : Sn) (ride : Int) (m : Nat) (g1 g2 : Nat) (x : Bool) (w : World) (hs : s.mark < 18446744073709551616) (hm : m < 18446744073709551616) (h1 : ∀ u, Below w.heap.size w u → u.cell? ⟨g1, 0, none⟩ = some (.int .i64 ride)) (h2 : ∀ u, Below w.heap.size w u → u.cell? ⟨g2, 0, none⟩ = some (.int .u64 (m : Int))) (hx : snB ride m s = x) : Calls Try.prog 52 #[aggSn s, .pointer (some ⟨g1, 0, none⟩), .pointer (some ⟨g2, 0, none⟩)] w (RetB w x) := by
  obtain ⟨kk, hK⟩ := box1K w 88 #[.int .i64 s.ride, .int .u64 (s.mark : Int)]
  have HK := Lib.hid hK
  clear hK
  obtain ⟨B0, hbb⟩ := HK.out _ kk
  have c00 := B0.cell 0
  have c01 := B0.cell 1
  have HB := Lib.hid hbb
  clear B0 hbb
  have e0 := h1 _ HB.out; have e2 := h2 _ HB.out
  clear h1 h2
  obtain ⟨a, ha⟩ : ∃ a : Int, (apartN s.mark m : Int) = a := ⟨_, rfl⟩
  have HAP := Lib.hid ha
  by_cases hk : s.ride = ride
  · have hk2 : (s.ride != ride) = false := by simp [hk]
    have hk3 : decide (s.ride ≠ ride) = false := by simp [hk]
    have HA : Hid (false = x) := Lib.hid (by rw [← hx]; unfold snB; rw [hk3]; rfl)
    clear hk hx ha
    go_enter Try.func52, Try.ntmps52
    go_wp2_with fail
    go_ret
    exact ⟨ret_bool HA.out, HB.out⟩
  · have hk2 : (s.ride != ride) = true := by simp [hk]
    have hk3 : decide (s.ride ≠ ride) = true := by simp [hk]
    have HA : Hid (decide (a ≤ 4) = x) := Lib.hid (by rw [← hx]; unfold snB; rw [hk3, ← ha]; simp; omega)
    clear hk hx ha
    go_enter Try.func52, Try.ntmps52
    go_wp2_with fail
    refine (apart_any s.mark m a _ hs hm HAP.out).mono ?_
    rintro e w1 ⟨rfl, rfl⟩
    go_wp2_with fail
    go_ret
    exact ⟨ret_bool HA.out, HB.out⟩
set_option maxHeartbeats 2000000 in
theorem indexFc_any (A : Option Addr) (n c : Nat) (l : List Fc) (g1 g2 : Nat) (q : Fc → Bool) (x : Int) (w : World) (h : FcR w A n l) (hn : n ≤ 9223372036854775807) (hq : ∀ f ∈ l, ∀ u, Below w.heap.size w u → Calls Try.prog 70 #[aggFc f, .pointer (some ⟨g1, 0, none⟩), .pointer (some ⟨g2, 0, none⟩)] u (RetB u (q f))) (hx : idxQ q l = x) : Calls Try.prog 87 #[.slice A n c, .func (.func 70) #[] #[.pointer (some ⟨g1, 0, none⟩), .pointer (some ⟨g2, 0, none⟩)]] w (RetI w x) := by
  have HL := Lib.hid h.2.2
  have HZ := Lib.hid h; have HQ := Lib.hid hq; have HX := Lib.hid hx
  clear h hq hx
  go_enter Try.func87, Try.ntmps87
  go_wp2_with fail
  go_loopw [5, 8] (fun _ s wr => ∃ k : Nat, k ≤ n ∧ s = .int .i64 k ∧ Hid (∀ j (hj : j < l.length), j < k → q l[j] = false) ∧ Below w.heap.size w wr) (fun _ s _ => n - (intOf s).toNat)
  case atStart => exact ⟨0, Nat.zero_le _, rfl, Lib.hid (fun _ _ h => absurd h (Nat.not_lt_zero _)), Below.refl _ _⟩
  case round =>
    obtain ⟨k, hk, rfl, HA, hbw⟩ := hrel
    have HBW := Lib.hid hbw
    have HZr := Lib.hid (HZ.out.below hbw)
    clear hbw
    by_cases hlt : k < n
    · have hkl : k < l.length := by have := HL.out; omega
      obtain ⟨b, off, rfl, hb, hc⟩ := HZr.out.cells (by omega)
      obtain ⟨d0, d1, d2, d3, d4, d5⟩ := hc k hkl
      have hk0 : (0 : Int) ≤ k := by omega
      have hk1 : (k : Int) < n := by omega
      have HC := Lib.hid (HQ.out l[k] (List.getElem_mem hkl) _ HBW.out)
      clear hc
      rcases hy : q l[k] with _ | _
      · have HY := Lib.hid hy
        rw [hy] at HC
        clear hy
        go_wp2_with fail
        refine HC.out.mono ?_
        rintro e w1 ⟨rfl, hb1⟩
        have HB1 := Lib.hid (below_next HBW.out (Nat.le_refl _) hb1)
        clear hb1
        go_wp2_with fail
        go_roundw
        case rel => exact ⟨k + 1, by omega, by go_num, Lib.hid (fun j hj hjk => by
          rcases Nat.lt_or_eq_of_le (Nat.lt_succ_iff.1 hjk) with h' | rfl
          · exact HA.out j hj h'
          · exact HY.out), HB1.out⟩
        case measure => simp [intOf]; omega
      · have HX2 : Hid ((k : Int) = x) := Lib.hid (by rw [← HX.out, idxQ_yes hkl hy HA.out])
        rw [hy] at HC
        clear hy
        go_wp2_with fail
        refine HC.out.mono ?_
        rintro e w1 ⟨rfl, hb1⟩
        have HB1 := Lib.hid (below_next HBW.out (Nat.le_refl _) hb1)
        clear hb1
        go_wp2_with fail
        go_ret
        exact ⟨ret_int HX2.out, HB1.out⟩
    · have HX2 : Hid (-1 = x) := Lib.hid (by rw [← HX.out, idxQ_no fun j hj => HA.out j hj (by have := HL.out; omega)])
      go_wp2_with fail
      go_ret
      exact ⟨ret_int HX2.out, HBW.out⟩
set_option maxHeartbeats 2000000 in
theorem containsFc_any (A : Option Addr) (n c : Nat) (l : List Fc) (g1 g2 : Nat) (q : Fc → Bool) (x : Bool) (w : World) (h : FcR w A n l) (hn : n ≤ 9223372036854775807) (hq : ∀ f ∈ l, ∀ u, Below w.heap.size w u → Calls Try.prog 70 #[aggFc f, .pointer (some ⟨g1, 0, none⟩), .pointer (some ⟨g2, 0, none⟩)] u (RetB u (q f))) (hx : l.any q = x) : Calls Try.prog 69 #[.slice A n c, .func (.func 70) #[] #[.pointer (some ⟨g1, 0, none⟩), .pointer (some ⟨g2, 0, none⟩)]] w (RetB w x) := by
  obtain ⟨y, hy⟩ : ∃ y, idxQ q l = y := ⟨_, rfl⟩
  have HC := Lib.hid (indexFc_any A n c l g1 g2 q y w h hn hq hy)
  have HX : Hid (decide (0 ≤ y) = x) := Lib.hid (by rw [← hx, ← hy, idxQ_any])
  clear h hq hx hy
  go_enter Try.func69, Try.ntmps69
  go_wp2_with fail
  refine HC.out.mono ?_
  rintro e w1 ⟨rfl, hb1⟩
  go_wp2_with fail
  go_ret
  exact ⟨ret_bool HX.out, hb1⟩
set_option maxHeartbeats 2000000 in
theorem indexPh_any (A : Option Addr) (n c : Nat) (l : List Ph) (g1 : Nat) (q : Ph → Bool) (x : Int) (w : World) (h : PsR w A n l) (hn : n ≤ 9223372036854775807) (hq : ∀ f ∈ l, ∀ u, Below w.heap.size w u → Calls Try.prog 45 #[aggF f, .pointer (some ⟨g1, 0, none⟩)] u (RetB u (q f))) (hx : idxQ q l = x) : Calls Try.prog 74 #[.slice A n c, .func (.func 45) #[] #[.pointer (some ⟨g1, 0, none⟩)]] w (RetI w x) := by
  have HL := Lib.hid h.2.2
  have HZ := Lib.hid h; have HQ := Lib.hid hq; have HX := Lib.hid hx
  clear h hq hx
  go_enter Try.func74, Try.ntmps74
  go_wp2_with fail
  go_loopw [5, 8] (fun _ s wr => ∃ k : Nat, k ≤ n ∧ s = .int .i64 k ∧ Hid (∀ j (hj : j < l.length), j < k → q l[j] = false) ∧ Below w.heap.size w wr) (fun _ s _ => n - (intOf s).toNat)
  case atStart => exact ⟨0, Nat.zero_le _, rfl, Lib.hid (fun _ _ h => absurd h (Nat.not_lt_zero _)), Below.refl _ _⟩
  case round =>
    obtain ⟨k, hk, rfl, HA, hbw⟩ := hrel
    have HBW := Lib.hid hbw
    have HZr := Lib.hid (HZ.out.below hbw)
    clear hbw
    by_cases hlt : k < n
    · have hkl : k < l.length := by have := HL.out; omega
      obtain ⟨b, off, rfl, hb, hc⟩ := HZr.out.cells (by omega)
      obtain ⟨d0, d1, d2, d3, d4⟩ := hc k hkl
      have hk0 : (0 : Int) ≤ k := by omega
      have hk1 : (k : Int) < n := by omega
      have HC := Lib.hid (HQ.out l[k] (List.getElem_mem hkl) _ HBW.out)
      clear hc
      rcases hy : q l[k] with _ | _
      · have HY := Lib.hid hy
        rw [hy] at HC
        clear hy
        go_wp2_with fail
        refine HC.out.mono ?_
        rintro e w1 ⟨rfl, hb1⟩
        have HB1 := Lib.hid (below_next HBW.out (Nat.le_refl _) hb1)
        clear hb1
        go_wp2_with fail
        go_roundw
        case rel => exact ⟨k + 1, by omega, by go_num, Lib.hid (fun j hj hjk => by
          rcases Nat.lt_or_eq_of_le (Nat.lt_succ_iff.1 hjk) with h' | rfl
          · exact HA.out j hj h'
          · exact HY.out), HB1.out⟩
        case measure => simp [intOf]; omega
      · have HX2 : Hid ((k : Int) = x) := Lib.hid (by rw [← HX.out, idxQ_yes hkl hy HA.out])
        rw [hy] at HC
        clear hy
        go_wp2_with fail
        refine HC.out.mono ?_
        rintro e w1 ⟨rfl, hb1⟩
        have HB1 := Lib.hid (below_next HBW.out (Nat.le_refl _) hb1)
        clear hb1
        go_wp2_with fail
        go_ret
        exact ⟨ret_int HX2.out, HB1.out⟩
    · have HX2 : Hid (-1 = x) := Lib.hid (by rw [← HX.out, idxQ_no fun j hj => HA.out j hj (by have := HL.out; omega)])
      go_wp2_with fail
      go_ret
      exact ⟨ret_int HX2.out, HBW.out⟩
set_option maxHeartbeats 2000000 in
theorem containsPh_any (A : Option Addr) (n c : Nat) (l : List Ph) (g1 : Nat) (q : Ph → Bool) (x : Bool) (w : World) (h : PsR w A n l) (hn : n ≤ 9223372036854775807) (hq : ∀ f ∈ l, ∀ u, Below w.heap.size w u → Calls Try.prog 45 #[aggF f, .pointer (some ⟨g1, 0, none⟩)] u (RetB u (q f))) (hx : l.any q = x) : Calls Try.prog 48 #[.slice A n c, .func (.func 45) #[] #[.pointer (some ⟨g1, 0, none⟩)]] w (RetB w x) := by
  obtain ⟨y, hy⟩ : ∃ y, idxQ q l = y := ⟨_, rfl⟩
  have HC := Lib.hid (indexPh_any A n c l g1 q y w h hn hq hy)
  have HX : Hid (decide (0 ≤ y) = x) := Lib.hid (by rw [← hx, ← hy, idxQ_any])
  clear h hq hx hy
  go_enter Try.func48, Try.ntmps48
  go_wp2_with fail
  refine HC.out.mono ?_
  rintro e w1 ⟨rfl, hb1⟩
  go_wp2_with fail
  go_ret
  exact ⟨ret_bool HX.out, hb1⟩
set_option maxHeartbeats 2000000 in
theorem indexSn_any (A : Option Addr) (n c : Nat) (l : List Sn) (g1 g2 : Nat) (q : Sn → Bool) (x : Int) (w : World) (h : SnR w A n l) (hn : n ≤ 9223372036854775807) (hq : ∀ f ∈ l, ∀ u, Below w.heap.size w u → Calls Try.prog 52 #[aggSn f, .pointer (some ⟨g1, 0, none⟩), .pointer (some ⟨g2, 0, none⟩)] u (RetB u (q f))) (hx : idxQ q l = x) : Calls Try.prog 76 #[.slice A n c, .func (.func 52) #[] #[.pointer (some ⟨g1, 0, none⟩), .pointer (some ⟨g2, 0, none⟩)]] w (RetI w x) := by
  have HL := Lib.hid h.2
  have HZ := Lib.hid h; have HQ := Lib.hid hq; have HX := Lib.hid hx
  clear h hq hx
  go_enter Try.func76, Try.ntmps76
  go_wp2_with fail
  go_loopw [5, 8] (fun _ s wr => ∃ k : Nat, k ≤ n ∧ s = .int .i64 k ∧ Hid (∀ j (hj : j < l.length), j < k → q l[j] = false) ∧ Below w.heap.size w wr) (fun _ s _ => n - (intOf s).toNat)
  case atStart => exact ⟨0, Nat.zero_le _, rfl, Lib.hid (fun _ _ h => absurd h (Nat.not_lt_zero _)), Below.refl _ _⟩
  case round =>
    obtain ⟨k, hk, rfl, HA, hbw⟩ := hrel
    have HBW := Lib.hid hbw
    have HZr := Lib.hid (HZ.out.below hbw)
    clear hbw
    by_cases hlt : k < n
    · have hkl : k < l.length := by have := HL.out; omega
      obtain ⟨b, off, rfl, hb, hc⟩ := HZr.out.cells (by omega)
      obtain ⟨d0, d1⟩ := hc k hkl
      have hk0 : (0 : Int) ≤ k := by omega
      have hk1 : (k : Int) < n := by omega
      have HC := Lib.hid (HQ.out l[k] (List.getElem_mem hkl) _ HBW.out)
      clear hc
      rcases hy : q l[k] with _ | _
      · have HY := Lib.hid hy
        rw [hy] at HC
        clear hy
        go_wp2_with fail
        refine HC.out.mono ?_
        rintro e w1 ⟨rfl, hb1⟩
        have HB1 := Lib.hid (below_next HBW.out (Nat.le_refl _) hb1)
        clear hb1
        go_wp2_with fail
        go_roundw
        case rel => exact ⟨k + 1, by omega, by go_num, Lib.hid (fun j hj hjk => by
          rcases Nat.lt_or_eq_of_le (Nat.lt_succ_iff.1 hjk) with h' | rfl
          · exact HA.out j hj h'
          · exact HY.out), HB1.out⟩
        case measure => simp [intOf]; omega
      · have HX2 : Hid ((k : Int) = x) := Lib.hid (by rw [← HX.out, idxQ_yes hkl hy HA.out])
        rw [hy] at HC
        clear hy
        go_wp2_with fail
        refine HC.out.mono ?_
        rintro e w1 ⟨rfl, hb1⟩
        have HB1 := Lib.hid (below_next HBW.out (Nat.le_refl _) hb1)
        clear hb1
        go_wp2_with fail
        go_ret
        exact ⟨ret_int HX2.out, HB1.out⟩
    · have HX2 : Hid (-1 = x) := Lib.hid (by rw [← HX.out, idxQ_no fun j hj => HA.out j hj (by have := HL.out; omega)])
      go_wp2_with fail
      go_ret
      exact ⟨ret_int HX2.out, HBW.out⟩
set_option maxHeartbeats 2000000 in
theorem containsSn_any (A : Option Addr) (n c : Nat) (l : List Sn) (g1 g2 : Nat) (q : Sn → Bool) (x : Bool) (w : World) (h : SnR w A n l) (hn : n ≤ 9223372036854775807) (hq : ∀ f ∈ l, ∀ u, Below w.heap.size w u → Calls Try.prog 52 #[aggSn f, .pointer (some ⟨g1, 0, none⟩), .pointer (some ⟨g2, 0, none⟩)] u (RetB u (q f))) (hx : l.any q = x) : Calls Try.prog 51 #[.slice A n c, .func (.func 52) #[] #[.pointer (some ⟨g1, 0, none⟩), .pointer (some ⟨g2, 0, none⟩)]] w (RetB w x) := by
  obtain ⟨y, hy⟩ : ∃ y, idxQ q l = y := ⟨_, rfl⟩
  have HC := Lib.hid (indexSn_any A n c l g1 g2 q y w h hn hq hy)
  have HX : Hid (decide (0 ≤ y) = x) := Lib.hid (by rw [← hx, ← hy, idxQ_any])
  clear h hq hx hy
  go_enter Try.func51, Try.ntmps51
  go_wp2_with fail
  refine HC.out.mono ?_
  rintro e w1 ⟨rfl, hb1⟩
  go_wp2_with fail
  go_ret
  exact ⟨ret_bool HX.out, hb1⟩
end Go.Proofs.Ytdgdjlpbnaoheaa
