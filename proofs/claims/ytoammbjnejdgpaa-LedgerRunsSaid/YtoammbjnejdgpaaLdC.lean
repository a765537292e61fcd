/- The walks of checkLines, find and clone. -/
import Derived.Test.YtoammbjnejdgpaaLdA
namespace Go.Proofs.Ytoammbjnejdgpaa
open Go.RowKit
theorem snocI (l : List Int) (x : Int) : cellsI (l ++ [x]) = cellsI l ++ [.int .i64 x] := by simp [cellsI, encI]
theorem oneI {b : Int} : ∀ u ∈ [Value.int .i64 b], u.oneCell' = true := by simp [Value.oneCell']
theorem infoInt : (Try.prog.info? 3).map (fun i => (i.zero, i.size, i.bytes)) = some (some (.int .i64 0), 1, 8) := by kernel_rfl
theorem infoLn : (Try.prog.info? 54).map (fun i => (i.zero, i.size, i.bytes)) = some (some (.agg #[.int .i64 0, .int .i64 0]), 2, 16) := by kernel_rfl
theorem infoEn : (Try.prog.info? 64).map (fun i => (i.zero, i.size, i.bytes)) = some (some (.agg #[.int .i64 0, .int .i64 0, .slice none 0 0, .bool false]), 4, 48) := by kernel_rfl
theorem infoPg : (Try.prog.info? 45).map (fun i => (i.zero, i.size, i.bytes)) = some (some (.agg #[.int .i64 0, .int .i64 0, .slice none 0 0]), 3, 40) := by kernel_rfl
theorem fr1I (u : World) (b : Int) : Reads (u.alloc (.cells #[.int .i64 b] 3)) (u.heap.size + 1) 1 (some ⟨u.heap.size, 0, none⟩) 1 [.int .i64 b] := by simpa using Reads.fresh1 u 3 #[.int .i64 b] 1 rfl
theorem Two.stepB {B : Nat} {v0 w w' : World} {tx sx nx ty sy ny : Nat} {VX VY : Value} {xs ys : List Value} (T : Two B v0 w tx sx VX nx xs ty sy VY ny ys) (h : Below w.heap.size w w') : Two B v0 w' tx sx VX nx xs ty sy VY ny ys :=
  ⟨T.1.trans (h.mono T.2.1), Nat.le_trans T.2.1 h.size, own_below T.ownX h, own_below T.ownY h, T.2.2.2.2⟩
theorem box1 (w : World) (s : TypeId) (A : Array Value) : Blk (w.alloc (.cells A s)) w.heap.size s A ∧ Below w.heap.size w (w.alloc (.cells A s)) :=
  ⟨Blk.new w s A, (Below.refl _ _).alloc (Nat.le_refl _) _⟩
theorem below_next {B : Nat} {a b c : World} (h : Below B a b) (hB : B ≤ a.heap.size) (h2 : Below b.heap.size b c) : Below B a c := h.trans (h2.mono (Nat.le_trans hB h.size))
theorem box1K (w : World) (s : TypeId) (A : Array Value) : Below (w.alloc (.cells A s)).heap.size (w.alloc (.cells A s)) (w.alloc (.cells A s)) ∧ ∀ x, Below (w.alloc (.cells A s)).heap.size (w.alloc (.cells A s)) x → Blk x w.heap.size s A ∧ Below w.heap.size w x := by
  obtain ⟨h0, hb⟩ := box1 w s A
  exact ⟨Below.refl _ _, fun x hx => ⟨h0.below hx h0.lt, hb.trans (hx.mono hb.size)⟩⟩
theorem ofB {w w' : World} {g : Nat} {t : TypeId} {cs : Array Value} (h : Blk w g t cs) (hb : Below w.heap.size w w') : Blk w' g t cs := h.below hb h.lt
theorem fr1I2 (u : World) (o : Obj) (b : Int) : Reads ((u.alloc o).alloc (.cells #[.int .i64 b] 3)) (u.heap.size + 1 + 1) 1 (some ⟨u.heap.size + 1, 0, none⟩) 1 [.int .i64 b] := by simpa using Reads.fresh2 u o 3 #[.int .i64 b] 1 rfl
def amts (l : List Ln) : List Int := l.map (·.2)
theorem sum_amts : ∀ l : List Ln, sumI (amts l) = lnSum l
  | [] => rfl
  | x :: l => by
    show x.2 + sumI (amts l) = x.2 + lnSum l
    rw [sum_amts l]
theorem amts_take {l : List Ln} {k : Nat} (h : k < l.length) : amts (l.take (k + 1)) = amts (l.take k) ++ [l[k].2] := by
  unfold amts; rw [List.take_succ_eq_append_getElem h, List.map_append]; rfl
theorem ln_cells {w : World} {B n : Nat} {A : Option Addr} {l : List Ln} (h : Reads w B 2 A n (cellsLn l)) (hn : 0 < n) : ∃ b off, A = some ⟨b, off, none⟩ ∧ b < B ∧ ∀ k (hk : k < l.length), w.cell? ⟨b, off + k * 2, none⟩ = some (.int .i64 l[k].1) ∧ w.cell? ⟨b, off + k * 2 + 1, none⟩ = some (.int .i64 l[k].2) := by
  obtain ⟨b, off, e, hb, hc⟩ := h.recs encLn_len (by omega) hn
  exact ⟨b, off, e, hb, fun k hk => ⟨hc k hk 0 _ rfl, hc k hk 1 _ rfl⟩⟩
theorem hasA_t {acc a : Int} (h : ¬ (a < 0 ∨ acc ≤ a)) : hasA acc a = true := decide_eq_true (by omega)
theorem hasA_f {acc a : Int} (h : a < 0 ∨ acc ≤ a) : hasA acc a = false := decide_eq_false (by omega)
set_option maxHeartbeats 4000000 in
set_option maxRecDepth 10000 in
theorem checkLines_any (g : Nat) (acc : Int) (A0 : Option Addr) (n0 c0 : Nat) (A : Option Addr) (n c : Nat) (l : List Ln) (x : Int) (w : World) (hb : Blk w g 62 #[.int .i64 acc, .slice A0 n0 c0]) (h : Reads w w.heap.size 2 A n (cellsLn l)) (hx : linesE acc l = x) : Calls Try.prog 33 #[.pointer (some ⟨g, 0, none⟩), .slice A n c] w (RetI w x) := by
  obtain ⟨i0, hi0, hz0, hz1, hz2⟩ := info_parts infoInt
  have HBL := Lib.hid hb; have HR := Lib.hid h; have HX := Lib.hid hx; have HL := Lib.hid (recs_len h encLn_len (by omega))
  clear hb h hx
  have hcs : n < 2 ∨ (2 ≤ n ∧ 16 < n) ∨ (2 ≤ n ∧ n ≤ 16) := by omega
  rcases hcs with g0 | ⟨g0, g1⟩ | ⟨g0, g1⟩
  · have HX2 : Hid (3 = x) := Lib.hid (by rw [← HX.out, linesE_form (by have := HL.out; omega)])
    have q0 : (n : Int) < 2 := by omega
    go_enter Try.func33, Try.ntmps33
    go_wp2_with fail
    go_ret
    exact ⟨ret_int HX2.out, Below.refl _ _⟩
  · have HX2 : Hid (3 = x) := Lib.hid (by rw [← HX.out, linesE_form (by have := HL.out; omega)])
    have q0 : (2 : Int) ≤ n := by omega
    have q1 : (16 : Int) < n := by omega
    go_enter Try.func33, Try.ntmps33
    go_wp2_with fail
    go_ret
    exact ⟨ret_int HX2.out, Below.refl _ _⟩
  have q0 : (2 : Int) ≤ n := by omega
  have q1 : (n : Int) ≤ 16 := by omega
  have HNF : Hid (¬ (l.length < 2 ∨ 16 < l.length)) := Lib.hid (by have := HL.out; omega)
  have HT0 : Hid (Two w.heap.size w w 3 1 (.slice none 0 0) 0 [] 3 1 (.slice none 0 0) 0 []) := Lib.hid ⟨Below.refl _ _, Nat.le_refl _, World.ownsRow_nil _ _ _ _, World.ownsRow_nil _ _ _ _, fun g h => by simp [Value.ownBlock] at h⟩
  go_enter Try.func33, Try.ntmps33
  go_wp2_with fail
  go_loopw [5, 20] (fun s1 s2 wr => ∃ (k : Nat) (A1 : Option Addr) (c1 : Nat), k ≤ n ∧ s1 = .slice A1 k c1 ∧ s2 = .int .i64 k ∧ Hid (∀ j (hj : j < l.length), j < k → lnErr acc l[j] = 0) ∧ Two w.heap.size w wr 3 1 (.slice A1 k c1) k (cellsI (amts (l.take k))) 3 1 (.slice none 0 0) 0 []) (fun _ s _ => n - (intOf s).toNat)
  case atStart => exact ⟨0, none, 0, Nat.zero_le _, rfl, rfl, Lib.hid (fun _ _ h => absurd h (Nat.not_lt_zero _)), HT0.out⟩
  case round =>
    obtain ⟨k, A1, c1, hk, rfl, rfl, HA, hT⟩ := hrel
    have HT := Lib.hid hT
    have HBW := Lib.hid hT.below
    have HRr := Lib.hid ((HR.out.below hT.below).more hT.below.size)
    clear hT
    by_cases hlt : k < n
    · have hkl : k < l.length := by have := HL.out; omega
      obtain ⟨b, off, rfl, hb, hc⟩ := ln_cells HRr.out (by omega)
      obtain ⟨d0, d1⟩ := hc k hkl
      have hk0 : (0 : Int) ≤ k := by omega
      have hk1 : (k : Int) < n := by omega
      have HAM := Lib.hid (amts_take hkl)
      have HBAD : Hid (lnErr acc l[k] ≠ 0 → lnErr acc l[k] = x) := Lib.hid fun h0 => by
        have := lnsErr_bad hkl h0 fun j hj hjk => HA.out j hj hjk
        rw [← HX.out, linesE_bad HNF.out (by rw [this]; exact h0), this]
      have HOK : Hid (lnErr acc l[k] = 0 → ∀ j (hj : j < l.length), j < k + 1 → lnErr acc l[j] = 0) := Lib.hid fun g j hj hjk => by
        rcases Nat.lt_or_eq_of_le (Nat.lt_succ_iff.1 hjk) with h' | rfl
        · exact HA.out j hj h'
        · exact g
      obtain ⟨y, hz⟩ : ∃ y, l[k] = y := ⟨_, rfl⟩
      rw [hz] at d0 d1 HAM HBAD HOK
      clear hc hz
      obtain ⟨B0, hbb⟩ := box1 wr 54 #[.int .i64 y.1, .int .i64 y.2]
      have e0 := (B0.cell 0).trans rfl; have e1 := (B0.cell 1).trans rfl
      have HG := Lib.hid (ofB HBL.out (below_next HBW.out (Nat.le_refl _) hbb))
      have HBX := Lib.hid (below_next HBW.out (Nat.le_refl _) hbb)
      have HT1 := Lib.hid (HT.out.alloc (.cells #[.int .i64 y.1, .int .i64 y.2] 54))
      clear B0 hbb
      by_cases hh : y.1 < 0 ∨ acc ≤ y.1
      · have HX2 : Hid (7 = x) := Lib.hid (by have := HBAD.out (by rw [lnErr_none hh]; decide); rw [lnErr_none hh] at this; exact this)
        have HH := Lib.hid (hasA_f hh)
        clear hh
        go_wp2_with fail
        refine (has_any g acc y.1 A0 n0 c0 false _ HG.out HH.out).mono ?_
        rintro e w1 ⟨rfl, rfl⟩
        go_wp2_with fail
        go_ret
        exact ⟨ret_int HX2.out, HBX.out⟩
      have HH := Lib.hid (hasA_t hh)
      have hcs : y.2 = 0 ∨ (y.2 ≠ 0 ∧ y.2 < -1000000000000) ∨ (y.2 ≠ 0 ∧ -1000000000000 ≤ y.2 ∧ 1000000000000 < y.2) ∨ (y.2 ≠ 0 ∧ -1000000000000 ≤ y.2 ∧ y.2 ≤ 1000000000000) := by omega
      rcases hcs with h0 | ⟨h0, h1⟩ | ⟨h0, h1, h2⟩ | ⟨h0, h1, h2⟩
      · have e := lnErr_amt hh (.inl h0)
        have HX2 : Hid (27 = x) := Lib.hid (by have := HBAD.out (by rw [e]; decide); rw [e] at this; exact this)
        have z0 : (y.2 == 0) = true := by simp [h0]
        clear hh h0 e
        go_wp2_with fail
        refine (has_any g acc y.1 A0 n0 c0 true _ HG.out HH.out).mono ?_
        rintro e w1 ⟨rfl, rfl⟩
        go_wp2_with fail
        go_ret
        exact ⟨ret_int HX2.out, HBX.out⟩
      · have e := lnErr_amt hh (.inr (.inl h1))
        have HX2 : Hid (27 = x) := Lib.hid (by have := HBAD.out (by rw [e]; decide); rw [e] at this; exact this)
        have z0 : (y.2 == 0) = false := by simp [h0]
        clear hh h0 e
        go_wp2_with fail
        refine (has_any g acc y.1 A0 n0 c0 true _ HG.out HH.out).mono ?_
        rintro e w1 ⟨rfl, rfl⟩
        go_wp2_with fail
        go_ret
        exact ⟨ret_int HX2.out, HBX.out⟩
      · have e := lnErr_amt hh (.inr (.inr h2))
        have HX2 : Hid (27 = x) := Lib.hid (by have := HBAD.out (by rw [e]; decide); rw [e] at this; exact this)
        have z0 : (y.2 == 0) = false := by simp [h0]
        clear hh h0 e
        go_wp2_with fail
        refine (has_any g acc y.1 A0 n0 c0 true _ HG.out HH.out).mono ?_
        rintro e w1 ⟨rfl, rfl⟩
        go_wp2_with fail
        go_ret
        exact ⟨ret_int HX2.out, HBX.out⟩
      · have HN := Lib.hid (HOK.out (lnErr_mk ⟨by omega, h0, h1, h2⟩))
        have z0 : (y.2 == 0) = false := by simp [h0]
        have T := HT1.out
        have HR1 : Hid (cellsI (amts (l.take (k + 1))) = cellsI (amts (l.take k)) ++ [.int .i64 y.2]) := Lib.hid (by rw [HAM.out, snocI])
        clear hh h0
        go_wp2_with fail
        refine (has_any g acc y.1 A0 n0 c0 true _ HG.out HH.out).mono ?_
        rintro e w1 ⟨rfl, rfl⟩
        go_wp2_with (at_builtin; refine wpList_append_any _ rfl (.tmp 44) (.tmp 47) _ rfl _ 3 i0 _ 1 8 Try.underlying27 hi0 hz0 hz1 hz2 rfl (by omega) (.slice A1 k c1) k _ rfl (T.alloc _).ownX _ _ 1 1 [.int .i64 y.2] (by rfl) (fr1I2 _ _ y.2) oneI (by simp only [maxLen]; omega) (by omega) (T.alloc _).base ?_; intro v7 w7 hown7 hg7 hat7; obtain ⟨A7, c7, rfl, hr7⟩ := own_reads hown7; rw [← HR1.out] at hown7; have T := (T.alloc _).left hown7 hg7 hat7; clear hown7 hg7 hat7 hr7)
        go_roundw
        case rel => exact ⟨k + 1, A7, c7, by omega, rfl, by go_num, HN, T⟩
        case measure => simp [intOf]; omega
    · have hkn : k = l.length := by have := HL.out; omega
      have hle : l.take k = l := List.take_of_length_le (by omega)
      have HE0 : Hid (lnsErr acc l = 0) := Lib.hid (lnsErr_ok fun j hj => HA.out j hj (by omega))
      have HRS : Hid (Reads wr wr.heap.size 1 A1 k (cellsI (amts l))) := Lib.hid (by
        have := Reads.of_own HT.out.ownX
        rwa [hle] at this)
      have HBD : Hid (∀ x ∈ amts l, -1000000000000 ≤ x ∧ x ≤ 1000000000000) := Lib.hid (fun v hv => by
        obtain ⟨y, hy, rfl⟩ := List.mem_map.1 hv
        have := lnErr_inv (lnsErr_inv HE0.out y hy)
        omega)
      have HSM : Hid (sumI (amts l) = lnSum l) := Lib.hid (sum_amts l)
      clear hkn hle
      by_cases hs : lnSum l = 0
      · have HX2 : Hid (0 = x) := Lib.hid (by rw [← HX.out, linesE_ok HNF.out HE0.out hs])
        have HS0 : Hid (sumI (amts l) = 0) := Lib.hid (by rw [HSM.out, hs])
        clear hs
        go_wp2_with fail
        refine (sum_any A1 k c1 (amts l) 0 _ HRS.out (by omega) HBD.out HS0.out).mono ?_
        rintro e w1 ⟨rfl, rfl⟩
        go_wp2_with fail
        go_ret
        exact ⟨ret_int HX2.out, HBW.out⟩
      · have HX2 : Hid (28 = x) := Lib.hid (by rw [← HX.out, linesE_sum HNF.out HE0.out hs])
        have z0 := ne0_t hs
        obtain ⟨sv, hsv⟩ : ∃ v, lnSum l = v := ⟨_, rfl⟩
        have HS0 : Hid (sumI (amts l) = sv) := Lib.hid (by rw [HSM.out, hsv])
        rw [hsv] at z0
        clear hs hsv
        go_wp2_with fail
        refine (sum_any A1 k c1 (amts l) sv _ HRS.out (by omega) HBD.out HS0.out).mono ?_
        rintro e w1 ⟨rfl, rfl⟩
        go_wp2_with fail
        go_ret
        exact ⟨ret_int HX2.out, HBW.out⟩
end Go.Proofs.Ytoammbjnejdgpaa
