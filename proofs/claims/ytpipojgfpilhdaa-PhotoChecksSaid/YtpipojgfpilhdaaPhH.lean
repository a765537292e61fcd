/- The pairs of photos that show the same: what they are; both walks of Repeats. -/
import Derived.Test.YtpipojgfpilhdaaPhG
import Derived.Test.YtpipojgfpilhdaaPhB
import Derived.Test.YtpipojgfpilhdaaTwo
import Derived.Laws.MakeOwn
namespace Go.Proofs.Ytpipojgfpilhdaa
open Go.RowKit
def firstPE : List Ph → Int
  | [] => 0
  | p :: l => if pcheckZ p ≠ 0 then pcheckZ p else firstPE l
theorem firstPE_bad {l : List Ph} {k : Nat} (hk : k < l.length) (h : pcheckZ l[k] ≠ 0) (hb : ∀ j (hj : j < l.length), j < k → pcheckZ l[j] = 0) : firstPE l = pcheckZ l[k] := by
  induction l generalizing k with
  | nil => exact absurd hk (Nat.not_lt_zero _)
  | cons p l ih =>
    unfold firstPE
    cases k with
    | zero => rw [if_pos (show pcheckZ p ≠ 0 from h)]; rfl
    | succ k =>
      rw [if_neg (fun g => g (hb 0 (by simp) (by omega)))]
      exact ih (by simpa using hk) h fun j hj hjk => hb (j + 1) (by simpa using hj) (by omega)
theorem firstPE_ok {l : List Ph} (hb : ∀ j (hj : j < l.length), pcheckZ l[j] = 0) : firstPE l = 0 := by
  induction l with
  | nil => rfl
  | cons p l ih =>
    unfold firstPE
    rw [if_neg (fun g => g (hb 0 (by simp)))]
    exact ih fun j hj => hb (j + 1) (by simpa using hj)
def repE (l : List Ph) (lim : Int) : Int := if 64 < l.length then 8 else if firstPE l ≠ 0 then firstPE l else if lim < 0 ∨ 64 < lim then 1 else 0
theorem repE_full {l : List Ph} {lim : Int} (h : 64 < l.length) : repE l lim = 8 := if_pos h
theorem repE_first {l : List Ph} {lim : Int} (h : ¬ 64 < l.length) (h1 : firstPE l ≠ 0) : repE l lim = firstPE l := by unfold repE; rw [if_neg h, if_pos h1]
theorem repE_lim {l : List Ph} {lim : Int} (h : ¬ 64 < l.length) (h1 : firstPE l = 0) (h2 : lim < 0 ∨ 64 < lim) : repE l lim = 1 := by unfold repE; rw [if_neg h, if_neg (fun g => g h1), if_pos h2]
theorem repE_ok {l : List Ph} {lim : Int} (h : ¬ 64 < l.length) (h1 : firstPE l = 0) (h2 : ¬ (lim < 0 ∨ 64 < lim)) : repE l lim = 0 := by unfold repE; rw [if_neg h, if_neg (fun g => g h1), if_neg h2]
def mk (l : List Ph) (k : Nat) : Nat := markN (phAt l k)
theorem mk_lt (l : List Ph) (k : Nat) : mk l k < 18446744073709551616 := markN_lt _
def nearB (l : List Ph) (lim : Int) (i j : Nat) : Bool := decide ((apartN (mk l i) (mk l j) : Int) ≤ lim)
def rowP (f : Nat → Nat → Bool) (i : Nat) : Nat → List (Int × Int)
  | 0 => []
  | m + 1 => rowP f i m ++ if f i (i + 1 + m) = true then [((i : Int), ((i + 1 + m : Nat) : Int))] else []
def allP (f : Nat → Nat → Bool) (n : Nat) : Nat → List (Int × Int)
  | 0 => []
  | k + 1 => allP f n k ++ rowP f k (n - 1 - k)
def repP (l : List Ph) (lim : Int) : List (Int × Int) := if repE l lim = 0 then allP (nearB l lim) l.length l.length else []
theorem repP_no {l : List Ph} {lim x : Int} (h : repE l lim = x) (hx : x ≠ 0) : repP l lim = [] := by unfold repP; rw [if_neg (by rw [h]; exact hx)]
/-- A list of marks as the array of a slice. -/
def arrU (n : Nat) (f : Nat → Nat) : Array Value := ((List.range n).map fun k => Value.int .u64 (f k : Int)).toArray
theorem arrU_size (n : Nat) (f : Nat → Nat) : (arrU n f).size = n := by simp [arrU]
theorem arrU_get {n : Nat} (f : Nat → Nat) {k : Nat} (h : k < n) : (arrU n f)[k]? = some (.int .u64 (f k : Int)) := by unfold arrU; simp [h]
theorem arrU_set (n : Nat) (f : Nat → Nat) (k v : Nat) : (arrU n f).setIfInBounds k (.int .u64 (v : Int)) = arrU n (fun i => if i = k then v else f i) := by
  apply Array.ext
  · simp [arrU]
  · intro i h1 h2
    simp only [Array.size_setIfInBounds, arrU_size] at h1
    rw [Array.getElem_setIfInBounds (by rw [arrU_size]; exact h1)]
    by_cases hk : k = i
    · subst hk; rw [if_pos rfl]; simp [arrU]
    · rw [if_neg hk]; simp only [arrU, List.getElem_toArray, List.getElem_map, List.getElem_range]; rw [if_neg (fun e => hk e.symm)]
theorem arrU_made (n : Nat) : madeCells #[.int .u64 0] (n * 1) = arrU n (fun _ => 0) := by
  apply Array.ext
  · simp [arrU, madeCells]
  · intro i h1 h2
    simp [arrU, madeCells, Nat.mod_one]
def upTo (l : List Ph) (k : Nat) : Nat → Nat := fun i => if i < k then mk l i else 0
theorem upTo_step (l : List Ph) (k : Nat) : (fun i => if i = k then mk l k else upTo l k i) = upTo l (k + 1) := by
  funext i; unfold upTo
  by_cases h : i = k
  · subst h; rw [if_pos rfl, if_pos (by omega)]
  · rw [if_neg h]
    by_cases h2 : i < k
    · rw [if_pos h2, if_pos (by omega)]
    · rw [if_neg h2, if_neg (by omega)]
theorem Two.step {B : Nat} {v0 w w' : World} {tx sx nx ty sy ny : Nat} {VX VY : Value} {xs ys : List Value} (T : Two B v0 w tx sx VX nx xs ty sy VY ny ys) (h : Below w.heap.size w w') : Two B v0 w' tx sx VX nx xs ty sy VY ny ys :=
  ⟨T.1.trans (h.mono T.2.1), Nat.le_trans T.2.1 h.size, own_below T.ownX h, own_below T.ownY h, T.2.2.2.2⟩
theorem infoU : (Try.prog.info? 28).map (fun i => (i.zero, i.size, i.bytes)) = some (some (.int .u64 0), 1, 8) := by kernel_rfl
theorem infoQ : (Try.prog.info? 47).map (fun i => (i.zero, i.size, i.bytes)) = some (some (.agg #[.int .i64 0, .int .i64 0]), 2, 16) := by kernel_rfl
theorem madeMarks (n : Nat) (hn : n ≤ 64) (w : World) : (Instr.makeSlice 59 (.int .i64 (n : Int)) (.int .i64 (n : Int))).run Try.prog w = .ok (.slice (some ⟨w.heap.size, 0, none⟩) n n) (w.alloc (.cells (arrU n fun _ => 0) 28)) := by
  obtain ⟨i0, hi0, hz0, hz1, hz2⟩ := info_parts infoU
  rw [run_make_rowN 59 28 i0 _ Try.underlying59 hi0 hz0 .i64 .i64 n n (Nat.le_refl _) (by rw [hz2]; omega) (by omega) w, hz1, ← arrU_made]
  rfl
theorem apart_b (a b : Nat) (x : Int) (w : World) (ha : a < 18446744073709551616) (hb : b < 18446744073709551616) (hx : (apartN a b : Int) = x) : Calls Try.prog 21 #[.int .u64 a, .int .u64 b] w (RetI w x) :=
  (apart_any a b x w ha hb hx).mono fun _ _ ⟨h1, h2⟩ => ⟨h1, by rw [h2]; exact Below.refl _ _⟩
theorem rapart_b (a b : Nat) (x : Int) (w : World) (hx : (apartN a b : Int) = x) : Calls Try.prog 22 #[.int .u64 a, .int .u64 b] w (RetI w x) :=
  (rapart_any a b x w hx).mono fun _ _ ⟨h1, n, h2⟩ => ⟨h1, by rw [h2]; exact below_drewN (Below.refl _ _) n⟩
theorem snocPt (l : List Pt) (q : Pt) : cellsPt (l ++ [q]) = cellsPt l ++ encPt q := by simp [cellsPt]
theorem onePt {q : Pt} : ∀ u ∈ encPt q, u.oneCell' = true := by
  intro u hu
  simp only [encPt, List.mem_cons, List.not_mem_nil, or_false] at hu
  rcases hu with rfl | rfl <;> rfl
theorem fr1Q (u : World) (q : Pt) : Reads (u.alloc (.cells #[.int .i64 q.1, .int .i64 q.2] 47)) (u.heap.size + 1) 2 (some ⟨u.heap.size, 0, none⟩) 1 (encPt q) := by simpa [encPt] using Reads.fresh1 u 47 #[.int .i64 q.1, .int .i64 q.2] 2 rfl
theorem rowP_yes {f : Nat → Nat → Bool} {i m : Nat} (h : f i (i + 1 + m) = true) : rowP f i (m + 1) = rowP f i m ++ [((i : Int), ((i + 1 + m : Nat) : Int))] := by show rowP f i m ++ _ = _; rw [if_pos h]
theorem rowP_no {f : Nat → Nat → Bool} {i m : Nat} (h : f i (i + 1 + m) = false) : rowP f i (m + 1) = rowP f i m := by show rowP f i m ++ _ = _; rw [if_neg (by rw [h]; decide), List.append_nil]
theorem retSE {w w' : World} {size n c : Nat} {A : Option Addr} {xs ys : List Value} {x y : Int} (h : Reads w' w'.heap.size size A n xs) (h1 : xs = ys) (h2 : x = y) (hb : Below w.heap.size w w') : RetSE w size ys y (.returned (.tuple #[.slice A n c, .int .i64 x])) w' := by subst h1 h2; exact ⟨A, n, c, rfl, h, hb⟩
set_option maxHeartbeats 8000000 in
set_option maxRecDepth 20000 in
theorem repeats_any (A : Option Addr) (n c : Nat) (l : List Ph) (lim : Int) (y : Int) (xs : List (Int × Int)) (w : World) (h : PsR w A n l) (hn : n ≤ 9223372036854775807) (hy : repE l lim = y) (hxs : repP l lim = xs) : Calls Try.prog 23 #[.slice A n c, .int .i64 lim] w (RetSE w 2 (cellsPt xs) y) := by
  have HL := Lib.hid h.2.2
  have HPA : Hid (∀ u, Below w.heap.size w u → PsR u A n l) := Lib.hid fun u hu => h.below hu
  have HY := Lib.hid hy; have HXS := Lib.hid hxs
  clear h hy hxs
  by_cases hbig : 64 < n
  · have hb1 : (64 : Int) < n := by omega
    have HY2 : Hid (8 = y) := Lib.hid (by rw [← HY.out, repE_full (by have := HL.out; omega)])
    have HE : Hid ([] = cellsPt xs) := Lib.hid (by rw [← HXS.out, repP_no HY.out (by rw [← HY2.out]; decide)]; rfl)
    go_enter Try.func23, Try.ntmps23
    go_wp2_with fail
    go_ret2
    exact retSE Reads.none_ HE.out HY2.out (Below.refl _ _)
  have hb1 : (n : Int) ≤ 64 := by omega
  have hn64 : n ≤ 64 := by omega
  have hmk := madeMarks n hn64
  have HA0 : Hid (Below w.heap.size w (w.alloc (.cells (arrU n fun _ => 0) 28))) := Lib.hid ((Below.refl _ _).alloc (Nat.le_refl _) _)
  have HG0 : Hid (Blk (w.alloc (.cells (arrU n fun _ => 0) 28)) w.heap.size 28 (arrU n (upTo l 0))) := Lib.hid (by
    have := Blk.new w 28 (arrU n fun _ => 0)
    rwa [show upTo l 0 = fun _ => 0 from funext fun i => if_neg (Nat.not_lt_zero i)])
  go_enter Try.func23, Try.ntmps23
  go_wp2_with fail
  clear hmk
  obtain ⟨v0, hv0⟩ : ∃ v, w.alloc (.cells (arrU n fun _ => 0) 28) = v := ⟨_, rfl⟩
  rw [hv0] at HA0 HG0 ⊢
  obtain ⟨g, hg⟩ : ∃ g, w.heap.size = g := ⟨_, rfl⟩
  have HGG := Lib.hid hg
  rw [hg]
  clear hg hv0
  go_loopw [22] (fun s wr => ∃ k : Nat, k ≤ n ∧ s = .int .i64 k ∧ Hid (∀ j (hj : j < l.length), j < k → pcheckZ l[j] = 0) ∧ Only (fun b => b = g) v0 wr ∧ Blk wr g 28 (arrU n (upTo l k))) (fun s _ => n - (intOf s).toNat)
  case atStart => exact ⟨0, Nat.zero_le _, rfl, Lib.hid (fun _ _ h => absurd h (Nat.not_lt_zero _)), Only.refl _ _, by rw [← HGG.out]; exact HG0.out⟩
  case round =>
    obtain ⟨wo, rfl⟩ : ∃ wo : World, wo = wr := ⟨_, rfl⟩
    obtain ⟨k, hk, rfl, HOK, hO, hB⟩ := hrel
    have HO := Lib.hid hO; have HB := Lib.hid hB
    have HBW := Lib.hid (HA0.out.trans (hO.below (B := w.heap.size) (fun k _ e => by rw [e]; exact Nat.le_of_eq HGG.out) HA0.out.size))
    have HPr := Lib.hid (HPA.out _ HBW.out)
    clear hO hB
    by_cases hlt : k < n
    · have hkl : k < l.length := by have := HL.out; omega
      obtain ⟨b, off, rfl, hb, hc⟩ := HPr.out.cells (by omega)
      obtain ⟨d0, d1, d2, d3, d4⟩ := hc k hkl
      have hk0 : (0 : Int) ≤ k := by omega
      have hk1 : (k : Int) < n := by omega
      obtain ⟨x, hx⟩ : ∃ x, pcheckZ l[k] = x := ⟨_, rfl⟩
      have HX := Lib.hid hx
      have HPK := Lib.hid (HPr.out.2.1 l[k] (List.getElem_mem hkl))
      have HMK : Hid (markN l[k] = mk l k) := Lib.hid (by unfold mk; rw [phAt_get hkl])
      clear hc
      by_cases h0 : x = 0
      · subst h0
        have HOK2 : Hid (∀ j (hj : j < l.length), j < k + 1 → pcheckZ l[j] = 0) := Lib.hid fun j hj hjk => by
          rcases Nat.lt_or_ge j k with h1 | h1
          · exact HOK.out j hj h1
          · have : j = k := by omega
            subst this; exact HX.out
        clear hx
        go_wp2_with fail
        refine (mark_any l[k] (mk l k) 0 _ (HPK.out.below ((Below.refl _ _).alloc (Nat.le_refl _) _)) HMK.out HX.out).mono ?_
        rintro e w2 ⟨rfl, hb2⟩
        have hO2 : Only (fun b => b = g) v0 w2 := (HO.out.alloc _).trans (Only.of_new hb2 (fun _ => False)) (fun _ _ e => e.elim)
        have hB2 : Blk w2 g 28 (arrU n (upTo l k)) := (HB.out.alloc _).below hb2 (HB.out.alloc _).lt
        have q0 : w2.cell? ⟨g, k, none⟩ = some (.int .u64 (upTo l k k : Nat)) := (hB2.cell _).trans (arrU_get _ hlt)
        have z0 := hB2.frozen k
        have HO3 : Hid (Only (fun b => b = g) v0 (w2.setCell ⟨g, k, none⟩ (.int .u64 (mk l k : Int)))) := Lib.hid (hO2.setCell (p := ⟨g, k, none⟩) (fun _ => rfl) _)
        have HB3 : Hid (Blk (w2.setCell ⟨g, k, none⟩ (.int .u64 (mk l k : Int))) g 28 (arrU n (upTo l (k + 1)))) := Lib.hid (by
          have := hB2.set_ k (.int .u64 (mk l k : Int))
          rwa [arrU_set, upTo_step] at this)
        clear hO2 hB2 hb2 d0 d1 d2 d3 d4
        go_wp2_with fail
        go_roundw
        case rel => exact ⟨k + 1, by omega, by go_num, HOK2, HO3.out, HB3.out⟩
        case measure => simp [intOf]; omega
      · have HY2 : Hid (x = y) := Lib.hid (by
          have := firstPE_bad hkl (by rw [hx]; exact h0) fun j hj hjk => HOK.out j hj hjk
          rw [← HY.out, repE_first (by have := HL.out; omega) (by rw [this, hx]; exact h0), this, hx])
        have HE : Hid ([] = cellsPt xs) := Lib.hid (by rw [← HXS.out, repP_no HY.out (by rw [← HY2.out]; exact h0)]; rfl)
        have t0 := ne0_t h0
        clear hx h0
        go_wp2_with fail
        refine (mark_any l[k] (mk l k) x _ (HPK.out.below ((Below.refl _ _).alloc (Nat.le_refl _) _)) HMK.out HX.out).mono ?_
        rintro e w2 ⟨rfl, hb2⟩
        have HBE : Hid (Below w.heap.size w w2) := Lib.hid (below_next (below_alloc HBW.out (Nat.le_refl _) _) (Nat.le_refl _) hb2)
        clear hb2 d0 d1 d2 d3 d4
        go_wp2_with fail
        go_ret2
        exact retSE Reads.none_ HE.out HY2.out HBE.out
    · obtain rfl : k = n := by omega
      have HF0 : Hid (firstPE l = 0) := Lib.hid (firstPE_ok fun j hj => HOK.out j hj (by have := HL.out; omega))
      by_cases hlim : lim < 0 ∨ 64 < lim
      · have HY2 : Hid (1 = y) := Lib.hid (by rw [← HY.out, repE_lim (by have := HL.out; omega) HF0.out hlim])
        have HE : Hid ([] = cellsPt xs) := Lib.hid (by rw [← HXS.out, repP_no HY.out (by rw [← HY2.out]; decide)]; rfl)
        have hcs : lim < 0 ∨ (0 ≤ lim ∧ 64 < lim) := by omega
        clear hlim
        rcases hcs with g1 | ⟨g1, g2⟩
        all_goals
          go_wp2_with fail
          go_ret2
          exact retSE Reads.none_ HE.out HY2.out HBW.out
      · have hl1 : 0 ≤ lim := by omega
        have hl2 : lim ≤ 64 := by omega
        have HY2 : Hid (0 = y) := Lib.hid (by rw [← HY.out, repE_ok (by have := HL.out; omega) HF0.out hlim])
        have HE : Hid (allP (nearB l lim) k k = xs) := Lib.hid (by rw [← HXS.out]; unfold repP; rw [if_pos (by rw [HY.out, HY2.out]), HL.out])
        obtain ⟨i0, hi0, hz0, hz1, hz2⟩ := info_parts infoQ
        have HM : Hid (∀ j, j < k → wo.cell? ⟨g, j, none⟩ = some (.int .u64 (mk l j : Int))) := Lib.hid fun j hj => (HB.out.cell _).trans (by rw [arrU_get _ hj]; unfold upTo; rw [if_pos hj])
        have hgo : g < wo.heap.size := HB.out.lt
        have HT0 : Hid (Two wo.heap.size wo wo 47 2 (.slice none 0 0) 0 [] 3 1 (.slice none 0 0) 0 []) := Lib.hid ⟨Below.refl _ _, Nat.le_refl _, World.ownsRow_nil _ _ _ _, World.ownsRow_nil _ _ _ _, fun g h => by simp [Value.ownBlock] at h⟩
        clear hlim
        go_wp2_with fail
        go_loopw [11, 48] (fun so si wr => ∃ (i m : Nat) (B : Option Addr) (cc : Nat), i ≤ k ∧ si = .int .i64 i ∧ so = .slice B m cc ∧ m ≤ 64 * i ∧ Two wo.heap.size wo wr 47 2 (.slice B m cc) m (cellsPt (allP (nearB l lim) k i)) 3 1 (.slice none 0 0) 0 []) (fun _ s _ => k - (intOf s).toNat)
        case atStart => exact ⟨0, 0, none, 0, Nat.zero_le _, rfl, rfl, by omega, HT0.out⟩
        case round =>
          obtain ⟨wi, rfl⟩ : ∃ wi : World, wi = wr := ⟨_, rfl⟩
          obtain ⟨i, m, B, cc, hi, rfl, rfl, hm, hT⟩ := hrel
          have HT := Lib.hid hT
          clear hT
          by_cases hli : i < k
          · have hi1 : (i : Int) < k := by omega
            go_wp2_with fail
            go_loopw [11, 13] (fun so sj wr => ∃ (t m : Nat) (B : Option Addr) (cc : Nat), t ≤ k - 1 - i ∧ sj = .int .i64 ((i + 1 + t : Nat) : Int) ∧ so = .slice B m cc ∧ m ≤ 64 * i + t ∧ Two wo.heap.size wo wr 47 2 (.slice B m cc) m (cellsPt (allP (nearB l lim) k i ++ rowP (nearB l lim) i t)) 3 1 (.slice none 0 0) 0 []) (fun _ s _ => k - (intOf s).toNat)
            case atStart => exact ⟨0, m, B, cc, Nat.zero_le _, by simp, rfl, by omega, by show Two _ _ _ _ _ _ _ (cellsPt (_ ++ [])) _ _ _ _ _; rw [List.append_nil]; exact HT.out⟩
            case round =>
              obtain ⟨wj, rfl⟩ : ∃ wj : World, wj = wr := ⟨_, rfl⟩
              obtain ⟨t, m, B, cc, ht, rfl, rfl, hm, hT⟩ := hrel
              have HTj := Lib.hid hT
              have hbj := hT.below
              obtain ⟨j, hj⟩ : ∃ j, i + 1 + t = j := ⟨_, rfl⟩
              rw [hj]
              by_cases hlj : j < k
              · have hj1 : (j : Int) < k := by omega
                have hj0 : (0 : Int) ≤ j := by omega
                have hi0' : (0 : Int) ≤ i := by omega
                have e1 := (hbj.cell (p := ⟨g, i, none⟩) hgo).trans (HM.out i hli)
                have e2 := (hbj.cell (p := ⟨g, j, none⟩) hgo).trans (HM.out j hlj)
                have F1 : ∀ z : Fam wj, z.val.cell? ⟨g, i, none⟩ = some (.int .u64 (mk l i : Int)) := fun z => z.some_ e1
                have F2 : ∀ z : Fam wj, z.val.cell? ⟨g, j, none⟩ = some (.int .u64 (mk l j : Int)) := fun z => z.some_ e2
                obtain ⟨a, ha⟩ : ∃ a, (apartN (mk l i) (mk l j) : Int) = a := ⟨_, rfl⟩
                have HAP := Lib.hid ha
                have ha1 := mk_lt l i; have ha2 := mk_lt l j
                have HJ := Lib.hid hj
                clear hT hbj e1 e2 hj
                by_cases hle : a ≤ lim
                · have HR : Hid (cellsPt (allP (nearB l lim) k i ++ rowP (nearB l lim) i (t + 1)) = cellsPt (allP (nearB l lim) k i ++ rowP (nearB l lim) i t) ++ encPt ((i : Int), (j : Int))) := Lib.hid (by
                    rw [rowP_yes (by rw [HJ.out]; unfold nearB; rw [ha, decide_eq_true hle]), ← List.append_assoc, snocPt, HJ.out])
                  clear ha
                  go_wp2_with fail
                  refine wp_region_fam (by kernel_rfl) (by kernel_rfl) ?_
                  repeat (go_big_quiet_step ((go_at_call 21; exact fam_call (apart_b (mk l i) (mk l j) a _ ha1 ha2 HAP.out))))
                  refine wpQuiet_nil ?_
                  rintro _ ⟨z1, rfl⟩
                  clear F1 F2
                  have T := (HTj.out.step z1.prop)
                  go_wp2_with (at_builtin; refine wpList_append_any _ rfl (.tmp 70) (.tmp 74) _ rfl _ 47 i0 _ 2 16 Try.underlying36 hi0 hz0 hz1 hz2 rfl (by omega) (.slice B m cc) m _ rfl (T.alloc _).ownX _ _ 1 1 (encPt ((i : Int), (j : Int))) (by rfl) (fr1Q _ ((i : Int), (j : Int))) onePt (by simp only [maxLen]; omega) (by omega) (T.alloc _).base ?_; intro v7 w7 hown7 hg7 hat7; obtain ⟨A7, c7, rfl, hr7⟩ := own_reads hown7; rw [← HR.out] at hown7; have T := (T.alloc _).left hown7 hg7 hat7; clear hown7 hg7 hat7 hr7)
                  go_roundw
                  case rel => exact ⟨t + 1, m + 1, A7, c7, by have := HJ.out; omega, by have := HJ.out; go_num, rfl, by omega, T⟩
                  case measure => simp [intOf]; omega
                · have hle2 : lim < a := by omega
                  have HR : Hid (rowP (nearB l lim) i (t + 1) = rowP (nearB l lim) i t) := Lib.hid (rowP_no (by rw [HJ.out]; unfold nearB; rw [ha, decide_eq_false hle]))
                  clear ha hle
                  go_wp2_with fail
                  refine wp_region_fam (by kernel_rfl) (by kernel_rfl) ?_
                  repeat (go_big_quiet_step ((go_at_call 21; exact fam_call (apart_b (mk l i) (mk l j) a _ ha1 ha2 HAP.out))))
                  refine wpQuiet_nil ?_
                  rintro _ ⟨z1, rfl⟩
                  clear F1 F2
                  have T := (HTj.out.step z1.prop)
                  go_wp2_with fail
                  go_roundw
                  case rel => exact ⟨t + 1, m, B, cc, by have := HJ.out; omega, by have := HJ.out; go_num, rfl, by omega, by rw [HR.out]; exact T⟩
                  case measure => simp [intOf]; omega
              · have hte : t = k - 1 - i := by omega
                have HT2 : Hid (Two wo.heap.size wo wj 47 2 (.slice B m cc) m (cellsPt (allP (nearB l lim) k (i + 1))) 3 1 (.slice none 0 0) 0 []) := Lib.hid (by
                  show Two _ _ _ _ _ _ _ (cellsPt (allP _ _ _ ++ rowP _ _ (k - 1 - i))) _ _ _ _ _
                  rw [← hte]; exact hT)
                have hj2 : ¬ (j : Int) < k := by omega
                clear hT hbj hj hte
                go_wp2_with fail
                go_roundw
                case rel => exact ⟨i + 1, m, B, cc, by omega, by go_num, rfl, by omega, HT2.out⟩
                case measure => simp [intOf]; omega
          · obtain rfl : i = k := by omega
            have HR := Lib.hid (Reads.of_own HT.out.ownX)
            rw [HE.out] at HR
            have HBF := Lib.hid (below_next HBW.out (Nat.le_refl _) HT.out.below)
            go_wp2_with fail
            go_ret2
            exact retSE HR.out rfl HY2.out HBF.out
end Go.Proofs.Ytpipojgfpilhdaa
