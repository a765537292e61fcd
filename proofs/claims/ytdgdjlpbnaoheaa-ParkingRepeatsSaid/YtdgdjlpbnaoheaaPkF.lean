/- The photos that repeat no earlier one: the program's walk. -/
import Derived.Test.YtdgdjlpbnaoheaaPkE
import Derived.Test.YtdgdjlpbnaoheaaTwo
namespace Go.Proofs.Ytdgdjlpbnaoheaa
open Go.RowKit
def seenT (l : List Ph) : Nat → List Sn
  | 0 => []
  | k + 1 => if pcheckZ (phAt l k) = 0 then seenT l k ++ [⟨(phAt l k).ride, markN (phAt l k)⟩] else seenT l k
theorem seenT_len (l : List Ph) : ∀ k, (seenT l k).length ≤ k
  | 0 => Nat.le_refl _
  | k + 1 => by
    have := seenT_len l k
    unfold seenT
    split
    · rw [List.length_append]; simp; omega
    · omega
theorem seenT_lt (l : List Ph) : ∀ k, ∀ s ∈ seenT l k, s.mark < 18446744073709551616
  | 0, s, h => by cases h
  | k + 1, s, h => by
    unfold seenT at h
    split at h
    · rcases List.mem_append.1 h with h | h
      · exact seenT_lt l k s h
      · rw [List.mem_singleton.1 h]; exact markN_lt _
    · exact seenT_lt l k s h
theorem seenT_any (l : List Ph) (q : Sn → Bool) : ∀ k, k ≤ l.length → (seenT l k).any q = (l.take k).any fun y => decide (pcheckZ y = 0) && q ⟨y.ride, markN y⟩
  | 0, _ => by simp [seenT]
  | k + 1, h => by
    have ih := seenT_any l q k (by omega)
    rw [List.take_succ_eq_append_getElem (by omega), List.any_append, ← ih]
    show (if pcheckZ (phAt l k) = 0 then seenT l k ++ [⟨(phAt l k).ride, markN (phAt l k)⟩] else seenT l k).any q = _
    rw [phAt_get (by omega)]
    by_cases g : pcheckZ l[k] = 0
    · rw [if_pos g, List.any_append]; simp [g]
    · rw [if_neg g]; simp [g]
theorem seen_rep {l : List Ph} {k : Nat} (h : k ≤ l.length) {x : Ph} (hx : pcheckZ x = 0) : (seenT l k).any (snB x.ride (markN x)) = repB (l.take k) x := by
  rw [seenT_any l _ k h]
  unfold repB snB
  rw [decide_eq_true hx, Bool.true_and]
  congr 1
  funext y
  rw [Bool.and_assoc]
theorem rep_bad {l : List Ph} {x : Ph} (hx : pcheckZ x ≠ 0) : repB l x = false := by unfold repB; rw [decide_eq_false hx]; rfl
theorem orig_step {l : List Ph} {k : Nat} (h : k < l.length) : origT l (k + 1) = if repB (l.take k) l[k] = true then origT l k else origT l k ++ [l[k]] := by
  show (if repB (l.take k) (phAt l k) = true then origT l k else origT l k ++ [phAt l k]) = _
  rw [phAt_get h]
theorem seen_step {l : List Ph} {k : Nat} (h : k < l.length) : seenT l (k + 1) = if pcheckZ l[k] = 0 then seenT l k ++ [⟨l[k].ride, markN l[k]⟩] else seenT l k := by
  show (if pcheckZ (phAt l k) = 0 then seenT l k ++ [⟨(phAt l k).ride, markN (phAt l k)⟩] else seenT l k) = _
  rw [phAt_get h]
theorem snocSn (l : List Sn) (s : Sn) : cellsSn (l ++ [s]) = cellsSn l ++ [.int .i64 s.ride, .int .u64 (s.mark : Int)] := by simp [cellsSn, encSn]
theorem snocF (l : List Ph) (p : Ph) : cellsF (l ++ [p]) = cellsF l ++ [.int .i64 p.ride, .int .i64 p.tm, .int .i64 p.W, .int .i64 p.H, .slice p.A p.n p.c] := by simp [cellsF, encF]
theorem oneSn {a b : Int} : ∀ u ∈ [Value.int .i64 a, .int .u64 b], u.oneCell' = true := by simp [Value.oneCell']
theorem oneF {p : Ph} : ∀ u ∈ [Value.int .i64 p.ride, .int .i64 p.tm, .int .i64 p.W, .int .i64 p.H, .slice p.A p.n p.c], u.oneCell' = true := by simp [Value.oneCell']
theorem infoSn : (Try.prog.info? 88).map (fun i => (i.zero, i.size, i.bytes)) = some (some (.agg #[.int .i64 0, .int .u64 0]), 2, 16) := by kernel_rfl
theorem infoPh : (Try.prog.info? 46).map (fun i => (i.zero, i.size, i.bytes)) = some (some (.agg #[.int .i64 0, .int .i64 0, .int .i64 0, .int .i64 0, .slice none 0 0]), 5, 56) := by kernel_rfl
theorem frSn (u : World) (a b : Int) : Reads (u.alloc (.cells #[.int .i64 a, .int .u64 b] 88)) (u.heap.size + 1) 2 (some ⟨u.heap.size, 0, none⟩) 1 [.int .i64 a, .int .u64 b] := by simpa using Reads.fresh1 u 88 #[.int .i64 a, .int .u64 b] 2 rfl
theorem frF (u : World) (p : Ph) : Reads (u.alloc (.cells #[.int .i64 p.ride, .int .i64 p.tm, .int .i64 p.W, .int .i64 p.H, .slice p.A p.n p.c] 46)) (u.heap.size + 1) 5 (some ⟨u.heap.size, 0, none⟩) 1 [.int .i64 p.ride, .int .i64 p.tm, .int .i64 p.W, .int .i64 p.H, .slice p.A p.n p.c] := by simpa using Reads.fresh1 u 46 #[.int .i64 p.ride, .int .i64 p.tm, .int .i64 p.W, .int .i64 p.H, .slice p.A p.n p.c] 5 rfl
theorem frF2 (u : World) (o : Obj) (p : Ph) : Reads ((u.alloc o).alloc (.cells #[.int .i64 p.ride, .int .i64 p.tm, .int .i64 p.W, .int .i64 p.H, .slice p.A p.n p.c] 46)) (u.heap.size + 1 + 1) 5 (some ⟨u.heap.size + 1, 0, none⟩) 1 [.int .i64 p.ride, .int .i64 p.tm, .int .i64 p.W, .int .i64 p.H, .slice p.A p.n p.c] := by simpa using Reads.fresh2 u o 46 #[.int .i64 p.ride, .int .i64 p.tm, .int .i64 p.W, .int .i64 p.H, .slice p.A p.n p.c] 5 rfl
/-- A list of photos comes back. -/
def RetPs (w : World) (l : List Ph) (e : Ending) (w' : World) : Prop := ∃ A n c, e = .returned (.slice A n c) ∧ PsR w' A n l ∧ Below w.heap.size w w'
set_option maxHeartbeats 8000000 in
set_option maxRecDepth 10000 in
theorem originals_any (A : Option Addr) (n c : Nat) (l : List Ph) (w : World) (h : PsR w A n l) (hn : n ≤ 64) : Calls Try.prog 31 #[.slice A n c] w (RetPs w (origL l)) := by
  obtain ⟨i0, hi0, hz0, hz1, hz2⟩ := info_parts infoSn
  obtain ⟨i1, hi1, hy0, hy1, hy2⟩ := info_parts infoPh
  have HL := Lib.hid h.2.2
  have HZA : Hid (∀ u, Below w.heap.size w u → PsR u A n l) := Lib.hid fun u hu => h.below hu
  have hmf := mf_
  have HT0 : Hid (Two w.heap.size w w 88 2 (.slice none 0 0) 0 [] 46 5 (.slice none 0 0) 0 []) := Lib.hid ⟨Below.refl _ _, Nat.le_refl _, World.ownsRow_nil _ _ _ _, World.ownsRow_nil _ _ _ _, fun g h => by simp [Value.ownBlock] at h⟩
  clear h
  go_enter Try.func31, Try.ntmps31
  go_wp2_with fail
  go_loopw [3, 4, 12] (fun s1 s2 s3 wr => ∃ (i j1 j2 : Nat) (A1 : Option Addr) (c1 : Nat) (A2 : Option Addr) (c2 : Nat), i ≤ n ∧ s1 = .slice A1 j1 c1 ∧ s2 = .slice A2 j2 c2 ∧ s3 = .int .i64 i ∧ Hid (j1 = (seenT l i).length) ∧ Hid (j2 = (origT l i).length) ∧ Two w.heap.size w wr 88 2 (.slice A1 j1 c1) j1 (cellsSn (seenT l i)) 46 5 (.slice A2 j2 c2) j2 (cellsF (origT l i))) (fun _ _ s _ => n - (intOf s).toNat)
  case atStart => exact ⟨0, 0, 0, none, 0, none, 0, Nat.zero_le _, rfl, rfl, rfl, Lib.hid rfl, Lib.hid rfl, HT0.out⟩
  case round =>
    obtain ⟨i, j1, j2, A1, c1, A2, c2, hi, rfl, rfl, rfl, HJ1, HJ2, hT⟩ := hrel
    have HT := Lib.hid hT
    have HBW := Lib.hid hT.below
    have HZr := Lib.hid (HZA.out _ HBW.out)
    have hj1 : j1 ≤ i := by rw [HJ1.out]; exact seenT_len l i
    have hj2 : j2 ≤ i := by rw [HJ2.out]; exact origT_len l i
    clear hT
    by_cases hlt : i < n
    · have hkl : i < l.length := by have := HL.out; omega
      obtain ⟨b, off, rfl, hb, hc⟩ := HZr.out.cells (by omega)
      obtain ⟨d0, d1, d2, d3, d4⟩ := hc i hkl
      have hk0 : (0 : Int) ≤ i := by omega
      have hk1 : (i : Int) < n := by omega
      have HSO := Lib.hid (orig_step hkl); have HSS := Lib.hid (seen_step hkl)
      have HSR : Hid (pcheckZ l[i] = 0 → (seenT l i).any (snB l[i].ride (markN l[i])) = repB (l.take i) l[i]) := Lib.hid fun g => seen_rep (by omega) g
      obtain ⟨x, hz⟩ : ∃ x, l[i] = x := ⟨_, rfl⟩
      rw [hz] at d0 d1 d2 d3 d4 HSO HSS HSR
      have HPR : Hid (PR wr x) := Lib.hid (by rw [← hz]; exact HZr.out.2.1 _ (List.getElem_mem hkl))
      obtain ⟨B0, hbb⟩ := box1 wr 46 #[.int .i64 x.ride, .int .i64 x.tm, .int .i64 x.W, .int .i64 x.H, .slice x.A x.n x.c]
      have HB0 := Lib.hid B0; have HBX := Lib.hid hbb
      have HT1 := Lib.hid (HT.out.alloc (.cells #[.int .i64 x.ride, .int .i64 x.tm, .int .i64 x.W, .int .i64 x.H, .slice x.A x.n x.c] 46))
      have e0 := (B0.cell 0).trans rfl; have e1 := (B0.cell 1).trans rfl; have e2 := (B0.cell 2).trans rfl; have e3 := (B0.cell 3).trans rfl; have e4 := (B0.cell 4).trans rfl
      have HLX := Lib.hid HT.out.ltX; have HLY := Lib.hid HT.out.ltY
      clear hc hz B0 hbb
      obtain ⟨y, hy⟩ : ∃ y, pcheckZ x = y := ⟨_, rfl⟩
      obtain ⟨mk, hmk⟩ : ∃ m, markN x = m := ⟨_, rfl⟩
      have hmlt : mk < 18446744073709551616 := by rw [← hmk]; exact markN_lt x
      have HY := Lib.hid hy; have HMK := Lib.hid hmk
      clear hy hmk
      have HNO : Hid (repB (l.take i) x = false → origT l (i + 1) = origT l i ++ [x]) := Lib.hid fun g => by rw [HSO.out, if_neg (by rw [g]; decide)]
      have HYES : Hid (repB (l.take i) x = true → origT l (i + 1) = origT l i) := Lib.hid fun g => by rw [HSO.out, if_pos g]
      by_cases h0 : y = 0
      case neg =>
        have HS2 : Hid (seenT l (i + 1) = seenT l i) := Lib.hid (by rw [HSS.out, if_neg (by rw [HY.out]; exact h0)])
        have HO2 : Hid (origT l (i + 1) = origT l i ++ [x]) := Lib.hid (HNO.out (rep_bad (by rw [HY.out]; exact h0)))
        have t0 := eq0_f h0
        clear h0
        go_wp2_with fail
        refine (mark_any x mk y _ (HPR.out.below HBX.out) HMK.out HY.out).mono ?_
        rintro e w2 ⟨rfl, hb2⟩
        have HB2 := Lib.hid (HB0.out.ofBelow hb2)
        have HT3 := Lib.hid ((HT1.out.stepB hb2).alloc (.cells #[.int .u64 (mk : Int)] 41))
        have HB3 := Lib.hid (HB2.out.alloc (.cells #[.int .u64 (mk : Int)] 41))
        clear hb2 e0 e1 e2 e3 e4 d0 d1 d2 d3 d4
        have e0 := (HB3.out.cell 0).trans rfl; have e1 := (HB3.out.cell 1).trans rfl; have e2 := (HB3.out.cell 2).trans rfl; have e3 := (HB3.out.cell 3).trans rfl; have e4 := (HB3.out.cell 4).trans rfl
        have T := HT3.out
        go_wp2_with (at_builtin; refine wpList_append_any _ rfl (.tmp 39) (.tmp 41) _ rfl _ 46 i1 _ 5 56 Try.underlying23 hi1 hy0 hy1 hy2 rfl (by omega) (.slice A2 j2 c2) j2 _ rfl (T.alloc _).ownY _ _ 1 1 [.int .i64 x.ride, .int .i64 x.tm, .int .i64 x.W, .int .i64 x.H, .slice x.A x.n x.c] (by rfl) (frF2 _ _ x) oneF (by simp only [maxLen]; omega) (by omega) (T.alloc _).base ?_; intro v7 w7 hown7 hg7 hat7; obtain ⟨A7, c7, rfl, hr7⟩ := own_reads hown7; rw [← snocF] at hown7; have T := (T.alloc _).right hown7 hg7 hat7; clear hown7 hg7 hat7 hr7)
        go_roundw
        case rel => exact ⟨i + 1, j1, j2 + 1, A1, c1, A7, c7, by omega, rfl, rfl, by go_num, Lib.hid (by rw [HS2.out]; exact HJ1.out), Lib.hid (by rw [HO2.out, List.length_append, ← HJ2.out]; rfl), by rw [HS2.out, HO2.out]; exact T⟩
        case measure => simp [intOf]; omega
      subst h0
      have HS2 : Hid (seenT l (i + 1) = seenT l i ++ [⟨x.ride, mk⟩]) := Lib.hid (by rw [HSS.out, if_pos HY.out, HMK.out])
      have HQ : Hid ((seenT l i).any (snB x.ride mk) = repB (l.take i) x) := Lib.hid (by rw [← HMK.out]; exact HSR.out HY.out)
      rcases hq : (seenT l i).any (snB x.ride mk) with _ | _
      · have HO2 : Hid (origT l (i + 1) = origT l i ++ [x]) := Lib.hid (HNO.out (by rw [← HQ.out]; exact hq))
        have HAN := Lib.hid hq
        clear hq
        go_wp2_with fail
        refine (mark_any x mk 0 _ (HPR.out.below HBX.out) HMK.out HY.out).mono ?_
        rintro e w2 ⟨rfl, hb2⟩
        have HB2 := Lib.hid (HB0.out.ofBelow hb2)
        have HT3 := Lib.hid ((HT1.out.stepB hb2).alloc (.cells #[.int .u64 (mk : Int)] 41))
        have HB3 := Lib.hid (HB2.out.alloc (.cells #[.int .u64 (mk : Int)] 41))
        have HU3 := Lib.hid (Blk.new w2 41 #[.int .u64 (mk : Int)])
        clear hb2 e0 e1 e2 e3 e4 d0 d1 d2 d3 d4
        have HSN : Hid (SnR (w2.alloc (.cells #[.int .u64 (mk : Int)] 41)) A1 j1 (seenT l i)) := Lib.hid ⟨Reads.of_own HT3.out.ownX, HJ1.out.symm⟩
        go_wp2_with fail
        refine (containsSn_any A1 j1 c1 (seenT l i) _ _ (snB x.ride mk) _ _ HSN.out (by omega) (fun s hs u hu => snclos_any s x.ride mk _ _ _ u (seenT_lt l i s hs) hmlt (fun u' hu' => ((HB3.out.ofBelow hu).ofBelow hu').cell 0) (fun u' hu' => ((HU3.out.ofBelow hu).ofBelow hu').cell 0) rfl) HAN.out).mono ?_
        rintro e w5 ⟨rfl, hb5⟩
        have HT5 := Lib.hid (HT3.out.stepB hb5)
        have HB5 := Lib.hid (HB3.out.ofBelow hb5)
        have HU5 := Lib.hid (HU3.out.ofBelow hb5)
        clear hb5
        have e0 := (HB5.out.cell 0).trans rfl; have e1 := (HB5.out.cell 1).trans rfl; have e2 := (HB5.out.cell 2).trans rfl; have e3 := (HB5.out.cell 3).trans rfl; have e4 := (HB5.out.cell 4).trans rfl
        have u0 := (HU5.out.cell 0).trans rfl
        have T := HT5.out
        go_wp2_with (first | (at_builtin; refine wpList_append_any _ rfl (.tmp 30) (.tmp 35) _ rfl _ 88 i0 _ 2 16 Try.underlying85 hi0 hz0 hz1 hz2 rfl (by omega) (.slice A1 j1 c1) j1 _ rfl (T.alloc _).ownX _ _ 1 1 [.int .i64 x.ride, .int .u64 (mk : Int)] (by rfl) (frSn _ _ _) oneSn (by simp only [maxLen]; omega) (by omega) (T.alloc _).base ?_; intro v7 w7 hown7 hg7 hat7; obtain ⟨A7, c7, rfl, hr7⟩ := own_reads hown7; rw [← snocSn _ ⟨x.ride, mk⟩] at hown7; have T := (T.alloc _).left hown7 hg7 hat7; have BP := (HB5.out.alloc (.cells #[.int .i64 x.ride, .int .u64 (mk : Int)] 88)).grown hg7 (fun e => absurd (HLX.out _ e.symm) (Nat.lt_irrefl _)); clear e0 e1 e2 e3 e4 u0; have e0 := (BP.cell 0).trans rfl; have e1 := (BP.cell 1).trans rfl; have e2 := (BP.cell 2).trans rfl; have e3 := (BP.cell 3).trans rfl; have e4 := (BP.cell 4).trans rfl; clear BP hown7 hg7 hat7 hr7) | (at_builtin; refine wpList_append_any _ rfl (.tmp 39) (.tmp 41) _ rfl _ 46 i1 _ 5 56 Try.underlying23 hi1 hy0 hy1 hy2 rfl (by omega) (.slice A2 j2 c2) j2 _ rfl (T.alloc _).ownY _ _ 1 1 [.int .i64 x.ride, .int .i64 x.tm, .int .i64 x.W, .int .i64 x.H, .slice x.A x.n x.c] (by rfl) (frF _ x) oneF (by simp only [maxLen]; omega) (by omega) (T.alloc _).base ?_; intro v8 w8 hown8 hg8 hat8; obtain ⟨A8, c8, rfl, hr8⟩ := own_reads hown8; rw [← snocF] at hown8; have T := (T.alloc _).right hown8 hg8 hat8; clear hown8 hg8 hat8 hr8))
        go_roundw
        case rel => exact ⟨i + 1, j1 + 1, j2 + 1, A7, c7, A8, c8, by omega, rfl, rfl, by go_num, Lib.hid (by rw [HS2.out, List.length_append, ← HJ1.out]; rfl), Lib.hid (by rw [HO2.out, List.length_append, ← HJ2.out]; rfl), by rw [HS2.out, HO2.out]; exact T⟩
        case measure => simp [intOf]; omega
      · have HO2 : Hid (origT l (i + 1) = origT l i) := Lib.hid (HYES.out (by rw [← HQ.out]; exact hq))
        have HAN := Lib.hid hq
        clear hq
        go_wp2_with fail
        refine (mark_any x mk 0 _ (HPR.out.below HBX.out) HMK.out HY.out).mono ?_
        rintro e w2 ⟨rfl, hb2⟩
        have HB2 := Lib.hid (HB0.out.ofBelow hb2)
        have HT3 := Lib.hid ((HT1.out.stepB hb2).alloc (.cells #[.int .u64 (mk : Int)] 41))
        have HB3 := Lib.hid (HB2.out.alloc (.cells #[.int .u64 (mk : Int)] 41))
        have HU3 := Lib.hid (Blk.new w2 41 #[.int .u64 (mk : Int)])
        clear hb2 e0 e1 e2 e3 e4 d0 d1 d2 d3 d4
        have HSN : Hid (SnR (w2.alloc (.cells #[.int .u64 (mk : Int)] 41)) A1 j1 (seenT l i)) := Lib.hid ⟨Reads.of_own HT3.out.ownX, HJ1.out.symm⟩
        go_wp2_with fail
        refine (containsSn_any A1 j1 c1 (seenT l i) _ _ (snB x.ride mk) _ _ HSN.out (by omega) (fun s hs u hu => snclos_any s x.ride mk _ _ _ u (seenT_lt l i s hs) hmlt (fun u' hu' => ((HB3.out.ofBelow hu).ofBelow hu').cell 0) (fun u' hu' => ((HU3.out.ofBelow hu).ofBelow hu').cell 0) rfl) HAN.out).mono ?_
        rintro e w5 ⟨rfl, hb5⟩
        have HT5 := Lib.hid (HT3.out.stepB hb5)
        have HB5 := Lib.hid (HB3.out.ofBelow hb5)
        have HU5 := Lib.hid (HU3.out.ofBelow hb5)
        clear hb5
        have e0 := (HB5.out.cell 0).trans rfl; have e1 := (HB5.out.cell 1).trans rfl; have e2 := (HB5.out.cell 2).trans rfl; have e3 := (HB5.out.cell 3).trans rfl; have e4 := (HB5.out.cell 4).trans rfl
        have u0 := (HU5.out.cell 0).trans rfl
        have T := HT5.out
        go_wp2_with (at_builtin; refine wpList_append_any _ rfl (.tmp 30) (.tmp 35) _ rfl _ 88 i0 _ 2 16 Try.underlying85 hi0 hz0 hz1 hz2 rfl (by omega) (.slice A1 j1 c1) j1 _ rfl (T.alloc _).ownX _ _ 1 1 [.int .i64 x.ride, .int .u64 (mk : Int)] (by rfl) (frSn _ _ _) oneSn (by simp only [maxLen]; omega) (by omega) (T.alloc _).base ?_; intro v7 w7 hown7 hg7 hat7; obtain ⟨A7, c7, rfl, hr7⟩ := own_reads hown7; rw [← snocSn _ ⟨x.ride, mk⟩] at hown7; have T := (T.alloc _).left hown7 hg7 hat7; have BP := (HB5.out.alloc (.cells #[.int .i64 x.ride, .int .u64 (mk : Int)] 88)).grown hg7 (fun e => absurd (HLX.out _ e.symm) (Nat.lt_irrefl _)); clear e0 e1 e2 e3 e4 u0; have e0 := (BP.cell 0).trans rfl; have e1 := (BP.cell 1).trans rfl; have e2 := (BP.cell 2).trans rfl; have e3 := (BP.cell 3).trans rfl; have e4 := (BP.cell 4).trans rfl; clear BP hown7 hg7 hat7 hr7)
        go_roundw
        case rel => exact ⟨i + 1, j1 + 1, j2, A7, c7, A2, c2, by omega, rfl, rfl, by go_num, Lib.hid (by rw [HS2.out, List.length_append, ← HJ1.out]; rfl), Lib.hid (by rw [HO2.out]; exact HJ2.out), by rw [HS2.out, HO2.out]; exact T⟩
        case measure => simp [intOf]; omega
    · have hle : i = l.length := by have := HL.out; omega
      have HOO : Hid (origT l i = origL l) := Lib.hid (by rw [hle]; rfl)
      have HR : Hid (PsR wr A2 j2 (origL l)) := Lib.hid ⟨by rw [← HOO.out]; exact Reads.of_own HT.out.ownY, fun p hp => HZr.out.2.1 p (by rw [← HOO.out] at hp; exact origT_mem l i (by omega) p hp), by rw [← HOO.out]; exact HJ2.out.symm⟩
      clear hle
      go_wp2_with fail
      go_ret
      exact ⟨A2, j2, c2, rfl, HR.out, HBW.out⟩
end Go.Proofs.Ytdgdjlpbnaoheaa
