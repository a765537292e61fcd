/- The walks of parts.Store's methods that only read: what a store holds, and what each says of it. -/
import Derived.Test.YthbmofijdhfeeaaBasic
namespace Go.Proofs.Ythbmofijdhfeeaa
open Go.RowKit Go.Maps Go.WideMaps
theorem intLaw : Keyed Try.prog 3 := int_keyed Try.underlying3
theorem zero3 (w : World) : (zeroValue 3).run Try.prog w = .ok (.int .i64 0) w := by kernel_rfl
theorem Try.info78 : (Try.prog.info? 78).map (fun i => (i.zero, i.size, i.bytes)) = some (some (.agg #[.int .i64 0, .int .i64 0, .int .i64 0, .int .i64 0, .int .i64 0]), 5, 40) := by kernel_rfl
theorem Try.info47 : (Try.prog.info? 47).map (fun i => (i.zero, i.size, i.bytes)) = some (some (.agg #[.int .i64 0, .int .i64 0, .int .i64 0, .int .i64 0]), 4, 32) := by kernel_rfl
theorem Try.info58 : (Try.prog.info? 58).map (fun i => (i.zero, i.size, i.bytes)) = some (some (.agg #[.int .i64 0, .int .i64 0]), 2, 16) := by kernel_rfl
theorem Try.info3 : (Try.prog.info? 3).map (fun i => (i.zero, i.size, i.bytes)) = some (some (.int .i64 0), 1, 8) := by kernel_rfl
def placeR (l : List Lt) : Lit → Option Int
  | .int .i64 r => (idx l r).map fun i => (i : Int)
  | _ => none
theorem placeR_int (l : List Lt) (r : Int) : placeR l (.int .i64 r) = (idx l r).map fun i => (i : Int) := rfl
theorem placeR_lots {l m : List Lt} (h : l.map (·.1) = m.map (·.1)) : placeR l = placeR m := by
  funext kl
  unfold placeR
  split
  · rw [idx_lots _ h]
  · rfl
theorem placeR_snoc {l : List Lt} {x : Lt} (h : idx l x.1.1 = none) : updL (placeR l) (.int .i64 x.1.1) (l.length : Int) = placeR (l ++ [x]) := by
  funext kl
  by_cases e : kl = .int .i64 x.1.1
  · subst e
    rw [updL_same, placeR_int, idx_snoc _ h, if_pos rfl]
    rfl
  · rw [updL_other _ e]
    unfold placeR
    split
    · rename_i r
      rw [idx_snoc _ h, if_neg]
      intro h2
      exact e (by rw [h2])
    · rfl
theorem one_cellsX (l : List Lt) : ∀ u ∈ cellsX l, u.oneCell' = true := by
  intro u hu
  obtain ⟨p, _, hp⟩ := List.mem_flatMap.1 hu
  simp only [encX, List.mem_cons, List.not_mem_nil, or_false] at hp
  rcases hp with rfl | rfl | rfl | rfl | rfl <;> rfl
theorem one_encX (p : Lt) : ∀ u ∈ encX p, u.oneCell' = true := by
  intro u hu
  simp only [encX, List.mem_cons, List.not_mem_nil, or_false] at hu
  rcases hu with rfl | rfl | rfl | rfl | rfl <;> rfl
theorem one_encL (p : L4) : ∀ u ∈ encL p, u.oneCell' = true := by
  intro u hu
  simp only [encL, List.mem_cons, List.not_mem_nil, or_false] at hu
  rcases hu with rfl | rfl | rfl | rfl <;> rfl
theorem one_cellsL (l : List L4) : ∀ u ∈ cellsL l, u.oneCell' = true := by
  intro u hu
  obtain ⟨p, _, hp⟩ := List.mem_flatMap.1 hu
  exact one_encL p u hp
theorem one_encT (p : T2) : ∀ u ∈ encT p, u.oneCell' = true := by
  intro u hu
  simp only [encT, List.mem_cons, List.not_mem_nil, or_false] at hu
  rcases hu with rfl | rfl <;> rfl
theorem one_cellsI (l : List Int) : ∀ u ∈ cellsI l, u.oneCell' = true := by
  intro u hu
  obtain ⟨x, _, rfl⟩ := List.mem_map.1 hu
  rfl
theorem snocL (l : List L4) (p : L4) : cellsL (l ++ [p]) = cellsL l ++ encL p := by simp [cellsL]
theorem snocT (l : List T2) (p : T2) : cellsT (l ++ [p]) = cellsT l ++ encT p := by simp [cellsT]
theorem snocI (l : List Int) (p : Int) : cellsI (l ++ [p]) = cellsI l ++ [.int .i64 p] := by simp [cellsI]
/-- Block g is a store with the entries l, all its memory in the blocks of F. -/
def StoreF (w : World) (F : Nat → Prop) (g : Nat) (l : List Lt) : Prop :=
  F g ∧ (∀ k, F k → k < w.heap.size) ∧ ∃ A n c m, Blk w g 72 #[.slice A n c, .map (some m)] ∧ F m ∧ w.ownsRow 0 78 5 (.slice A n c) n (cellsX l) ∧ MapI Try.prog 3 3 w m n (placeR l) ∧ ∀ k, (Value.slice A n c).ownBlock = some k → F k
theorem StoreF.keep {w w' : World} {F F0 : Nat → Prop} {g : Nat} {l : List Lt} (h : StoreF w F g l) (ho : Only F0 w w') (hd : ∀ k, F k → ¬ F0 k) : StoreF w' F g l := by
  obtain ⟨h1, h0, A, n, c, m, h2, h3, h4, h5, h6⟩ := h
  exact ⟨h1, fun k hk => Nat.lt_of_lt_of_le (h0 k hk) ho.size, A, n, c, m, ho.blk h2 (hd g h1), h3, ho.own h4 (fun k hk => hd k (h6 k hk)), ho.mapI h5 (hd m h3), h6⟩
theorem StoreF.below {w w' : World} {F : Nat → Prop} {g : Nat} {l : List Lt} (h : StoreF w F g l) (hb : Below w.heap.size w w') : StoreF w' F g l := h.keep (Only.of_new hb fun _ => False) fun _ _ e => e
theorem StoreF.more {w : World} {F F' : Nat → Prop} {g : Nat} {l : List Lt} (h : StoreF w F g l) (hF : ∀ k, F k → F' k) (hlt : ∀ k, F' k → k < w.heap.size) : StoreF w F' g l := by
  obtain ⟨h1, h0, A, n, c, m, h2, h3, h4, h5, h6⟩ := h
  exact ⟨hF _ h1, hlt, A, n, c, m, h2, hF _ h3, h4, h5, fun k hk => hF k (h6 k hk)⟩
theorem StoreF.reads {w : World} {F : Nat → Prop} {g : Nat} {l : List Lt} (h : StoreF w F g l) : ∃ A n c m, Blk w g 72 #[.slice A n c, .map (some m)] ∧ Reads w w.heap.size 5 A n (cellsX l) ∧ l.length = n := by
  obtain ⟨h1, h0, A, n, c, m, h2, h3, h4, h5, h6⟩ := h
  exact ⟨A, n, c, m, h2, Reads.of_own h4, recs_len (Reads.of_own h4) encX_len (by omega)⟩

/-! Count. -/
set_option maxHeartbeats 1000000 in
set_option maxRecDepth 10000 in
theorem count_any (F : Nat → Prop) (g : Nat) (l : List Lt) (k x : Int) (w : World) (h : StoreF w F g l) (hf : fine l) (hx : countN l k = x) :
    Calls Try.prog 14 #[.pointer (some ⟨g, 0, none⟩), .int .i64 k] w (RetI w x) := by
  obtain ⟨A, n, c, m, hB, hr, hl⟩ := h.reads
  have hg := h.2.1 g h.1
  have hn : n ≤ 512 := by have := hf.1; omega
  have c0 := hB.cell 0
  have HX := Lib.hid hx
  have HL := Lib.hid hl
  clear h hl hx
  go_enter Try.func14, Try.ntmps14
  go_wp2_with fail
  go_loopw [5, 15] (fun s i wr => ∃ j : Nat, j ≤ n ∧ i = .int .i64 j ∧ s = .int .i64 (countN (l.take j) k) ∧ Below w.heap.size w wr) (fun _ i _ => n - (intOf i).toNat)
  case atStart => exact ⟨0, Nat.zero_le _, rfl, rfl, Below.refl _ _⟩
  case round =>
    obtain ⟨j, hj, rfl, rfl, hbw⟩ := hrel
    by_cases hlt : j < n
    · have hjl : j < l.length := by have := HL.out; omega
      obtain ⟨b, off, rfl, hb2, hcc⟩ := (hr.below hbw).recs encX_len (by omega) (by omega)
      have d0 : wr.cell? ⟨b, off + j * 5, none⟩ = some (.int .i64 l[j].1.1) := hcc j hjl 0 _ rfl
      have d1 : wr.cell? ⟨b, off + j * 5 + 1, none⟩ = some (.int .i64 l[j].1.2.1) := hcc j hjl 1 _ rfl
      have d2 : wr.cell? ⟨b, off + j * 5 + 2, none⟩ = some (.int .i64 l[j].1.2.2.1) := hcc j hjl 2 _ rfl
      have d3 : wr.cell? ⟨b, off + j * 5 + 3, none⟩ = some (.int .i64 l[j].1.2.2.2) := hcc j hjl 3 _ rfl
      have d4 : wr.cell? ⟨b, off + j * 5 + 4, none⟩ = some (.int .i64 l[j].2) := hcc j hjl 4 _ rfl
      have hj0 : (0 : Int) ≤ j := by omega
      have hj1 : (j : Int) < n := by omega
      have b1 := countN_le l k j (fine_left hf) hf.1
      have b2 := fine_left hf _ (List.getElem_mem hjl)
      have HT := Lib.hid (countN_take hjl k)
      obtain ⟨b3, b4⟩ := b1
      obtain ⟨b5, b6⟩ := b2
      clear hcc
      by_cases he : l[j].1.2.1 = k
      · have t1 : (l[j].1.2.1 == k) = true := beq_iff_eq.2 he
        have HT2 : Hid (countN (l.take (j + 1)) k = countN (l.take j) k + l[j].2) := Lib.hid (by rw [HT.out, if_pos he])
        clear he
        go_wp2_with fail
        go_roundw
        case rel => exact ⟨j + 1, by omega, by go_num, by rw [HT2.out], hbw.trans ((below_alloc (Below.refl _ _) (Nat.le_refl _) _).mono hbw.size)⟩
        case measure => simp [intOf]; omega
      · have t1 : (l[j].1.2.1 == k) = false := beq_eq_false_iff_ne.2 he
        have HT2 : Hid (countN (l.take (j + 1)) k = countN (l.take j) k) := Lib.hid (by rw [HT.out, if_neg he, Int.add_zero])
        clear he
        go_wp2_with fail
        go_roundw
        case rel => exact ⟨j + 1, by omega, by go_num, by rw [HT2.out], hbw.trans ((below_alloc (Below.refl _ _) (Nat.le_refl _) _).mono hbw.size)⟩
        case measure => simp [intOf]; omega
    · have HE : Hid (countN (l.take j) k = x) := Lib.hid (by rw [List.take_of_length_le (by have := HL.out; omega), HX.out])
      go_wp2_with fail
      go_ret
      exact ⟨ret_int HE.out, hbw⟩
theorem count_nil (k : Int) (w : World) : Calls Try.prog 14 #[.pointer none, .int .i64 k] w fun e w' => e = .returned (.int .i64 0) ∧ w = w' := by
  go_enter Try.func14, Try.ntmps14
  go_wp2_with fail
  go_ret
  exact ⟨rfl, rfl⟩

/-! Lots. -/
theorem lotsL_take {l : List Lt} {j : Nat} (hj : j < l.length) : lotsL (l.take (j + 1)) = lotsL (l.take j) ++ [(l[j].1.1, l[j].1.2.1, l[j].2, l[j].1.2.2.2)] := by
  unfold lotsL
  rw [List.take_succ_eq_append_getElem hj, List.map_append]
  rfl
set_option maxHeartbeats 1000000 in
set_option maxRecDepth 10000 in
theorem lots_any (F : Nat → Prop) (g : Nat) (l : List Lt) (w : World) (h : StoreF w F g l) (hf : l.length ≤ 512) :
    Calls Try.prog 15 #[.pointer (some ⟨g, 0, none⟩)] w (RetOwn w 47 4 (cellsL (lotsL l))) := by
  obtain ⟨i0, hi0, hz0, hz1, hz2⟩ := info_parts Try.info47
  obtain ⟨A, n, c, m, hB, hr, hl⟩ := h.reads
  have hg := h.2.1 g h.1
  have hn : n ≤ 512 := by omega
  have c0 := hB.cell 0
  have HL := Lib.hid hl
  clear h hl hf
  go_enter Try.func15, Try.ntmps15
  go_wp2_with fail
  go_loopw [3, 13] (fun out i wr => ∃ (j : Nat) (A1 : Option Addr) (c1 : Nat), j ≤ n ∧ i = .int .i64 j ∧ out = .slice A1 j c1 ∧ wr.ownsRow w.heap.size 47 4 (.slice A1 j c1) j (cellsL (lotsL (l.take j))) ∧ Below w.heap.size w wr) (fun _ i _ => n - (intOf i).toNat)
  case atStart => exact ⟨0, none, 0, Nat.zero_le _, rfl, rfl, World.ownsRow_nil _ _ _ _, Below.refl _ _⟩
  case round =>
    obtain ⟨j, A1, c1, hj, rfl, rfl, hown, hbw⟩ := hrel
    have HO := Lib.hid hown
    clear hown
    by_cases hlt : j < n
    · have hjl : j < l.length := by have := HL.out; omega
      obtain ⟨b, off, rfl, hb2, hcc⟩ := (hr.below hbw).recs encX_len (by omega) (by omega)
      have d0 : wr.cell? ⟨b, off + j * 5, none⟩ = some (.int .i64 l[j].1.1) := hcc j hjl 0 _ rfl
      have d1 : wr.cell? ⟨b, off + j * 5 + 1, none⟩ = some (.int .i64 l[j].1.2.1) := hcc j hjl 1 _ rfl
      have d2 : wr.cell? ⟨b, off + j * 5 + 2, none⟩ = some (.int .i64 l[j].1.2.2.1) := hcc j hjl 2 _ rfl
      have d3 : wr.cell? ⟨b, off + j * 5 + 3, none⟩ = some (.int .i64 l[j].1.2.2.2) := hcc j hjl 3 _ rfl
      have d4 : wr.cell? ⟨b, off + j * 5 + 4, none⟩ = some (.int .i64 l[j].2) := hcc j hjl 4 _ rfl
      have hj0 : (0 : Int) ≤ j := by omega
      have hj1 : (j : Int) < n := by omega
      have hsw := hbw.size
      have HT := Lib.hid (lotsL_take hjl)
      clear hcc
      go_wp2_with (at_builtin; go_loud (
                   refine wpList_append_any _ rfl (.tmp 21) (.tmp 24) _ rfl w.heap.size 47 i0 _ 4 32 Try.underlying22 hi0 hz0 hz1 hz2 rfl (by omega) (.slice A1 j c1) j (cellsL (lotsL (l.take j))) rfl ((HO.out.alloc _).alloc _) (wr.heap.size + 1 + 1) (some ⟨wr.heap.size + 1, 0, none⟩) 1 1 (encL (l[j].1.1, l[j].1.2.1, l[j].2, l[j].1.2.2.2)) rfl ?_ (one_encL _) (by simp only [maxLen]; omega) (by omega) (by simp; omega) ?_
                   · simpa [encL] using Reads.fresh (wr.alloc (.cells #[.int .i64 l[j].1.1, .int .i64 l[j].1.2.1, .int .i64 l[j].2, .int .i64 l[j].1.2.2.2, .int .i64 l[j].2] 78)) 47 #[.int .i64 l[j].1.1, .int .i64 l[j].1.2.1, .int .i64 l[j].2, .int .i64 l[j].1.2.2.2] 1 4 rfl
                   intro v3 w3 hown3 hg3 hat3
                   obtain ⟨A3, c3, rfl, hr3⟩ := own_reads hown3
                   rw [← snocL, ← HT.out] at hown3))
      go_roundw
      case rel => exact ⟨j + 1, A3, c3, by omega, by go_num, rfl, hown3, below_own ((hbw.alloc hbw.size _).alloc (by simp; omega) _) ((HO.out.alloc _).alloc _) hg3 (by simp; omega) (Nat.le_refl _)⟩
      case measure => simp [intOf]; omega
    · obtain rfl : j = n := by omega
      have HE : Hid (lotsL (l.take j) = lotsL l) := Lib.hid (by rw [List.take_of_length_le (by have := HL.out; omega)])
      go_wp2_with fail
      go_ret
      exact ⟨A1, j, c1, rfl, by rw [← HE.out]; exact HO.out, hbw⟩
theorem lots_nil (w : World) : Calls Try.prog 15 #[.pointer none] w fun e w' => e = .returned (.slice none 0 0) ∧ w = w' := by
  go_enter Try.func15, Try.ntmps15
  go_wp2_with fail
  go_ret
  exact ⟨rfl, rfl⟩

/-! find, Left. -/
theorem find_nil (r : Int) (w : World) : Calls Try.prog 30 #[.pointer none, .int .i64 r] w fun e w' => e = .returned (.tuple #[.pointer none, .int .i64 11]) ∧ w = w' := by
  go_enter Try.func30, Try.ntmps30
  go_wp2_with fail
  go_ret2
  exact ⟨rfl, rfl⟩
theorem find_none (g : Nat) (l : List Lt) (A : Option Addr) (n c m : Nat) (r : Int) (w : World) (h2 : Blk w g 72 #[.slice A n c, .map (some m)]) (h5 : MapI Try.prog 3 3 w m n (placeR l)) (hw : (Lit.int .i64 r).wf = true) (hi : idx l r = none) :
    Calls Try.prog 30 #[.pointer (some ⟨g, 0, none⟩), .int .i64 r] w fun e w' => e = .returned (.tuple #[.pointer none, .int .i64 7]) ∧ w = w' := by
  have hrun := h5.look intLaw Try.underlying69 Try.underlying3 (zero3 w) (keyOf_int_mk Try.underlying3 hw)
  rw [placeR_int, hi] at hrun
  have c0 := h2.cell 0
  have c1 := h2.cell 1
  have hg := h2.lt
  clear h2 h5 hi
  go_enter Try.func30, Try.ntmps30
  go_wp2_with fail
  go_ret2
  exact ⟨rfl, rfl⟩
theorem find_some (g : Nat) (l : List Lt) (b n c m i : Nat) (r : Int) (w : World) (h2 : Blk w g 72 #[.slice (some ⟨b, 0, none⟩) n c, .map (some m)]) (h5 : MapI Try.prog 3 3 w m n (placeR l)) (hw : (Lit.int .i64 r).wf = true) (hi : idx l r = some i) (hin : i < n) :
    Calls Try.prog 30 #[.pointer (some ⟨g, 0, none⟩), .int .i64 r] w fun e w' => e = .returned (.tuple #[.pointer (some ⟨b, i * 5, none⟩), .int .i64 0]) ∧ w = w' := by
  have hrun := h5.look intLaw Try.underlying69 Try.underlying3 (zero3 w) (keyOf_int_mk Try.underlying3 hw)
  rw [placeR_int, hi] at hrun
  have c0 := h2.cell 0
  have c1 := h2.cell 1
  have hg := h2.lt
  have hi0 : (0 : Int) ≤ i := by omega
  have hi1 : (i : Int) < n := by omega
  clear h2 h5 hi
  go_enter Try.func30, Try.ntmps30
  go_wp2_with fail
  go_ret2
  exact ⟨rfl, rfl⟩
theorem own_blk {w : World} {base : Nat} {e : TypeId} {size n c b off : Nat} {xs : List Value} (h : w.ownsRow base e size (.slice (some ⟨b, off, none⟩) n c) n xs) :
    off = 0 ∧ base ≤ b ∧ ∃ cur : Array Value, Blk w b e cur ∧ cur.size = c * size ∧ n ≤ c ∧ c ≤ maxLen ∧ cur.toList.take (n * size) = xs := by
  rcases h.2 with ⟨hv, _⟩ | ⟨g, cap, cur, hv, hb, hh, hc, hm, hs, ht⟩
  · cases hv
  · injection hv with h1 h2 h3
    injection h1 with h1
    injection h1 with h1 h4 h5
    subst h1 h4 h3
    exact ⟨rfl, hb, cur, hh, hs, hc, hm, ht⟩
theorem left_nil (r : Int) (w : World) : Calls Try.prog 13 #[.pointer none, .int .i64 r] w fun e w' => e = .returned (.tuple #[.int .i64 0, .int .i64 11]) ∧ w = w' := by
  have C := find_nil r w
  go_enter Try.func13, Try.ntmps13
  go_wp2_with fail
  refine C.mono ?_
  rintro e w1 ⟨rfl, rfl⟩
  go_wp2_with fail
  go_ret2
  exact ⟨rfl, rfl⟩
theorem left_any (F : Nat → Prop) (g : Nat) (l : List Lt) (r x y : Int) (w : World) (h : StoreF w F g l) (hw : (Lit.int .i64 r).wf = true) (hx : leftN l r = x) (hy : leftE l r = y) :
    Calls Try.prog 13 #[.pointer (some ⟨g, 0, none⟩), .int .i64 r] w fun e w' => e = .returned (.tuple #[.int .i64 x, .int .i64 y]) ∧ w = w' := by
  obtain ⟨h1, h0, A, n, c, m, h2, h3, h4, h5, h6⟩ := h
  have hl := recs_len (Reads.of_own h4) encX_len (by omega)
  rcases Option.eq_none_or_eq_some (idx l r) with hi | ⟨i, hi⟩
  · have C := find_none g l A n c m r w h2 h5 hw hi
    have H := left_none hi
    obtain rfl : x = 0 := hx.symm.trans H.2
    obtain rfl : y = 7 := hy.symm.trans H.1
    clear h2 h4 h5 h6 hl hx hy hi H h0
    go_enter Try.func13, Try.ntmps13
    go_wp2_with fail
    refine C.mono ?_
    rintro e w1 ⟨rfl, rfl⟩
    go_wp2_with fail
    go_ret2
    exact ⟨rfl, rfl⟩
  · have hil := idx_lt hi
    obtain ⟨b, off, rfl, hbl, hd⟩ := (Reads.of_own h4).recs encX_len (by omega) (by omega)
    obtain ⟨rfl, _, cur, hB, _⟩ := own_blk h4
    have C := find_some g l b n c m i r w h2 h5 hw hi (by omega)
    have H := left_some hi
    have d4 : w.cell? ⟨b, i * 5 + 4, none⟩ = some (.int .i64 x) := by have := hd i hil 4 _ rfl; rw [show l[i].2 = x from H.2.symm.trans hx] at this; simpa using this
    obtain rfl : y = 0 := hy.symm.trans H.1
    clear h2 h4 h5 h6 hl hx hy hi H h0 hd hB
    go_enter Try.func13, Try.ntmps13
    go_wp2_with fail
    refine C.mono ?_
    rintro e w1 ⟨rfl, rfl⟩
    go_wp2_with fail
    go_ret2
    exact ⟨rfl, rfl⟩
end Go.Proofs.Ythbmofijdhfeeaa
