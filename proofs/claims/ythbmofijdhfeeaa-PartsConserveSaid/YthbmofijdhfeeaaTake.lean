/- The walks of parts.Store's Back and Take. -/
import Derived.Test.YthbmofijdhfeeaaStore
import Derived.Deep.RegionHeld3
import Derived.IntWalk
import Derived.Lib.MinMax
namespace Go.Proofs.Ythbmofijdhfeeaa
open Go.RowKit Go.Maps Go.WideMaps
def StoreB (w : World) (F : Nat → Prop) (g : Nat) (l : List Lt) (A : Option Addr) (n c m : Nat) : Prop :=
  F g ∧ (∀ k, F k → k < w.heap.size) ∧ Blk w g 72 #[.slice A n c, .map (some m)] ∧ F m ∧ w.ownsRow 0 78 5 (.slice A n c) n (cellsX l) ∧ MapI Try.prog 3 3 w m n (placeR l) ∧ ∀ k, (Value.slice A n c).ownBlock = some k → F k
theorem StoreB.toF {w : World} {F : Nat → Prop} {g : Nat} {l : List Lt} {A : Option Addr} {n c m : Nat} (h : StoreB w F g l A n c m) : StoreF w F g l := ⟨h.1, h.2.1, A, n, c, m, h.2.2⟩
theorem StoreF.toB {w : World} {F : Nat → Prop} {g : Nat} {l : List Lt} (h : StoreF w F g l) : ∃ A n c m, StoreB w F g l A n c m := by
  obtain ⟨h1, h0, A, n, c, m, h⟩ := h
  exact ⟨A, n, c, m, h1, h0, h⟩
theorem StoreB.keep {w w' : World} {F F0 : Nat → Prop} {g : Nat} {l : List Lt} {A : Option Addr} {n c m : Nat} (h : StoreB w F g l A n c m) (ho : Only F0 w w') (hd : ∀ k, F k → ¬ F0 k) : StoreB w' F g l A n c m := by
  obtain ⟨h1, h0, h2, h3, h4, h5, h6⟩ := h
  exact ⟨h1, fun k hk => Nat.lt_of_lt_of_le (h0 k hk) ho.size, ho.blk h2 (hd g h1), h3, ho.own h4 (fun k hk => hd k (h6 k hk)), ho.mapI h5 (hd m h3), h6⟩
theorem StoreB.below {w w' : World} {F : Nat → Prop} {g : Nat} {l : List Lt} {A : Option Addr} {n c m : Nat} (h : StoreB w F g l A n c m) (hb : Below w.heap.size w w') : StoreB w' F g l A n c m := h.keep (Only.of_new hb fun _ => False) fun _ _ e => e
theorem own_set {w : World} {base : Nat} {e : TypeId} {size n c b : Nat} {xs : List Value} (h : w.ownsRow base e size (.slice (some ⟨b, 0, none⟩) n c) n xs) (j : Nat) (u : Value) :
    (w.setCell ⟨b, j, none⟩ u).ownsRow base e size (.slice (some ⟨b, 0, none⟩) n c) n (xs.set j u) := by
  obtain ⟨_, hb, cur, hB, hs, hc, hm, ht⟩ := own_blk h
  refine ⟨by simpa using h.1, .inr ⟨b, c, cur.setIfInBounds j u, rfl, hb, hB.set_ j u, hc, hm, by simpa using hs, ?_⟩⟩
  rw [Array.toList_setIfInBounds, List.take_set, ht]
/-- An entry's number of parts is stored. -/
theorem StoreB.put {w : World} {F : Nat → Prop} {g : Nat} {l : List Lt} {b n c m : Nat} (h : StoreB w F g l (some ⟨b, 0, none⟩) n c m) (i : Nat) (hi : i < l.length) (t : Int) : StoreB (w.setCell ⟨b, i * 5 + 4, none⟩ (.int .i64 t)) F g (l.set i (l[i].1, t)) (some ⟨b, 0, none⟩) n c m := by
  obtain ⟨h1, h0, h2, h3, h4, h5, h6⟩ := h
  have hne : b ≠ g := by
    have := own_blk_ne h4 h2 (by decide)
    simpa [Value.ownBlock] using this
  have hmb : m ≠ b := by
    have := h5.row_ne h4
    simpa [Value.ownBlock] using this
  refine ⟨h1, fun k hk => by have := h0 k hk; simpa [World.setCell] using this, h2.far (Ne.symm hne) _, h3, ?_, ?_, h6⟩
  · have := own_set h4 (i * 5 + 4) (.int .i64 t)
    rwa [cellsX_set l i hi t] at this
  · rw [placeR_lots (lots_set l i hi t)]
    exact h5.setCell hmb _
def With (F : Nat → Prop) (w w' : World) (k : Nat) : Prop := F k ∨ (w.heap.size ≤ k ∧ k < w'.heap.size)
theorem With.ge {F : Nat → Prop} {B : Nat} {w w' : World} (h : ∀ k, F k → B ≤ k) (hb : B ≤ w.heap.size) : ∀ k, With F w w' k → B ≤ k := fun k hk => hk.elim (h k) fun e => Nat.le_trans hb e.1
/-- What a call of a store's method that changes it leaves: the number, the entries; nothing else has turned. -/
def StorePost (w : World) (F : Nat → Prop) (g : Nat) (x : Int) (l' : List Lt) (e : Ending) (w' : World) : Prop :=
  e = .returned (.int .i64 x) ∧ StoreF w' (With F w w') g l' ∧ Only F w w'
theorem storeF_with {w w' : World} {F : Nat → Prop} {g : Nat} {l : List Lt} (h : StoreF w' F g l) (hs : w.heap.size ≤ w'.heap.size) (h0 : ∀ k, F k → k < w.heap.size) : StoreF w' (With F w w') g l :=
  h.more (fun _ hk => .inl hk) fun k hk => hk.elim (fun e => Nat.lt_of_lt_of_le (h0 k e) hs) fun e => e.2
theorem storePost_no {w w' : World} {F : Nat → Prop} {g : Nat} {l l' : List Lt} {x y : Int} (hx : y = x) (hl : l' = l) (ht : StoreF w F g l) (hb : Below w.heap.size w w') : StorePost w F g x l' (.returned (.int .i64 y)) w' := by
  subst hx hl
  exact ⟨rfl, storeF_with (ht.below hb) hb.size ht.2.1, Only.of_new hb F⟩
theorem back_nil (a b : Int) (w : World) : Calls Try.prog 26 #[.pointer none, .agg #[.int .i64 a, .int .i64 b]] w (RetI w 11) := by
  go_enter Try.func26, Try.ntmps26
  go_wp2_with fail
  refine (find_nil a _).mono ?_
  rintro e w1 ⟨rfl, rfl⟩
  go_wp2_with fail
  go_ret
  exact ⟨rfl, below_alloc (Below.refl _ _) (Nat.le_refl _) _⟩
set_option maxHeartbeats 1000000 in
set_option maxRecDepth 10000 in
theorem back_any (F : Nat → Prop) (g : Nat) (l m' : List Lt) (r t x : Int) (w : World) (h : StoreF w F g l) (hw : (Lit.int .i64 r).wf = true) (hf : fine l) (hx : backE l r t = x) (hm : backL l r t = m') :
    Calls Try.prog 26 #[.pointer (some ⟨g, 0, none⟩), .agg #[.int .i64 r, .int .i64 t]] w (StorePost w F g x m') := by
  have HT := Lib.hid h
  have HAL := Lib.hid (below_alloc (Below.refl w.heap.size w) (Nat.le_refl _) (.cells #[.int .i64 r, .int .i64 t] 58))
  obtain ⟨A, n, c, m, hb⟩ := h.toB
  have hbA := hb.below HAL.out
  have HBA := Lib.hid hbA
  have hl := recs_len (Reads.of_own hb.2.2.2.2.1) encX_len (by omega)
  have hsz : (w.alloc (.cells #[.int .i64 r, .int .i64 t] 58)).heap.size = w.heap.size + 1 := by simp
  have p := Blk.new w 58 #[.int .i64 r, .int .i64 t]
  have p0 := p.cell 0
  have p1 := p.cell 1
  obtain ⟨h1, h0, h2, h3, h4, h5, h6⟩ := hbA
  clear h hb
  rcases Option.eq_none_or_eq_some (idx l r) with hi | ⟨i, hi⟩
  · have C := find_none g l A n c m r _ h2 h5 hw hi
    obtain rfl : x = 7 := hx.symm.trans (backE_none hi)
    have HM := Lib.hid (show m' = l from hm.symm.trans (backL_no (by rw [hx]; decide)))
    clear h2 h4 h5 h6 hl hx hm hi h0 hsz p
    go_enter Try.func26, Try.ntmps26
    go_wp2_with fail
    refine C.mono ?_
    rintro e w1 ⟨rfl, rfl⟩
    go_wp2_with fail
    go_ret
    exact storePost_no rfl HM.out HT.out HAL.out
  · have hil := idx_lt hi
    obtain ⟨b, off, rfl, hbl, hd⟩ := (Reads.of_own h4).recs encX_len (by omega) (by omega)
    obtain ⟨rfl, _, cur, hB, _⟩ := own_blk h4
    have C := find_some g l b n c m i r _ h2 h5 hw hi (by omega)
    have d4 : (w.alloc (.cells #[.int .i64 r, .int .i64 t] 58)).cell? ⟨b, i * 5 + 4, none⟩ = some (.int .i64 l[i].2) := by have := hd i hil 4 _ rfl; simpa using this
    have d2 : (w.alloc (.cells #[.int .i64 r, .int .i64 t] 58)).cell? ⟨b, i * 5 + 2, none⟩ = some (.int .i64 l[i].1.2.2.1) := by have := hd i hil 2 _ rfl; simpa using this
    have f4 := hB.frozen (i * 5 + 4)
    have hbd := hf.2 _ (List.getElem_mem hil)
    obtain ⟨q1, q2, q3, q4⟩ := hbd
    have q5 := okL_iff.1 q1
    obtain ⟨q6, q7⟩ : 1 ≤ l[i].1.2.2.1 ∧ l[i].1.2.2.1 ≤ 1000000 := ⟨q5.2.2.1, q5.2.2.2.1⟩
    have hbw : b < w.heap.size := HT.out.2.1 b (h6 b rfl)
    have HI := Lib.hid hi
    clear h2 h4 h5 h6 hl hi hd hB h0 q1 q2 q5 p
    rcases hn : numB t with _ | _
    · obtain rfl : x = 1 := hx.symm.trans (backE_range HI.out hn)
      have HM := Lib.hid (show m' = l from hm.symm.trans (backL_no (by rw [hx]; decide)))
      have C2 := fun w => in_at t 1 1000000 false w hn
      clear hx hm hn
      go_enter Try.func26, Try.ntmps26
      go_wp2_with fail
      refine C.mono ?_
      rintro e w1 ⟨rfl, rfl⟩
      go_wp2_with fail
      refine (C2 _).mono ?_
      rintro e w1 ⟨rfl, rfl⟩
      go_wp2_with fail
      go_ret
      exact storePost_no rfl HM.out HT.out HAL.out
    · have C2 := fun w => in_at t 1 1000000 true w hn
      obtain ⟨t1, t2⟩ : 1 ≤ t ∧ t ≤ 1000000 := of_decide_eq_true hn
      have hwr : IntKind.i64.wrap (l[i].2 + t) = l[i].2 + t := IntWalk.i64_in _ (by omega)
      by_cases hq : l[i].1.2.2.1 < l[i].2 + t
      · obtain rfl : x = 27 := hx.symm.trans (backE_amount HI.out hn hq)
        have HM := Lib.hid (show m' = l from hm.symm.trans (backL_no (by rw [hx]; decide)))
        clear hx hm hn hsz
        go_enter Try.func26, Try.ntmps26
        go_wp2_with fail
        refine C.mono ?_
        rintro e w1 ⟨rfl, rfl⟩
        go_wp2_with fail
        refine (C2 _).mono ?_
        rintro e w1 ⟨rfl, rfl⟩
        go_wp2_with fail
        go_quiet (fail)
        go_wp2_with fail
        go_ret
        exact storePost_no rfl HM.out HT.out (below_drewN HAL.out _)
      · have hq' : l[i].2 + t ≤ l[i].1.2.2.1 := by omega
        obtain rfl : x = 0 := hx.symm.trans (backE_ok HI.out hn hq')
        have HM := Lib.hid (show m' = l.set i (l[i].1, l[i].2 + t) from hm.symm.trans (backL_ok HI.out hx))
        clear hx hm hn hq hsz
        go_enter Try.func26, Try.ntmps26
        go_wp2_with fail
        refine C.mono ?_
        rintro e w1 ⟨rfl, rfl⟩
        go_wp2_with fail
        refine (C2 _).mono ?_
        rintro e w1 ⟨rfl, rfl⟩
        go_wp2_with fail
        go_quiet (fail)
        go_wp2_with fail
        go_region
        all_goals
          go_wp2_with fail
          go_ret
          have hst := (HBA.out.below (below_drewN (Below.refl _ _) (nq + 1))).put i hil (l[i].2 + t)
          have ho := ((Only.of_new HAL.out F).drewN (nq + 1)).setCell (p := ⟨b, i * 5 + 4, none⟩) (fun _ => (HBA.out.2.2.2.2.2.2 b rfl)) (.int .i64 (l[i].2 + t))
          refine ⟨rfl, ?_, ho⟩
          rw [HM.out]
          exact storeF_with hst.toF ho.size HT.out.2.1

/-! Take. -/
def RetTake (w : World) (F : Nat → Prop) (g : Nat) (x : Int) (o : List T2) (l' : List Lt) (e : Ending) (w' : World) : Prop :=
  ∃ A n c, e = .returned (.tuple #[.slice A n c, .int .i64 x]) ∧ w'.ownsRow w.heap.size 58 2 (.slice A n c) n (cellsT o) ∧ StoreF w' F g l' ∧ (∀ k, (Value.slice A n c).ownBlock = some k → ¬ F k) ∧ Only F w w'
theorem take_nil (k t : Int) (w : World) : Calls Try.prog 25 #[.pointer none, .int .i64 k, .int .i64 t] w fun e w' => e = .returned (.tuple #[.slice none 0 0, .int .i64 11]) ∧ w = w' := by
  go_enter Try.func25, Try.ntmps25
  go_wp2_with fail
  go_ret2
  exact ⟨rfl, rfl⟩
theorem retTake_no {w w' : World} {F : Nat → Prop} {g : Nat} {l l' : List Lt} {o : List T2} {x y : Int} (hx : y = x) (hl : l' = l) (ho : o = []) (ht : StoreF w F g l) (hb : Below w.heap.size w w') : RetTake w F g x o l' (.returned (.tuple #[.slice none 0 0, .int .i64 y])) w' := by
  subst hx hl ho
  exact ⟨none, 0, 0, rfl, World.ownsRow_nil _ _ _ _, ht.below hb, fun k hk => by simp [Value.ownBlock] at hk, Only.of_new hb F⟩
set_option maxHeartbeats 4000000 in
set_option maxRecDepth 10000 in
theorem take_any (F : Nat → Prop) (g : Nat) (l m' : List Lt) (k t x : Int) (o : List T2) (w : World) (h : StoreF w F g l) (hf : fine l) (hx : takeE l k t = x) (hm : tookX l k t = m') (ho : tookO l k t = o) :
    Calls Try.prog 25 #[.pointer (some ⟨g, 0, none⟩), .int .i64 k, .int .i64 t] w (RetTake w F g x o m') := by
  have HT := Lib.hid h
  rcases hk : kindB k with _ | _
  · obtain rfl : x = 14 := hx.symm.trans (takeE_kind hk)
    have HM := Lib.hid (show m' = l from hm.symm.trans (tookX_no (by rw [hx]; decide)))
    have HO := Lib.hid (show o = [] from ho.symm.trans (tookO_no (by rw [hx]; decide)))
    have C1 := fun w => kind_at k false w hk
    clear hx hm ho hk h
    go_enter Try.func25, Try.ntmps25
    go_wp2_with fail
    refine (C1 _).mono ?_
    rintro e w1 ⟨rfl, rfl⟩
    go_wp2_with fail
    go_ret2
    exact retTake_no rfl HM.out HO.out HT.out (Below.refl _ _)
  · have C1 := fun w => kind_at k true w hk
    rcases hn : numB t with _ | _
    · obtain rfl : x = 1 := hx.symm.trans (takeE_range hk hn)
      have HM := Lib.hid (show m' = l from hm.symm.trans (tookX_no (by rw [hx]; decide)))
      have HO := Lib.hid (show o = [] from ho.symm.trans (tookO_no (by rw [hx]; decide)))
      have C2 := fun w => in_at t 1 1000000 false w hn
      clear hx hm ho hk hn h
      go_enter Try.func25, Try.ntmps25
      go_wp2_with fail
      refine (C1 _).mono ?_
      rintro e w1 ⟨rfl, rfl⟩
      go_wp2_with fail
      refine (C2 _).mono ?_
      rintro e w1 ⟨rfl, rfl⟩
      go_wp2_with fail
      go_ret2
      exact retTake_no rfl HM.out HO.out HT.out (Below.refl _ _)
    · have C2 := fun w => in_at t 1 1000000 true w hn
      obtain ⟨t1, t2⟩ : 1 ≤ t ∧ t ≤ 1000000 := of_decide_eq_true hn
      obtain ⟨cn, hcn⟩ : ∃ cn, countN l k = cn := ⟨_, rfl⟩
      have C3 := Lib.hid (count_any F g l k cn w h hf hcn)
      by_cases hlt : cn < t
      · obtain rfl : x = 29 := hx.symm.trans (takeE_stock hk hn (by rw [hcn]; exact hlt))
        have HM := Lib.hid (show m' = l from hm.symm.trans (tookX_no (by rw [hx]; decide)))
        have HO := Lib.hid (show o = [] from ho.symm.trans (tookO_no (by rw [hx]; decide)))
        clear hx hm ho hk hn h hcn
        go_enter Try.func25, Try.ntmps25
        go_wp2_with fail
        refine (C1 _).mono ?_
        rintro e w1 ⟨rfl, rfl⟩
        go_wp2_with fail
        refine (C2 _).mono ?_
        rintro e w1 ⟨rfl, rfl⟩
        go_wp2_with fail
        refine C3.out.mono ?_
        rintro e w1 ⟨rfl, hb1⟩
        go_wp2_with fail
        go_ret2
        exact retTake_no rfl HM.out HO.out HT.out hb1
      · have hge : t ≤ cn := by omega
        obtain rfl : x = 0 := hx.symm.trans (takeE_ok hk hn (by rw [hcn]; exact hge))
        have HM := Lib.hid (show m' = takeX k t l from hm.symm.trans (tookX_ok hx))
        have HO := Lib.hid (show o = takeO k t l from ho.symm.trans (tookO_ok hx))
        have hne : l ≠ [] := fun e => by subst e; simp [countN] at hcn; omega
        obtain ⟨A, n, c, m, hb⟩ := h.toB
        have hl := recs_len (Reads.of_own hb.2.2.2.2.1) encX_len (by omega)
        have hn0 : 0 < n := by
          rcases Nat.eq_zero_or_pos n with h0 | h0
          · exact absurd (List.eq_nil_of_length_eq_zero (by omega)) hne
          · exact h0
        obtain ⟨b, off, rfl, _, _⟩ := (Reads.of_own hb.2.2.2.2.1).recs encX_len (by omega) hn0
        obtain rfl := (own_blk hb.2.2.2.2.1).1
        have HBB := Lib.hid hb
        have HL := Lib.hid hl
        have hn5 : n ≤ 512 := by have := hf.1; omega
        obtain ⟨i0, hi0, hz0, hz1, hz2⟩ := info_parts Try.info58
        have hFb : Hid (F b) := Lib.hid (hb.2.2.2.2.2.2 b rfl)
        have hFlt := Lib.hid hb.2.1
        clear hx hm ho hk hn h hcn hb hl hne hlt
        go_enter Try.func25, Try.ntmps25
        go_wp2_with fail
        refine (C1 _).mono ?_
        rintro e w1 ⟨rfl, rfl⟩
        go_wp2_with fail
        refine (C2 _).mono ?_
        rintro e w1 ⟨rfl, rfl⟩
        go_wp2_with fail
        refine C3.out.mono ?_
        rintro e w1 ⟨rfl, hb1⟩
        have HB1 := Lib.hid hb1
        have HB := Lib.hid (HBB.out.below hb1)
        have c0 := HB.out.2.2.1.cell 0
        have hgs : g < w1.heap.size := HB.out.2.2.1.lt
        clear C1 C2 C3 hb1
        go_wp2_with fail
        go_loopw [2, 8, 34] (fun nv out i wr => ∃ (j n1 : Nat) (A1 : Option Addr) (c1 : Nat), j ≤ n ∧ i = .int .i64 j ∧ nv = .int .i64 (takeR k t (l.take j)) ∧ out = .slice A1 n1 c1 ∧ n1 ≤ j ∧ wr.ownsRow w1.heap.size 58 2 (.slice A1 n1 c1) n1 (cellsT (takeO k t (l.take j))) ∧ StoreB wr F g (mid k t l j) (some ⟨b, 0, none⟩) n c m ∧ Only F w1 wr) (fun _ _ i _ => n - (intOf i).toNat)
        case atStart => exact ⟨0, 0, none, 0, Nat.zero_le _, rfl, rfl, rfl, Nat.le_refl _, World.ownsRow_nil _ _ _ _, by rw [mid_zero]; exact HB.out, Only.refl _ _⟩
        case round =>
          obtain ⟨j, n1, A1, c1, hj, rfl, rfl, rfl, hn1, hown, hsb, hon⟩ := hrel
          have HOW := Lib.hid hown; have HSB := Lib.hid hsb; have HON := Lib.hid hon
          have c0 := hsb.2.2.1.cell 0
          have hgs : g < wr.heap.size := hsb.2.2.1.lt
          clear hown hsb hon
          by_cases hlt : j < n
          · have hjl : j < l.length := by have := HL.out; omega
            obtain ⟨b', off, hA, hb2, hcc⟩ := (Reads.of_own HSB.out.2.2.2.2.1).recs encX_len (by omega) (by omega)
            injection hA with hA
            injection hA with e1 e2
            subst e1 e2
            have hat := mid_at k t l hjl
            have hcj := hcc j (by rw [mid_len]; exact hjl)
            rw [hat] at hcj
            have d0 : wr.cell? ⟨b, j * 5, none⟩ = some (.int .i64 l[j].1.1) := by have := hcj 0 _ rfl; simpa using this
            have d1 : wr.cell? ⟨b, j * 5 + 1, none⟩ = some (.int .i64 l[j].1.2.1) := by have := hcj 1 _ rfl; simpa using this
            have d4 : wr.cell? ⟨b, j * 5 + 4, none⟩ = some (.int .i64 l[j].2) := by have := hcj 4 _ rfl; simpa using this
            obtain ⟨_, _, cur, hBk, _⟩ := own_blk HSB.out.2.2.2.2.1
            have f4 := hBk.frozen (j * 5 + 4)
            have hbs : b < wr.heap.size := hBk.lt
            have hj0 : (0 : Int) ≤ j := by omega
            have hj1 : (j : Int) < n := by omega
            have q := fine_left hf _ (List.getElem_mem hjl)
            have q2 := takeR_bd k (l.take j) t (by omega) fun x hx => (fine_left hf x (List.mem_of_mem_take hx)).1
            obtain ⟨q3, q4⟩ := q
            obtain ⟨q5, q6⟩ := q2
            have HAT := Lib.hid hat
            clear hcc hcj hat hBk
            have HTR := Lib.hid (takeR_step k t l hjl)
            have hnb : (Value.slice A1 n1 c1).ownBlock ≠ some b := fun e => by
              have h1 := (HOW.out.lt b e).1
              have h2 := hFlt.out b hFb.out
              have h3 := HB1.out.size
              omega
            have HNB := Lib.hid hnb
            clear hnb
            by_cases hs : l[j].1.2.1 = k ∧ 0 < min (takeR k t (l.take j)) l[j].2
            · have HO1 := Lib.hid (takeO_yes k t l hjl hs.1 hs.2)
              have HMS := Lib.hid (mid_step k t l hjl)
              have HTK := Lib.hid (tk_yes hs.1 hs.2)
              obtain ⟨hki, hmin⟩ := hs
              generalize hrr : takeR k t (l.take j) = rr at q5 q6 hmin
              have t3 : (l[j].1.2.1 == k) = true := beq_iff_eq.2 hki
              obtain ⟨sm, hsm⟩ : ∃ sm, min rr l[j].2 = sm := ⟨_, rfl⟩
              have s1 : sm ≤ rr := by omega
              have s2 : sm ≤ l[j].2 := by omega
              have hmn : ∀ (ts : Array TypeId) (ty : TypeId) (w : World), (Builtin.min_ ts ty #[.int .i64 rr, .int .i64 l[j].2]).run Try.prog w = .ok (.int .i64 sm) w := fun ts ty w => by rw [Lib.run_min_ints, hsm]
              have s3 : 0 < sm := by omega
              rw [hrr, hsm] at HTK HO1
              rw [hrr, HTK.out] at HTR HMS
              have HRR := Lib.hid hrr
              clear hrr hki hmin hsm
              have hst := HSB.out.put j (by rw [mid_len]; exact hjl) (l[j].2 - sm)
              rw [HAT.out, ← HMS.out] at hst
              have HST := Lib.hid hst
              have HOW2 := Lib.hid ((ownsRow_setCell_other HOW.out (a := ⟨b, j * 5 + 4, none⟩) HNB.out (.int .i64 (l[j].2 - sm))).alloc (.cells #[.int .i64 l[j].1.1, .int .i64 sm] 58))
              have HNR : Hid (Reads ((wr.setCell ⟨b, j * 5 + 4, none⟩ (.int .i64 (l[j].2 - sm))).alloc (.cells #[.int .i64 l[j].1.1, .int .i64 sm] 58)) (wr.heap.size + 1) 2 (some ⟨wr.heap.size, 0, none⟩) 1 (encT (l[j].1.1, sm))) := Lib.hid (by simpa [encT, World.setCell] using Reads.fresh (wr.setCell ⟨b, j * 5 + 4, none⟩ (.int .i64 (l[j].2 - sm))) 58 #[.int .i64 l[j].1.1, .int .i64 sm] 1 2 rfl)
              have HBS : Hid (w1.heap.size ≤ (((wr.setCell ⟨b, j * 5 + 4, none⟩ (.int .i64 (l[j].2 - sm))).alloc (.cells #[.int .i64 l[j].1.1, .int .i64 sm] 58))).heap.size) := Lib.hid (by have := HON.out.size; simp [World.setCell]; omega)
              clear hst
              go_wp2_with (at_builtin; go_loud (refine wpList_append_any _ rfl (.tmp 71) (.tmp 79) _ rfl w1.heap.size 58 i0 _ 2 16 Try.underlying43 hi0 hz0 hz1 hz2 rfl (by omega) (.slice A1 n1 c1) n1 (cellsT (takeO k t (l.take j))) rfl HOW2.out (wr.heap.size + 1) (some ⟨wr.heap.size, 0, none⟩) 1 1 (encT (l[j].1.1, sm)) rfl HNR.out (one_encT _) (by simp only [maxLen]; omega) (by omega) HBS.out ?_; intro v3 w3 hown3 hg3 hat3; obtain ⟨A3, c3, rfl, hr3⟩ := own_reads hown3; rw [← snocT, ← HO1.out] at hown3))
              go_roundw
              case rel =>
                have ho1 : Only F w1 ((wr.setCell ⟨b, j * 5 + 4, none⟩ (.int .i64 (l[j].2 - sm))).alloc (.cells #[.int .i64 l[j].1.1, .int .i64 sm] 58)) := ((HON.out.setCell (p := ⟨b, j * 5 + 4, none⟩) (fun _ => hFb.out) _).alloc _)
                have hx : ∀ i, (Value.slice A1 n1 c1).ownBlock = some i → ¬ F i := fun i hi e => by
                  have h1 := (HOW.out.lt i hi).1
                  have h2 := hFlt.out i e
                  have h3 := HB1.out.size
                  omega
                have hs2 := (HST.out.below (w' := ((wr.setCell ⟨b, j * 5 + 4, none⟩ (.int .i64 (l[j].2 - sm))).alloc (.cells #[.int .i64 l[j].1.1, .int .i64 sm] 58))) (below_alloc (Below.refl _ _) (Nat.le_refl _) _)).keep ((Only.refl (fun k => (Value.slice A1 n1 c1).ownBlock = some k) _).grown hg3 fun _ e _ => e) fun i hi e => hx i e hi
                exact ⟨j + 1, n1 + 1, A3, c3, by omega, by go_num, by rw [HTR.out], rfl, by omega, hown3, hs2, ho1.grown hg3 fun i e hi => absurd (HOW.out.lt i e).1 (by omega)⟩
              case measure => simp [intOf]; omega
            · have HO1 := Lib.hid (takeO_no k t l hjl hs)
              have HMS := Lib.hid (mid_no k t l hjl hs)
              have HTK := Lib.hid (tk_no hs)
              generalize hrr : takeR k t (l.take j) = rr at q5 q6 hs
              rw [hrr] at HTK
              rw [hrr, HTK.out] at HTR
              have HTR2 : Hid (takeR k t (l.take (j + 1)) = rr) := Lib.hid (by rw [HTR.out]; omega)
              have hmn : ∀ (ts : Array TypeId) (ty : TypeId) (w : World), (Builtin.min_ ts ty #[.int .i64 rr, .int .i64 l[j].2]).run Try.prog w = .ok (.int .i64 (min rr l[j].2)) w := fun ts ty w => Lib.run_min_ints w ts ty .i64 .i64 rr l[j].2
              generalize min rr l[j].2 = sm at hmn hs
              clear hrr
              by_cases hki : l[j].1.2.1 = k
              · have t3 : (l[j].1.2.1 == k) = true := beq_iff_eq.2 hki
                have s3 : sm ≤ 0 := by
                  have : ¬ 0 < sm := fun e => hs ⟨hki, e⟩
                  omega
                clear hs hki
                go_wp2_with fail
                go_roundw
                case rel => exact ⟨j + 1, n1, A1, c1, by omega, by go_num, by rw [HTR2.out], rfl, by omega, by rw [HO1.out]; exact HOW.out, by rw [HMS.out]; exact HSB.out, HON.out⟩
                case measure => simp [intOf]; omega
              · have t3 : (l[j].1.2.1 == k) = false := beq_eq_false_iff_ne.2 hki
                clear hs hki
                go_wp2_with fail
                go_roundw
                case rel => exact ⟨j + 1, n1, A1, c1, by omega, by go_num, by rw [HTR2.out], rfl, by omega, by rw [HO1.out]; exact HOW.out, by rw [HMS.out]; exact HSB.out, HON.out⟩
                case measure => simp [intOf]; omega
          · obtain rfl : j = n := by omega
            go_wp2_with fail
            go_ret2
            have hl2 : l.take j = l := List.take_of_length_le (by have := HL.out; omega)
            have hme : mid k t l j = takeX k t l := mid_end k t l (by have := HL.out; omega)
            have ho2 : Only F w wr := (Only.of_new HB1.out F).trans HON.out fun k _ e => e
            refine ⟨A1, n1, c1, rfl, ?_, ?_, fun i hi => ?_, ho2⟩
            · rw [HO.out, ← hl2]; exact own_mono HOW.out HB1.out.size
            · rw [HM.out, ← hme]; exact HSB.out.toF
            · intro e
              have h1 := (HOW.out.lt i hi).1
              have h2 := HT.out.2.1 i e
              have h3 := HB1.out.size
              omega
end Go.Proofs.Ythbmofijdhfeeaa
