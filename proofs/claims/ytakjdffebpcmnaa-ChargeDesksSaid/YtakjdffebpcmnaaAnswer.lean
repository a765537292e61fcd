/- The walks of charge.Desk's Answer, and of the payments in a state. -/
import Derived.Test.YtakjdffebpcmnaaDesk
namespace Go.Proofs.Ytakjdffebpcmnaa
open Go.RowKit Go.Maps Go.WideMaps
theorem own_blk {w : World} {base : Nat} {e : TypeId} {size n c b off : Nat} {xs : List Value} (h : w.ownsRow base e size (.slice (some ⟨b, off, none⟩) n c) n xs) :
    off = 0 ∧ base ≤ b ∧ ∃ cur, Blk w b e cur ∧ cur.size = c * size ∧ n ≤ c ∧ c ≤ maxLen ∧ cur.toList.take (n * size) = xs := by
  rcases h.2 with ⟨hv, _⟩ | ⟨g, cap, cur, hv, hb, hh, hc, hm, hs, ht⟩
  · cases hv
  · cases hv
    exact ⟨rfl, hb, cur, hh, hs, hc, hm, ht⟩
theorem own_set {w : World} {base : Nat} {e : TypeId} {size n c b : Nat} {xs : List Value} (h : w.ownsRow base e size (.slice (some ⟨b, 0, none⟩) n c) n xs) (j : Nat) (u : Value) :
    (w.setCell ⟨b, j, none⟩ u).ownsRow base e size (.slice (some ⟨b, 0, none⟩) n c) n (xs.set j u) := by
  obtain ⟨_, hb, cur, hB, hs, hc, hm, ht⟩ := own_blk h
  refine ⟨by simpa using h.1, .inr ⟨b, c, cur.setIfInBounds j u, rfl, hb, hB.set_ j u, hc, hm, by simpa using hs, ?_⟩⟩
  rw [Array.toList_setIfInBounds, List.take_set, ht]
def With (F : Nat → Prop) (w w' : World) (k : Nat) : Prop := F k ∨ (w.heap.size ≤ k ∧ k < w'.heap.size)
/-- What a call of a desk's method that changes it leaves: the number, the entries; nothing else has turned. -/
def DeskPost (w : World) (F : Nat → Prop) (g : Nat) (x : Int) (l' : List En) (e : Ending) (w' : World) : Prop :=
  e = .returned (.int .i64 x) ∧ DeskF w' (With F w w') g l' ∧ Only F w w'
theorem deskPost_no {w w' : World} {F : Nat → Prop} {g : Nat} {l l' : List En} {x y : Int} (hx : y = x) (hl : l' = l) (ht : DeskF w F g l) (hb : Below w.heap.size w w') : DeskPost w F g x l' (.returned (.int .i64 y)) w' := by
  subst hx hl
  exact ⟨rfl, (ht.below hb).more (fun k hk => .inl hk) fun k hk => hk.elim (fun e => Nat.lt_of_lt_of_le (ht.2.1 k e) hb.size) fun e => e.2, Only.of_new hb F⟩

set_option maxHeartbeats 1000000 in
set_option maxRecDepth 10000 in
theorem answer_any (F : Nat → Prop) (g : Nat) (l : List En) (r e : Int) (w : World) (h : DeskF w F g l) (hw : (Lit.int .i64 r).wf = true) (hn : l.length ≤ 100000) (ht : ∀ x ∈ l, 0 ≤ x.2.2 ∧ x.2.2 ≤ 1000000) :
    Calls Try.prog 20 #[.pointer (some ⟨g, 0, none⟩), .int .i64 r, .int .i64 e] w (DeskPost w F g (ansE l r) (ansL l r e)) := by
  have HT := Lib.hid h
  obtain ⟨h1, h0, A, n, c, m, h2, h3, h4, h5, h6⟩ := h
  have HL := Lib.hid (recs_len (Reads.of_own h4) encE_len (by omega))
  have hgs : g < w.heap.size := h0 g h1
  have c0 := h2.cell 0
  have c1 := h2.cell 1
  have hrun := h5.look intLaw Try.underlying61 Try.underlying3 (zero3 w) (keyOf_int_mk Try.underlying3 hw)
  rw [placeR_int] at hrun
  rcases hi : idx l r with _ | i
  · have H1 := Lib.hid (ansE_none hi)
    have H2 := Lib.hid (ansL_none (e := e) hi)
    rw [hi] at hrun
    clear h2 h4 h5 h6 hi
    go_enter Try.func20, Try.ntmps20
    go_wp2_with fail
    go_ret
    exact deskPost_no H1.out.symm H2.out HT.out (Below.refl _ _)
  · have hil := idx_lt hi
    rw [hi] at hrun
    have hin : i < n := by have := HL.out; omega
    obtain ⟨b, off, rfl, hbl, hd⟩ := (Reads.of_own h4).recs encE_len (by omega) (by omega)
    obtain ⟨rfl, _, cur, hB, _⟩ := own_blk h4
    have d3 : w.cell? ⟨b, i * 5 + 3, none⟩ = some (.int .i64 l[i].2.1) := by have := hd i hil 3 _ rfl; simpa using this
    have d4 : w.cell? ⟨b, i * 5 + 4, none⟩ = some (.int .i64 l[i].2.2) := by have := hd i hil 4 _ rfl; simpa using this
    have f3 := hB.frozen (i * 5 + 3)
    have f4 := hB.frozen (i * 5 + 4)
    have hbd := ht _ (List.getElem_mem hil)
    obtain ⟨t1, t2⟩ := hbd
    have hi0 : (0 : Int) ≤ i := by omega
    have hi1 : (i : Int) < n := by omega
    by_cases hs : l[i].2.1 = 0
    · have H1 := Lib.hid (ansE_ok hi hs)
      have H2 : Hid (ansL l r e = l.set i (l[i].1, stNew 0 e, l[i].2.2 + 1)) := Lib.hid (ansL_ok (e := e) hi hs)
      have hs' : (l[i].2.1 != 0) = false := ne0_f hs
      have HB := Lib.hid hB
      have H2B := Lib.hid h2
      have H4 := Lib.hid h4
      have H5 := Lib.hid h5
      have HI := Lib.hid hi
      have hne : b ≠ g := by
        have := own_blk_ne h4 h2 (by decide)
        simpa [Value.ownBlock] using this
      have hmb : m ≠ b := by
        have := h5.row_ne h4
        simpa [Value.ownBlock] using this
      have hFb : F b := h6 b rfl
      clear h2 h4 h5 hi hs hB hd ht
      have key : ∀ (s : Int), s = stNew 0 e → ∀ w', (w' = (w.setCell ⟨b, i * 5 + 4, none⟩ (.int .i64 (l[i].2.2 + 1))).setCell ⟨b, i * 5 + 3, none⟩ (.int .i64 s)) ∨ (s = l[i].2.1 ∧ w' = w.setCell ⟨b, i * 5 + 4, none⟩ (.int .i64 (l[i].2.2 + 1))) → DeskPost w F g (ansE l r) (ansL l r e) (.returned (.int .i64 0)) w' := by
        intro s hs w' hw'
        have hP : ∀ r, placeR (l.set i (l[i].1, s, l[i].2.2 + 1)) r = placeR l r := fun kl => by
          unfold placeR
          split
          · rw [idx_set hil]
          · rfl
        have hPP : placeR (l.set i (l[i].1, s, l[i].2.2 + 1)) = placeR l := funext hP
        refine ⟨ret_int H1.out.symm, ?_, ?_⟩
        · rw [H2.out, ← hs]
          rcases hw' with rfl | ⟨hs1, rfl⟩
          · refine ⟨.inl h1, fun k hk => by simp [World.setCell]; exact hk.elim (fun e => h0 k e) (fun e => by have := e.2; simpa [World.setCell] using this), some ⟨b, 0, none⟩, n, c, m, (H2B.out.far (Ne.symm hne) _).far (Ne.symm hne) _, .inl h3, ?_, ?_, fun k hk => .inl (h6 k hk)⟩
            · have := own_set (own_set H4.out (i * 5 + 4) (.int .i64 (l[i].2.2 + 1))) (i * 5 + 3) (.int .i64 s)
              rwa [cellsE_set l i hil s (l[i].2.2 + 1)] at this
            · rw [hPP]
              exact (H5.out.setCell hmb _).setCell hmb _
          · refine ⟨.inl h1, fun k hk => by simp [World.setCell]; exact hk.elim (fun e => h0 k e) (fun e => by have := e.2; simpa [World.setCell] using this), some ⟨b, 0, none⟩, n, c, m, (H2B.out.far (Ne.symm hne) _), .inl h3, ?_, ?_, fun k hk => .inl (h6 k hk)⟩
            · have := own_set H4.out (i * 5 + 4) (.int .i64 (l[i].2.2 + 1))
              rwa [cellsE_tries l i hil (l[i].2.2 + 1), ← hs1] at this
            · rw [hPP]
              exact H5.out.setCell hmb _
        · rcases hw' with rfl | ⟨_, rfl⟩
          · exact ((Only.refl F w).setCell (fun _ => hFb) _).setCell (fun _ => hFb) _
          · exact (Only.refl F w).setCell (fun _ => hFb) _
      have KEY := Lib.hid key
      clear key
      by_cases e0 : e = 0
      · have HS : Hid (1 = stNew 0 e) := Lib.hid (by rw [e0]; rfl)
        have x0 : (e == 0) = true := eq0_t e0
        clear e0
        go_enter Try.func20, Try.ntmps20
        go_wp2_with fail
        go_ret
        exact KEY.out 1 HS.out _ (.inl rfl)
      · by_cases e21 : e = 21
        · have HS : Hid (2 = stNew 0 e) := Lib.hid (by rw [e21]; rfl)
          have x0 : (e == 0) = false := eq0_f e0
          have x1 : (e == 21) = true := beq_iff_eq.2 e21
          clear e0 e21
          go_enter Try.func20, Try.ntmps20
          go_wp2_with fail
          go_ret
          exact KEY.out 2 HS.out _ (.inl rfl)
        · have HS : Hid (0 = stNew 0 e) := Lib.hid (stNew_lost e0 e21).symm
          have x0 : (e == 0) = false := eq0_f e0
          have x1 : (e == 21) = false := beq_eq_false_iff_ne.2 e21
          have HS0 : Hid (0 = l[i].2.1) := Lib.hid (by have := hs'; simp at this; exact this.symm)
          clear e0 e21
          go_enter Try.func20, Try.ntmps20
          go_wp2_with fail
          go_ret
          exact KEY.out 0 HS.out _ (.inr ⟨HS0.out, rfl⟩)
    · have H1 := Lib.hid (ansE_state hi hs)
      have H2 := Lib.hid (ansL_state (e := e) hi hs)
      have hs' : (l[i].2.1 != 0) = true := ne0_t hs
      clear h2 h4 h5 h6 hi hs hB hd
      go_enter Try.func20, Try.ntmps20
      go_wp2_with fail
      go_ret
      exact deskPost_no H1.out.symm H2.out HT.out (Below.refl _ _)
theorem answer_nil (r e : Int) (w : World) : Calls Try.prog 20 #[.pointer none, .int .i64 r, .int .i64 e] w fun e w' => e = .returned (.int .i64 11) ∧ w = w' := by
  go_enter Try.func20, Try.ntmps20
  go_wp2_with fail
  go_ret
  exact ⟨rfl, rfl⟩

/-! The payments in a state. -/
theorem ofS_all (l : List En) (s : Int) {k : Nat} (h : l.length ≤ k) : ofS (l.take k) s = ofS l s := by rw [List.take_of_length_le h]
theorem snocP (l : List P3) (p : P3) : cellsP (l ++ [p]) = cellsP l ++ encP p := by simp [cellsP]
set_option maxHeartbeats 1000000 in
set_option maxRecDepth 10000 in
theorem those_any (F : Nat → Prop) (g : Nat) (l : List En) (s : Int) (w : World) (h : DeskF w F g l) (hn : l.length ≤ 100000) :
    Calls Try.prog 32 #[.pointer (some ⟨g, 0, none⟩), .int .i64 s] w (RetOwn w 23 3 (cellsP (ofS l s))) := by
  obtain ⟨i0, hi0, hz0, hz1, hz2⟩ := info_parts Try.info23
  obtain ⟨h1, h0, A, n, c, m, h2, h3, h4, h5, h6⟩ := h
  have hr := Reads.of_own h4
  have HL := Lib.hid (recs_len hr encE_len (by omega))
  have hn' : n ≤ 100000 := by have := HL.out; omega
  have hgs : g < w.heap.size := h0 g h1
  clear h3 h4 h5 h6 h0 hn
  go_enter Try.func32, Try.ntmps32
  go_wp2_with fail
  go_loopw [5, 6] (fun out i wr => ∃ k n1 : Nat, ∃ A1 c1, k ≤ n ∧ i = .int .i64 k ∧ out = .slice A1 n1 c1 ∧ n1 ≤ k ∧ wr.ownsRow w.heap.size 23 3 (.slice A1 n1 c1) n1 (cellsP (ofS (l.take k) s)) ∧ Below w.heap.size w wr) (fun _ i _ => n - (intOf i).toNat)
  case atStart => exact ⟨0, 0, none, 0, Nat.zero_le _, rfl, rfl, Nat.le_refl _, World.ownsRow_nil _ _ _ _, Below.refl _ _⟩
  case round =>
    obtain ⟨k, n1, A1, c1, hk, rfl, rfl, hn1, hown, hbw⟩ := hrel
    have hB := h2.below hbw hgs
    have c0 := hB.cell 0
    have hgs' : g < wr.heap.size := Nat.lt_of_lt_of_le hgs hbw.size
    have hsw := hbw.size
    by_cases hlt : k < n
    · obtain ⟨b, off, rfl, hb2, hd⟩ := (hr.below hbw).recs encE_len (by omega) (by omega)
      have hkl : k < l.length := by have := HL.out; omega
      have d0 : wr.cell? ⟨b, off + k * 5, none⟩ = some (.int .i64 l[k].1.1) := hd k hkl 0 _ rfl
      have d1 : wr.cell? ⟨b, off + k * 5 + 1, none⟩ = some (.int .i64 l[k].1.2.1) := hd k hkl 1 _ rfl
      have d2 : wr.cell? ⟨b, off + k * 5 + 2, none⟩ = some (.int .i64 l[k].1.2.2) := hd k hkl 2 _ rfl
      have d3 : wr.cell? ⟨b, off + k * 5 + 3, none⟩ = some (.int .i64 l[k].2.1) := hd k hkl 3 _ rfl
      clear hd
      have HO := Lib.hid hown
      clear hown
      by_cases hs : l[k].2.1 = s
      · have HS := Lib.hid (ofS_yes hkl hs)
        have hs' : (l[k].2.1 == s) = true := beq_iff_eq.2 hs
        clear hs
        go_wp2_with (at_builtin; go_loud (
                     refine wpList_append_any _ rfl (.tmp 30) (.tmp 39) _ rfl w.heap.size 23 i0 _ 3 24 Try.underlying30 hi0 hz0 hz1 hz2 rfl (by omega) (.slice A1 n1 c1) n1 (cellsP (ofS (l.take k) s)) rfl (HO.out.alloc _) (wr.heap.size + 1) (some ⟨wr.heap.size, 0, none⟩) 1 1 (encP l[k].1) rfl (Reads.fresh wr 23 #[.int .i64 l[k].1.1, .int .i64 l[k].1.2.1, .int .i64 l[k].1.2.2] 1 3 rfl) (one_enc l[k].1) (by simp only [maxLen]; omega) (by omega) (by simp; omega) ?_
                     intro v3 w3 hown3 hg3 hat3
                     obtain ⟨A3, c3, rfl, hr3⟩ := own_reads hown3
                     rw [← snocP, ← HS.out] at hown3))
        go_roundw
        case rel => exact ⟨k + 1, n1 + 1, A3, c3, by omega, by go_num, rfl, by omega, hown3, below_own (hbw.alloc hbw.size _) (HO.out.alloc _) hg3 (by simp; have := hbw.size; omega) (Nat.le_refl _)⟩
        case measure => simp [intOf]; omega
      · have HS := Lib.hid (ofS_no hkl hs)
        have hs' : (l[k].2.1 == s) = false := beq_eq_false_iff_ne.2 hs
        clear hs
        go_wp2_with fail
        go_roundw
        case rel => exact ⟨k + 1, n1, A1, c1, by omega, by go_num, rfl, by omega, by rw [HS.out]; exact HO.out, hbw⟩
        case measure => simp [intOf]; omega
    · rw [ofS_all l s (k := k) (by have := HL.out; omega)] at hown
      have HO := Lib.hid hown
      clear hown
      go_wp2_with fail
      go_ret
      exact ⟨A1, n1, c1, rfl, HO.out, hbw⟩
theorem those_nil (s : Int) (w : World) : Calls Try.prog 32 #[.pointer none, .int .i64 s] w fun e w' => e = .returned (.slice none 0 0) ∧ w = w' := by
  go_enter Try.func32, Try.ntmps32
  go_wp2_with fail
  go_loopw [5, 6] (fun out i wr => i = .int .i64 0 ∧ out = .slice none 0 0 ∧ w = wr) (fun _ _ _ => 0)
  case atStart => exact ⟨rfl, rfl, rfl⟩
  case round =>
    obtain ⟨rfl, rfl, rfl⟩ := hrel
    go_wp2_with fail
    go_ret
    exact ⟨rfl, rfl⟩
set_option maxHeartbeats 400000 in
theorem open_any (F : Nat → Prop) (g : Nat) (l : List En) (w : World) (h : DeskF w F g l) (hn : l.length ≤ 100000) :
    Calls Try.prog 14 #[.pointer (some ⟨g, 0, none⟩)] w (RetOwn w 23 3 (cellsP (ofS l 0))) := by
  have C := Lib.hid (those_any F g l 0 w h hn)
  clear h
  go_enter Try.func14, Try.ntmps14
  go_wp2_with fail
  refine C.out.mono ?_
  rintro e w1 ⟨A, n, c, rfl, ho, hb⟩
  have HO := Lib.hid ho
  clear ho
  go_wp2_with fail
  go_ret
  exact ⟨A, n, c, rfl, HO.out, hb⟩
theorem open_nil (w : World) : Calls Try.prog 14 #[.pointer none] w fun e w' => e = .returned (.slice none 0 0) ∧ w = w' := by
  have C := those_nil 0 w
  go_enter Try.func14, Try.ntmps14
  go_wp2_with fail
  refine C.mono ?_
  rintro e w1 ⟨rfl, rfl⟩
  go_wp2_with fail
  go_ret
  exact ⟨rfl, rfl⟩
set_option maxHeartbeats 400000 in
theorem settled_any (F : Nat → Prop) (g : Nat) (l : List En) (w : World) (h : DeskF w F g l) (hn : l.length ≤ 100000) :
    Calls Try.prog 17 #[.pointer (some ⟨g, 0, none⟩)] w (RetOwn w 23 3 (cellsP (ofS l 1))) := by
  have C := Lib.hid (those_any F g l 1 w h hn)
  clear h
  go_enter Try.func17, Try.ntmps17
  go_wp2_with fail
  refine C.out.mono ?_
  rintro e w1 ⟨A, n, c, rfl, ho, hb⟩
  have HO := Lib.hid ho
  clear ho
  go_wp2_with fail
  go_ret
  exact ⟨A, n, c, rfl, HO.out, hb⟩
theorem settled_nil (w : World) : Calls Try.prog 17 #[.pointer none] w fun e w' => e = .returned (.slice none 0 0) ∧ w = w' := by
  have C := those_nil 1 w
  go_enter Try.func17, Try.ntmps17
  go_wp2_with fail
  refine C.mono ?_
  rintro e w1 ⟨rfl, rfl⟩
  go_wp2_with fail
  go_ret
  exact ⟨rfl, rfl⟩
set_option maxHeartbeats 400000 in
theorem refused_any (F : Nat → Prop) (g : Nat) (l : List En) (w : World) (h : DeskF w F g l) (hn : l.length ≤ 100000) :
    Calls Try.prog 18 #[.pointer (some ⟨g, 0, none⟩)] w (RetOwn w 23 3 (cellsP (ofS l 2))) := by
  have C := Lib.hid (those_any F g l 2 w h hn)
  clear h
  go_enter Try.func18, Try.ntmps18
  go_wp2_with fail
  refine C.out.mono ?_
  rintro e w1 ⟨A, n, c, rfl, ho, hb⟩
  have HO := Lib.hid ho
  clear ho
  go_wp2_with fail
  go_ret
  exact ⟨A, n, c, rfl, HO.out, hb⟩
theorem refused_nil (w : World) : Calls Try.prog 18 #[.pointer none] w fun e w' => e = .returned (.slice none 0 0) ∧ w = w' := by
  have C := those_nil 2 w
  go_enter Try.func18, Try.ntmps18
  go_wp2_with fail
  refine C.mono ?_
  rintro e w1 ⟨rfl, rfl⟩
  go_wp2_with fail
  go_ret
  exact ⟨rfl, rfl⟩
end Go.Proofs.Ytakjdffebpcmnaa
