/- The walks of slices.Clone of entries and of charge.Desk's Copy. -/
import Derived.Test.YtakjdffebpcmnaaAsk
namespace Go.Proofs.Ytakjdffebpcmnaa
open Go.RowKit Go.Maps Go.WideMaps
/-- No ride stands twice. -/
def dist (l : List En) : Prop := ∀ k (hk : k < l.length), idx (l.take k) l[k].1.1 = none
theorem dist_nil : dist [] := fun _ hk => absurd hk (Nat.not_lt_zero _)
theorem dist_ask {l : List En} {p : P3} (h : dist l) : dist (askL l p) := by
  unfold askL
  split
  · rename_i hh
    intro k hk
    rcases Nat.lt_or_ge k l.length with h1 | h1
    · rw [List.getElem_append_left h1, List.take_append_of_le_length (by omega)]
      exact h k h1
    · have : k = l.length := by simp at hk; omega
      subst this
      simp only [List.take_left', List.getElem_concat_length]
      exact hh.2.1
  · exact h
theorem dist_ans {l : List En} {r e : Int} (h : dist l) : dist (ansL l r e) := by
  rcases hi : idx l r with _ | i
  · rw [ansL_none hi]; exact h
  · by_cases hs : (l[i]'(idx_lt hi)).2.1 = 0
    · rw [ansL_ok hi hs]
      have hil := idx_lt hi
      intro k hk
      have hk' : k < l.length := by simpa using hk
      have h1 := h k hk'
      have e1 : ((l.set i (l[i].1, stNew 0 e, l[i].2.2 + 1))[k]).1.1 = l[k].1.1 := by
        rw [List.getElem_set]; split
        · rename_i e; subst e; rfl
        · rfl
      rw [e1, List.take_set]
      by_cases hik : i < k
      · have e2 : (l.take k)[i]'(by simp; omega) = l[i] := by simp
        have := idx_set (l := l.take k) (i := i) (by simp; omega) (stNew 0 e) (l[i].2.2 + 1) l[k].1.1
        rw [e2] at this
        rw [this]; exact h1
      · rw [List.set_eq_of_length_le (by simp; omega)]; exact h1
    · rw [ansL_state hi hs]; exact h

set_option maxHeartbeats 400000 in
set_option maxRecDepth 10000 in
theorem cloneE_any (A : Option Addr) (n c : Nat) (l : List En) (w : World) (hr : Reads w w.heap.size 5 A n (cellsE l)) (hn : n ≤ 100000) :
    Calls Try.prog 37 #[.slice A n c] w (RetOwn w 68 5 (cellsE l)) := by
  obtain ⟨i0, hi0, hz0, hz1, hz2⟩ := info_parts Try.info68
  have HL := Lib.hid (recs_len hr encE_len (by omega))
  rcases A with _ | ad
  · have h0 : n = 0 := by
      rcases Nat.eq_zero_or_pos n with h | h
      · exact h
      · obtain ⟨ad, e, _⟩ := hr.2 h; cases e
    subst h0
    have hl : l = [] := List.eq_nil_of_length_eq_zero HL.out
    subst hl
    have hq := fun (w : World) (a : Option Addr) (n c : Nat) => Lib.run_eql_slice_nil (P := Try.prog) w 62 68 a n c 0 0 Try.underlying62
    go_enter Try.func37, Try.ntmps37
    go_wp2_with fail
    go_ret
    exact ⟨none, 0, 0, rfl, World.ownsRow_nil _ _ _ _, Below.refl _ _⟩
  · have hq := fun (w : World) (a : Option Addr) (n c : Nat) => Lib.run_eql_slice_nil (P := Try.prog) w 62 68 a n c 0 0 Try.underlying62
    go_enter Try.func37, Try.ntmps37
    go_wp2_with (at_builtin; refine wpList_append_any _ rfl (.tmp 5) (.tmp 6) _ rfl w.heap.size 68 i0 _ 5 40 Try.underlying62 hi0 hz0 hz1 hz2 rfl (by omega) (.slice (some ⟨w.heap.size, 0, none⟩) 0 0) 0 [] rfl (World.ownsRow_made (size := 5) w #[] 0 (Nat.le_refl _) (Nat.zero_le _) rfl) w.heap.size (some ad) n c (cellsE l) rfl (hr.alloc (Nat.le_refl _) _) (one_cellsE l) (by simp only [maxLen]; omega) (by omega) (by simp) ?_; intro v1 w1 hown1 hg1 hat1; simp only [Nat.zero_add, List.nil_append] at hown1; obtain ⟨A1, c1, rfl, _⟩ := own_reads hown1)
    go_ret
    exact ⟨A1, n, c1, rfl, hown1, below_own ((Below.refl _ _).alloc (Nat.le_refl _) _) (World.ownsRow_made (size := 5) w #[] 0 (Nat.le_refl _) (Nat.zero_le _) rfl) hg1 (by simp) (Nat.le_refl _)⟩

/-- A new desk comes back. -/
def RetDesk (w : World) (l : List En) (e : Ending) (w' : World) : Prop :=
  ∃ F g, e = .returned (.pointer (some ⟨g, 0, none⟩)) ∧ DeskF w' F g l ∧ (∀ k, F k → w.heap.size ≤ k) ∧ Below w.heap.size w w'
theorem copy_nil (w : World) : Calls Try.prog 23 #[.pointer none] w fun e w' => e = .returned (.pointer none) ∧ w = w' := by
  go_enter Try.func23, Try.ntmps23
  go_wp2_with fail
  go_ret
  exact ⟨rfl, rfl⟩

set_option maxHeartbeats 2000000 in
set_option maxRecDepth 10000 in
theorem copy_any (F : Nat → Prop) (g : Nat) (l : List En) (w : World) (h : DeskF w F g l) (hn : l.length ≤ 100000) (hd : dist l) (hrg : ∀ x ∈ l, rightB x.1 = true) :
    Calls Try.prog 23 #[.pointer (some ⟨g, 0, none⟩)] w (RetDesk w l) := by
  have HD := Lib.hid hd
  have HRG := Lib.hid hrg
  have hmm := @run_makeMap Try.prog
  obtain ⟨h1, h0, A, n, c, m, h2, h3, h4, h5, h6⟩ := h
  have hr := Reads.of_own h4
  have HL := Lib.hid (recs_len hr encE_len (by omega))
  have hn' : n ≤ 100000 := by have := HL.out; omega
  have hgs : g < w.heap.size := h0 g h1
  have c0 := h2.cell 0
  have C := Lib.hid (cloneE_any A n c l w hr hn')
  clear h2 h3 h4 h5 h6 h0 hn hr hd hrg
  go_enter Try.func23, Try.ntmps23
  go_wp2_with fail
  refine C.out.mono ?_
  rintro e w1 ⟨A1, n1, c1, rfl, hown1, hb1⟩
  have hnn : l.length = n1 := recs_len (Reads.of_own hown1) encE_len (by omega)
  obtain rfl : n = n1 := by rw [← HL.out, hnn]
  clear hnn
  have hs1 := hb1.size
  have HB1 := Lib.hid (((hb1.alloc (show w.heap.size ≤ w1.heap.size by omega) (.map #[] 0)).alloc (by simp; omega) (.cells #[.slice A1 n c1, .map (some w1.heap.size)] 64)))
  have HO1 := Lib.hid ((hown1.alloc (.map #[] 0)).alloc (.cells #[.slice A1 n c1, .map (some w1.heap.size)] 64))
  have hm1 : MapI Try.prog 3 3 ((w1.alloc (.map #[] 0)).alloc (.cells #[.slice A1 n c1, .map (some w1.heap.size)] 64)) w1.heap.size 0 (placeR []) := by
    have : placeR [] = fun _ => none := by funext kl; unfold placeR; split <;> rfl
    rw [this]
    exact (MapI.made w1 Try.prog 3 3).alloc _
  have hg1 : Blk ((w1.alloc (.map #[] 0)).alloc (.cells #[.slice A1 n c1, .map (some w1.heap.size)] 64)) (w1.heap.size + 1) 64 #[.slice A1 n c1, .map (some w1.heap.size)] := by
    simpa using Blk.new (w1.alloc (.map #[] 0)) 64 #[.slice A1 n c1, .map (some w1.heap.size)]
  have HM1 := Lib.hid hm1
  have HG1 := Lib.hid hg1
  clear hown1 hb1 hm1 hg1 c0
  go_wp2_with fail
  go_loopw [4, 5, 21] (fun _ _ i wr => ∃ k : Nat, k ≤ n ∧ i = .int .i64 k ∧ Blk wr (w1.heap.size + 1) 64 #[.slice A1 n c1, .map (some w1.heap.size)] ∧ wr.ownsRow w.heap.size 68 5 (.slice A1 n c1) n (cellsE l) ∧ MapI Try.prog 3 3 wr w1.heap.size k (placeR (l.take k)) ∧ Below w.heap.size w wr) (fun _ _ i _ => n - (intOf i).toNat)
  case atStart => exact ⟨0, Nat.zero_le _, rfl, HG1.out, HO1.out, HM1.out, HB1.out⟩
  case round =>
    obtain ⟨k, hk, rfl, hB, hO, hM, hbw⟩ := hrel
    have HB := Lib.hid hB
    have HO := Lib.hid hO
    have HM := Lib.hid hM
    have HBW := Lib.hid hbw
    have hgr : w1.heap.size + 1 < wr.heap.size := hB.lt
    by_cases hlt : k < n
    · obtain ⟨b, off, rfl, hb2, hd⟩ := (Reads.of_own hO).recs encE_len (by omega) (by omega)
      have hkl : k < l.length := by have := HL.out; omega
      have d0 : wr.cell? ⟨b, off + k * 5, none⟩ = some (.int .i64 l[k].1.1) := hd k hkl 0 _ rfl
      have d1 : wr.cell? ⟨b, off + k * 5 + 1, none⟩ = some (.int .i64 l[k].1.2.1) := hd k hkl 1 _ rfl
      have d2 : wr.cell? ⟨b, off + k * 5 + 2, none⟩ = some (.int .i64 l[k].1.2.2) := hd k hkl 2 _ rfl
      have d3 : wr.cell? ⟨b, off + k * 5 + 3, none⟩ = some (.int .i64 l[k].2.1) := hd k hkl 3 _ rfl
      have d4 : wr.cell? ⟨b, off + k * 5 + 4, none⟩ = some (.int .i64 l[k].2.2) := hd k hkl 4 _ rfl
      have hwf : (Lit.int .i64 l[k].1.1).wf = true := by
        have := of_decide_eq_true (HRG.out _ (List.getElem_mem hkl))
        exact WalkArith.wf_i64 (by omega)
      clear hB hO hM hbw hd
      go_wp2_with fail
      obtain ⟨w2, HW2⟩ : ∃ w2 : World, Hid (w2 = wr.alloc (.cells #[.int .i64 l[k].1.1, .int .i64 l[k].1.2.1, .int .i64 l[k].1.2.2, .int .i64 l[k].2.1, .int .i64 l[k].2.2] 68)) := ⟨_, Lib.hid rfl⟩
      rw [← HW2.out]
      have hx2 : Blk w2 wr.heap.size 68 #[.int .i64 l[k].1.1, .int .i64 l[k].1.2.1, .int .i64 l[k].1.2.2, .int .i64 l[k].2.1, .int .i64 l[k].2.2] := by rw [HW2.out]; exact Blk.new wr 68 _
      have hB2 : Blk w2 (w1.heap.size + 1) 64 #[.slice (some ⟨b, off, none⟩) n c1, .map (some w1.heap.size)] := by rw [HW2.out]; exact HB.out.alloc _
      have hO2 : w2.ownsRow w.heap.size 68 5 (.slice (some ⟨b, off, none⟩) n c1) n (cellsE l) := by rw [HW2.out]; exact HO.out.alloc _
      have hM2 : MapI Try.prog 3 3 w2 w1.heap.size k (placeR (l.take k)) := by rw [HW2.out]; exact HM.out.alloc _
      have hbw2 : Below w.heap.size w w2 := by rw [HW2.out]; exact HBW.out.alloc (by omega) _
      have x0 := hx2.cell 0
      have g1 := hB2.cell 1
      have HB2 := Lib.hid hB2
      have HO2 := Lib.hid hO2
      have HM2 := Lib.hid hM2
      have HBW2 := Lib.hid hbw2
      have hxs := hx2.lt
      have hgs2 := hB2.lt
      clear hx2 hB2 hO2 hM2 hbw2 HW2 HB HO HM HBW d0 d1 d2 d3 d4
      refine wp_region_still_tail 8 (by kernel_rfl) (by kernel_rfl) ?_
      simp only [List.take_succ_cons, List.take_zero, List.drop_succ_cons, List.drop_zero]
      change wpStill _ _ (World.drew w2) _ _ _
      repeat still_step
      refine wpStill_nil ?_
      change wpList _ _ _ _ _ (World.drew w2)
      refine wpList_putI _ rfl _ _ _ 61 rfl 3 3 intLaw Try.underlying61 Try.underlying3 w1.heap.size k (placeR (l.take k)) rfl HM2.out (by unfold maxLen; omega) (.int .i64 l[k].1.1) (.int .i64 l[k].1.1) (k : Int) rfl rfl (keyOf_int_mk Try.underlying3 hwf) trivial (WalkArith.wf_i64 (by omega)) ?_
      intro w3 hM3 hg3
      have HP : Hid (updL (placeR (l.take k)) (.int .i64 l[k].1.1) (k : Int) = placeR (l.take (k + 1))) := Lib.hid (by
        have := placeR_snoc (l := l.take k) (x := l[k]) (HD.out k hkl)
        rw [List.length_take, Nat.min_eq_left (by omega)] at this
        rw [this, List.take_succ_eq_append_getElem hkl])
      have HB3 : Hid (Blk w3 (w1.heap.size + 1) 64 #[.slice (some ⟨b, off, none⟩) n c1, .map (some w1.heap.size)]) := Lib.hid ((Blk.drew HB2.out).grown hg3 (fun e => by injection e with e; omega))
      have HO3 := Lib.hid (World.ownsRow.kept (w := w2.drew) HO2.out hg3 (.inr fun e => HM2.out.row_ne HO2.out e.symm))
      have HBW3 : Hid (Below w.heap.size w w3) := Lib.hid ((show Below w.heap.size w w2.drew from ⟨HBW2.out.os, HBW2.out.tape, HBW2.out.output, HBW2.out.size, HBW2.out.block⟩).grown hg3 (show w.heap.size ≤ w2.heap.size from HBW2.out.size) (fun k hk => by injection hk with hk; omega))
      clear hg3
      go_wp2_with fail
      go_roundw
      case rel => exact ⟨k + 1, by omega, by go_num, HB3.out, HO3.out, by rw [← HP.out]; exact hM3, HBW3.out⟩
      case measure => simp [intOf]; omega
    · have HK : Hid (l.take k = l) := Lib.hid (List.take_of_length_le (by have := HL.out; omega))
      have HKN : Hid (k = n) := Lib.hid (by omega)
      have c0 := hB.cell 0
      clear hB hO hM hbw
      go_wp2_with fail
      go_ret
      refine ⟨fun k => w.heap.size ≤ k ∧ k < wr.heap.size, w1.heap.size + 1, rfl, ⟨⟨by omega, hgr⟩, fun k hk => hk.2, A1, n, c1, w1.heap.size, HB.out, ⟨hs1, by omega⟩, own_mono HO.out (Nat.zero_le _), ?_, fun k hk => ?_⟩, fun k hk => hk.1, HBW.out⟩
      · have := HM.out
        rw [HK.out] at this
        rwa [HKN.out] at this
      · exact HO.out.lt k hk
end Go.Proofs.Ytakjdffebpcmnaa
