/- The walks of the program's edges and twice. -/
import Derived.Test.YtomnodpmpdodbaaGeoC
import Derived.Test.YtomnodpmpdodbaaTwo
namespace Go.Proofs.Ytomnodpmpdodbaa
open Go.RowKit
theorem infoEd : (Try.prog.info? 60).map (fun i => (i.zero, i.size, i.bytes)) = some (some (.agg #[.int .i64 0, .int .i64 0, .int .i64 0, .int .i64 0]), 4, 32) := by kernel_rfl
theorem fr1Ed (u : World) (e : Ed) : Reads (u.alloc (.cells #[.int .i64 e.1.1, .int .i64 e.1.2, .int .i64 e.2.1, .int .i64 e.2.2] 60)) (u.heap.size + 1) 4 (some ⟨u.heap.size, 0, none⟩) 1 (encEd e) := by simpa [encEd] using Reads.fresh1 u 60 #[.int .i64 e.1.1, .int .i64 e.1.2, .int .i64 e.2.1, .int .i64 e.2.2] 4 rfl
theorem grown_far {wv w5 : World} {o : Obj} {row : Option Nat} {g1 b : Nat} (hg : ((wv.alloc o).drew).grownBy w5 row) (hn : ∀ g, row = some g → g ≠ g1 ∧ g ≠ b) (hb : b < wv.heap.size) (hl : g1 < wv.heap.size) (q : Addr) (hq : q.block = g1 ∨ q.block = b) : w5.cell? q = wv.cell? q :=
  (hg.cell_far q (by have : (wv.alloc o).drew.heap.size = wv.heap.size + 1 := by simp
                     rcases hq with e | e <;> omega) (fun e => by
    have := hn _ e.symm
    rcases hq with e | e <;> omega)).trans (World.cell?_alloc_lt wv o q (by rcases hq with e | e <;> omega))
theorem snocEd (l : List Ed) (p : Ed) : cellsEd (l ++ [p]) = cellsEd l ++ encEd p := by simp [cellsEd]
theorem one_encEd (p : Ed) : ∀ u ∈ encEd p, u.oneCell' = true := by
  intro u hu
  simp only [encEd, List.mem_cons, List.not_mem_nil, or_false] at hu
  rcases hu with rfl | rfl | rfl | rfl <;> rfl
theorem edges_take (p : List Pt) {k : Nat} (hk : k < p.length) : (edgesL p).take (k + 1) = (edgesL p).take k ++ [edgeZ p k] := by
  rw [List.take_succ_eq_append_getElem (by rw [edgesL_len]; exact hk), edgesL_at]
/-- The two cells of a point. -/
theorem pts_cells {w : World} {B n : Nat} {A : Option Addr} {p : List Pt} (h : Reads w B 2 A n (cellsPt p)) (hn : 0 < n) : ∃ b off, A = some ⟨b, off, none⟩ ∧ b < B ∧ ∀ k, k < n → w.cell? ⟨b, off + k * 2, none⟩ = some (.int .i64 (pAt p k).1) ∧ w.cell? ⟨b, off + k * 2 + 1, none⟩ = some (.int .i64 (pAt p k).2) := by
  have hl := recs_len h encPt_len (by omega)
  obtain ⟨b, off, e, hb, hc⟩ := h.recs encPt_len (by omega) hn
  refine ⟨b, off, e, hb, fun k hk => ?_⟩
  have hk' : k < p.length := by omega
  rw [pAt_get hk']
  exact ⟨hc k hk' 0 _ rfl, hc k hk' 1 _ rfl⟩
theorem eds_cells {w : World} {B n : Nat} {A : Option Addr} {l : List Ed} (h : Reads w B 4 A n (cellsEd l)) (hn : 0 < n) : ∃ b off, A = some ⟨b, off, none⟩ ∧ b < B ∧ ∀ k (hk : k < l.length), w.cell? ⟨b, off + k * 4, none⟩ = some (.int .i64 l[k].1.1) ∧ w.cell? ⟨b, off + k * 4 + 1, none⟩ = some (.int .i64 l[k].1.2) ∧ w.cell? ⟨b, off + k * 4 + 2, none⟩ = some (.int .i64 l[k].2.1) ∧ w.cell? ⟨b, off + k * 4 + 3, none⟩ = some (.int .i64 l[k].2.2) := by
  obtain ⟨b, off, e, hb, hc⟩ := h.recs encEd_len (by omega) hn
  exact ⟨b, off, e, hb, fun k hk => ⟨hc k hk 0 _ rfl, hc k hk 1 _ rfl, hc k hk 2 _ rfl, hc k hk 3 _ rfl⟩⟩
set_option maxHeartbeats 2000000 in
set_option maxRecDepth 10000 in
theorem edges_any (A : Option Addr) (n c : Nat) (p : List Pt) (w : World) (h : Reads w w.heap.size 2 A n (cellsPt p)) (hn : n ≤ 100000) : Calls Try.prog 34 #[.slice A n c] w (RetOwn w 60 4 (cellsEd (edgesL p))) := by
  obtain ⟨i0, hi0, hz0, hz1, hz2⟩ := info_parts infoEd
  have HH := Lib.hid h
  have HL := Lib.hid (recs_len h encPt_len (by omega))
  clear h
  go_enter Try.func34, Try.ntmps34
  go_wp2_with fail
  go_loopw [3, 8] (fun out i wr => ∃ (k : Nat) (A1 : Option Addr) (c1 : Nat), k ≤ n ∧ i = .int .i64 k ∧ out = .slice A1 k c1 ∧ wr.ownsRow w.heap.size 60 4 (.slice A1 k c1) k (cellsEd ((edgesL p).take k)) ∧ Below w.heap.size w wr) (fun _ i _ => n - (intOf i).toNat)
  case atStart => exact ⟨0, none, 0, Nat.zero_le _, rfl, rfl, World.ownsRow_nil _ _ _ _, Below.refl _ _⟩
  case round =>
    obtain ⟨k, A1, c1, hk, rfl, rfl, hown, hbw⟩ := hrel
    have HO := Lib.hid hown
    have HR := Lib.hid (HH.out.below hbw)
    have HBW := Lib.hid hbw
    have hsw : w.heap.size ≤ wr.heap.size := hbw.size
    clear hown hbw
    by_cases hlt : k < n
    · obtain ⟨b, off, rfl, hb, hc⟩ := pts_cells HR.out (by omega)
      obtain ⟨d0, d1⟩ := hc k hlt
      have hjn : (k + 1) % n < n := Nat.mod_lt _ (by omega)
      obtain ⟨j, hj⟩ : ∃ j, (k + 1) % n = j := ⟨_, rfl⟩
      rw [hj] at hjn
      obtain ⟨e0, e1⟩ := hc j hjn
      have hbr : b < wr.heap.size := by omega
      have HE : Hid (edgeZ p k = (pAt p k, pAt p j)) := Lib.hid (by unfold edgeZ; rw [HL.out, hj])
      have HT := Lib.hid (edges_take p (k := k) (by have := HL.out; omega))
      have hw1 : IntKind.i64.wrap ((k : Int) + 1) = (k : Int) + 1 := wr_ (by omega)
      have hm : ((k : Int) + 1).tmod (n : Int) = (j : Int) := by rw [← hj]; rfl
      have hm2 : ((k : Int) + 1) % (n : Int) = (j : Int) := by rw [← hj]; rfl
      have hj0 : (0 : Int) ≤ j := by omega
      have hj1 : (j : Int) < n := by omega
      have hk0 : (0 : Int) ≤ k := by omega
      have hk1 : (k : Int) < n := by omega
      have hn0 : ((n : Int) == 0) = false := by simp; omega
      have HC := Lib.hid hc
      clear hc hj
      go_wp2_with fail
      have B0 := Blk.new wr 23 #[.int .i64 (pAt p k).1, .int .i64 (pAt p k).2]
      have hbv : Below w.heap.size w (wr.alloc (.cells #[.int .i64 (pAt p k).1, .int .i64 (pAt p k).2] 23)) := HBW.out.alloc hsw _
      have g0 := (B0.cell 0).trans rfl; have g1 := (B0.cell 1).trans rfl
      have e0' : (wr.alloc (.cells #[.int .i64 (pAt p k).1, .int .i64 (pAt p k).2] 23)).cell? ⟨b, off + j * 2, none⟩ = some (.int .i64 (pAt p j).1) := (World.cell?_alloc_lt wr _ _ hbr).trans e0
      have e1' : (wr.alloc (.cells #[.int .i64 (pAt p k).1, .int .i64 (pAt p k).2] 23)).cell? ⟨b, off + j * 2 + 1, none⟩ = some (.int .i64 (pAt p j).2) := (World.cell?_alloc_lt wr _ _ hbr).trans e1
      have HOv := Lib.hid (HO.out.alloc (.cells #[.int .i64 (pAt p k).1, .int .i64 (pAt p k).2] 23))
      have hlv : wr.heap.size < (wr.alloc (.cells #[.int .i64 (pAt p k).1, .int .i64 (pAt p k).2] 23)).heap.size := by simp
      have HBv := Lib.hid hbv
      have HNB : Hid (∀ g, (Value.slice A1 k c1).ownBlock = some g → g ≠ wr.heap.size ∧ g ≠ b) := Lib.hid fun g hg => by
        have := HO.out.lt g hg
        omega
      have hnn : n ≠ 0 := by omega
      clear d0 d1 e0 e1 B0 hbv
      generalize wr.alloc (.cells #[.int .i64 (pAt p k).1, .int .i64 (pAt p k).2] 23) = wv at *
      have hbw : b < wv.heap.size := by omega
      have KS : ∀ {u : World}, Below wv.heap.size wv u → u.cell? ⟨wr.heap.size, 0, none⟩ = some (.int .i64 (pAt p k).1) ∧ u.cell? ⟨wr.heap.size, 1, none⟩ = some (.int .i64 (pAt p k).2) ∧ u.cell? ⟨b, off + j * 2, none⟩ = some (.int .i64 (pAt p j).1) ∧ u.cell? ⟨b, off + j * 2 + 1, none⟩ = some (.int .i64 (pAt p j).2) := fun h =>
        ⟨(h.cell hlv).trans g0, (h.cell hlv).trans g1, (h.cell hbw).trans e0', (h.cell hbw).trans e1'⟩
      have kk := Below.refl wv.heap.size wv
      go_region_held3 (fun u => u.cell? ⟨wr.heap.size, 0, none⟩ = some (.int .i64 (pAt p k).1) ∧ u.cell? ⟨wr.heap.size, 1, none⟩ = some (.int .i64 (pAt p k).2) ∧ u.cell? ⟨b, off + j * 2, none⟩ = some (.int .i64 (pAt p j).1) ∧ u.cell? ⟨b, off + j * 2 + 1, none⟩ = some (.int .i64 (pAt p j).2))
        (first | exact KS (below_drew_ kk) | exact KS (below_drew_ (below_alloc kk (Nat.le_refl _) _)) | exact ⟨(kq _ (.inl rfl)).trans g0, (kq _ (.inl rfl)).trans g1, (kq _ (.inr rfl)).trans e0', (kq _ (.inr rfl)).trans e1'⟩)
        (first | (refine step_append_any _ rfl (.tmp 13) (.tmp 24) _ (by rfl) _ 60 i0 _ 4 32 Try.underlying48 hi0 hz0 hz1 hz2 rfl (by omega) _ k _ (by rfl) (HOv.out.alloc _).drew _ _ 1 1 _ (by rfl) (Reads.drew (fr1Ed _ (pAt p k, pAt p j))) (one_encEd _) (by simp only [maxLen]; omega) (by omega) (by simp; omega) ?_; intro v5 w5 hown5 hg5 hat5; obtain ⟨A5, c5, rfl, hr5⟩ := own_reads hown5; have kq := fun q hq => grown_far hg5 HNB.out hbw hlv q hq; have g5 := hg5))
      have HO5 : Hid (w5.ownsRow w.heap.size 60 4 (.slice A5 (k + 1) c5) (k + 1) (cellsEd ((edgesL p).take (k + 1)))) := Lib.hid (by rw [HT.out, snocEd, HE.out]; exact hown5)
      have HB5 := Lib.hid (below_own (below_drew_ (HBv.out.alloc (by omega) _)) ((HOv.out.alloc _).drew) g5 (by simp; omega) (Nat.le_refl _))
      clear hown5 g5 kq hg5 hr5 hat5
      go_wp2_with fail
      go_roundw
      case rel => exact ⟨k + 1, A5, c5, by omega, by go_num, rfl, HO5.out, HB5.out⟩
      case measure => simp [intOf]; omega
    · obtain rfl : k = n := by omega
      have HE : Hid ((edgesL p).take k = edgesL p) := Lib.hid (List.take_of_length_le (by rw [edgesL_len]; have := HL.out; omega))
      go_wp2_with fail
      go_ret
      exact ⟨A1, k, c1, rfl, by rw [← HE.out]; exact HO.out, HBW.out⟩
end Go.Proofs.Ytomnodpmpdodbaa
