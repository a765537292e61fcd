/- The walk of ChargeOnce. -/
import Derived.Test.YtakjdffebpcmnaaLawsC
import Derived.Test.YtakjdffebpcmnaaPayOwn
import Derived.Deep.DeepCutAuto
import Derived.Deep.CutBlock
import Derived.Deep.RegionHeld3
import Derived.Test.YtakjdffebpcmnaaOpen
namespace Go.Proofs.Ytakjdffebpcmnaa
open Go.RowKit Go.Maps
/-- No ride of the first i payments stands twice. -/
def distI (m : List P3) (i : Nat) : Prop := ∀ a (ha : a < m.length), a < i → ∀ b (hb : b < a), m[a].1 ≠ (m[b]'(by omega)).1
def distJ (m : List P3) (i : Nat) (hi : i < m.length) (j : Nat) : Prop := ∀ b (hb : b < i), b < j → m[i].1 ≠ (m[b]'(by omega)).1
theorem distI_all {m : List P3} {i : Nat} (h : distI m i) (hi : m.length ≤ i) : distP m := fun a ha b hb => h a ha (by omega) b hb
theorem distI_succ {m : List P3} {i : Nat} (hi : i < m.length) (h : distI m i) (hj : distJ m i hi i) : distI m (i + 1) := fun a ha hai b hb => by
  rcases Nat.lt_or_ge a i with h1 | h1
  · exact h a ha h1 b hb
  · have : a = i := by omega
    subst this
    exact hj b hb hb
theorem distJ_succ {m : List P3} {i j : Nat} {hi : i < m.length} (h : distJ m i hi j) (hji : j < i) (hne : m[i].1 ≠ (m[j]'(by omega)).1) : distJ m i hi (j + 1) := fun b hb hbj => by
  rcases Nat.lt_or_ge b j with h1 | h1
  · exact h b hb h1
  · have : b = j := by omega
    subst this
    exact hne
/-- What a round of the desk and the bank keeps. -/
def OnceS (L : List En) (m : List P3) (k : Nat) : Prop := fine k L ∧ dist L ∧ distP m ∧ OnceI L m ∧ m.length ≤ 30 + k
theorem once_round {L : List En} {m : List P3} {k b : Nat} (h : OnceS L m k) (hk : k < 200) (hb : b < L.length) (h0 : L[b].2.1 = 0) :
    rightB L[b].1 = true ∧ (payE m L[b].1 = 0 ∨ payE m L[b].1 = 21) ∧
    ∀ (e : Int) (m' : List P3), (m' = if payE m L[b].1 = 0 then payL m L[b].1 else m) → (e = payE m L[b].1 ∨ e = 33) →
      ansE L L[b].1.1 = 0 ∧ OnceS (ansL L L[b].1.1 e) m' (k + 1) ∧ (ansL L L[b].1.1 e).length = L.length ∧ nOpen (ansL L L[b].1.1 e) ≤ nOpen L ∧ (e ≠ 33 → nOpen (ansL L L[b].1.1 e) + 1 ≤ nOpen L) := by
  obtain ⟨hf, hd, hdp, ho, hm⟩ := h
  have hrg := (hf.2 _ (List.getElem_mem hb)).1
  have hE : payE m L[b].1 = 0 ∨ payE m L[b].1 = 21 := by
    by_cases h1 : payE m L[b].1 = 0
    · exact .inl h1
    · rcases payE_no h1 with h2 | h2 | h2
      · rw [hrg] at h2; exact absurd h2.2 (by decide)
      · exact .inr h2.1
      · omega
  refine ⟨hrg, hE, fun e m' hm' he => ?_⟩
  obtain ⟨a1, a2⟩ := next_ans hd hb h0 e
  have hsub : ∀ x ∈ m, x ∈ m' := fun x hx => by
    rw [hm']; split
    · rename_i h1; exact payL_sub h1 hx
    · exact hx
  refine ⟨a1, ⟨fine_ans hf, dist_ans hd, ?_, ?_, ?_⟩, by rw [ansL_len], ?_, ?_⟩
  · rw [hm']; split
    · rename_i h1; exact distP_pay hdp h1
    · exact hdp
  · rw [a2]
    refine once_set ho hb hsub _ _ (fun h1 => ?_) (fun h1 => ?_)
    · have he0 : e = 0 := by
        rcases he with he | he
        · rcases hE with h2 | h2
          · rw [he, h2]
          · rw [he, h2] at h1; exact absurd h1 (by decide)
        · rw [he] at h1; exact absurd h1 (by decide)
      have hp0 : payE m L[b].1 = 0 := by
        rcases he with he | he
        · rw [← he]; exact he0
        · rw [he] at he0; exact absurd he0 (by decide)
      rw [hm', if_pos hp0]
      exact (payL_has hp0).2
    · have he1 : payE m L[b].1 = 21 := by
        rcases he with he | he
        · rcases hE with h2 | h2
          · rw [he, h2] at h1; exact absurd h1 (by decide)
          · exact h2
        · rw [he] at h1; exact absurd h1 (by decide)
      rcases payE_no (by rw [he1]; decide) with h2 | h2 | h2
      · omega
      · obtain ⟨x, hx, hx1⟩ := clash_mem h2.2
        exact ⟨x, hsub x hx, hx1⟩
      · omega
  · rw [hm']; split
    · rename_i h1; have := (payL_len h1).2; omega
    · omega
  · rw [a2]
    by_cases hs : stNew 0 e = 0
    · rw [hs]; exact Nat.le_of_eq (nOpen_set hb h0 _ _)
    · have := nOpen_close hb h0 L[b].1 (stNew 0 e) (L[b].2.2 + 1) hs; omega
  · intro hne
    rw [a2]
    have hs : stNew 0 e ≠ 0 := by
      rcases he with he | he
      · rcases hE with h2 | h2
        · rw [he, h2]; decide
        · rw [he, h2]; decide
      · exact absurd he hne
    have := nOpen_close hb h0 L[b].1 (stNew 0 e) (L[b].2.2 + 1) hs
    omega
theorem pay26_own_at (A : Option Addr) (n c : Nat) (l m : List P3) (pa pb pc x : Int) (w : World) (hr : Reads w w.heap.size 3 A n (cellsP l)) (hn : n ≤ 100000) (h1 : payE l (pa, pb, pc) = x) (h2 : payL l (pa, pb, pc) = m) :
    Calls Try.prog 26 #[.agg #[.slice A n c], .agg #[.int .i64 pa, .int .i64 pb, .int .i64 pc]] w (RetBankO w m x) := by
  rw [← h1, ← h2]; exact pay26_own A n c l pa pb pc w hr hn
theorem askL_len (L : List En) (p : P3) : (askL L p).length ≤ L.length + 1 := by
  unfold askL; split
  · simp
  · omega
theorem open_nil0 : ∀ e ∈ ([] : List En), e.2.1 = 0 := fun e he => by cases he
theorem fine_triesE {N : Nat} {l : List En} (h : fine N l) (hN : N ≤ 1000000) : ∀ x ∈ l, 0 ≤ x.2.2 ∧ x.2.2 ≤ 1000000 := fun x hx => by
  have := (h.2 x hx).2.2
  omega
/-- What the asking keeps. -/
def AskS (w wr : World) (F : Nat → Prop) (g : Nat) (L : List En) (A : Option Addr) (n c k : Nat) : Prop :=
  DeskF wr F g L ∧ fine 0 L ∧ dist L ∧ (∀ e ∈ L, e.2.1 = 0) ∧ (∀ j, F j → w.heap.size < j) ∧ Blk wr w.heap.size 51 #[.slice A n c] ∧ Below w.heap.size w wr ∧ L.length ≤ k
/-- What the rounds keep. -/
def RunS (w wr : World) (F : Nat → Prop) (g : Nat) (L : List En) (A : Option Addr) (n c : Nat) (m : List P3) (k no : Nat) : Prop :=
  DeskF wr F g L ∧ OnceS L m k ∧ L.length = no ∧ (∀ j, F j → w.heap.size < j) ∧ Blk wr w.heap.size 51 #[.slice A n c] ∧ RIn wr (fun j => ¬ F j ∧ j ≠ w.heap.size) 3 A n (cellsP m) ∧ Below w.heap.size w wr
theorem run_next {w W w8 : World} {F : Nat → Prop} {g : Nat} {L' : List En} {A : Option Addr} {n c : Nat} {m : List P3} {k no : Nat} (hd : DeskF w8 (With F W w8) g L') (ho : Only F W w8) (hos : OnceS L' m k) (hln : L'.length = no) (hF : ∀ j, F j → w.heap.size < j)
    (hB : Blk W w.heap.size 51 #[.slice A n c]) (hr : RIn W (fun j => ¬ F j ∧ j ≠ w.heap.size) 3 A n (cellsP m)) (hbw : Below w.heap.size w W) : RunS w w8 (With F W w8) g L' A n c m k no := by
  refine ⟨hd, hos, hln, fun j hj => ?_, ho.blk hB fun e => by have := hF _ e; omega, ?_, hbw.trans (ho.below (fun j _ hj => Nat.le_of_lt (hF j hj)) hbw.size)⟩
  · rcases hj with hj | hj
    · exact hF j hj
    · have := hB.lt; omega
  · have h1 : RIn W (fun j => (¬ F j ∧ j ≠ w.heap.size) ∧ j < W.heap.size) 3 A n (cellsP m) := hr.mono fun j hj h => ⟨h, hj⟩
    exact (h1.keep ho fun j _ h e => h.1.1 e).mono fun j _ h => ⟨fun e => e.elim h.1.1 fun e => by omega, h.1.2⟩
theorem run_store {w W : World} {F : Nat → Prop} {g : Nat} {L : List En} {A A' : Option Addr} {n c n' c' b : Nat} {m' : List P3} (hd : DeskF W F g L) (hF : ∀ j, F j → w.heap.size < j) (hB : Blk W w.heap.size 51 #[.slice A n c])
    (hown : W.ownsRow b 23 3 (.slice A' n' c') n' (cellsP m')) (hb : ∀ j, F j → j < b) (hb2 : w.heap.size < b) (hbw : Below w.heap.size w W) :
    DeskF (W.setCell ⟨w.heap.size, 0, none⟩ (.slice A' n' c')) F g L ∧ Blk (W.setCell ⟨w.heap.size, 0, none⟩ (.slice A' n' c')) w.heap.size 51 #[.slice A' n' c'] ∧ RIn (W.setCell ⟨w.heap.size, 0, none⟩ (.slice A' n' c')) (fun j => ¬ F j ∧ j ≠ w.heap.size) 3 A' n' (cellsP m') ∧ Below w.heap.size w (W.setCell ⟨w.heap.size, 0, none⟩ (.slice A' n' c')) := by
  have ho : Only (fun k => k = w.heap.size) W (W.setCell ⟨w.heap.size, 0, none⟩ (.slice A' n' c')) := (Only.refl (fun k => k = w.heap.size) W).setCell (p := ⟨w.heap.size, 0, none⟩) (fun _ => rfl) _
  refine ⟨hd.keep ho fun k hk e => by have := hF k hk; omega, hB.set_ 0 _, ?_, hbw.setCell (p := ⟨w.heap.size, 0, none⟩) (Nat.le_refl _) _⟩
  have h1 : RIn W (fun j => ¬ F j ∧ j ≠ w.heap.size) 3 A' n' (cellsP m') := (RIn.of_own hown).mono fun j _ hj => ⟨fun e => by have := hb j e; omega, by omega⟩
  exact h1.keep ho fun k _ hk e => hk.2 e
theorem set3_other (w : World) (g : Nat) (q : Addr) (u0 u1 u2 : Value) (h : q.block ≠ g) : (((w.setCell ⟨g, 0, none⟩ u0).setCell ⟨g, 1, none⟩ u1).setCell ⟨g, 2, none⟩ u2).cell? q = w.cell? q := by
  rw [World.cell?_setCell_other _ _ _ _ (fun e => h (by rw [← e])), World.cell?_setCell_other _ _ _ _ (fun e => h (by rw [← e])), World.cell?_setCell_other _ _ _ _ (fun e => h (by rw [← e]))]
theorem set3_blk {w : World} {g t : Nat} {a b c u0 u1 u2 : Value} (h : Blk w g t #[a, b, c]) : Blk (((w.setCell ⟨g, 0, none⟩ u0).setCell ⟨g, 1, none⟩ u1).setCell ⟨g, 2, none⟩ u2) g t #[u0, u1, u2] := by
  have := ((h.set_ 0 u0).set_ 1 u1).set_ 2 u2
  simpa using this
theorem set3_below {w0 w : World} {B g : Nat} (u0 u1 u2 : Value) (h : Below B w0 w) (hg : B ≤ g) : Below B w0 (((w.setCell ⟨g, 0, none⟩ u0).setCell ⟨g, 1, none⟩ u1).setCell ⟨g, 2, none⟩ u2) :=
  ((h.setCell (p := ⟨g, 0, none⟩) hg _).setCell (p := ⟨g, 1, none⟩) hg _).setCell (p := ⟨g, 2, none⟩) hg _
/-- What a payment that was looked up leaves. -/
def PaidI (w0 : World) (a b c : Int) (s1 s2 : Value) (wx : World) : Prop := ∃ g, s1 = .pointer (some ⟨g, 0, none⟩) ∧ s2 = .bool true ∧ Blk wx g 23 #[.int .i64 a, .int .i64 b, .int .i64 c] ∧ w0.heap.size ≤ g ∧ Below w0.heap.size w0 wx
def EndI (w wr : World) (g no : Nat) : Prop := ∃ F L A n c m k, RunS w wr F g L A n c m k no ∧ k ≤ 160 ∧ nOpen L = 0
set_option maxHeartbeats 16000000 in
set_option maxRecDepth 100000 in
theorem chargeOnce_walk (Al : Option Addr) (nl cl : Nat) (l : List P3) (Aq : Option Addr) (nq cq : Nat) (q : List P3) (Af : Option Addr) (nf cf : Nat) (fl : List Bool) (w : World)
    (hrl : Reads w w.heap.size 3 Al nl (cellsP l)) (hnl : nl ≤ cl) (hcl : cl ≤ maxLen) (hrq : Reads w w.heap.size 3 Aq nq (cellsP q)) (hnq : nq ≤ cq) (hcq : cq ≤ maxLen) (hrf : Reads w w.heap.size 1 Af nf (fl.map Value.bool)) (hnf : nf ≤ cf) (hcf : cf ≤ maxLen) :
    Calls Try.prog 9 #[.agg #[.slice Al nl cl], .slice Aq nq cq, .slice Af nf cf] w (AwakePost w) := by
  have hnl' : nl ≤ 9223372036854775807 := Nat.le_trans hnl hcl
  have hnq' : nq ≤ 9223372036854775807 := Nat.le_trans hnq hcq
  have hnf' : nf ≤ 9223372036854775807 := Nat.le_trans hnf hcf
  clear hnl hcl hnq hcq hnf hcf
  have HAL := Lib.hid (below_alloc (Below.refl w.heap.size w) (Nat.le_refl _) (.cells #[.slice Al nl cl] 51))
  have hb0 := Blk.new w 51 #[.slice Al nl cl]
  by_cases hbad : 30 < nl ∨ 30 < nq ∨ 100 < nf
  · have hcs : 30 < nl ∨ (nl ≤ 30 ∧ 30 < nq) ∨ (nl ≤ 30 ∧ nq ≤ 30 ∧ 100 < nf) := by omega
    clear hbad hrl hrq hrf
    rcases hcs with h1 | ⟨h1, h2⟩ | ⟨h1, h2, h3⟩
    all_goals
      go_enter Try.func9, Try.ntmps9
      go_wp2_with fail
      refine (new_any _).mono ?_
      rintro e w1 ⟨F1, g, rfl, hd1, hF1, hb1⟩
      have B0 := hb0.below hb1 hb0.lt
      have c0 := B0.cell 0
      have hbw := HAL.out.trans (hb1.mono HAL.out.size)
      have HBW := Lib.hid hbw
      clear hd1 hF1 hb0 hb1 hbw
      go_wp2_with fail
      refine (awake_any _).mono ?_
      rintro e w2 ⟨rfl, hb2⟩
      go_wp2_with fail
      go_ret
      exact ⟨rfl, HBW.out.trans (hb2.mono HBW.out.size)⟩
  · have g1 : nl ≤ 30 := by omega
    have g2 : nq ≤ 30 := by omega
    have g3 : nf ≤ 100 := by omega
    clear hbad
    have HL := Lib.hid (recs_len hrl encP_len (by omega))
    have HLQ := Lib.hid (recs_len hrq encP_len (by omega))
    have HLF : Hid (fl.length = nf) := Lib.hid (by have := hrf.1; simpa using this)
    have HRL := Lib.hid hrl; have HRQ := Lib.hid hrq; have HRF := Lib.hid hrf
    clear hrl hrq hrf
    go_enter Try.func9, Try.ntmps9
    go_wp2_with fail
    refine (new_any _).mono ?_
    rintro e w1 ⟨F1, g, rfl, hd1, hF1, hb1⟩
    have B0 := hb0.below hb1 hb0.lt
    have c0 := B0.cell 0
    have HB0 := Lib.hid B0
    have HBW := Lib.hid (HAL.out.trans (hb1.mono HAL.out.size))
    have HD1 := Lib.hid hd1
    have HF1 : Hid (∀ j, F1 j → w.heap.size < j) := Lib.hid fun j hj => by have := hF1 j hj; simp at this; omega
    have HRL1 := Lib.hid (HRL.out.below HBW.out)
    clear hd1 hF1 hb0 hb1 B0
    go_wp2_with fail
    go_loopw [8] (fun i wr => ∃ i' q' : Nat, i' ≤ nl ∧ i = .int .i64 i' ∧ distI l i' ∧ Hid (wr = w1.drewN q')) (fun i _ => nl - (intOf i).toNat)
    case atStart => exact ⟨0, 0, Nat.zero_le _, rfl, fun a _ h => absurd h (Nat.not_lt_zero _), rfl⟩
    case round =>
      obtain ⟨i, q', hi, rfl, hdi, HWQ⟩ := hrel
      obtain ⟨v2, rfl⟩ : ∃ v2 : World, v2 = wr := ⟨_, rfl⟩
      have HDI := Lib.hid hdi
      have B0 : Blk v2 w.heap.size 51 #[.slice Al nl cl] := by rw [HWQ.out]; exact HB0.out
      have c1 := B0.cell 0
      clear hdi B0 c0
      by_cases hlt : i < nl
      · have hil : i < l.length := by have := HL.out; omega
        have hi0 : (0 : Int) ≤ i := by omega
        have hi1 : (i : Int) < nl := by omega
        obtain ⟨b, off, rfl, hb2, hcc⟩ := HRL1.out.recs encP_len (by omega) (by omega)
        have HCC := Lib.hid hcc
        clear hcc
        go_wp2_with fail
        go_loopw [9] (fun j wr => ∃ j' q' : Nat, j' ≤ i ∧ j = .int .i64 j' ∧ distJ l i hil j' ∧ Hid (wr = w1.drewN q')) (fun j _ => i - (intOf j).toNat)
        case atStart => exact ⟨0, q', Nat.zero_le _, rfl, fun a _ h => absurd h (Nat.not_lt_zero _), HWQ⟩
        case round =>
          obtain ⟨j, q2, hj, rfl, hdj, HW2⟩ := hrel
          have HDJ := Lib.hid hdj
          have B1 : Blk wr w.heap.size 51 #[.slice (some ⟨b, off, none⟩) nl cl] := by rw [HW2.out]; exact HB0.out
          have c2 := B1.cell 0
          clear hdj B1 c1
          by_cases hji : j < i
          · have hj0 : (0 : Int) ≤ j := by omega
            have hj1 : (j : Int) < nl := by omega
            have e1 : wr.cell? ⟨b, off + i * 3, none⟩ = some (.int .i64 l[i].1) := by rw [HW2.out]; exact HCC.out i hil 0 _ rfl
            have e2 : wr.cell? ⟨b, off + j * 3, none⟩ = some (.int .i64 l[j].1) := by rw [HW2.out]; exact HCC.out j (by omega) 0 _ rfl
            by_cases he : l[i].1 = l[j].1
            · have t1 : (l[i].1 == l[j].1) = true := beq_iff_eq.2 he
              have HBB : Hid (Below w.heap.size w wr) := Lib.hid (by rw [HW2.out]; exact below_drewN HBW.out q2)
              clear he
              go_wp2_with fail
              go_quiet (fail)
              go_wp2_with fail
              refine (awake_any _).mono ?_
              rintro e w2 ⟨rfl, hb2⟩
              go_wp2_with fail
              go_ret
              exact ⟨rfl, (below_drewN HBB.out nq).trans (hb2.mono (below_drewN HBB.out nq).size)⟩
            · have t1 : (l[i].1 == l[j].1) = false := beq_eq_false_iff_ne.2 he
              have HDJ2 := Lib.hid (distJ_succ HDJ.out hji he)
              clear he
              go_wp2_with fail
              go_quiet (fail)
              go_wp2_with fail
              go_roundw
              case rel => exact ⟨j + 1, q2 + nq, by omega, by go_num, HDJ2.out, by rw [HW2.out, World.drewN_drewN]; rfl⟩
              case measure => simp [intOf]; omega
          · obtain rfl : j = i := by omega
            have HDI2 := Lib.hid (distI_succ hil HDI.out HDJ.out)
            go_wp2_with fail
            go_roundw
            case rel => exact ⟨j + 1, q2, by omega, by go_num, HDI2.out, HW2⟩
            case measure => simp [intOf]; omega
      · obtain rfl : i = nl := by omega
        have HDP := Lib.hid (distI_all HDI.out (Nat.le_of_eq HL.out))
        have HB2 : Hid (Blk v2 w.heap.size 51 #[.slice Al i cl]) := Lib.hid (by rw [HWQ.out]; exact HB0.out)
        have HBW2 : Hid (Below w.heap.size w v2) := Lib.hid (by rw [HWQ.out]; exact below_drewN HBW.out q')
        have HD2 : Hid (DeskF v2 F1 g []) := Lib.hid (by rw [HWQ.out]; exact HD1.out.below (below_drewN (Below.refl _ _) q'))
        clear HWQ HB0 HBW HD1 HDI HRL1 HAL
        go_wp2_with fail
        go_loopw [10] (fun i' wr => ∃ (k : Nat) (F : Nat → Prop) (L : List En), k ≤ nq ∧ i' = .int .i64 k ∧ AskS w wr F g L Al i cl k) (fun i' _ => nq - (intOf i').toNat)
        case atStart => exact ⟨0, F1, [], Nat.zero_le _, rfl, HD2.out, fine_nil 0, dist_nil, open_nil0, HF1.out, HB2.out, HBW2.out, Nat.zero_le _⟩
        case round =>
          obtain ⟨k, F, L, hk, rfl, hd, hfi, hdi, hao, hF, hB, hbw, hlk⟩ := hrel
          have HASK := Lib.hid hlk
          have HD := Lib.hid hd; have HFI := Lib.hid hfi; have HDI := Lib.hid hdi; have HAO := Lib.hid hao; have HF := Lib.hid hF; have HB := Lib.hid hB; have HBW := Lib.hid hbw
          obtain ⟨v3, rfl⟩ : ∃ v3 : World, v3 = wr := ⟨_, rfl⟩
          clear hd hfi hdi hao hF hB hbw hlk HB2 HBW2 HD2 HF1
          by_cases hlt2 : k < nq
          · have hk0 : (0 : Int) ≤ k := by omega
            have hk1 : (k : Int) < nq := by omega
            have hkl : k < q.length := by have := HLQ.out; omega
            obtain ⟨b, off, rfl, hb2, hcc⟩ := (HRQ.out.below HBW.out).recs encP_len (by omega) (by omega)
            have d0 : v3.cell? ⟨b, off + k * 3, none⟩ = some (.int .i64 q[k].1) := hcc k hkl 0 _ rfl
            have d1 : v3.cell? ⟨b, off + k * 3 + 1, none⟩ = some (.int .i64 q[k].2.1) := hcc k hkl 1 _ rfl
            have d2 : v3.cell? ⟨b, off + k * 3 + 2, none⟩ = some (.int .i64 q[k].2.2) := hcc k hkl 2 _ rfl
            clear hcc
            go_wp2_with fail
            refine (ask_any F g L q[k].1 q[k].2.1 q[k].2.2 _ HD.out (by have := HFI.out.1; omega)).mono ?_
            rintro e w2 ⟨rfl, hd2, ho2⟩
            have hwF : ∀ j, With F v3 w2 j → w.heap.size < j := fun j hj => hj.elim (HF.out j) fun e => by have := HB.out.lt; omega
            have hB2 := ho2.blk HB.out fun e => by have := HF.out _ e; omega
            have hbw2 := HBW.out.trans (ho2.below (fun j _ hj => Nat.le_of_lt (HF.out j hj)) HBW.out.size)
            have HNEW := Lib.hid (show AskS w w2 (With F v3 w2) g (askL L q[k]) Al i cl (k + 1) from ⟨hd2, fine_ask HFI.out, dist_ask HDI.out, ask_open HAO.out, hwF, hB2, hbw2, Nat.le_trans (askL_len L q[k]) (by have := HASK.out; omega)⟩)
            clear hwF hB2 hbw2 hd2 ho2
            go_wp2_with fail
            go_roundw
            case rel => exact ⟨k + 1, _, _, by omega, by go_num, HNEW.out⟩
            case measure => simp [intOf]; omega
          · obtain rfl : k = nq := by omega
            have hlen : L.length ≤ 256 := HFI.out.1
            go_wp2_with fail
            refine (open_any F g L _ HD.out (by omega)).mono ?_
            rintro e w4 ⟨A4, n4, c4, rfl, ho4, hb4⟩
            have HNO : Hid (L.length = n4) := Lib.hid (by have := recs_len (Reads.of_own ho4) encP_len (by omega); rwa [all_open HAO.out] at this)
            have HD4 := Lib.hid (HD.out.below hb4)
            have HB4 := Lib.hid (HB.out.below hb4 HB.out.lt)
            have HBW4 := Lib.hid (HBW.out.trans (hb4.mono HBW.out.size))
            clear ho4 hb4 HD HB HBW
            have hn4 : n4 ≤ 30 := by
              have h1 := HNO.out
              have h2 := HASK.out
              omega
            have HRUN : Hid (RunS w w4 F g L Al i cl l 0 n4 ∧ nOpen L = n4) := Lib.hid ⟨⟨HD4.out, ⟨fine_mono HFI.out (by omega), HDI.out, HDP.out, once_open HAO.out, by rw [HL.out]; omega⟩, HNO.out, HF.out, HB4.out, ⟨(HRL.out.below HBW4.out).1, fun h0 => by
              obtain ⟨ad, e1, e2, e3⟩ := (HRL.out.below HBW4.out).2 h0
              exact ⟨ad, e1, ⟨fun e => by have := HF.out _ e; omega, by omega⟩, Nat.lt_of_lt_of_le e2 HBW4.out.size, e3⟩⟩, HBW4.out⟩, by rw [← ofS_open, all_open HAO.out, HNO.out]⟩
            clear HD4 HB4 HBW4 HFI HDI HAO HF HDP
            go_upto_block 6 with fail
            go_cut [12, 13, 14, 15, 16] from 92 to 131 (fun _ _ _ _ _ wx => EndI w wx g n4)
            case first =>
              go_wp2_with fail
              go_loopw [12] (fun i' wr => ∃ (k2 : Nat) (F : Nat → Prop) (L : List En) (A : Option Addr) (n c : Nat) (m : List P3), k2 ≤ nf + n4 ∧ i' = .int .i64 k2 ∧ RunS w wr F g L A n c m k2 n4 ∧ nOpen L ≤ n4 ∧ nOpen L + k2 ≤ n4 + nf) (fun i' _ => nf + n4 - (intOf i').toNat)
              case atStart => exact ⟨0, F, L, Al, i, cl, l, Nat.zero_le _, rfl, HRUN.out.1, Nat.le_of_eq HRUN.out.2, by have := HRUN.out.2; omega⟩
              case round =>
                obtain ⟨k2, F2, L2, A, n, c, m, hk2, rfl, ⟨hd, hos, hln, hF, hB, hrm, hbw⟩, ho1, ho2⟩ := hrel
                obtain ⟨v5, rfl⟩ : ∃ v5 : World, v5 = wr := ⟨_, rfl⟩
                have HD := Lib.hid hd; have HOS := Lib.hid hos; have HLN := Lib.hid hln; have HF := Lib.hid hF; have HB := Lib.hid hB; have HRM := Lib.hid hrm; have HBW := Lib.hid hbw; have HO1 := Lib.hid ho1; have HO2 := Lib.hid ho2
                have hlen2 : L2.length ≤ 100000 := by omega
                clear hd hos hln hF hB hrm hbw ho1 ho2 HRUN
                by_cases hlt3 : k2 < nf + n4
                · have hlt4 : (k2 : Int) < (nf : Int) + n4 := by omega
                  rcases hnb : nextB L2 with _ | _
                  · have HEND : Hid (nOpen L2 = 0) := Lib.hid (by
                      rcases Nat.eq_zero_or_pos (nOpen L2) with h | h
                      · exact h
                      · rw [nextB_iff.2 h] at hnb; exact absurd hnb (by decide))
                    obtain ⟨⟨pa, pb, pc⟩, hp⟩ : ∃ p, nextP L2 = p := ⟨_, rfl⟩
                    have HP := Lib.hid hp; have HNB := Lib.hid hnb
                    clear hp hnb
                    go_wp2_with fail
                    refine (next_at F2 g L2 pa pb pc false _ HD.out hlen2 HP.out HNB.out).mono ?_
                    rintro e w5 ⟨rfl, hb5⟩
                    have hba := hb5.alloc hb5.size (.cells #[.int .i64 pa, .int .i64 pb, .int .i64 pc] 23)
                    have HFIN : Hid (EndI w (w5.alloc (.cells #[.int .i64 pa, .int .i64 pb, .int .i64 pc] 23)) g n4) := Lib.hid ⟨F2, L2, A, n, c, m, k2, ⟨HD.out.below hba, HOS.out, HLN.out, HF.out, HB.out.below hba HB.out.lt, HRM.out.below hba, HBW.out.trans (hba.mono HBW.out.size)⟩, by omega, HEND.out⟩
                    clear hba
                    go_wp2_with fail
                    go_meet
                    exact HFIN.out
                  · obtain ⟨b, hb, hp, h0, _, _⟩ := next_spec hnb
                    obtain ⟨hrg, hE, hround⟩ := once_round HOS.out (by omega) hb h0
                    generalize L2[b].1 = pp at hp hrg hE hround
                    obtain ⟨pa, pb, pc⟩ := pp
                    have hrg' : 1 ≤ pa ∧ pa ≤ 1000000 := let h := of_decide_eq_true hrg; ⟨h.1, h.2.1⟩
                    obtain ⟨x, hx⟩ : ∃ x, payE m (pa, pb, pc) = x := ⟨_, rfl⟩
                    obtain ⟨m1, hm1⟩ : ∃ m1, payL m (pa, pb, pc) = m1 := ⟨_, rfl⟩
                    rw [hx, hm1] at hround
                    rw [hx] at hE
                    have HP := Lib.hid hp; have HNB := Lib.hid hnb; have HX := Lib.hid hx; have HM1 := Lib.hid hm1; have HROUND := Lib.hid hround
                    clear hp hnb h0 hrg hx hm1 hround
                    have hnm : n ≤ 100000 := by have := recs_len HRM.out.reads encP_len (by omega); have := HOS.out.2.2.2.2; omega
                    go_wp2_with fail
                    refine (next_at F2 g L2 pa pb pc true _ HD.out hlen2 HP.out HNB.out).mono ?_
                    rintro e w5 ⟨rfl, hb5⟩
                    have hba := hb5.alloc hb5.size (.cells #[.int .i64 pa, .int .i64 pb, .int .i64 pc] 23)
                    have HB13 := Lib.hid (Blk.new w5 23 #[.int .i64 pa, .int .i64 pb, .int .i64 pc])
                    have a0 := HB13.out.cell 0; have a1 := HB13.out.cell 1; have a2 := HB13.out.cell 2
                    have HD5 := Lib.hid (HD.out.below hba)
                    have HB5 := Lib.hid (HB.out.below hba HB.out.lt)
                    have c5 := HB5.out.cell 0
                    have HRM5 := Lib.hid (HRM.out.below hba)
                    have HBW5 := Lib.hid (HBW.out.trans (hba.mono HBW.out.size))
                    have hs5 : v5.heap.size ≤ w5.heap.size := hb5.size
                    clear hba hb5
                    go_wp2_with fail
                    refine (pay26_own_at A n c m m1 pa pb pc x _ HRM5.out.reads hnm HX.out HM1.out).mono ?_
                    rintro e w6 ⟨A6, n6, c6, rfl, hown6, hc6, hb6⟩
                    have hba6 := hb6.alloc hb6.size (.cells #[.slice A6 n6 c6] 51)
                    have HD6 := Lib.hid (HD5.out.below hba6)
                    have HB6 := Lib.hid (HB5.out.below hba6 HB5.out.lt)
                    have HB136 := Lib.hid (HB13.out.below hba6 HB13.out.lt)
                    have HB15 := Lib.hid (Blk.new w6 51 #[.slice A6 n6 c6])
                    have HRM6 := Lib.hid (HRM5.out.below hba6)
                    have HBW6 := Lib.hid (HBW5.out.trans (hba6.mono HBW5.out.size))
                    have HOW6 := Lib.hid (hown6.alloc (.cells #[.slice A6 n6 c6] 51))
                    have hs6 : w5.heap.size + 1 ≤ w6.heap.size := by have := hb6.size; simpa using this
                    have c6' := HB6.out.cell 0; have c15 := HB15.out.cell 0
                    have f6 := HB6.out.frozen 0
                    have b0 := HB136.out.cell 0; have b1 := HB136.out.cell 1; have b2 := HB136.out.cell 2
                    clear a0 a1 a2 c5 hba6 hb6 hown6 HRM5 HB5 HD5 HB13
                    rcases hE with rfl | rfl
                    · have hsz : (w5.alloc (.cells #[.int .i64 pa, .int .i64 pb, .int .i64 pc] 23)).heap.size = w5.heap.size + 1 := by simp
                      have hfb : ∀ j, F2 j → j < (w5.alloc (.cells #[.int .i64 pa, .int .i64 pb, .int .i64 pc] 23)).heap.size := fun j hj => by
                        have h1 := HD.out.2.1 j hj
                        rw [hsz]
                        omega
                      have hwb : w.heap.size < (w5.alloc (.cells #[.int .i64 pa, .int .i64 pb, .int .i64 pc] 23)).heap.size := by
                        have h1 := HBW.out.size
                        rw [hsz]
                        omega
                      have hst := run_store HD6.out HF.out HB6.out HOW6.out hfb hwb HBW6.out
                      clear hsz hfb hwb
                      have HD7 := Lib.hid hst.1; have HB7 := Lib.hid hst.2.1; have HR7 := Lib.hid hst.2.2.1; have HBW7 := Lib.hid hst.2.2.2
                      have HB137 : Hid (Blk ((w6.alloc (.cells #[.slice A6 n6 c6] 51)).setCell ⟨w.heap.size, 0, none⟩ (.slice A6 n6 c6)) w5.heap.size 23 #[.int .i64 pa, .int .i64 pb, .int .i64 pc]) := Lib.hid (HB136.out.far (by show w5.heap.size ≠ w.heap.size; have := HB.out.lt; omega) _)
                      have b3 := HB137.out.cell 0
                      clear hst
                      by_cases hkf : k2 < nf
                      · have hkl : k2 < fl.length := by have := HLF.out; omega
                        have hk0 : (0 : Int) ≤ k2 := by omega
                        have hk1 : (k2 : Int) < nf := by omega
                        obtain ⟨bf, off', hAf, _, hcf⟩ := (HRF.out.below HBW7.out).open_ (by omega) (by omega)
                        subst hAf
                        have d0 := hcf k2 (.bool fl[k2]) (by simp [hkl])
                        clear hcf
                        rcases hfl : fl[k2] with _ | _
                        · rw [hfl] at d0
                          clear hfl
                          have HRD := Lib.hid (HROUND.out 0 _ rfl (.inl rfl))
                          go_wp2_with fail
                          refine (answer_at F2 g L2 _ pa 0 0 _ HD7.out (WalkArith.wf_i64 (by omega)) hlen2 (fine_triesE HOS.out.1 (by omega)) HRD.out.1 rfl).mono ?_
                          rintro e w8 ⟨rfl, hd8, ho8⟩
                          have HRUN8 := Lib.hid (run_next hd8 ho8 HRD.out.2.1 (HRD.out.2.2.1.trans HLN.out) HF.out HB7.out HR7.out HBW7.out)
                          have HN8 : Hid (nOpen (ansL L2 pa 0) ≤ n4 ∧ nOpen (ansL L2 pa 0) + (k2 + 1) ≤ n4 + nf) := Lib.hid (by have h1 := HRD.out.2.2.2.1; have h3 := HO1.out; have h4 := HO2.out; have h2 := HRD.out.2.2.2.2 (by decide); exact ⟨by omega, by omega⟩)
                          clear hd8 ho8
                          go_wp2_with fail
                          go_roundw
                          case rel => exact ⟨k2 + 1, _, _, _, _, _, _, by omega, by go_num, HRUN8.out, HN8.out.1, HN8.out.2⟩
                          case measure => simp [intOf]; omega
                        · rw [hfl] at d0
                          clear hfl
                          have HRD := Lib.hid (HROUND.out 33 _ rfl (.inr rfl))
                          go_wp2_with fail
                          refine (answer_at F2 g L2 _ pa 33 0 _ HD7.out (WalkArith.wf_i64 (by omega)) hlen2 (fine_triesE HOS.out.1 (by omega)) HRD.out.1 rfl).mono ?_
                          rintro e w8 ⟨rfl, hd8, ho8⟩
                          have HRUN8 := Lib.hid (run_next hd8 ho8 HRD.out.2.1 (HRD.out.2.2.1.trans HLN.out) HF.out HB7.out HR7.out HBW7.out)
                          have HN8 : Hid (nOpen (ansL L2 pa 33) ≤ n4 ∧ nOpen (ansL L2 pa 33) + (k2 + 1) ≤ n4 + nf) := Lib.hid (by have h1 := HRD.out.2.2.2.1; have h3 := HO1.out; have h4 := HO2.out; exact ⟨by omega, by omega⟩)
                          clear hd8 ho8
                          go_wp2_with fail
                          go_roundw
                          case rel => exact ⟨k2 + 1, _, _, _, _, _, _, by omega, by go_num, HRUN8.out, HN8.out.1, HN8.out.2⟩
                          case measure => simp [intOf]; omega
                      · have hk1 : (nf : Int) ≤ k2 := by omega
                        have HRD := Lib.hid (HROUND.out 0 _ rfl (.inl rfl))
                        go_wp2_with fail
                        refine (answer_at F2 g L2 _ pa 0 0 _ HD7.out (WalkArith.wf_i64 (by omega)) hlen2 (fine_triesE HOS.out.1 (by omega)) HRD.out.1 rfl).mono ?_
                        rintro e w8 ⟨rfl, hd8, ho8⟩
                        have HRUN8 := Lib.hid (run_next hd8 ho8 HRD.out.2.1 (HRD.out.2.2.1.trans HLN.out) HF.out HB7.out HR7.out HBW7.out)
                        have HN8 : Hid (nOpen (ansL L2 pa 0) ≤ n4 ∧ nOpen (ansL L2 pa 0) + (k2 + 1) ≤ n4 + nf) := Lib.hid (by have h1 := HRD.out.2.2.2.1; have h3 := HO1.out; have h4 := HO2.out; have h2 := HRD.out.2.2.2.2 (by decide); exact ⟨by omega, by omega⟩)
                        clear hd8 ho8
                        go_wp2_with fail
                        go_roundw
                        case rel => exact ⟨k2 + 1, _, _, _, _, _, _, by omega, by go_num, HRUN8.out, HN8.out.1, HN8.out.2⟩
                        case measure => simp [intOf]; omega
                    · have HD7 := HD6; have HB7 := HB6; have HR7 := HRM6; have HBW7 := HBW6
                      by_cases hkf : k2 < nf
                      · have hkl : k2 < fl.length := by have := HLF.out; omega
                        have hk0 : (0 : Int) ≤ k2 := by omega
                        have hk1 : (k2 : Int) < nf := by omega
                        obtain ⟨bf, off', hAf, _, hcf⟩ := (HRF.out.below HBW7.out).open_ (by omega) (by omega)
                        subst hAf
                        have d0 := hcf k2 (.bool fl[k2]) (by simp [hkl])
                        clear hcf
                        rcases hfl : fl[k2] with _ | _
                        · rw [hfl] at d0
                          clear hfl
                          have HRD := Lib.hid (HROUND.out 21 _ rfl (.inl rfl))
                          go_wp2_with fail
                          refine (answer_at F2 g L2 _ pa 21 0 _ HD7.out (WalkArith.wf_i64 (by omega)) hlen2 (fine_triesE HOS.out.1 (by omega)) HRD.out.1 rfl).mono ?_
                          rintro e w8 ⟨rfl, hd8, ho8⟩
                          have HRUN8 := Lib.hid (run_next hd8 ho8 HRD.out.2.1 (HRD.out.2.2.1.trans HLN.out) HF.out HB7.out HR7.out HBW7.out)
                          have HN8 : Hid (nOpen (ansL L2 pa 21) ≤ n4 ∧ nOpen (ansL L2 pa 21) + (k2 + 1) ≤ n4 + nf) := Lib.hid (by have h1 := HRD.out.2.2.2.1; have h3 := HO1.out; have h4 := HO2.out; have h2 := HRD.out.2.2.2.2 (by decide); exact ⟨by omega, by omega⟩)
                          clear hd8 ho8
                          go_wp2_with fail
                          go_roundw
                          case rel => exact ⟨k2 + 1, _, _, _, _, _, _, by omega, by go_num, HRUN8.out, HN8.out.1, HN8.out.2⟩
                          case measure => simp [intOf]; omega
                        · rw [hfl] at d0
                          clear hfl
                          have HRD := Lib.hid (HROUND.out 33 _ rfl (.inr rfl))
                          go_wp2_with fail
                          refine (answer_at F2 g L2 _ pa 33 0 _ HD7.out (WalkArith.wf_i64 (by omega)) hlen2 (fine_triesE HOS.out.1 (by omega)) HRD.out.1 rfl).mono ?_
                          rintro e w8 ⟨rfl, hd8, ho8⟩
                          have HRUN8 := Lib.hid (run_next hd8 ho8 HRD.out.2.1 (HRD.out.2.2.1.trans HLN.out) HF.out HB7.out HR7.out HBW7.out)
                          have HN8 : Hid (nOpen (ansL L2 pa 33) ≤ n4 ∧ nOpen (ansL L2 pa 33) + (k2 + 1) ≤ n4 + nf) := Lib.hid (by have h1 := HRD.out.2.2.2.1; have h3 := HO1.out; have h4 := HO2.out; exact ⟨by omega, by omega⟩)
                          clear hd8 ho8
                          go_wp2_with fail
                          go_roundw
                          case rel => exact ⟨k2 + 1, _, _, _, _, _, _, by omega, by go_num, HRUN8.out, HN8.out.1, HN8.out.2⟩
                          case measure => simp [intOf]; omega
                      · have hk1 : (nf : Int) ≤ k2 := by omega
                        have HRD := Lib.hid (HROUND.out 21 _ rfl (.inl rfl))
                        go_wp2_with fail
                        refine (answer_at F2 g L2 _ pa 21 0 _ HD7.out (WalkArith.wf_i64 (by omega)) hlen2 (fine_triesE HOS.out.1 (by omega)) HRD.out.1 rfl).mono ?_
                        rintro e w8 ⟨rfl, hd8, ho8⟩
                        have HRUN8 := Lib.hid (run_next hd8 ho8 HRD.out.2.1 (HRD.out.2.2.1.trans HLN.out) HF.out HB7.out HR7.out HBW7.out)
                        have HN8 : Hid (nOpen (ansL L2 pa 21) ≤ n4 ∧ nOpen (ansL L2 pa 21) + (k2 + 1) ≤ n4 + nf) := Lib.hid (by have h1 := HRD.out.2.2.2.1; have h3 := HO1.out; have h4 := HO2.out; have h2 := HRD.out.2.2.2.2 (by decide); exact ⟨by omega, by omega⟩)
                        clear hd8 ho8
                        go_wp2_with fail
                        go_roundw
                        case rel => exact ⟨k2 + 1, _, _, _, _, _, _, by omega, by go_num, HRUN8.out, HN8.out.1, HN8.out.2⟩
                        case measure => simp [intOf]; omega
                · obtain rfl : k2 = nf + n4 := by omega
                  have HEND : Hid (nOpen L2 = 0) := Lib.hid (by have := HO2.out; omega)
                  have HFIN : Hid (EndI w v5 g n4) := Lib.hid ⟨F2, L2, A, n, c, m, nf + n4, ⟨HD.out, HOS.out, HLN.out, HF.out, HB.out, HRM.out, HBW.out⟩, by omega, HEND.out⟩
                  go_wp2_with fail
                  go_meet
                  exact HFIN.out
            case rest =>
              obtain ⟨F3, L3, A, n, c, m, k3, ⟨hd, hos, hln, hF, hB, hrm, hbw⟩, hk3, hno⟩ := hcut
              obtain ⟨v6, rfl⟩ : ∃ v6 : World, v6 = wc := ⟨_, rfl⟩
              have HD := Lib.hid hd; have HOS := Lib.hid hos; have HLN := Lib.hid hln; have HB := Lib.hid hB; have HRM := Lib.hid hrm.reads; have HBW := Lib.hid hbw; have HEND := Lib.hid hno
              have HLM := Lib.hid (recs_len hrm.reads encP_len (by omega))
              have hlen3 : L3.length ≤ 100000 := by omega
              have hn160 : n ≤ 190 := by have := HLM.out; have := HOS.out.2.2.2.2; omega
              have c0 := hB.cell 0
              clear hd hos hln hF hB hrm hbw hno HRUN
              go_wp2_with fail
              go_loopw [17] (fun i wr => ∃ i' q' : Nat, i' ≤ n ∧ i = .int .i64 i' ∧ Hid (wr = v6.drewN q')) (fun i _ => n - (intOf i).toNat)
              case atStart => exact ⟨0, 0, Nat.zero_le _, rfl, rfl⟩
              case round =>
                obtain ⟨i2, q', hi, rfl, HWQ⟩ := hrel
                obtain ⟨v7, rfl⟩ : ∃ v7 : World, v7 = wr := ⟨_, rfl⟩
                have B0 : Blk v7 w.heap.size 51 #[.slice A n c] := by rw [HWQ.out]; exact HB.out
                have c1 := B0.cell 0
                clear B0 c0
                by_cases hlt : i2 < n
                · have hil : i2 < m.length := by have := HLM.out; omega
                  have hi0 : (0 : Int) ≤ i2 := by omega
                  have hi1 : (i2 : Int) < n := by omega
                  obtain ⟨b, off, rfl, hb2, hcc⟩ := HRM.out.recs encP_len (by omega) (by omega)
                  have HCC := Lib.hid hcc
                  clear hcc
                  go_wp2_with fail
                  go_loopw [18] (fun j wr => ∃ j' q' : Nat, j' ≤ i2 ∧ j = .int .i64 j' ∧ Hid (wr = v6.drewN q')) (fun j _ => i2 - (intOf j).toNat)
                  case atStart => exact ⟨0, q', Nat.zero_le _, rfl, HWQ⟩
                  case round =>
                    obtain ⟨j, q2, hj, rfl, HW2⟩ := hrel
                    have B1 : Blk wr w.heap.size 51 #[.slice (some ⟨b, off, none⟩) n c] := by rw [HW2.out]; exact HB.out
                    have c2 := B1.cell 0
                    clear B1 c1
                    by_cases hji : j < i2
                    · have hj0 : (0 : Int) ≤ j := by omega
                      have hj1 : (j : Int) < n := by omega
                      have e1 : wr.cell? ⟨b, off + i2 * 3, none⟩ = some (.int .i64 m[i2].1) := by rw [HW2.out]; exact HCC.out i2 hil 0 _ rfl
                      have e2 : wr.cell? ⟨b, off + j * 3, none⟩ = some (.int .i64 m[j].1) := by rw [HW2.out]; exact HCC.out j (by omega) 0 _ rfl
                      have t1 : (m[i2].1 == m[j].1) = false := beq_eq_false_iff_ne.2 (HOS.out.2.2.1 i2 hil j hji)
                      go_wp2_with fail
                      go_quiet (fail)
                      go_wp2_with fail
                      go_roundw
                      case rel => exact ⟨j + 1, q2 + nq, by omega, by go_num, by rw [HW2.out, World.drewN_drewN]; rfl⟩
                      case measure => simp [intOf]; omega
                    · obtain rfl : j = i2 := by omega
                      go_wp2_with fail
                      go_roundw
                      case rel => exact ⟨j + 1, q2, by omega, by go_num, HW2⟩
                      case measure => simp [intOf]; omega
                · obtain rfl : i2 = n := by omega
                  have HD7 : Hid (DeskF v7 F3 g L3) := Lib.hid (by rw [HWQ.out]; exact HD.out.below (below_drewN (Below.refl _ _) q'))
                  have HB7 : Hid (Blk v7 w.heap.size 51 #[.slice A i2 c]) := Lib.hid (by rw [HWQ.out]; exact HB.out)
                  have HRM7 : Hid (Reads v7 v7.heap.size 3 A i2 (cellsP m)) := Lib.hid (by rw [HWQ.out]; exact HRM.out)
                  have HBW7 : Hid (Below w.heap.size w v7) := Lib.hid (by rw [HWQ.out]; exact below_drewN HBW.out q')
                  clear HD HB HRM HBW HWQ
                  go_wp2_with fail
                  clear c1
                  refine (settled_any F3 g L3 _ HD7.out hlen3).mono ?_
                  rintro e w8 ⟨A8, n8, c8, rfl, ho8, hb8⟩
                  have HRS8 := Lib.hid (Reads.of_own ho8)
                  have HLS : Hid ((ofS L3 1).length = n8) := Lib.hid (recs_len (Reads.of_own ho8) encP_len (by omega))
                  have HD8 := Lib.hid (HD7.out.below hb8)
                  have HB8 := Lib.hid (HB7.out.below hb8 HB7.out.lt)
                  have HRM8 := Lib.hid ((HRM7.out.below hb8).more hb8.size)
                  have HBW8 := Lib.hid (HBW7.out.trans (hb8.mono HBW7.out.size))
                  clear ho8 hb8 HD7 HB7 HRM7 HBW7
                  go_wp2_with fail
                  refine (refused_any F3 g L3 _ HD8.out hlen3).mono ?_
                  rintro e w9 ⟨A9, n9, c9, rfl, ho9, hb9⟩
                  have HRR9 := Lib.hid (Reads.of_own ho9)
                  have HLR : Hid ((ofS L3 2).length = n9) := Lib.hid (recs_len (Reads.of_own ho9) encP_len (by omega))
                  have HRS9 := Lib.hid ((HRS8.out.below hb9).more hb9.size)
                  have HD9 := Lib.hid (HD8.out.below hb9)
                  have HB9 := Lib.hid (HB8.out.below hb9 HB8.out.lt)
                  have HRM9 := Lib.hid ((HRM8.out.below hb9).more hb9.size)
                  have HBW9 := Lib.hid (HBW8.out.trans (hb9.mono HBW8.out.size))
                  have HSUM : Hid (n8 + n9 = n4) := Lib.hid (by have h1 := three_len HOS.out.1; have h2 := ofS_open L3; rw [HEND.out] at h2; have := HLS.out; have := HLR.out; have := HLN.out; omega)
                  have hn8 : n8 ≤ 30 := by have := HSUM.out; omega
                  have hn9 : n9 ≤ 30 := by have := HSUM.out; omega
                  clear ho9 hb9 HD8 HB8 HRM8 HBW8 HRS8
                  go_wp2_with fail
                  go_loopw [21] (fun i wr => ∃ i' : Nat, i' ≤ n8 ∧ i = .int .i64 i' ∧ Below w9.heap.size w9 wr) (fun i _ => n8 - (intOf i).toNat)
                  case atStart => exact ⟨0, Nat.zero_le _, rfl, Below.refl _ _⟩
                  case round =>
                    obtain ⟨i3, hi3, rfl, hbr⟩ := hrel
                    obtain ⟨v8, rfl⟩ : ∃ v8 : World, v8 = wr := ⟨_, rfl⟩
                    have HBR := Lib.hid hbr
                    clear hbr
                    by_cases hlt3 : i3 < n8
                    · have hil3 : i3 < (ofS L3 1).length := by have := HLS.out; omega
                      have hi0 : (0 : Int) ≤ i3 := by omega
                      have hi1 : (i3 : Int) < n8 := by omega
                      have hpd := once_settled HOS.out.2.2.2.1 HOS.out.2.2.1 (List.getElem_mem hil3)
                      obtain ⟨bs, offs, rfl, hbs, hcc⟩ := HRS9.out.recs encP_len (by omega) (by omega)
                      have hcc3 := hcc i3 hil3
                      generalize (ofS L3 1)[i3] = pp at hpd hcc3
                      obtain ⟨pa, pb, pc⟩ := pp
                      have HPD := Lib.hid hpd
                      have E := eq23_refl pa pb pc
                      have KS : ∀ {w'}, Below v8.heap.size v8 w' → (w'.cell? ⟨w.heap.size, 0, none⟩ = some (.slice A i2 c) ∧ w'.cell? ⟨bs, offs + i3 * 3, none⟩ = some (.int .i64 pa) ∧ w'.cell? ⟨bs, offs + i3 * 3 + 1, none⟩ = some (.int .i64 pb) ∧ w'.cell? ⟨bs, offs + i3 * 3 + 2, none⟩ = some (.int .i64 pc)) := fun h => by
                        have hb := HBR.out.trans (h.mono HBR.out.size)
                        exact ⟨(HB9.out.below hb HB9.out.lt).cell 0, (hb.cell (p := ⟨bs, offs + i3 * 3, none⟩) hbs).trans (hcc3 0 _ rfl), (hb.cell (p := ⟨bs, offs + i3 * 3 + 1, none⟩) hbs).trans (hcc3 1 _ rfl), (hb.cell (p := ⟨bs, offs + i3 * 3 + 2, none⟩) hbs).trans (hcc3 2 _ rfl)⟩
                      have HRM10 : ∀ {w'}, Below v8.heap.size v8 w' → Reads w' w'.heap.size 3 A i2 (cellsP m) := fun h => by
                        have hb := HBR.out.trans (h.mono HBR.out.size)
                        exact (HRM9.out.below hb).more hb.size
                      have k0 := Below.refl v8.heap.size v8
                      obtain ⟨t0, t1, t2, t3⟩ := KS k0
                      have hv8 : w.heap.size < v8.heap.size := Nat.lt_of_lt_of_le HB9.out.lt HBR.out.size
                      have hv9 : bs < v8.heap.size := Nat.lt_of_lt_of_le hbs HBR.out.size
                      clear hcc hcc3 hpd
                      go_upto_region 41 with fail
                      go_cut [22, 23] from 167 to 176 (fun s1 s2 wx => PaidI v8 pa pb pc s1 s2 wx)
                      case first =>
                        go_region_held3 (fun w' => w'.cell? ⟨w.heap.size, 0, none⟩ = some (.slice A i2 c) ∧ w'.cell? ⟨bs, offs + i3 * 3, none⟩ = some (.int .i64 pa)) (first | go_keep | exact ⟨(set3_other _ _ _ _ _ _ (fun e => by have : w.heap.size = _ := e; omega)).trans (KS k1).1, (set3_other _ _ _ _ _ _ (fun e => by have : bs = _ := e; omega)).trans (KS k1).2.1⟩)
                          (first
                            | (go_at_call 28; refine (paid28_at A i2 c m pa pa pb pc true _ (HRM10 (below_drew_ k0)) (by omega) HPD.out.1 HPD.out.2).mono ?_; rintro e w10 ⟨rfl, hb10⟩; have k1 : Below v8.heap.size v8 w10 := below_next (below_drew_ k0) (Nat.le_refl _) hb10; have l1 := k1.size; have z0 := (KS k1).1; have z1 := (KS k1).2.1)
                            | (go_at_call 28; refine (paid28_at A i2 c m pa pa pb pc true _ (HRM10 (below_drew_ (below_alloc k0 (Nat.le_refl _) (.cells #[.int .i64 0, .int .i64 0, .int .i64 0] 23)))) (by omega) HPD.out.1 HPD.out.2).mono ?_; rintro e w10 ⟨rfl, hb10⟩; have k1 : Below v8.heap.size v8 w10 := below_next (below_drew_ (below_alloc k0 (Nat.le_refl _) (.cells #[.int .i64 0, .int .i64 0, .int .i64 0] 23))) (Nat.le_refl _) hb10; have l1 := k1.size; have z0 := (KS k1).1; have z1 := (KS k1).2.1; have x10 : Blk w10 v8.heap.size 23 #[.int .i64 0, .int .i64 0, .int .i64 0] := Blk.below (Blk.drew (Blk.new v8 23 #[.int .i64 0, .int .i64 0, .int .i64 0])) hb10 (Blk.drew (Blk.new v8 23 #[.int .i64 0, .int .i64 0, .int .i64 0])).lt; have y0 := x10.cell 0; have y1 := x10.cell 1; have y2 := x10.cell 2; have f0 := x10.frozen 0; have f1 := x10.frozen 1; have f2 := x10.frozen 2; have xl := x10.lt))
                        all_goals
                          go_wp2_with fail
                          go_meet
                          first
                            | exact ⟨_, rfl, rfl, Blk.new _ _ _, l1, below_alloc k1 (Nat.le_refl _) _⟩
                            | exact ⟨_, rfl, rfl, set3_blk x10, Nat.le_refl _, set3_below _ _ _ k1 (Nat.le_refl _)⟩
                      case rest =>
                        obtain ⟨g10, rfl, rfl, hB10, hg10, k2⟩ := hcut
                        obtain ⟨v10, rfl⟩ : ∃ v10 : World, v10 = wc := ⟨_, rfl⟩
                        obtain ⟨r0, r1, r2, r3⟩ := KS k2
                        have p0 := hB10.cell 0; have p1 := hB10.cell 1; have p2 := hB10.cell 2
                        have HBR2 := Lib.hid (HBR.out.trans (k2.mono HBR.out.size))
                        clear KS HRM10 t0 t1 t2 t3 k0 k2 hB10 hg10
                        go_wp2_with fail
                        go_quiet (fail)
                        go_wp2_with fail
                        go_roundw
                        case rel => exact ⟨i3 + 1, by omega, by go_num, below_drewN HBR2.out nq⟩
                        case measure => simp [intOf]; omega
                    · obtain rfl : i3 = n8 := by omega
                      go_wp2_with fail
                      go_loopw [24] (fun i wr => ∃ i' : Nat, i' ≤ n9 ∧ i = .int .i64 i' ∧ Below w9.heap.size w9 wr) (fun i _ => n9 - (intOf i).toNat)
                      case atStart => exact ⟨0, Nat.zero_le _, rfl, HBR.out⟩
                      case round =>
                        obtain ⟨i4, hi4, rfl, hbr⟩ := hrel
                        obtain ⟨v9, rfl⟩ : ∃ v9 : World, v9 = wr := ⟨_, rfl⟩
                        have HBR := Lib.hid hbr
                        clear hbr
                        by_cases hlt4 : i4 < n9
                        · have hil3 : i4 < (ofS L3 2).length := by have := HLR.out; omega
                          have hi0 : (0 : Int) ≤ i4 := by omega
                          have hi1 : (i4 : Int) < n9 := by omega
                          have hpd := once_refused HOS.out.2.2.2.1 HOS.out.2.2.1 (List.getElem_mem hil3)
                          obtain ⟨bs, offs, rfl, hbs, hcc⟩ := HRR9.out.recs encP_len (by omega) (by omega)
                          have hcc3 := hcc i4 hil3
                          generalize (ofS L3 2)[i4] = pp at hpd hcc3
                          obtain ⟨pa, pb, pc⟩ := pp
                          obtain ⟨⟨qa, qb, qc⟩, hqq⟩ : ∃ p, paidP m pa = p := ⟨_, rfl⟩
                          rw [hqq] at hpd
                          have HPD : Hid (paidP m pa = (qa, qb, qc) ∧ paidB m pa = true) := Lib.hid ⟨hqq, hpd.2⟩
                          have E : ∀ w, (Op.equalIn 10000 23 (.agg #[.int .i64 qa, .int .i64 qb, .int .i64 qc]) (.agg #[.int .i64 pa, .int .i64 pb, .int .i64 pc])).run Try.prog w = .ok false w := fun w => by rw [eq23, decide_eq_false hpd.1]
                          clear hqq
                          have KS : ∀ {w'}, Below v9.heap.size v9 w' → (w'.cell? ⟨w.heap.size, 0, none⟩ = some (.slice A i2 c) ∧ w'.cell? ⟨bs, offs + i4 * 3, none⟩ = some (.int .i64 pa) ∧ w'.cell? ⟨bs, offs + i4 * 3 + 1, none⟩ = some (.int .i64 pb) ∧ w'.cell? ⟨bs, offs + i4 * 3 + 2, none⟩ = some (.int .i64 pc)) := fun h => by
                            have hb := HBR.out.trans (h.mono HBR.out.size)
                            exact ⟨(HB9.out.below hb HB9.out.lt).cell 0, (hb.cell (p := ⟨bs, offs + i4 * 3, none⟩) hbs).trans (hcc3 0 _ rfl), (hb.cell (p := ⟨bs, offs + i4 * 3 + 1, none⟩) hbs).trans (hcc3 1 _ rfl), (hb.cell (p := ⟨bs, offs + i4 * 3 + 2, none⟩) hbs).trans (hcc3 2 _ rfl)⟩
                          have HRM10 : ∀ {w'}, Below v9.heap.size v9 w' → Reads w' w'.heap.size 3 A i2 (cellsP m) := fun h => by
                            have hb := HBR.out.trans (h.mono HBR.out.size)
                            exact (HRM9.out.below hb).more hb.size
                          have k0 := Below.refl v9.heap.size v9
                          obtain ⟨t0, t1, t2, t3⟩ := KS k0
                          have hv8 : w.heap.size < v9.heap.size := Nat.lt_of_lt_of_le HB9.out.lt HBR.out.size
                          have hv9 : bs < v9.heap.size := Nat.lt_of_lt_of_le hbs HBR.out.size
                          clear hcc hcc3 hpd
                          go_upto_region 47 with fail
                          go_cut [25, 26] from 193 to 202 (fun s1 s2 wx => PaidI v9 qa qb qc s1 s2 wx)
                          case first =>
                            go_region_held3 (fun w' => w'.cell? ⟨w.heap.size, 0, none⟩ = some (.slice A i2 c) ∧ w'.cell? ⟨bs, offs + i4 * 3, none⟩ = some (.int .i64 pa)) (first | go_keep | exact ⟨(set3_other _ _ _ _ _ _ (fun e => by have : w.heap.size = _ := e; omega)).trans (KS k1).1, (set3_other _ _ _ _ _ _ (fun e => by have : bs = _ := e; omega)).trans (KS k1).2.1⟩)
                              (first
                                | (go_at_call 28; refine (paid28_at A i2 c m pa qa qb qc true _ (HRM10 (below_drew_ k0)) (by omega) HPD.out.1 HPD.out.2).mono ?_; rintro e w10 ⟨rfl, hb10⟩; have k1 : Below v9.heap.size v9 w10 := below_next (below_drew_ k0) (Nat.le_refl _) hb10; have l1 := k1.size; have z0 := (KS k1).1; have z1 := (KS k1).2.1)
                                | (go_at_call 28; refine (paid28_at A i2 c m pa qa qb qc true _ (HRM10 (below_drew_ (below_alloc k0 (Nat.le_refl _) (.cells #[.int .i64 0, .int .i64 0, .int .i64 0] 23)))) (by omega) HPD.out.1 HPD.out.2).mono ?_; rintro e w10 ⟨rfl, hb10⟩; have k1 : Below v9.heap.size v9 w10 := below_next (below_drew_ (below_alloc k0 (Nat.le_refl _) (.cells #[.int .i64 0, .int .i64 0, .int .i64 0] 23))) (Nat.le_refl _) hb10; have l1 := k1.size; have z0 := (KS k1).1; have z1 := (KS k1).2.1; have x10 : Blk w10 v9.heap.size 23 #[.int .i64 0, .int .i64 0, .int .i64 0] := Blk.below (Blk.drew (Blk.new v9 23 #[.int .i64 0, .int .i64 0, .int .i64 0])) hb10 (Blk.drew (Blk.new v9 23 #[.int .i64 0, .int .i64 0, .int .i64 0])).lt; have y0 := x10.cell 0; have y1 := x10.cell 1; have y2 := x10.cell 2; have f0 := x10.frozen 0; have f1 := x10.frozen 1; have f2 := x10.frozen 2; have xl := x10.lt))
                            all_goals
                              go_wp2_with fail
                              go_meet
                              first
                                | exact ⟨_, rfl, rfl, Blk.new _ _ _, l1, below_alloc k1 (Nat.le_refl _) _⟩
                                | exact ⟨_, rfl, rfl, set3_blk x10, Nat.le_refl _, set3_below _ _ _ k1 (Nat.le_refl _)⟩
                          case rest =>
                            obtain ⟨g10, rfl, rfl, hB10, hg10, k2⟩ := hcut
                            obtain ⟨v10, rfl⟩ : ∃ v10 : World, v10 = wc := ⟨_, rfl⟩
                            obtain ⟨r0, r1, r2, r3⟩ := KS k2
                            have p0 := hB10.cell 0; have p1 := hB10.cell 1; have p2 := hB10.cell 2
                            have HBR2 := Lib.hid (HBR.out.trans (k2.mono HBR.out.size))
                            clear KS HRM10 t0 t1 t2 t3 k0 k2 hB10 hg10
                            go_wp2_with fail
                            go_quiet (fail)
                            go_wp2_with fail
                            go_roundw
                            case rel => exact ⟨i4 + 1, by omega, by go_num, below_drewN HBR2.out nq⟩
                            case measure => simp [intOf]; omega
                        · obtain rfl : i4 = n9 := by omega
                          have HDE := Lib.hid (HD9.out.keep (Only.of_below HBR.out) fun k hk e => by have := HD9.out.2.1 k hk; omega)
                          have HBE := Lib.hid (HBW9.out.trans (HBR.out.mono HBW9.out.size))
                          have hsum : (i3 : Int) + i4 = n4 := by have := HSUM.out; omega
                          have hsum2 : ((i3 : Int) + i4 == n4) = true := by rw [hsum]; simp
                          clear hsum
                          go_wp2_with fail
                          refine (open_any F3 g L3 _ HDE.out hlen3).mono ?_
                          rintro e w10 ⟨A10, n10, c10, rfl, ho10, hb10⟩
                          obtain rfl : n10 = 0 := by have := recs_len (Reads.of_own ho10) encP_len (by omega); rw [ofS_open, HEND.out] at this; exact this.symm
                          have HBE2 := Lib.hid (HBE.out.trans (hb10.mono HBE.out.size))
                          clear ho10 hb10
                          go_wp2_with fail
                          refine (awake_any _).mono ?_
                          rintro e w11 ⟨rfl, hb11⟩
                          go_wp2_with fail
                          go_ret
                          exact ⟨rfl, HBE2.out.trans (hb11.mono HBE2.out.size)⟩
end Go.Proofs.Ytakjdffebpcmnaa
