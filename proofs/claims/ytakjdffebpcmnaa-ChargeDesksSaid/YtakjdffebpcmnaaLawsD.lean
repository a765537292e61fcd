/- The walk of ChargeTurns. -/
import Derived.Test.YtakjdffebpcmnaaLawsC
import Derived.Test.YtakjdffebpcmnaaOpen
namespace Go.Proofs.Ytakjdffebpcmnaa
open Go.RowKit Go.Maps
def ints (l : List Int) : List Value := l.map (Value.int .i64)
theorem one_ints (l : List Int) : ∀ u ∈ ints l, u.oneCell' = true := by
  intro u hu
  obtain ⟨x, _, rfl⟩ := List.mem_map.1 hu
  rfl
theorem ints_app (l m : List Int) : ints (l ++ m) = ints l ++ ints m := by simp [ints]
theorem Try.info3 : (Try.prog.info? 3).map (fun i => (i.zero, i.size, i.bytes)) = some (some (.int .i64 0), 1, 8) := by kernel_rfl
/-- A call of a desk in the midst of a run: the rides' row, apart from the desk. -/
def Row (w : World) (B : Nat) (F : Nat → Prop) (v : Value) (m : Nat) (R : List Int) : Prop := w.ownsRow B 3 1 v m (ints R) ∧ ∀ j, v.ownBlock = some j → ¬ F j
theorem Row.only {w w' : World} {B : Nat} {F : Nat → Prop} {v : Value} {m : Nat} {R : List Int} (h : Row w B F v m R) (ho : Only F w w') : Row w' B (With F w w') v m R :=
  ⟨ho.own h.1 h.2, fun j hj hF => hF.elim (h.2 j hj) fun e => by have := (h.1.lt j hj).2; omega⟩
theorem Row.below {w w' : World} {B : Nat} {F : Nat → Prop} {v : Value} {m : Nat} {R : List Int} (h : Row w B F v m R) (ho : Below w.heap.size w w') : Row w' B F v m R := ⟨own_below h.1 ho, h.2⟩
theorem deskF_grown {w w' : World} {F : Nat → Prop} {g : Nat} {l : List En} {row : Option Nat} (h : DeskF w F g l) (hg : w.grownBy w' row) (hr : ∀ j, row = some j → ¬ F j) : DeskF w' F g l :=
  h.keep ((Only.refl (fun k => row = some k) w).grown hg fun _ e _ => e) fun k hk e => hr k e hk
theorem fine_doL {N : Nat} {l : List En} {k : Int} {p : P3} {e : Int} (h : fine N l) : fine (N + 1) (doL l k p e) := by
  unfold doL
  split
  · exact fine_mono (fine_ask h) (by omega)
  · exact fine_ans h
theorem dist_doL {l : List En} {k : Int} {p : P3} {e : Int} (h : dist l) : dist (doL l k p e) := by
  unfold doL
  split
  · exact dist_ask h
  · exact dist_ans h
theorem rides_doL {L : List En} {R : List Int} {k : Int} {p : P3} {e : Int} (h : Rides L R) : Rides (doL L k p e) (if k = 0 ∧ doE L k p = 0 then R ++ [p.1] else R) := by
  unfold doL doE
  by_cases h0 : k = 0
  · rw [if_pos h0, if_pos h0]
    have := rides_ask (p := p) h
    by_cases h1 : askE L p = 0
    · rw [if_pos ⟨h0, h1⟩]; rwa [if_pos h1] at this
    · rw [if_neg fun e => h1 e.2]; rwa [if_neg h1] at this
  · rw [if_neg h0, if_neg fun e => h0 e.1]
    exact rides_ans h
theorem rides_nil : Rides [] [] := fun e he => by cases he
theorem fine_tries {N : Nat} {l : List En} (h : fine N l) (hN : N ≤ 1000000) : ∀ x ∈ l, 0 ≤ x.2.2 ∧ x.2.2 ≤ 1000000 := fun x hx => by
  have := (h.2 x hx).2.2
  omega
/-- Does a ride stand among the first j? -/
def anyR (R : List Int) (j : Nat) (r : Int) : Bool := (R.take j).any fun x => decide (x = r)
theorem anyR_zero (R : List Int) (r : Int) : anyR R 0 r = false := rfl
theorem anyR_succ {R : List Int} {j : Nat} (hj : j < R.length) (r : Int) : anyR R (j + 1) r = (anyR R j r || decide (R[j] = r)) := by
  unfold anyR
  rw [List.take_succ_eq_append_getElem hj, List.any_append]
  simp
theorem anyR_all {R : List Int} {r : Int} (h : r ∈ R) {j : Nat} (hj : R.length ≤ j) : anyR R j r = true := by
  unfold anyR
  rw [List.take_of_length_le hj, List.any_eq_true]
  exact ⟨r, h, decide_eq_true rfl⟩
theorem ints_get {R : List Int} {j : Nat} (hj : j < R.length) : (ints R)[j]? = some (.int .i64 R[j]) := by simp [ints, hj]
theorem three_enc (L : List En) : cellsP (ofS L 0) ++ cellsP (ofS L 1) ++ cellsP (ofS L 2) = cellsP (three L) := by unfold three; rw [cellsP_app, cellsP_app]
theorem turn_step {L : List En} {N b : Nat} (hf : fine N L) (hd : dist L) (hb : b < L.length) (h0 : L[b].2.1 = 0) : ansE L L[b].1.1 = 0 ∧ ansL L L[b].1.1 33 = L.set b (L[b].1, 0, L[b].2.2 + 1) ∧ fine (N + 1) (ansL L L[b].1.1 33) ∧ dist (ansL L L[b].1.1 33) ∧ nOpen (ansL L L[b].1.1 33) = nOpen L := by
  have h := next_ans hd hb h0 33
  have e : stNew 0 33 = 0 := stNew_lost (by decide) (by decide)
  rw [e] at h
  exact ⟨h.1, h.2, fine_ans hf, dist_ans hd, by rw [h.2]; exact nOpen_set hb h0 _ _⟩
set_option maxHeartbeats 16000000 in
set_option maxRecDepth 100000 in
theorem chargeTurns_walk (A : Option Addr) (n c : Nat) (l : List O5) (w : World) (hr : Reads w w.heap.size 5 A n (cellsO l)) (hnc : n ≤ c) (hc : c ≤ maxLen) (hwl : ∀ o ∈ l, (Lit.int .i64 o.2.1.1).wf = true) :
    Calls Try.prog 4 #[.slice A n c] w (AwakePost w) := by
  obtain ⟨i0, hi0, hz0, hz1, hz2⟩ := info_parts Try.info3
  obtain ⟨i1, hi1, hy0, hy1, hy2⟩ := info_parts Try.info23
  have hn' : n ≤ 9223372036854775807 := Nat.le_trans hnc hc
  have HW := Lib.hid hwl
  clear hnc hc hwl
  by_cases h40 : n ≤ 40
  · have HL := Lib.hid (recs_len hr encO_len (by omega))
    have HR := Lib.hid hr
    clear hr
    go_enter Try.func4, Try.ntmps4
    go_wp2_with fail
    refine (new_any _).mono ?_
    rintro e w1 ⟨F1, g, rfl, hd1, hF1, hb1⟩
    have HD1 := Lib.hid hd1; have HF1 := Lib.hid hF1; have HB1 := Lib.hid hb1
    clear hd1 hF1 hb1
    go_wp2_with fail
    go_loopw [4, 5] (fun rs i wr => ∃ (k m : Nat) (F : Nat → Prop) (L : List En) (R : List Int), k ≤ n ∧ i = .int .i64 k ∧ m ≤ k ∧ Row wr w.heap.size F rs m R ∧ DeskF wr F g L ∧ fine k L ∧ dist L ∧ Rides L R ∧ (∀ j, F j → w.heap.size ≤ j) ∧ Below w.heap.size w wr ∧ ∃ A1 c1, rs = .slice A1 m c1) (fun _ i _ => n - (intOf i).toNat)
    case atStart => exact ⟨0, 0, F1, [], [], Nat.zero_le _, rfl, Nat.le_refl _, ⟨World.ownsRow_nil _ _ _ _, fun j hj => by simp [Value.ownBlock] at hj⟩, HD1.out, fine_nil 0, dist_nil, rides_nil, HF1.out, HB1.out, none, 0, rfl⟩
    case round =>
      obtain ⟨k, m, F, L, R, hk, rfl, hm, hrow, hd, hfi, hdi, hri, hF, hbw, A1, c1, rfl⟩ := hrel
      have HROW := Lib.hid hrow; have HD := Lib.hid hd; have HFI := Lib.hid hfi; have HDI := Lib.hid hdi; have HRI := Lib.hid hri; have HF := Lib.hid hF; have HBW := Lib.hid hbw
      clear hrow hd hfi hdi hri hF hbw
      by_cases hlt : k < n
      · have hkl : k < l.length := by have := HL.out; omega
        obtain ⟨b, off, rfl, hb2, hcc⟩ := (HR.out.below HBW.out).recs encO_len (by omega) (by omega)
        have d0 : wr.cell? ⟨b, off + k * 5, none⟩ = some (.int .i64 l[k].1) := hcc k hkl 0 _ rfl
        have d1 : wr.cell? ⟨b, off + k * 5 + 1, none⟩ = some (.int .i64 l[k].2.1.1) := hcc k hkl 1 _ rfl
        have d2 : wr.cell? ⟨b, off + k * 5 + 2, none⟩ = some (.int .i64 l[k].2.1.2.1) := hcc k hkl 2 _ rfl
        have d3 : wr.cell? ⟨b, off + k * 5 + 3, none⟩ = some (.int .i64 l[k].2.1.2.2) := hcc k hkl 3 _ rfl
        have d4 : wr.cell? ⟨b, off + k * 5 + 4, none⟩ = some (.int .i64 l[k].2.2) := hcc k hkl 4 _ rfl
        have HWK := Lib.hid (HW.out _ (List.getElem_mem hkl))
        have hlen : L.length ≤ 100000 := by have := HFI.out.1; omega
        obtain ⟨x, hx⟩ : ∃ x, doE L l[k].1 l[k].2.1 = x := ⟨_, rfl⟩
        have HX := Lib.hid hx
        clear hcc hx
        have hk0 : (0 : Int) ≤ k := by omega
        have hk1 : (k : Int) < n := by omega
        go_wp2_with fail
        refine (do_any F g L _ l[k].1 l[k].2.1.1 l[k].2.1.2.1 l[k].2.1.2.2 l[k].2.2 x _ HD.out HWK.out hlen (fine_tries HFI.out (by omega)) HX.out rfl).mono ?_
        rintro e w2 ⟨rfl, hd2, ho2⟩
        have hrow2 := HROW.out.only ho2
        have hF2 := With.ge (w' := w2) HF.out HBW.out.size
        have hbw2 := HBW.out.trans (ho2.below (fun k _ hk => HF.out k hk) HBW.out.size)
        have e0 := (hbw2.cell (p := ⟨b, off + k * 5, none⟩) hb2).trans ((HBW.out.cell (p := ⟨b, off + k * 5, none⟩) hb2).symm.trans d0)
        have e1 := (hbw2.cell (p := ⟨b, off + k * 5 + 1, none⟩) hb2).trans ((HBW.out.cell (p := ⟨b, off + k * 5 + 1, none⟩) hb2).symm.trans d1)
        have hrd := rides_doL (k := l[k].1) (p := l[k].2.1) (e := l[k].2.2) HRI.out
        have HRD := Lib.hid hrd
        have HFI2 := Lib.hid (fine_doL (k := l[k].1) (p := l[k].2.1) (e := l[k].2.2) HFI.out)
        have HDI2 := Lib.hid (dist_doL (k := l[k].1) (p := l[k].2.1) (e := l[k].2.2) HDI.out)
        have HROW2 := Lib.hid hrow2; have HD2 := Lib.hid hd2; have HF2 := Lib.hid hF2; have HBW2 := Lib.hid hbw2
        clear hrow2 hd2 hF2 hbw2 hrd ho2 d0 d1 d2 d3 d4
        by_cases hk0' : l[k].1 = 0
        · have t1 : (l[k].1 == 0) = true := eq0_t hk0'
          by_cases hx0 : x = 0
          · subst hx0
            have HR2 : Hid (Rides (doL L l[k].1 l[k].2.1 l[k].2.2) (R ++ [l[k].2.1.1])) := Lib.hid (by have := HRD.out; rwa [if_pos ⟨hk0', HX.out⟩] at this)
            clear hk0'
            go_wp2_with (at_builtin; refine wpList_append_any _ rfl (.tmp 52) (.tmp 59) _ rfl w.heap.size 3 i0 _ 1 8 Try.underlying34 hi0 hz0 hz1 hz2 rfl (by omega) (.slice A1 m c1) m (ints R) rfl (HROW2.out.1.alloc _) (w2.heap.size + 1) (some ⟨w2.heap.size, 0, none⟩) 1 1 (ints [l[k].2.1.1]) rfl (Reads.fresh w2 3 #[.int .i64 l[k].2.1.1] 1 1 rfl) (one_ints [l[k].2.1.1]) (by simp only [maxLen]; omega) (by omega) (by have := HBW2.out.size; simp; omega) ?_; intro v3 w3 hown3 hg3 hat3; obtain ⟨A3, c3, rfl, hr3⟩ := own_reads hown3; rw [← ints_app] at hown3)
            go_roundw
            case rel =>
              have hrow3 : ∀ j, (Value.slice A3 (m + 1) c3).ownBlock = some j → ¬ With F wr w2 j := fun j hj hFj => by
                have hjl := HD2.out.2.1 j hFj
                rcases hat3 with h | h
                · rw [h] at hj; exact HROW2.out.2 j hj hFj
                · rw [h] at hj; injection hj with hj; simp at hj; omega
              refine ⟨k + 1, m + 1, With F wr w2, _, _, by omega, by go_num, by omega, ⟨hown3, hrow3⟩, ?_, HFI2.out, HDI2.out, HR2.out, HF2.out, below_own (HBW2.out.alloc HBW2.out.size _) (HROW2.out.1.alloc _) hg3 (by have := HBW2.out.size; simp; omega) (Nat.le_refl _), A3, c3, rfl⟩
              exact deskF_grown (HD2.out.below ((Below.refl _ _).alloc (Nat.le_refl _) _)) hg3 HROW2.out.2
            case measure => simp [intOf]; omega
          · have t2 : (x == 0) = false := eq0_f hx0
            have HR2 : Hid (Rides (doL L l[k].1 l[k].2.1 l[k].2.2) R) := Lib.hid (by have := HRD.out; rwa [if_neg fun e => hx0 (HX.out.symm.trans e.2)] at this)
            clear hk0' hx0
            go_wp2_with fail
            go_roundw
            case rel => exact ⟨k + 1, m, With F wr w2, _, _, by omega, by go_num, by omega, HROW2.out, HD2.out, HFI2.out, HDI2.out, HR2.out, HF2.out, HBW2.out, A1, c1, rfl⟩
            case measure => simp [intOf]; omega
        · have t1 : (l[k].1 == 0) = false := eq0_f hk0'
          have HR2 : Hid (Rides (doL L l[k].1 l[k].2.1 l[k].2.2) R) := Lib.hid (by have := HRD.out; rwa [if_neg fun e => hk0' e.1] at this)
          clear hk0'
          go_wp2_with fail
          go_roundw
          case rel => exact ⟨k + 1, m, With F wr w2, _, _, by omega, by go_num, by omega, HROW2.out, HD2.out, HFI2.out, HDI2.out, HR2.out, HF2.out, HBW2.out, A1, c1, rfl⟩
          case measure => simp [intOf]; omega
      · obtain rfl : k = n := by omega
        have hlen : L.length ≤ 100000 := by have := HFI.out.1; omega
        have hl3 : Hid ((ofS L 0).length ≤ 256 ∧ (ofS L 1).length ≤ 256 ∧ (ofS L 2).length ≤ 256) := Lib.hid ⟨Nat.le_trans (ofS_len L 0) HFI.out.1, Nat.le_trans (ofS_len L 1) HFI.out.1, Nat.le_trans (ofS_len L 2) HFI.out.1⟩
        go_wp2_with fail
        obtain ⟨wl, rfl⟩ : ∃ wl : World, wl = wr := ⟨_, rfl⟩
        refine (open_any F g L _ HD.out hlen).mono ?_
        rintro e w2 ⟨A2, n2, c2, rfl, ho2, hb2⟩
        have hr2 := Lib.hid (Reads.of_own ho2)
        have HB2 := Lib.hid hb2
        have hn2 : n2 ≤ 256 := by have := recs_len hr2.out encP_len (by omega); have := hl3.out.1; omega
        clear ho2 hb2
        go_wp2_with (at_builtin; refine wpList_append_any _ rfl (.tmp 61) (.tmp 63) _ rfl wl.heap.size 23 i1 _ 3 24 Try.underlying30 hi1 hy0 hy1 hy2 rfl (by omega) (.slice none 0 0) 0 [] rfl (World.ownsRow_nil _ _ _ _) w2.heap.size A2 n2 c2 (cellsP (ofS L 0)) rfl hr2.out (one_cells _) (by simp only [maxLen]; omega) (by omega) HB2.out.size ?_; intro v3 w3 hown3 hg3 hat3; simp only [Nat.zero_add, List.nil_append] at hown3; obtain ⟨A3, c3, rfl, hr3⟩ := own_reads hown3)
        have HB3 := Lib.hid (below_own HB2.out (World.ownsRow_nil w2 wl.heap.size 23 3) hg3 HB2.out.size (Nat.le_refl _))
        have HO3 := Lib.hid hown3
        clear hr3 hg3 hat3 hown3
        refine (settled_any F g L _ (HD.out.below HB3.out) hlen).mono ?_
        rintro e w4 ⟨A4, n4, c4, rfl, ho4, hb4⟩
        have hr4 := Lib.hid (Reads.of_own ho4)
        have HO4 := Lib.hid (own_below HO3.out hb4)
        have HB4 := Lib.hid (HB3.out.trans (hb4.mono HB3.out.size))
        have hn4 : n4 ≤ 256 := by have := recs_len hr4.out encP_len (by omega); have := hl3.out.2.1; omega
        clear ho4 hb4
        go_wp2_with (at_builtin; refine wpList_append_any _ rfl (.tmp 65) (.tmp 67) _ rfl wl.heap.size 23 i1 _ 3 24 Try.underlying30 hi1 hy0 hy1 hy2 rfl (by omega) (.slice A3 n2 c3) n2 (cellsP (ofS L 0)) rfl HO4.out w4.heap.size A4 n4 c4 (cellsP (ofS L 1)) rfl hr4.out (one_cells _) (by simp only [maxLen]; omega) (by omega) HB4.out.size ?_; intro v5 w5 hown5 hg5 hat5; obtain ⟨A5, c5, rfl, hr5⟩ := own_reads hown5)
        have HB5 := Lib.hid (below_own HB4.out HO4.out hg5 HB4.out.size (Nat.le_refl _))
        have HO5 := Lib.hid hown5
        clear hr5 hg5 hat5 hown5
        refine (refused_any F g L _ (HD.out.below HB5.out) hlen).mono ?_
        rintro e w6 ⟨A6, n6, c6, rfl, ho6, hb6⟩
        have hr6 := Lib.hid (Reads.of_own ho6)
        have HO6 := Lib.hid (own_below HO5.out hb6)
        have HB6 := Lib.hid (HB5.out.trans (hb6.mono HB5.out.size))
        have hn6 : n6 ≤ 256 := by have := recs_len hr6.out encP_len (by omega); have := hl3.out.2.2; omega
        clear ho6 hb6
        go_wp2_with (at_builtin; refine wpList_append_any _ rfl (.tmp 69) (.tmp 71) _ rfl wl.heap.size 23 i1 _ 3 24 Try.underlying30 hi1 hy0 hy1 hy2 rfl (by omega) (.slice A5 (n2 + n4) c5) (n2 + n4) (cellsP (ofS L 0) ++ cellsP (ofS L 1)) rfl HO6.out w6.heap.size A6 n6 c6 (cellsP (ofS L 2)) rfl hr6.out (one_cells _) (by simp only [maxLen]; omega) (by omega) HB6.out.size ?_; intro v7 w7 hown7 hg7 hat7; rw [three_enc] at hown7; generalize hnt : n2 + n4 + n6 = nt at hown7; obtain ⟨A7, c7, rfl, hr7⟩ := own_reads hown7; have HNT := Lib.hid hnt; clear hnt)
        have hnt' : nt ≤ 768 := by have := HNT.out; omega
        have HB7 := Lib.hid (below_own HB6.out HO6.out hg7 HB6.out.size (Nat.le_refl _))
        have HR7 := Lib.hid hr7
        have HNL := Lib.hid (recs_len hr7 encP_len (by omega))
        have HRI7 := Lib.hid ((Reads.of_own HROW.out.1).below HB7.out |>.more HB7.out.size)
        have HRL : Hid (R.length = m) := Lib.hid (by have := HROW.out.1.1; simpa [ints] using this)
        clear hr7 hg7 hat7 hown7 HO3 HO4 HO5 HO6 hr2 hr4 hr6
        have hm40 : m ≤ 40 := by omega
        go_loopw [8] (fun i wr => ∃ k q : Nat, k ≤ nt ∧ i = .int .i64 k ∧ Hid (wr = w7.drewN q)) (fun i _ => nt - (intOf i).toNat)
        case atStart => exact ⟨0, 0, Nat.zero_le _, rfl, rfl⟩
        case round =>
          obtain ⟨k, q, hk, rfl, HWQ⟩ := hrel
          obtain ⟨v2, rfl⟩ : ∃ v2 : World, v2 = wr := ⟨_, rfl⟩
          by_cases hlt : k < nt
          · have hk0 : (0 : Int) ≤ k := by omega
            have hk1 : (k : Int) < nt := by omega
            have hkl : k < (three L).length := by have := HNL.out; omega
            obtain ⟨b, off, rfl, hb2, hcc⟩ := HR7.out.recs encP_len (by omega) (by omega)
            have e0 : v2.cell? ⟨b, off + k * 3, none⟩ = some (.int .i64 (three L)[k].1) := by rw [HWQ.out]; exact hcc k hkl 0 _ rfl
            have HCC := Lib.hid hcc
            clear hcc
            obtain ⟨r, hrr⟩ : ∃ r, (three L)[k].1 = r := ⟨_, rfl⟩
            rw [hrr] at e0
            have HRR := Lib.hid hrr
            clear hrr
            go_wp2_with fail
            go_loopw [9, 10] (fun sv j wr => ∃ j' q' : Nat, j' ≤ m ∧ j = .int .i64 j' ∧ sv = .bool (anyR R j' r) ∧ Hid (wr = w7.drewN q')) (fun _ j _ => m - (intOf j).toNat)
            case atStart => exact ⟨0, q, Nat.zero_le _, rfl, rfl, HWQ⟩
            case round =>
              obtain ⟨j, q', hj, rfl, rfl, HWR⟩ := hrel
              have f0 : wr.cell? ⟨b, off + k * 3, none⟩ = some (.int .i64 r) := by rw [HWR.out, ← HRR.out]; exact HCC.out k hkl 0 _ rfl
              by_cases hjl : j < m
              · have hj0 : (0 : Int) ≤ j := by omega
                have hj1 : (j : Int) < m := by omega
                have hjR : j < R.length := by have := HRL.out; omega
                obtain ⟨b', off', rfl, _, hcr⟩ := HRI7.out.open_ (by omega) (by omega)
                have g0 : wr.cell? ⟨b', off' + j, none⟩ = some (.int .i64 R[j]) := by rw [HWR.out]; exact hcr j _ (ints_get hjR)
                have HS := Lib.hid (anyR_succ hjR r)
                clear hcr
                rcases ha : anyR R j r with _ | _
                · have HA := Lib.hid ha
                  clear ha
                  by_cases he : R[j] = r
                  · have t1 : (R[j] == r) = true := beq_iff_eq.2 he
                    have HE : Hid (anyR R (j + 1) r = true) := Lib.hid (by rw [HS.out, HA.out, decide_eq_true he]; rfl)
                    clear he
                    go_wp2_with fail
                    go_quiet (fail)
                    go_wp2_with fail
                    go_roundw
                    case rel => exact ⟨j + 1, q' + nq, by omega, by go_num, by rw [HE.out], by rw [HWR.out, World.drewN_drewN]; rfl⟩
                    case measure => simp [intOf]; omega
                  · have t1 : (R[j] == r) = false := beq_eq_false_iff_ne.2 he
                    have HE : Hid (anyR R (j + 1) r = false) := Lib.hid (by rw [HS.out, HA.out, decide_eq_false he]; rfl)
                    clear he
                    go_wp2_with fail
                    go_quiet (fail)
                    go_wp2_with fail
                    go_roundw
                    case rel => exact ⟨j + 1, q' + nq, by omega, by go_num, by rw [HE.out], by rw [HWR.out, World.drewN_drewN]; rfl⟩
                    case measure => simp [intOf]; omega
                · have HA := Lib.hid ha
                  have HE : Hid (anyR R (j + 1) r = true) := Lib.hid (by rw [HS.out, HA.out]; rfl)
                  clear ha
                  go_wp2_with fail
                  go_quiet (fail)
                  go_wp2_with fail
                  go_roundw
                  case rel => exact ⟨j + 1, q' + nq, by omega, by go_num, by rw [HE.out], by rw [HWR.out, World.drewN_drewN]; rfl⟩
                  case measure => simp [intOf]; omega
              · obtain rfl : j = m := by omega
                have HT : Hid (anyR R j r = true) := Lib.hid (by
                  obtain ⟨e, he, h1⟩ := three_mem (List.getElem_mem hkl)
                  have := HRI.out e he
                  rw [h1, HRR.out] at this
                  exact anyR_all this (by rw [HRL.out]; exact Nat.le_refl _))
                rw [HT.out]
                obtain ⟨v3, rfl⟩ : ∃ v3 : World, v3 = wr := ⟨_, rfl⟩
                go_wp2_with fail
                go_loopw [9, 11] (fun sv j wr => ∃ j' q' : Nat, j' ≤ k ∧ j = .int .i64 j' ∧ sv = .bool true ∧ Hid (wr = w7.drewN q')) (fun _ j _ => k - (intOf j).toNat)
                case atStart => exact ⟨0, q', Nat.zero_le _, rfl, rfl, HWR⟩
                case round =>
                  obtain ⟨j2, q2, hj2, rfl, rfl, HW2⟩ := hrel
                  have f1 : wr.cell? ⟨b, off + k * 3, none⟩ = some (.int .i64 r) := by rw [HW2.out, ← HRR.out]; exact HCC.out k hkl 0 _ rfl
                  by_cases hjk : j2 < k
                  · have hj0 : (0 : Int) ≤ j2 := by omega
                    have hj1 : (j2 : Int) < nt := by omega
                    have f2 : wr.cell? ⟨b, off + j2 * 3, none⟩ = some (.int .i64 (three L)[j2].1) := by rw [HW2.out]; exact HCC.out j2 (by omega) 0 _ rfl
                    have t2 : ((three L)[j2].1 != r) = true := by have := three_apart HDI.out hkl hjk; rw [HRR.out] at this; simpa using this
                    go_wp2_with fail
                    go_quiet (fail)
                    go_wp2_with fail
                    go_roundw
                    case rel => exact ⟨j2 + 1, q2 + nq, by omega, by go_num, rfl, by rw [HW2.out, World.drewN_drewN]; rfl⟩
                    case measure => simp [intOf]; omega
                  · obtain rfl : j2 = k := by omega
                    go_wp2_with fail
                    go_roundw
                    case rel => exact ⟨j2 + 1, q2, by omega, by go_num, HW2⟩
                    case measure => simp [intOf]; omega
          · obtain rfl : k = nt := by omega
            have HD8 : Hid (DeskF v2 F g L) := Lib.hid (by rw [HWQ.out]; exact (HD.out.below HB7.out).below (below_drewN (Below.refl _ _) q))
            have HBW8 : Hid (Below w.heap.size w v2) := Lib.hid (by rw [HWQ.out]; exact below_drewN (HBW.out.trans (HB7.out.mono HBW.out.size)) q)
            have hF8 := HF
            clear HWQ HB7 HR7 HNL HRI7 HRL HNT hl3 HRI HROW HD HBW hm40
            go_wp2_with fail
            refine (open_any F g L _ HD8.out hlen).mono ?_
            rintro e w8 ⟨A8, n8, c8, rfl, ho8, hb8⟩
            have HN8 : Hid (nOpen L = n8) := Lib.hid (by have := recs_len (Reads.of_own ho8) encP_len (by omega); rwa [ofS_open] at this)
            have hn8 : n8 ≤ 256 := by have h1 := ofS_len L 0; rw [ofS_open] at h1; have := HN8.out; have := HFI.out.1; omega
            have HD9 := Lib.hid (HD8.out.below hb8)
            have HBW9 := Lib.hid (HBW8.out.trans (hb8.mono HBW8.out.size))
            clear ho8 hb8 HD8 HBW8
            go_wp2_with fail
            go_loopw [13] (fun i wr => ∃ (k' : Nat) (F' : Nat → Prop) (L' : List En), k' ≤ 80 * n8 ∧ i = .int .i64 k' ∧ DeskF wr F' g L' ∧ fine (40 + k') L' ∧ dist L' ∧ Hid (nOpen L' = n8) ∧ Even n8 k' L' ∧ (∀ j, F' j → w.heap.size ≤ j) ∧ Below w.heap.size w wr) (fun i _ => 80 * n8 - (intOf i).toNat)
            case atStart => exact ⟨0, F, L, Nat.zero_le _, rfl, HD9.out, fine_mono HFI.out (by omega), HDI.out, HN8, by have := even_start HFI.out h40; rwa [HN8.out] at this, HF.out, HBW9.out⟩
            case round =>
              obtain ⟨k1, F1', L1, hk1, rfl, hd1, hfi1, hdi1, HN1, hev1, hF1', hbw1⟩ := hrel
              obtain ⟨v3, rfl⟩ : ∃ v3 : World, v3 = wr := ⟨_, rfl⟩
              have HD1' := Lib.hid hd1; have HFI1 := Lib.hid hfi1; have HDI1 := Lib.hid hdi1; have HEV1 := Lib.hid hev1; have HF1' := Lib.hid hF1'; have HBW1 := Lib.hid hbw1
              clear hd1 hfi1 hdi1 hev1 hF1' hbw1 HD9 HBW9
              have hlen1 : L1.length ≤ 100000 := by have := HFI1.out.1; omega
              by_cases hlt1 : k1 < 80 * n8
              · have hpos : 0 < n8 := by omega
                have hnb : nextB L1 = true := nextB_iff.2 (by rw [HN1.out]; exact hpos)
                obtain ⟨b, hb, hp, h0, h1, h2⟩ := next_spec hnb
                have hst := turn_step HFI1.out HDI1.out hb h0
                have hev2 := even_step HEV1.out HN1.out hb h0 h1 h2
                rw [← hst.2.1] at hev2
                have hrg := (HFI1.out.2 _ (List.getElem_mem hb)).1
                generalize L1[b].1 = pp at hp hst hev2 hrg
                obtain ⟨pa, pb, pc⟩ := pp
                have hrg' : 1 ≤ pa ∧ pa ≤ 1000000 := let h := of_decide_eq_true hrg; ⟨h.1, h.2.1⟩
                have HST := Lib.hid hst; have HEV2 := Lib.hid hev2; have HP := Lib.hid hp; have HNB := Lib.hid hnb
                clear hst hev2 hp hnb h0 h1 h2 hrg
                have hpos' : (0 : Int) < n8 := by omega
                go_wp2_with fail
                refine (next_at F1' g L1 pa pb pc true _ HD1'.out hlen1 HP.out HNB.out).mono ?_
                rintro e w9 ⟨rfl, hb9⟩
                have hB9 := Blk.new w9 23 #[.int .i64 pa, .int .i64 pb, .int .i64 pc]
                have c0 := hB9.cell 0
                have hba := hb9.alloc hb9.size (.cells #[.int .i64 pa, .int .i64 pb, .int .i64 pc] 23)
                have hd9 := HD1'.out.below hba
                have hbw9 := HBW1.out.trans (hba.mono HBW1.out.size)
                clear hba
                go_wp2_with fail
                refine (answer_at F1' g L1 _ pa 33 0 _ hd9 (WalkArith.wf_i64 (by omega)) hlen1 (fine_tries HFI1.out (by omega)) HST.out.1 rfl).mono ?_
                rintro e w10 ⟨rfl, hd10, ho10⟩
                have hF10 := With.ge (w := (w9.alloc (.cells #[.int .i64 pa, .int .i64 pb, .int .i64 pc] 23))) (w' := w10) HF1'.out hbw9.size
                have hbw10 := hbw9.trans (ho10.below (fun k _ hk => HF1'.out k hk) hbw9.size)
                have HN2 : Hid (nOpen (ansL L1 pa 33) = n8) := Lib.hid (HST.out.2.2.2.2.trans HN1.out)
                go_wp2_with fail
                go_roundw
                case rel => exact ⟨k1 + 1, _, _, by omega, by go_num, hd10, fine_mono HST.out.2.2.1 (by omega), HST.out.2.2.2.1, HN2, HEV2.out, hF10, hbw10⟩
                case measure => simp [intOf]; omega
              · have hk1e : k1 = 80 * n8 := by omega
                have hev1 := HEV1.out
                rw [hk1e] at hev1
                have HEV1 := Lib.hid hev1
                have hge : 80 * (n8 : Int) ≤ (k1 : Int) := by omega
                have hk256 : k1 ≤ 20480 := by omega
                clear hk1e hev1 hlt1 hk1
                have hr0 : ∃ r, 0 < n8 → r < n8 ∧ ∃ T, PhB L1 T (rot n8 r 0) := by
                  rcases Nat.eq_zero_or_pos n8 with h | h
                  · exact ⟨0, fun h' => by omega⟩
                  · obtain ⟨T, r, hr, hp⟩ := even_end HEV1.out h
                    exact ⟨r, fun _ => ⟨hr, T, by unfold rot; rw [if_pos (by omega)]; exact hp⟩⟩
                obtain ⟨r, hr0⟩ := hr0
                have HR0 := Lib.hid hr0
                clear hr0 HEV1
                go_wp2_with fail
                go_loopw [16, 17] (fun ts i wr => ∃ (k2 : Nat) (F2 : Nat → Prop) (L2 : List En) (R2 : List Int), k2 ≤ n8 ∧ i = .int .i64 k2 ∧ Row wr w.heap.size F2 ts k2 R2 ∧ DeskF wr F2 g L2 ∧ fine (40 + k1 + k2) L2 ∧ dist L2 ∧ Hid (nOpen L2 = n8) ∧ (0 < n8 → r < n8 ∧ ∃ T, PhB L2 T (rot n8 r k2)) ∧ Tried L2 n8 r k2 R2 ∧ (∀ j, F2 j → w.heap.size ≤ j) ∧ Below w.heap.size w wr ∧ ∃ A1 c1, ts = .slice A1 k2 c1) (fun _ i _ => n8 - (intOf i).toNat)
                case atStart => exact ⟨0, F1', L1, [], Nat.zero_le _, rfl, ⟨World.ownsRow_nil _ _ _ _, fun j hj => by simp [Value.ownBlock] at hj⟩, HD1'.out, fine_mono HFI1.out (by omega), HDI1.out, HN1, HR0.out, ⟨rfl, fun x hx => by cases hx⟩, HF1'.out, HBW1.out, none, 0, rfl⟩
                case round =>
                  obtain ⟨k2, F2, L2, R2, hk2, rfl, hrow, hd2, hfi2, hdi2, HN2, hph, htr, hF2, hbw2, A2', c2', rfl⟩ := hrel
                  obtain ⟨v4, rfl⟩ : ∃ v4 : World, v4 = wr := ⟨_, rfl⟩
                  have HROW2 := Lib.hid hrow; have HD2' := Lib.hid hd2; have HFI2 := Lib.hid hfi2; have HDI2 := Lib.hid hdi2; have HPH := Lib.hid hph; have HTR := Lib.hid htr; have HF2' := Lib.hid hF2; have HBW2 := Lib.hid hbw2
                  clear hrow hd2 hfi2 hdi2 hph htr hF2 hbw2 HD1' HFI1 HDI1 HF1' HBW1
                  have hlen2 : L2.length ≤ 100000 := by have := HFI2.out.1; omega
                  by_cases hlt2 : k2 < n8
                  · have hpos : 0 < n8 := by omega
                    have hnb : nextB L2 = true := nextB_iff.2 (by rw [HN2.out]; exact hpos)
                    obtain ⟨b, hb, hp, h0, h1, h2⟩ := next_spec hnb
                    have hst := turn_step HFI2.out HDI2.out hb h0
                    obtain ⟨hrn, T, hT⟩ := HPH.out hpos
                    have hrot := phB_rot hT HN2.out hrn hlt2 hb h0 h1 h2
                    have hnew := tried_new HTR.out HDI2.out HN2.out hrn hlt2 hb h0 hrot.1
                    have hrot2 := hrot.2
                    rw [← hst.2.1] at hrot2 hnew
                    have hrg := (HFI2.out.2 _ (List.getElem_mem hb)).1
                    clear hrot h0 h1 h2
                    generalize L2[b].1 = pp at hp hst hrot2 hnew hrg
                    obtain ⟨pa, pb, pc⟩ := pp
                    have hrg' : 1 ≤ pa ∧ pa ≤ 1000000 := let h := of_decide_eq_true hrg; ⟨h.1, h.2.1⟩
                    have HST := Lib.hid hst; have HROT := Lib.hid hrot2; have HNEW := Lib.hid hnew; have HP := Lib.hid hp; have HNB := Lib.hid hnb
                    clear hst hrot2 hnew hp hnb hrg hT
                    go_wp2_with fail
                    refine (next_at F2 g L2 pa pb pc true _ HD2'.out hlen2 HP.out HNB.out).mono ?_
                    rintro e w9 ⟨rfl, hb9⟩
                    have hB9 := Blk.new w9 23 #[.int .i64 pa, .int .i64 pb, .int .i64 pc]
                    have c0 := hB9.cell 0
                    have hba := hb9.alloc hb9.size (.cells #[.int .i64 pa, .int .i64 pb, .int .i64 pc] 23)
                    have hd9 := HD2'.out.below hba
                    have hrow9 := HROW2.out.below hba
                    have hbw9 := HBW2.out.trans (hba.mono HBW2.out.size)
                    have hnF : ¬ F2 w9.heap.size := fun e => by have := HD2'.out.2.1 _ e; have := hb9.size; omega
                    clear hba
                    go_wp2_with fail
                    refine (answer_at F2 g L2 _ pa 33 0 _ hd9 (WalkArith.wf_i64 (by omega)) hlen2 (fine_tries HFI2.out (by omega)) HST.out.1 rfl).mono ?_
                    rintro e w10 ⟨rfl, hd10, ho10⟩
                    have hF10 := With.ge (w := (w9.alloc (.cells #[.int .i64 pa, .int .i64 pb, .int .i64 pc] 23))) (w' := w10) HF2'.out hbw9.size
                    have hbw10 := hbw9.trans (ho10.below (fun k _ hk => HF2'.out k hk) hbw9.size)
                    have HN3 : Hid (nOpen (ansL L2 pa 33) = n8) := Lib.hid (HST.out.2.2.2.2.trans HN2.out)
                    have HB10 := Lib.hid (ho10.blk hB9 hnF)
                    have HROW10 := Lib.hid (hrow9.only ho10)
                    have HD10 := Lib.hid hd10; have HF10 := Lib.hid hF10; have HBW10 := Lib.hid hbw10
                    have HRL2 : Hid (R2.length = k2) := Lib.hid HTR.out.1
                    clear hrow9 hd10 hF10 hbw10 hd9 hbw9 ho10 hB9 c0 hb9 hnF
                    go_wp2_with fail
                    go_loopw [20] (fun i wr => ∃ j q : Nat, j ≤ k2 ∧ i = .int .i64 j ∧ Hid (wr = w10.drewN q)) (fun i _ => k2 - (intOf i).toNat)
                    case atStart => exact ⟨0, 0, Nat.zero_le _, rfl, rfl⟩
                    case round =>
                      obtain ⟨j, q, hj, rfl, HWQ⟩ := hrel
                      have hB := HB10.out.drewN q
                      rw [← HWQ.out] at hB
                      have c0 := hB.cell 0
                      by_cases hjk : j < k2
                      · have hj0 : (0 : Int) ≤ j := by omega
                        have hj1 : (j : Int) < k2 := by omega
                        have hjR : j < R2.length := by have := HRL2.out; omega
                        obtain ⟨b', off', rfl, _, hcr⟩ := (Reads.of_own HROW10.out.1).open_ (by omega) (by omega)
                        have g0 : wr.cell? ⟨b', off' + j, none⟩ = some (.int .i64 R2[j]) := by rw [HWQ.out]; exact hcr j _ (ints_get hjR)
                        have t1 : (R2[j] == pa) = false := beq_eq_false_iff_ne.2 (HNEW.out.1 _ (List.getElem_mem hjR))
                        clear hcr
                        go_wp2_with fail
                        go_quiet (fail)
                        go_wp2_with fail
                        go_roundw
                        case rel => exact ⟨j + 1, q + nq, by omega, by go_num, by rw [HWQ.out, World.drewN_drewN]; rfl⟩
                        case measure => simp [intOf]; omega
                      · obtain rfl : j = k2 := by omega
                        have HROWq : Hid (Row wr w.heap.size (With F2 (w9.alloc (.cells #[.int .i64 pa, .int .i64 pb, .int .i64 pc] 23)) w10) (.slice A2' j c2') j R2) := by rw [HWQ.out]; exact HROW10.out
                        have HDq : Hid (DeskF wr (With F2 (w9.alloc (.cells #[.int .i64 pa, .int .i64 pb, .int .i64 pc] 23)) w10) g (ansL L2 pa 33)) := Lib.hid (by rw [HWQ.out]; exact HD10.out.below (below_drewN (Below.refl _ _) q))
                        have HBWq : Hid (Below w.heap.size w wr) := Lib.hid (by rw [HWQ.out]; exact below_drewN HBW10.out q)
                        clear HROW10 HD10 HBW10 HWQ HB10
                        go_wp2_with (at_builtin; refine wpList_append_any _ rfl (.tmp 178) (.tmp 181) _ rfl w.heap.size 3 i0 _ 1 8 Try.underlying34 hi0 hz0 hz1 hz2 rfl (by omega) (.slice A2' j c2') j (ints R2) rfl (HROWq.out.1.alloc _) (wr.heap.size + 1) (some ⟨wr.heap.size, 0, none⟩) 1 1 (ints [pa]) rfl (Reads.fresh wr 3 #[.int .i64 pa] 1 1 rfl) (one_ints [pa]) (by simp only [maxLen]; omega) (by omega) (by have := HBWq.out.size; simp; omega) ?_; intro v11 w11 hown11 hg11 hat11; obtain ⟨A11, c11, rfl, hr11⟩ := own_reads hown11; rw [← ints_app] at hown11)
                        go_roundw
                        case rel =>
                          have hrow11 : ∀ i, (Value.slice A11 (j + 1) c11).ownBlock = some i → ¬ With F2 (w9.alloc (.cells #[.int .i64 pa, .int .i64 pb, .int .i64 pc] 23)) w10 i := fun i hi hFi => by
                            have hil := HDq.out.2.1 i hFi
                            rcases hat11 with h | h
                            · rw [h] at hi; exact HROWq.out.2 i hi hFi
                            · rw [h] at hi; injection hi with hi; simp at hi; omega
                          refine ⟨j + 1, _, _, _, by omega, by go_num, ⟨hown11, hrow11⟩, ?_, fine_mono HST.out.2.2.1 (by omega), HST.out.2.2.2.1, HN3, fun _ => ⟨(HPH.out hpos).1, HROT.out⟩, HNEW.out.2, HF10.out, below_own (HBWq.out.alloc HBWq.out.size _) (HROWq.out.1.alloc _) hg11 (by have := HBWq.out.size; simp; omega) (Nat.le_refl _), A11, c11, rfl⟩
                          exact deskF_grown (HDq.out.below ((Below.refl _ _).alloc (Nat.le_refl _) _)) hg11 HROWq.out.2
                        case measure => simp [intOf]; omega
                  · obtain rfl : k2 = n8 := by omega
                    obtain ⟨⟨pa, pb, pc⟩, hp⟩ : ∃ p, nextP L2 = p := ⟨_, rfl⟩
                    obtain ⟨x, hx⟩ : ∃ x, nextB L2 = x := ⟨_, rfl⟩
                    have hx2 : (x = true ∧ 0 < k2) ∨ (x = false ∧ k2 ≤ 0) := by
                      rw [← hx]
                      rcases Nat.eq_zero_or_pos k2 with h | h
                      · have hn : ¬ nextB L2 = true := fun e => by have := nextB_iff.1 e; rw [HN2.out] at this; omega
                        exact .inr ⟨by simpa using hn, by omega⟩
                      · exact .inl ⟨nextB_iff.2 (by rw [HN2.out]; exact h), h⟩
                    have HX2 := Lib.hid hx2
                    have HP := Lib.hid hp; have HX := Lib.hid hx
                    clear hp hx hx2
                    go_wp2_with fail
                    refine (next_at F2 g L2 pa pb pc x _ HD2'.out hlen2 HP.out HX.out).mono ?_
                    rintro e w9 ⟨rfl, hb9⟩
                    have hba := hb9.alloc hb9.size (.cells #[.int .i64 pa, .int .i64 pb, .int .i64 pc] 23)
                    have HD9' := Lib.hid (HD2'.out.below hba)
                    have HBW9' := Lib.hid (HBW2.out.trans (hba.mono HBW2.out.size))
                    clear hba hb9
                    rcases HX2.out with ⟨rfl, hx4⟩ | ⟨rfl, hx4⟩
                    all_goals
                     go_wp2_with fail
                     try any_goals (exfalso; omega)
                     refine (open_any F2 g L2 _ HD9'.out hlen2).mono ?_
                     rintro e w10 ⟨A10, n10, c10, rfl, ho10, hb10⟩
                     obtain rfl : n10 = k2 := by have := recs_len (Reads.of_own ho10) encP_len (by omega); rw [ofS_open, HN2.out] at this; exact this.symm
                     have hbw10 := HBW9'.out.trans (hb10.mono HBW9'.out.size)
                     have HBW10 := Lib.hid hbw10
                     clear ho10 hb10 hbw10
                     go_wp2_with fail
                     refine (awake_any _).mono ?_
                     rintro e w11 ⟨rfl, hb11⟩
                     go_wp2_with fail
                     go_ret
                     exact ⟨ret_bool (by first | rfl | (simp; omega)), HBW10.out.trans (hb11.mono HBW10.out.size)⟩
  · have h41 : 40 < n := by omega
    go_enter Try.func4, Try.ntmps4
    go_wp2_with fail
    refine (awake_any _).mono ?_
    rintro e w1 ⟨rfl, hb⟩
    go_wp2_with fail
    go_ret
    exact ⟨rfl, hb⟩
end Go.Proofs.Ytakjdffebpcmnaa
