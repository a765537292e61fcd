/- The walk of LedgerReverses. -/
import Derived.Test.YtoammbjnejdgpaaLdY
import Derived.StillTailTactics
namespace Go.Proofs.Ytoammbjnejdgpaa
open Go.RowKit
theorem idx_own {acc : Int} {d : List Dt} (h : Fine acc d) {i : Nat} (hi : i < d.length) : idx d d[i].id = some i := idx_at hi rfl fun j _ hji => h.dis j i hi hji
theorem idx_app_l {d m : List Dt} {r : Int} {i : Nat} (h : idx d r = some i) : idx (d ++ m) r = some i := by
  unfold idx at h ⊢; rw [List.findIdx?_append, h]; rfl
theorem idx_app_r {d : List Dt} {x : Dt} (h : idx d x.id = none) : idx (d ++ [x]) x.id = some d.length := by
  unfold idx at h ⊢; rw [List.findIdx?_append, h]; simp
theorem lnAdd_neg (a : Int) : ∀ ls : List Ln, lnAdd a (negL ls) = -lnAdd a ls
  | [] => rfl
  | x :: ls => by
    have := lnAdd_neg a ls
    unfold negL at this ⊢
    rw [List.map_cons]
    simp only [lnAdd]
    rw [this]
    split <;> omega
theorem balN_same (a : Int) {t t' : Int} : ∀ {d : List Dt}, (∀ x ∈ d, x.tm ≤ t) → (∀ x ∈ d, x.tm ≤ t') → balN d a t = balN d a t'
  | [], _, _ => rfl
  | x :: d, h, h' => by
    simp only [balN]
    rw [balN_same a (fun y hy => h y (List.mem_cons_of_mem _ hy)) (fun y hy => h' y (List.mem_cons_of_mem _ hy)), if_pos (h x (List.mem_cons_self ..)), if_pos (h' x (List.mem_cons_self ..))]
theorem tm_last {acc : Int} {d : List Dt} (h : Fine acc d) {t : Int} (ht : ¬ (d ≠ [] ∧ t < lastTm d)) : ∀ x ∈ d, x.tm ≤ t := by
  intro x hx
  obtain ⟨j, hj, rfl⟩ := List.getElem_of_mem hx
  have hl : d.length - 1 < d.length := by omega
  have h1 : ¬ t < lastTm d := fun e => ht ⟨fun e2 => by rw [e2] at hj; exact absurd hj (Nat.not_lt_zero _), e⟩
  rw [lastTm_at hl] at h1
  rcases Nat.lt_or_ge j (d.length - 1) with h2 | h2
  · have := h.ord j (d.length - 1) hl h2; omega
  · have : j = d.length - 1 := by omega
    subst this; omega
structure RevAf (acc : Int) (d : List Dt) (i : Nat) (hi : i < d.length) (by_ tm : Int) (d' : List Dt) : Prop where
  of_ : d'.map Dt.of = d.map Dt.of ++ [(by_, tm, negL d[i].ls)]
  tms : ∀ x ∈ d, x.tm ≤ tm
  rg : 0 ≤ tm ∧ tm ≤ 4294943999
  e1 : revE acc d' d[i].id 1000000 tm = 20
  e2 : revE acc d' by_ 1000000 tm = 20
  len : d'.length = d.length + 1
theorem rev_after {acc : Int} {d : List Dt} (hf : Fine acc d) {i : Nat} (hi : i < d.length) {by_ tm : Int} (h : revE acc d d[i].id by_ tm = 0) : RevAf acc d i hi by_ tm (revD acc d d[i].id by_ tm) := by
  have hix := idx_own hf hi
  have hd := revD_ok h hix
  have hg : d.getD i ⟨0, 0, [], false⟩ = d[i] := by rw [List.getD_eq_getElem?_getD, List.getElem?_eq_getElem hi]; rfl
  rw [hg] at hd
  have hu : d[i].used = false := by
    rcases hb : d[i].used with _ | _
    · rfl
    · rw [revE_used hix (by rw [hg]; exact hb)] at h; exact absurd h (by decide)
  rw [revE_post hix (by rw [hg]; exact hu), hg] at h
  obtain ⟨p1, p2, p3, p4, p5⟩ := postE_inv h
  have q := range_t p2
  have hm : idx (markD d i true) d[i].id = some i := by rw [markD_idx]; exact hix
  have hml : i < (markD d i true).length := by rw [markD_len]; exact hi
  rw [hd]
  refine ⟨by rw [List.map_append, markD_of]; rfl, tm_last hf p5, q.2.2, ?_, ?_, by rw [List.length_append, markD_len]; rfl⟩
  · refine revE_used (idx_app_l hm) ?_
    rw [List.getD_eq_getElem?_getD, List.getElem?_append_left hml, List.getElem?_eq_getElem hml]
    have : ∀ h : i < (markD d i true).length, ((markD d i true)[i]).used = true := by unfold markD; intro h; rw [List.getElem_modify]; simp
    exact this hml
  · have h3 : idx (markD d i true) by_ = none := by rw [markD_idx]; exact p4
    have h4 := idx_app_r (d := markD d i true) (x := ⟨by_, tm, negL d[i].ls, true⟩) h3
    refine revE_used h4 ?_
    rw [List.getD_eq_getElem?_getD, List.getElem?_append_right (Nat.le_refl _), Nat.sub_self]
    rfl
theorem RevAf.max_ {acc : Int} {d d' : List Dt} {i : Nat} {hi : i < d.length} {by_ tm : Int} (h : RevAf acc d i hi by_ tm d') (a : Int) : balN d' a 4294943999 = balN d a 4294943999 - lnAdd a d[i].ls := by
  rw [balN_P, h.of_, balP_snoc, ← balN_P, if_pos (show ((by_, tm, negL d[i].ls) : Int × Int × List Ln).2.1 ≤ 4294943999 from h.rg.2)]
  show balN d a 4294943999 + lnAdd a (negL d[i].ls) = _
  rw [lnAdd_neg]; omega
theorem RevAf.at_ {acc : Int} {d d' : List Dt} {i : Nat} {hi : i < d.length} {by_ tm : Int} (h : RevAf acc d i hi by_ tm d') (a : Int) : balN d' a tm = balN d' a 4294943999 := by
  refine balN_same a (fun x hx => ?_) fun x hx => ?_
  all_goals
    have h1 : x.of ∈ d'.map Dt.of := List.mem_map_of_mem hx
    rw [h.of_, List.mem_append] at h1
    rcases h1 with h1 | h1
    · obtain ⟨y, hy, e⟩ := List.mem_map.1 h1
      have h2 := h.tms y hy
      have h3 : y.tm = x.tm := congrArg (fun z => z.2.1) e
      have := h.rg
      omega
    · rw [List.mem_singleton] at h1
      have h3 : x.tm = tm := congrArg (fun z => z.2.1) h1
      have := h.rg
      omega
def arrI (n : Nat) (f : Nat → Int) : Array Value := ((List.range n).map fun k => Value.int .i64 (f k)).toArray
theorem arrI_size (n : Nat) (f : Nat → Int) : (arrI n f).size = n := by simp [arrI]
theorem arrI_get {n : Nat} (f : Nat → Int) {k : Nat} (h : k < n) : (arrI n f)[k]? = some (.int .i64 (f k)) := by unfold arrI; simp [h]
theorem arrI_set (n : Nat) (f : Nat → Int) (k : Nat) (v : Int) : (arrI n f).setIfInBounds k (.int .i64 v) = arrI n (fun i => if i = k then v else f i) := by
  apply Array.ext
  · simp [arrI]
  · intro i h1 h2
    simp only [Array.size_setIfInBounds, arrI_size] at h1
    rw [Array.getElem_setIfInBounds (by rw [arrI_size]; exact h1)]
    by_cases hk : k = i
    · subst hk; rw [if_pos rfl]; simp [arrI]
    · rw [if_neg hk]; simp only [arrI, List.getElem_toArray, List.getElem_map, List.getElem_range]; rw [if_neg (fun e => hk e.symm)]
theorem arrI_made (n : Nat) : madeCells #[.int .i64 0] (n * 1) = arrI n (fun _ => 0) := by
  apply Array.ext
  · simp [arrI, madeCells]
  · intro i h1 h2
    simp [arrI, madeCells, Nat.mod_one]
theorem arrI_ext {n : Nat} {f g : Nat → Int} (h : ∀ a, a < n → f a = g a) : arrI n f = arrI n g := by
  unfold arrI; congr 1
  exact List.map_congr_left fun a ha => by rw [h a (List.mem_range.1 ha)]
theorem madeI (n : Nat) (hn : n ≤ 64) (w : World) : (Instr.makeSlice 27 (.int .i64 (n : Int)) (.int .i64 (n : Int))).run Try.prog w = .ok (.slice (some ⟨w.heap.size, 0, none⟩) n n) (w.alloc (.cells (arrI n fun _ => 0) 3)) := by
  obtain ⟨i0, hi0, hz0, hz1, hz2⟩ := info_parts infoInt
  rw [run_make_rowN 27 3 i0 _ Try.underlying27 hi0 hz0 .i64 .i64 n n (Nat.le_refl _) (by rw [hz2]; omega) (by omega) w, hz1, ← arrI_made]
  rfl
/-- The balances of the first accounts, and what they are without some lines. -/
def upB (d : List Dt) (j : Nat) : Nat → Int := fun a => if a < j then balN d (a : Int) 4294943999 else 0
def dnB (d : List Dt) (ls : List Ln) : Nat → Int := fun a => balN d (a : Int) 4294943999 - lnAdd (a : Int) ls
theorem upB_step (d : List Dt) (j : Nat) (x : Int) (hx : balN d (j : Int) 4294943999 = x) : (fun i => if i = j then x else upB d j i) = upB d (j + 1) := by
  funext i; unfold upB
  by_cases h : i = j
  · subst h; rw [if_pos rfl, if_pos (by omega), hx]
  · rw [if_neg h]
    by_cases h2 : i < j
    · rw [if_pos h2, if_pos (by omega)]
    · rw [if_neg h2, if_neg (by omega)]
theorem upB_dnB (d : List Dt) (n : Nat) : arrI n (upB d n) = arrI n (dnB d []) := arrI_ext fun a ha => by
  unfold upB dnB; rw [if_pos ha]; simp [lnAdd]
theorem dnB_step {d : List Dt} {ls : List Ln} {k x : Nat} (hk : k < ls.length) (hx : ls[k].1 = (x : Int)) (v : Int) (hv : dnB d (ls.take k) x - ls[k].2 = v) : (fun i => if i = x then v else dnB d (ls.take k) i) = dnB d (ls.take (k + 1)) := by
  funext i
  subst hv
  by_cases h : i = x
  · subst h; rw [if_pos rfl]; unfold dnB; rw [lnAdd_take hk, if_pos hx]; omega
  · rw [if_neg h]; unfold dnB; rw [lnAdd_take hk, if_neg (by omega), Int.add_zero]
theorem LdW.next2 {w0 w w' : World} {F R : Nat → Prop} {g : Nat} {acc x : Int} {d d' : List Dt} {e : Ending} (h : LdW w0 w F R g acc d) (hf : Fine acc d') (hp : PostL w F R g acc x d' e w') : e = .returned (.int .i64 x) ∧ Only F w w' ∧ ∃ F' R' : Nat → Prop, (∀ k, F' k → F k ∨ w.heap.size ≤ k) ∧ (∀ k, R' k → R k ∨ w.heap.size ≤ k) ∧ LdW w0 w' F' R' g acc d' := by
  obtain ⟨he, ho, F', R', h1, h2, h3⟩ := hp
  refine ⟨he, ho, F', R', h1, h2, h3, fun k hk => ?_, h.bel.trans (ho.below (fun k _ hk => h.new_ k hk) h.bel.size), hf⟩
  rcases h1 k hk with h4 | h4
  · exact h.new_ k h4
  · exact Nat.le_trans h.bel.size h4
theorem LdW.only {w0 w w' : World} {F R F0 : Nat → Prop} {g : Nat} {acc : Int} {d : List Dt} (h : LdW w0 w F R g acc d) (ho : Only F0 w w') (hd : ∀ k, F k ∨ R k → ¬ F0 k) (hn : ∀ k, F0 k → w0.heap.size ≤ k) : LdW w0 w' F R g acc d := ⟨h.ld.keep ho hd, h.new_, h.bel.trans (ho.below (fun k _ hk => hn k hk) h.bel.size), h.fine⟩
theorem LdF.rlt {w : World} {F R : Nat → Prop} {g : Nat} {acc : Int} {d : List Dt} (h : LdF w F R g acc d) : ∀ k, R k → k < w.heap.size := by
  obtain ⟨l, A, n, c, _, hB⟩ := h
  exact fun k hk => (hB.2.2.1 k hk).1
theorem same_self {ps ps2 : List Pg} {d : List Dt} (h1 : ps.map Pg.of = d.map Dt.of) (h2 : ps2.map Pg.of = d.map Dt.of) : sameP ps2 ps = true := decide_eq_true (by rw [h1, h2])
theorem dnB_bd {acc : Int} {d : List Dt} (h : Fine acc d) {ls : List Ln} (hl : linesE acc ls = 0) (k a : Nat) : -9000000000000000 ≤ dnB d (ls.take k) a ∧ dnB d (ls.take k) a ≤ 9000000000000000 := by
  have h1 := bal_all h (a : Int) 4294943999
  have h2 := lnAdd_small (a := (a : Int)) hl k
  unfold dnB; omega
set_option maxHeartbeats 8000000 in
set_option maxRecDepth 10000 in
theorem ledgerReverses_walk (acc : Int) (A : Option Addr) (n c : Nat) (l : List Oc) (wh by_ tm : Int) (w : World) (hr : OsR w A n l) (hwh : (Lit.int .u8 wh).wf = true) : Calls Try.prog 8 #[.agg #[.int .i64 acc, .slice A n c], .int .u8 wh, .int .i64 by_, .int .i64 tm] w (RetB w true) := by
  obtain ⟨wn, rfl, hwn⟩ : ∃ wn : Nat, wh = wn ∧ wn ≤ 255 := by
    change (decide (0 ≤ wh) && decide (wh ≤ 255)) = true at hwh
    rw [Bool.and_eq_true] at hwh
    have h1 := of_decide_eq_true hwh.1
    have h2 := of_decide_eq_true hwh.2
    exact ⟨wh.toNat, by omega, by omega⟩
  clear hwh
  obtain ⟨B0, hbx⟩ := box1 w 40 #[.int .i64 acc, .slice A n c]
  have HLEN := Lib.hid (recs_len hr.1 encOc_len (by omega))
  obtain ⟨w1, hw1⟩ : ∃ u, w.alloc (.cells #[.int .i64 acc, .slice A n c] 40) = u := ⟨_, rfl⟩
  rw [hw1] at B0 hbx
  have HB0 := Lib.hid B0; have HBX := Lib.hid hbx; have HR := Lib.hid (hr.below hbx)
  have HW1 := Lib.hid hw1
  have c0 := (B0.cell 0).trans rfl; have c1 := (B0.cell 1).trans rfl
  clear B0 hbx hr hw1
  obtain ⟨x, hfw⟩ : ∃ x, fewB l = x := ⟨_, rfl⟩
  have HFW := Lib.hid hfw
  clear hfw
  go_enter Try.func8, Try.ntmps8
  go_upto_region 1 with fail
  rw [HW1.out]
  go_wp2_with fail
  refine (few_any acc A n c l x _ HR.out HFW.out).mono ?_
  rintro e w2 ⟨rfl, hb2⟩
  have HK := Lib.hid hb2
  clear hb2 c0 c1
  rcases x with _ | _
  case false =>
    go_wp2_with fail
    refine (awake_any _).mono ?_
    rintro e wA ⟨rfl, hbA⟩
    go_wp2_with fail
    go_ret
    exact ⟨rfl, below_next (below_next HBX.out (Nat.le_refl _) HK.out) (Nat.le_refl _) hbA⟩
  have hn60 : n ≤ 60 := by have := (few_t HFW.out).1; have := HLEN.out; omega
  have c0 := ((ofB HB0.out HK.out).cell 0).trans rfl; have c1 := ((ofB HB0.out HK.out).cell 1).trans rfl
  go_wp2_with fail
  refine (played_any acc A n c l _ (HR.out.below HK.out) (by omega)).mono ?_
  intro e w3 hh
  unfold RetPl at hh
  by_cases h0 : acc < 2 ∨ 64 < acc
  case pos =>
    rw [if_pos h0] at hh
    obtain ⟨rfl, hb3⟩ := hh
    have HK3 := Lib.hid (below_next HK.out (Nat.le_refl _) hb3)
    clear hb3 h0 c0 c1
    go_wp2_with fail
    refine (awake_any _).mono ?_
    rintro e wA ⟨rfl, hbA⟩
    go_wp2_with fail
    go_ret
    exact ⟨rfl, below_next (below_next HBX.out (Nat.le_refl _) HK3.out) (Nat.le_refl _) hbA⟩
  rw [if_neg h0] at hh
  obtain ⟨g, F, R, rfl, hL⟩ := hh
  have hacc : 2 ≤ acc ∧ acc ≤ 64 := by omega
  obtain ⟨d, hd⟩ : ∃ d, playD acc l = d := ⟨_, rfl⟩
  rw [hd] at hL
  have HL := Lib.hid (hL.from_ HK.out)
  clear hL hd h0 c0 c1
  have c0 := ((ofB HB0.out HL.out.bel).cell 0).trans rfl; have c1 := ((ofB HB0.out HL.out.bel).cell 1).trans rfl
  obtain ⟨an, rfl⟩ : ∃ an : Nat, acc = (an : Int) := ⟨acc.toNat, by omega⟩
  have han64 : an ≤ 64 := by omega
  have hacc1 : (an : Int) ≤ 64 := by omega
  clear c0 c1
  go_wp2_with fail
  refine (postings_any F R g an d _ HL.out.ld HL.out.fine).mono ?_
  rintro e u1 ⟨A1, m1, k1, ps1, rfl, hm1, hps1, hb1⟩
  have HL1 := Lib.hid (HL.out.below hb1); have HU1 := Lib.hid hb1
  have HM1 := Lib.hid hm1; have HP1 := Lib.hid hps1
  have hm512 : m1 ≤ 512 := by have := HL1.out.fine.len; omega
  clear hb1 hps1 hm1
  have c0 := ((ofB HB0.out HL1.out.bel).cell 0).trans rfl
  by_cases h0 : m1 = 0
  · subst h0
    have HD0 : Hid (d = []) := Lib.hid (List.eq_nil_of_length_eq_zero HM1.out.symm)
    have HE : Hid (revE an d by_ by_ tm = 7) := Lib.hid (revE_none (by rw [HD0.out]; rfl))
    have HD : Hid (revD an d by_ by_ tm = d) := Lib.hid (revD_not (by rw [HE.out]; decide))
    go_wp2_with fail
    refine (reverse_any F R g an d d by_ by_ tm 7 _ HL1.out.ld HL1.out.fine HE.out HD.out).mono ?_
    intro e u2 hp
    obtain ⟨rfl, F2, R2, L2⟩ := HL1.out.next HL1.out.fine hp
    have H2 := Lib.hid L2
    clear hp L2 c0
    go_wp2_with fail
    refine (awake_any _).mono ?_
    rintro e wA ⟨rfl, hbA⟩
    go_wp2_with fail
    go_ret
    exact ⟨rfl, below_next (below_next HBX.out (Nat.le_refl _) H2.out.bel) (Nat.le_refl _) hbA⟩
  have hm0 : ((m1 : Int) == 0) = false := by simp; omega
  have hm1p : 0 < m1 := by omega
  obtain ⟨i, hi⟩ : ∃ i : Nat, wn % m1 = i := ⟨_, rfl⟩
  have him : i < m1 := by rw [← hi]; exact Nat.mod_lt _ hm1p
  have ht1 : (wn : Int).tmod (m1 : Int) = (i : Int) := by rw [← hi]; rfl
  have ht2 : (wn : Int) % (m1 : Int) = (i : Int) := by rw [← hi]; rfl
  have hwr : IntKind.i64.wrap (wn : Int) = wn := IntWalk.i64_in _ (by omega)
  have hi0 : (0 : Int) ≤ i := by omega
  have hi1 : (i : Int) < m1 := by omega
  have hip : i < ps1.length := by have := ps_len HP1.out; have := HM1.out; omega
  have hid_ : i < d.length := by have := HM1.out; omega
  have HEQ := Lib.hid (ps_at HP1.out hip hid_)
  have HLE := Lib.hid (HL1.out.fine.lns _ (List.getElem_mem hid_))
  have HPR := Lib.hid HP1.out.psr
  obtain ⟨b, off, rfl, hb, hc⟩ := HPR.out.cells hm1p
  obtain ⟨d0, d1, d2⟩ := hc i hip
  have HLX := Lib.hid (((HP1.out.2.2 ps1[i] (List.getElem_mem hip)).1).mono (G' := fun j => w3.heap.size ≤ j ∧ j < u1.heap.size) fun j hj hg => ⟨hg.1, hj⟩)
  have hfn := (HP1.out.2.2 ps1[i] (List.getElem_mem hip)).2
  obtain ⟨f, hf⟩ : ∃ f, ps1[i] = f := ⟨_, rfl⟩
  rw [hf] at d0 d1 d2 HEQ HLX hfn
  rw [← HEQ.out.2.2] at HLE
  have HLN := Lib.hid (recs_len HLX.out.reads encLn_len (by omega))
  obtain ⟨E, hE⟩ : ∃ E, revE an d f.id by_ tm = E := ⟨_, rfl⟩
  have HE := Lib.hid hE
  clear hE
  have HAF : Hid (E = 0 → RevAf an d i hid_ by_ tm (revD an d f.id by_ tm)) := Lib.hid fun e => by
    rw [HEQ.out.1]; exact rev_after HL1.out.fine hid_ (by rw [← HEQ.out.1, HE.out, e])
  obtain ⟨Y1, hbY⟩ := box1 u1 45 #[.int .i64 f.id, .int .i64 f.tm, .slice f.A f.n f.c]
  have HBY := Lib.hid hbY; have HY1 := Lib.hid Y1
  have c0b := keepc hbY c0
  have hmk := madeI an han64 (u1.alloc (.cells #[.int .i64 f.id, .int .i64 f.tm, .slice f.A f.n f.c] 45))
  clear hc hf hi Y1 hbY
  go_wp2_with fail
  clear hmk
  have hsz1 : (u1.alloc (.cells #[.int .i64 f.id, .int .i64 f.tm, .slice f.A f.n f.c] 45)).heap.size = u1.heap.size + 1 := by simp
  have HV0 : Hid (Below u1.heap.size u1 ((u1.alloc (.cells #[.int .i64 f.id, .int .i64 f.tm, .slice f.A f.n f.c] 45)).alloc (.cells (arrI an fun _ => 0) 3))) := Lib.hid (HBY.out.alloc (by simp) _)
  have HVY : Hid (Blk ((u1.alloc (.cells #[.int .i64 f.id, .int .i64 f.tm, .slice f.A f.n f.c] 45)).alloc (.cells (arrI an fun _ => 0) 3)) u1.heap.size 45 #[.int .i64 f.id, .int .i64 f.tm, .slice f.A f.n f.c]) := Lib.hid (HY1.out.alloc _)
  have HVW : Hid (Blk ((u1.alloc (.cells #[.int .i64 f.id, .int .i64 f.tm, .slice f.A f.n f.c] 45)).alloc (.cells (arrI an fun _ => 0) 3)) (u1.heap.size + 1) 3 (arrI an (upB d 0))) := Lib.hid (by
    have := Blk.new (u1.alloc (.cells #[.int .i64 f.id, .int .i64 f.tm, .slice f.A f.n f.c] 45)) 3 (arrI an fun _ => 0)
    rw [hsz1] at this
    exact this)
  obtain ⟨v0, hv0⟩ : ∃ v, (u1.alloc (.cells #[.int .i64 f.id, .int .i64 f.tm, .slice f.A f.n f.c] 45)).alloc (.cells (arrI an fun _ => 0) 3) = v := ⟨_, rfl⟩
  rw [hv0] at HV0 HVY HVW ⊢
  clear hv0 hsz1 c0 c0b d0 d1 d2
  obtain ⟨by1, hby⟩ : ∃ x, u1.heap.size = x := ⟨_, rfl⟩
  have HBYE := Lib.hid hby
  rw [hby] at HVY HVW ⊢
  clear hby
  go_loopw [13] (fun s wr => ∃ (j : Nat), j ≤ an ∧ s = .int .i64 j ∧ Hid (Below u1.heap.size u1 wr) ∧ Hid (Blk wr by1 45 #[.int .i64 f.id, .int .i64 f.tm, .slice f.A f.n f.c]) ∧ Hid (Blk wr (by1 + 1) 3 (arrI an (upB d j)))) (fun s _ => an - (intOf s).toNat)
  case atStart => exact ⟨0, Nat.zero_le _, rfl, HV0, HVY, HVW⟩
  case round =>
    obtain ⟨wo, rfl⟩ : ∃ wo : World, wo = wr := ⟨_, rfl⟩
    obtain ⟨j, hj, rfl, HBW, HBP, HBI⟩ := hrel
    have HLr := Lib.hid (HL1.out.below HBW.out)
    have c0 := ((ofB HB0.out HLr.out.bel).cell 0).trans rfl
    by_cases hlj : j < an
    case pos =>
      have hj1 : (j : Int) < an := by omega
      have hj0 : (0 : Int) ≤ j := by omega
      have HY : Hid (balE (an : Int) (j : Int) 4294943999 = 0) := Lib.hid (balE_ok (by omega) (by omega))
      obtain ⟨X, hX⟩ : ∃ X, balN d (j : Int) 4294943999 = X := ⟨_, rfl⟩
      have HX : Hid (balX an d (j : Int) 4294943999 = X) := Lib.hid (by unfold balX; rw [HY.out, if_pos rfl, hX])
      have HST := Lib.hid (upB_step d j X hX)
      clear hX
      go_wp2_with fail
      refine (balance_any F R g an d (j : Int) 4294943999 X 0 _ HLr.out.ld HLr.out.fine HY.out HX.out).mono ?_
      rintro e w6 ⟨rfl, hb6⟩
      have HB6 := Lib.hid (below_next HBW.out (Nat.le_refl _) hb6)
      have HP6 := Lib.hid (ofB HBP.out hb6)
      have hB6 := ofB HBI.out hb6
      have q0 : w6.cell? ⟨by1 + 1, j, none⟩ = some (.int .i64 (upB d j j)) := (hB6.cell _).trans (arrI_get _ hlj)
      have z0 := hB6.frozen j
      have HB7 : Hid (Blk (w6.setCell ⟨by1 + 1, j, none⟩ (.int .i64 X)) (by1 + 1) 3 (arrI an (upB d (j + 1)))) := Lib.hid (by
        have := hB6.set_ j (.int .i64 X)
        rwa [arrI_set, HST.out] at this)
      have HP7 : Hid (Blk (w6.setCell ⟨by1 + 1, j, none⟩ (.int .i64 X)) by1 45 #[.int .i64 f.id, .int .i64 f.tm, .slice f.A f.n f.c]) := Lib.hid (HP6.out.far (p := ⟨by1 + 1, j, none⟩) (by simp) _)
      have HW7 : Hid (Below u1.heap.size u1 (w6.setCell ⟨by1 + 1, j, none⟩ (.int .i64 X))) := Lib.hid (HB6.out.setCell (p := ⟨by1 + 1, j, none⟩) (by have := HBYE.out; show u1.heap.size ≤ by1 + 1; omega) _)
      clear hb6 hB6 c0
      go_wp2_with fail
      go_roundw
      case rel => exact ⟨j + 1, by omega, by go_num, HW7, HP7, HB7⟩
      case measure => simp [intOf]; omega
    have hjn : j = an := by omega
    subst hjn
    rw [upB_dnB] at HBI
    have y0 := (HBP.out.cell 0).trans rfl
    go_wp2_with fail
    clear c0
    refine (reverse_any F R g j d _ f.id by_ tm E _ HLr.out.ld HLr.out.fine HE.out rfl).mono ?_
    intro e v1 hp
    obtain ⟨rfl, hO, F1, R1, hF1, hR1, L1⟩ := HLr.out.next2 (HLr.out.fine.rev) hp
    have HO := Lib.hid hO; have HF1 := Lib.hid hF1; have HR1 := Lib.hid hR1; have HL2 := Lib.hid L1
    have HFL : Hid (∀ k, F k → k < w3.heap.size) := Lib.hid HL.out.ld.lt
    have HRL : Hid (∀ k, R k → k < w3.heap.size) := Lib.hid HL.out.ld.rlt
    have HW3 : Hid (w3.heap.size ≤ by1) := Lib.hid (by rw [← HBYE.out]; exact HU1.out.size)
    have HBY2 : Hid (by1 + 1 < wo.heap.size) := Lib.hid HBI.out.lt
    have HP2 := Lib.hid (hO.blk HBP.out fun e => by have := HFL.out _ e; have := HW3.out; omega)
    have HI2 := Lib.hid (hO.blk HBI.out fun e => by have := HFL.out _ e; have := HW3.out; omega)
    have HPS2 := Lib.hid ((HP1.out.keep (Only.of_new HBW.out fun _ => False) fun _ _ e => e).keep hO fun k hk e => by have := HFL.out _ e; omega)
    have HLX2 := Lib.hid ((HLX.out.below HBW.out).keep hO fun k _ hk e => by have := HFL.out _ e; omega)
    clear hp hO hF1 hR1 L1 y0
    by_cases hE0 : E = 0
    case neg =>
      have HDD : Hid (revD j d f.id by_ tm = d) := Lib.hid (revD_not (by rw [HE.out]; exact hE0))
      rw [HDD.out] at HL2
      have z0 : (E != 0) = true := by simpa using hE0
      clear hE0
      go_wp2_with fail
      refine (postings_any F1 R1 g j d _ HL2.out.ld HL2.out.fine).mono ?_
      rintro e w8 ⟨A8, m8, k8, ps8, rfl, hm8, hps8, hb8⟩
      have HL8 := Lib.hid (HL2.out.below hb8); have HPS8 := Lib.hid hps8
      have HPK := Lib.hid (HPS2.out.psr.below hb8)
      have HM8 := Lib.hid hm8
      clear hb8 hps8 hm8
      go_wp2_with fail
      refine (same_any A8 (some ⟨b, off, none⟩) m8 k8 m1 k1 _ _ true _ HPS8.out.psr HPK.out (by have := HM8.out; have := HL8.out.fine.len; omega) (same_self HP1.out.1 HPS8.out.1)).mono ?_
      rintro e w9 ⟨rfl, q, rfl⟩
      have H9 := Lib.hid (HL8.out.below ⟨rfl, rfl, rfl, Nat.le_refl _, fun _ _ => rfl⟩ : LdW w1 (w8.drewN q) F1 R1 g j d)
      go_wp2_with fail
      refine (awake_any _).mono ?_
      rintro e wA ⟨rfl, hbA⟩
      go_wp2_with fail
      go_ret
      exact ⟨rfl, below_next (below_next HBX.out (Nat.le_refl _) H9.out.bel) (Nat.le_refl _) hbA⟩
    subst hE0
    have HAF2 := Lib.hid (HAF.out rfl)
    obtain ⟨d2, hd2⟩ : ∃ d2, revD j d f.id by_ tm = d2 := ⟨_, rfl⟩
    rw [hd2] at HL2 HAF2
    clear hd2
    go_wp2_with fail
    go_loopw [17] (fun s wr => ∃ (k : Nat), k ≤ f.n ∧ s = .int .i64 k ∧ Hid (Only (fun x => x = by1 + 1) v1 wr) ∧ Hid (Blk wr (by1 + 1) 3 (arrI j (dnB d (f.ls.take k))))) (fun s _ => f.n - (intOf s).toNat)
    case atStart => exact ⟨0, Nat.zero_le _, rfl, Lib.hid (Only.refl _ _), by rw [List.take_zero]; exact HI2⟩
    case round =>
      obtain ⟨wi, rfl⟩ : ∃ wi : World, wi = wr := ⟨_, rfl⟩
      obtain ⟨k, hk, rfl, HON, HBA⟩ := hrel
      have HPY := Lib.hid (HON.out.blk HP2.out (by simp))
      have HLI := Lib.hid (HLX2.out.keep HON.out fun x _ hx e => by have := HBYE.out; omega)
      have HLW := Lib.hid (HL2.out.only HON.out (fun x hx e => by
        have h1 := HBY2.out; have h2 := HW3.out
        rcases hx with hx | hx
        · rcases HF1.out x hx with h | h
          · have := HFL.out x h; omega
          · omega
        · rcases HR1.out x hx with h | h
          · have := HRL.out x h; omega
          · omega) (fun x e => by have h1 := HBYE.out; have h2 := HU1.out.size; have h3 := HL.out.bel.size; omega))
      have y0 := (HPY.out.cell 0).trans rfl; have y2 := (HPY.out.cell 2).trans rfl
      have c0 := ((ofB HB0.out HLW.out.bel).cell 0).trans rfl
      by_cases hlk : k < f.n
      case pos =>
        have hkl : k < f.ls.length := by have := HLN.out; omega
        obtain ⟨b2, off2, hA2, hb2, hc2⟩ := ln_cells HLI.out.reads (by omega)
        obtain ⟨p0, p1⟩ := hc2 k hkl
        have hk0 : (0 : Int) ≤ k := by omega
        have hk1 : (k : Int) < f.n := by omega
        obtain ⟨⟨ha0, ha1⟩, _, hv1, hv2⟩ := lns_at HLE.out hkl
        have HBD := Lib.hid (dnB_bd HLr.out.fine HLE.out k)
        have HST := Lib.hid (fun (x : Nat) (hx : f.ls[k].1 = (x : Int)) (v : Int) => dnB_step (d := d) hkl hx v)
        obtain ⟨v, hv⟩ : ∃ v, f.ls[k] = v := ⟨_, rfl⟩
        rw [hv] at p0 p1 HST ha0 ha1 hv1 hv2
        obtain ⟨x, hx⟩ : ∃ x : Nat, v.1 = (x : Int) := ⟨v.1.toNat, by omega⟩
        have HNX := Lib.hid (HST.out x hx _ rfl)
        rw [hx] at p0 ha0 ha1
        have hxj : x < j := by omega
        obtain ⟨D, hD⟩ : ∃ D, dnB d (f.ls.take k) x = D := ⟨_, rfl⟩
        have q0 : wi.cell? ⟨by1 + 1, x, none⟩ = some (.int .i64 D) := (HBA.out.cell _).trans (by rw [arrI_get _ hxj, hD])
        have z0 := HBA.out.frozen x
        have hDB := HBD.out x
        rw [hD] at hDB HNX
        have fw : IntKind.i64.wrap (D - v.2) = D - v.2 := IntWalk.i64_in _ (by omega)
        rw [hA2] at y2
        clear hc2 hv hx hD hDB hA2
        go_wp2_with fail
        go_quiet (fail)
        obtain ⟨wq, hwq⟩ : ∃ u, wi.drewN nq = u := ⟨_, rfl⟩
        have Y0 : wq.cell? ⟨by1, 0, none⟩ = some (.int .i64 f.id) := by rw [← hwq]; exact y0
        have Y2 : wq.cell? ⟨by1, 2, none⟩ = some (.slice (some ⟨b2, off2, none⟩) f.n f.c) := by rw [← hwq]; exact y2
        have P0 : wq.cell? ⟨b2, off2 + k * 2, none⟩ = some (.int .i64 (x : Int)) := by rw [← hwq]; exact p0
        have P1 : wq.cell? ⟨b2, off2 + k * 2 + 1, none⟩ = some (.int .i64 v.2) := by rw [← hwq]; exact p1
        have Q0 : wq.cell? ⟨by1 + 1, x, none⟩ = some (.int .i64 D) := by rw [← hwq]; exact q0
        have Z0 : wq.frozen? ⟨by1 + 1, x, none⟩ = false := by rw [← hwq]; exact z0
        have HBQ : Hid (Blk wq (by1 + 1) 3 (arrI j (dnB d (f.ls.take k)))) := Lib.hid (by rw [← hwq]; exact HBA.out.drewN _)
        have HOQ : Hid (Only (fun x => x = by1 + 1) v1 wq) := Lib.hid (by rw [← hwq]; exact HON.out.drewN _)
        rw [hwq]
        clear hwq y0 y2 p0 p1 q0 z0 c0
        go_upto_region 24 with fail
        refine wp_region_still_tail 16 (by kernel_rfl) (by kernel_rfl) ?_
        simp only [List.take_succ_cons, List.take_zero, List.drop_succ_cons, List.drop_zero]
        change wpStill _ _ (World.drew wq) _ _ _
        repeat still_step
        refine wpStill_nil ?_
        change wpList _ _ _ _ _ (World.drew wq)
        obtain ⟨w8, hw8⟩ : ∃ u, (wq.setCell ⟨by1 + 1, x, none⟩ (.int .i64 (D - v.2))).drew = u := ⟨_, rfl⟩
        have HB8 : Hid (Blk w8 (by1 + 1) 3 (arrI j (dnB d (f.ls.take (k + 1))))) := Lib.hid (by
          rw [← hw8, ← HNX.out, ← arrI_set]
          exact (HBQ.out.set_ x (.int .i64 (D - v.2))).drew)
        have HO8 : Hid (Only (fun x => x = by1 + 1) v1 w8) := Lib.hid (by rw [← hw8]; exact (HOQ.out.setCell (p := ⟨by1 + 1, x, none⟩) (fun _ => rfl) _).drew)
        go_wp2_with fail
        go_roundw
        case rel => exact ⟨k + 1, by omega, by go_num, HO8, HB8⟩
        case measure => simp [intOf]; omega
      have hkn : k = f.n := by omega
      subst hkn
      have hle : f.ls.take f.n = f.ls := List.take_of_length_le (by have := HLN.out; omega)
      rw [hle] at HBA
      clear hle
      go_wp2_with fail
      clear y2 c0
      go_loopw [18] (fun s wr => ∃ (t : Nat), t ≤ j ∧ s = .int .i64 t ∧ Hid (Below wi.heap.size wi wr)) (fun s _ => j - (intOf s).toNat)
      case atStart => exact ⟨0, Nat.zero_le _, rfl, Lib.hid (Below.refl _ _)⟩
      case round =>
        obtain ⟨wk, rfl⟩ : ∃ wk : World, wk = wr := ⟨_, rfl⟩
        obtain ⟨t, ht, rfl, HBK⟩ := hrel
        have HLt := Lib.hid (HLW.out.below HBK.out)
        have c0 := ((ofB HB0.out HLt.out.bel).cell 0).trans rfl
        replace y0 := keepc HBK.out y0
        have hrg := HAF2.out.rg
        by_cases hlt : t < j
        case pos =>
          have ht1 : (t : Int) < j := by omega
          have ht0 : (0 : Int) ≤ t := by omega
          have HY1 : Hid (balE (j : Int) (t : Int) 4294943999 = 0) := Lib.hid (balE_ok (by omega) (by omega))
          have HY2 : Hid (balE (j : Int) (t : Int) tm = 0) := Lib.hid (balE_ok (by omega) (by omega))
          obtain ⟨X, hX⟩ : ∃ X, dnB d f.ls t = X := ⟨_, rfl⟩
          have hX2 : balN d2 (t : Int) 4294943999 = X := by
            rw [HAF2.out.max_, ← HEQ.out.2.2, ← hX]; rfl
          have HX1 : Hid (balX j d2 (t : Int) 4294943999 = X) := Lib.hid (by unfold balX; rw [HY1.out, if_pos rfl, hX2])
          have HX2 : Hid (balX j d2 (t : Int) tm = X) := Lib.hid (by unfold balX; rw [HY2.out, if_pos rfl, HAF2.out.at_, hX2])
          have q0 : wk.cell? ⟨by1 + 1, t, none⟩ = some (.int .i64 X) := keepc HBK.out ((HBA.out.cell _).trans (by rw [arrI_get _ hlt, hX]))
          have xx : (X != X) = false := by simp
          clear hX hX2 hrg
          go_wp2_with fail
          refine (balance_any F1 R1 g j d2 (t : Int) 4294943999 X 0 _ HLt.out.ld HLt.out.fine HY1.out HX1.out).mono ?_
          rintro e w6 ⟨rfl, hb6⟩
          have HB6 := Lib.hid (below_next HBK.out (Nat.le_refl _) hb6)
          have HL6 := Lib.hid (HLt.out.below hb6)
          replace q0 := keepc hb6 q0
          clear hb6 c0
          go_wp2_with fail
          refine (balance_any F1 R1 g j d2 (t : Int) tm X 0 _ HL6.out.ld HL6.out.fine HY2.out HX2.out).mono ?_
          rintro e w7 ⟨rfl, hb7⟩
          have HB7 := Lib.hid (below_next HB6.out (Nat.le_refl _) hb7)
          replace q0 := keepc hb7 q0
          clear hb7
          go_wp2_with fail
          go_roundw
          case rel => exact ⟨t + 1, by omega, by go_num, HB7⟩
          case measure => simp [intOf]; omega
        have HE1 : Hid (revE (j : Int) d2 f.id 1000000 tm = 20) := Lib.hid (by rw [HEQ.out.1]; exact HAF2.out.e1)
        have HD1 : Hid (revD (j : Int) d2 f.id 1000000 tm = d2) := Lib.hid (revD_not (by rw [HE1.out]; decide))
        have HE2 := Lib.hid HAF2.out.e2
        have HD2 : Hid (revD (j : Int) d2 by_ 1000000 tm = d2) := Lib.hid (revD_not (by rw [HE2.out]; decide))
        clear hrg
        have htj : (j : Int) ≤ t := by omega
        go_wp2_with fail
        refine (reverse_any F1 R1 g j d2 d2 f.id 1000000 tm 20 _ HLt.out.ld HLt.out.fine HE1.out HD1.out).mono ?_
        intro e v3 hp
        obtain ⟨rfl, F3, R3, L3⟩ := HLt.out.next HLt.out.fine hp
        have H3 := Lib.hid L3
        clear hp L3 c0 y0
        go_wp2_with fail
        refine (reverse_any F3 R3 g j d2 d2 by_ 1000000 tm 20 _ H3.out.ld H3.out.fine HE2.out HD2.out).mono ?_
        intro e v4 hp
        obtain ⟨rfl, F4, R4, L4⟩ := H3.out.next H3.out.fine hp
        have H4 := Lib.hid L4
        clear hp L4
        go_wp2_with fail
        refine (postings_any F4 R4 g j d2 _ H4.out.ld H4.out.fine).mono ?_
        rintro e v5 ⟨A9, m9, k9, ps9, rfl, hm9, hps9, hb9⟩
        obtain rfl : m9 = m1 + 1 := by rw [hm9, HAF2.out.len, ← HM1.out]
        have H5 := Lib.hid (H4.out.below hb9)
        have hww : IntKind.i64.wrap ((m1 : Int) + 1) = (m1 : Int) + 1 := IntWalk.i64_in _ (by omega)
        clear hb9 hps9 hm9
        go_wp2_with fail
        refine (awake_any _).mono ?_
        rintro e wA ⟨rfl, hbA⟩
        go_wp2_with fail
        go_ret
        exact ⟨rfl, below_next (below_next HBX.out (Nat.le_refl _) H5.out.bel) (Nat.le_refl _) hbA⟩
end Go.Proofs.Ytoammbjnejdgpaa
