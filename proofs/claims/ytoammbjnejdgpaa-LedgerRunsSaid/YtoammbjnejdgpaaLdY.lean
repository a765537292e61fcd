/- The walk of LedgerHistory. -/
import Derived.Test.YtoammbjnejdgpaaLdX
namespace Go.Proofs.Ytoammbjnejdgpaa
open Go.RowKit
def balP (l : List (Int × Int × List Ln)) (a t : Int) : Int := match l with
  | [] => 0
  | x :: l => (if x.2.1 ≤ t then lnAdd a x.2.2 else 0) + balP l a t
theorem balN_P (a t : Int) : ∀ d : List Dt, balN d a t = balP (d.map Dt.of) a t
  | [] => rfl
  | x :: d => by simp only [balN, List.map_cons, balP]; rw [balN_P a t d]; rfl
theorem balP_snoc (a t : Int) (x : Int × Int × List Ln) : ∀ l, balP (l ++ [x]) a t = balP l a t + (if x.2.1 ≤ t then lnAdd a x.2.2 else 0)
  | [] => by simp [balP]
  | y :: l => by simp only [List.cons_append, balP]; rw [balP_snoc a t x l]; omega
theorem markD_of (i : Nat) (b : Bool) : ∀ d : List Dt, (markD d i b).map Dt.of = d.map Dt.of := fun d => by
  refine List.ext_getElem (by simp [markD]) fun k h1 h2 => ?_
  simp only [List.getElem_map]
  have hk : k < (markD d i b).length := by simpa using h1
  obtain ⟨e1, e2, e3⟩ := markD_at hk
  simp only [Dt.of, e1, e2, e3]
theorem doD_yes {acc : Int} {d : List Dt} {o : Oc} (h : doE acc d o = 0) : ∃ ls, (doD acc d o).map Dt.of = d.map Dt.of ++ [(o.id, o.tm, ls)] := by
  unfold doE at h; unfold doD
  by_cases h0 : o.of_ = 0
  · rw [if_pos h0] at h; rw [if_pos h0]
    unfold postD
    rw [if_pos h]
    exact ⟨o.ls, by simp [Dt.of]⟩
  · rw [if_neg h0] at h; rw [if_neg h0]
    rcases hi : idx d o.of_ with _ | i
    · rw [revE_none hi] at h; exact absurd h (by decide)
    · rw [revD_ok h hi]
      exact ⟨_, by rw [List.map_append, markD_of]; rfl⟩
theorem doD_no {acc : Int} {d : List Dt} {o : Oc} (h : doE acc d o ≠ 0) : doD acc d o = d := by
  unfold doE at h; unfold doD
  by_cases h0 : o.of_ = 0
  · rw [if_pos h0] at h; rw [if_pos h0]; exact if_neg h
  · rw [if_neg h0] at h; rw [if_neg h0]; exact revD_not h
theorem doD_len {acc : Int} {d : List Dt} {o : Oc} (h : doE acc d o = 0) : (doD acc d o).length = d.length + 1 := by
  obtain ⟨ls, e⟩ := doD_yes h
  have := congrArg List.length e
  simpa using this
theorem balX_late {acc a t : Int} {d : List Dt} {o : Oc} (h : t < o.tm) : balX acc (doD acc d o) a t = balX acc d a t := by
  by_cases he : doE acc d o = 0
  · obtain ⟨ls, e⟩ := doD_yes he
    unfold balX
    rw [balN_P, balN_P, e, balP_snoc, if_neg (show ¬ ((o.id, o.tm, ls) : Int × Int × List Ln).2.1 ≤ t by show ¬ o.tm ≤ t; omega), Int.add_zero]
  · rw [doD_no he]
theorem PsW.keep {base : Nat} {w w' : World} {A : Option Addr} {k c : Nat} {ps : List Pg} {d : List Dt} {F0 : Nat → Prop} (h : PsW base w A k c ps d) (ho : Only F0 w w') (hd : ∀ k, base ≤ k → ¬ F0 k) : PsW base w' A k c ps d :=
  ⟨h.1, ho.own h.2.1 (fun k hk => hd k (h.2.1.lt k hk).1), fun p hp => ⟨(h.2.2 p hp).1.keep ho fun k _ hk => hd k hk.1, (h.2.2 p hp).2⟩⟩
theorem LdF.lt {w : World} {F R : Nat → Prop} {g : Nat} {acc : Int} {d : List Dt} (h : LdF w F R g acc d) : ∀ k, F k → k < w.heap.size := by
  obtain ⟨l, A, n, c, _, hB⟩ := h
  exact hB.2.1
theorem psr_take {w : World} {A : Option Addr} {n m : Nat} {l : List Pg} (h : PsR w A n l) (hm : m ≤ n) : PsR w A m (l.take m) := by
  have hl : l.length = n := recs_len h.1 encPg_len (by omega)
  refine ⟨⟨?_, fun h0 => ?_⟩, fun p hp => h.2 p (List.mem_of_mem_take hp)⟩
  · have : ∀ q : List Pg, (cellsPg q).length = q.length * 3 := fun q => by
      induction q with
      | nil => rfl
      | cons a q ih => simp only [cellsPg, List.flatMap_cons, List.length_append, List.length_cons] at ih ⊢; rw [ih, encPg_len]; omega
    rw [this, List.length_take]; omega
  · obtain ⟨ad, e, hb, hc⟩ := h.1.2 (by omega)
    refine ⟨ad, e, hb, fun j u hj => hc j u ?_⟩
    have e2 : cellsPg l = cellsPg (l.take m) ++ cellsPg (l.drop m) := by
      unfold cellsPg
      rw [← List.flatMap_append, List.take_append_drop]
    rw [e2, List.getElem?_append_left (by
      rcases Nat.lt_or_ge j (cellsPg (l.take m)).length with h1 | h1
      · exact h1
      · rw [List.getElem?_eq_none h1] at hj; cases hj)]
    exact hj
theorem same_hist {acc : Int} {d : List Dt} {o : Oc} {ps ps2 : List Pg} {m : Nat} (h1 : ps.map Pg.of = d.map Dt.of) (h2 : ps2.map Pg.of = (doD acc d o).map Dt.of) (hm : m = d.length) : sameP (ps2.take m) ps = true := by
  refine decide_eq_true ?_
  rw [List.map_take, h2, h1]
  by_cases he : doE acc d o = 0
  · obtain ⟨ls, e⟩ := doD_yes he
    rw [e, List.take_append_of_le_length (by simp [hm]), List.take_of_length_le (by simp [hm])]
  · rw [doD_no he, List.take_of_length_le (by simp [hm])]
set_option maxHeartbeats 4000000 in
set_option maxRecDepth 10000 in
theorem ledgerHistory_walk (acc : Int) (A : Option Addr) (n c : Nat) (l : List Oc) (a t : Int) (w : World) (hr : OsR w A n l) : Calls Try.prog 7 #[.agg #[.int .i64 acc, .slice A n c], .int .i64 a, .int .i64 t] w (RetB w true) := by
  obtain ⟨B0, hbx⟩ := box1 w 40 #[.int .i64 acc, .slice A n c]
  have HLEN := Lib.hid (recs_len hr.1 encOc_len (by omega))
  obtain ⟨w1, hw1⟩ : ∃ u, w.alloc (.cells #[.int .i64 acc, .slice A n c] 40) = u := ⟨_, rfl⟩
  rw [hw1] at B0 hbx
  have HB0 := Lib.hid B0; have HBX := Lib.hid hbx; have HR := Lib.hid (hr.below hbx)
  have HW1 := Lib.hid hw1
  have c0 := (B0.cell 0).trans rfl; have c1 := (B0.cell 1).trans rfl
  clear B0 hbx hr hw1
  obtain ⟨x, hfw⟩ : ∃ x, fewB l = x := ⟨_, rfl⟩
  have HFW := Lib.hid hfw
  clear hfw
  go_enter Try.func7, Try.ntmps7
  go_upto_region 1 with fail
  rw [HW1.out]
  go_wp2_with fail
  refine (few_any acc A n c l x _ HR.out HFW.out).mono ?_
  rintro e w2 ⟨rfl, hb2⟩
  have HK := Lib.hid hb2
  clear hb2 c0 c1
  rcases x with _ | _
  case false =>
    go_wp2_with fail
    refine (awake_any _).mono ?_
    rintro e wA ⟨rfl, hbA⟩
    go_wp2_with fail
    go_ret
    exact ⟨rfl, below_next (below_next HBX.out (Nat.le_refl _) HK.out) (Nat.le_refl _) hbA⟩
  have hn60 : n ≤ 60 := by have := (few_t HFW.out).1; have := HLEN.out; omega
  have c0 := ((ofB HB0.out HK.out).cell 0).trans rfl; have c1 := ((ofB HB0.out HK.out).cell 1).trans rfl
  go_wp2_with fail
  refine (new_any acc _).mono ?_
  intro e w3 hh
  unfold RetNew at hh
  by_cases h0 : acc < 2 ∨ 64 < acc
  case pos =>
    rw [if_pos h0] at hh
    obtain ⟨rfl, rfl⟩ := hh
    clear h0 c0 c1
    go_wp2_with fail
    refine (awake_any _).mono ?_
    rintro e wA ⟨rfl, hbA⟩
    go_wp2_with fail
    go_ret
    exact ⟨rfl, below_next (below_next HBX.out (Nat.le_refl _) HK.out) (Nat.le_refl _) hbA⟩
  rw [if_neg h0] at hh
  obtain ⟨rfl, rfl⟩ := hh
  have L1 : LdW w2 (w2.alloc (.cells #[.int .i64 acc, .slice none 0 0] 62)) (fun k => k = w2.heap.size) (fun _ => False) w2.heap.size acc (playD acc (l.take 0)) := ⟨new_ld acc w2, fun k hk => by omega, (Below.refl _ _).alloc (Nat.le_refl _) _, fine_nil acc⟩
  obtain ⟨w3, hw3⟩ : ∃ u, w2.alloc (.cells #[.int .i64 acc, .slice none 0 0] 62) = u := ⟨_, rfl⟩
  rw [hw3] at L1 ⊢
  have HL0 := Lib.hid (L1.from_ HK.out)
  have hacc : 2 ≤ acc ∧ acc ≤ 64 := by omega
  clear hw3 L1 h0 c0 c1
  obtain ⟨g, hg⟩ : ∃ g, w2.heap.size = g := ⟨_, rfl⟩
  rw [hg] at HL0 ⊢
  clear hg
  go_wp2_with fail
  go_loopw [9] (fun s wr => ∃ (k : Nat) (F R : Nat → Prop), k ≤ n ∧ s = .int .i64 k ∧ Hid (LdW w1 wr F R g acc (playD acc (l.take k)))) (fun s _ => n - (intOf s).toNat)
  case atStart => exact ⟨0, _, _, Nat.zero_le _, rfl, HL0⟩
  case round =>
    obtain ⟨u0, rfl⟩ : ∃ u : World, u = wr := ⟨_, rfl⟩
    obtain ⟨k, F, R, hk, rfl, HL⟩ := hrel
    have c1 := ((ofB HB0.out HL.out.bel).cell 1).trans rfl
    by_cases hlt : k < n
    case neg =>
      go_wp2_with fail
      refine (awake_any _).mono ?_
      rintro e wA ⟨rfl, hbA⟩
      go_wp2_with fail
      go_ret
      exact ⟨rfl, below_next (below_next HBX.out (Nat.le_refl _) HL.out.bel) (Nat.le_refl _) hbA⟩
    have hkl : k < l.length := by have := HLEN.out; omega
    have HO := Lib.hid (HR.out.below HL.out.bel)
    obtain ⟨b, off, hA, hb, hc⟩ := HR.out.cells (by omega)
    obtain ⟨d0, d1, d2, d3⟩ := hc k hkl
    have HLR := Lib.hid (HO.out.2 l[k] (List.getElem_mem _))
    have HPT := Lib.hid (playD_take acc l k hkl)
    obtain ⟨o, ho⟩ : ∃ o, l[k] = o := ⟨_, rfl⟩
    rw [ho] at d0 d1 d2 d3 HLR HPT
    obtain ⟨d, hd⟩ : ∃ d, playD acc (l.take k) = d := ⟨_, rfl⟩
    rw [hd] at HL HPT
    have hk1 : (k : Int) < n := by omega
    have hk0 : (0 : Int) ≤ k := by omega
    rw [hA] at c1
    have HAA := Lib.hid hA
    have HD1 := Lib.hid d1
    replace d0 := keepc HL.out.bel d0; replace d1 := keepc HL.out.bel d1; replace d2 := keepc HL.out.bel d2; replace d3 := keepc HL.out.bel d3
    clear hc ho hd hA
    obtain ⟨Y, hY⟩ : ∃ Y, balE acc a t = Y := ⟨_, rfl⟩
    obtain ⟨X, hX⟩ : ∃ X, balX acc d a t = X := ⟨_, rfl⟩
    have HY := Lib.hid hY; have HX := Lib.hid hX
    clear hX hY
    go_wp2_with fail
    refine (balance_any F R g acc d a t X Y _ HL.out.ld HL.out.fine HY.out HX.out).mono ?_
    rintro e u1 ⟨rfl, hb1⟩
    have HL1 := Lib.hid (HL.out.below hb1); have HU1 := Lib.hid hb1
    clear hb1
    go_wp2_with fail
    refine (postings_any F R g acc d _ HL1.out.ld HL1.out.fine).mono ?_
    rintro e u2 ⟨A1, m1, k1, ps1, rfl, hm1, hps1, hb2⟩
    have HL2 := Lib.hid (HL1.out.below hb2); have HU2 := Lib.hid (below_next HU1.out (Nat.le_refl _) hb2)
    have HM1 := Lib.hid hm1; have HP1 := Lib.hid hps1
    clear hb2 hps1 hm1
    have x1 := keepc HU2.out c1
    have x2 := keepc HU2.out d0; have x3 := keepc HU2.out d1; have x4 := keepc HU2.out d2; have x5 := keepc HU2.out d3
    go_wp2_with fail
    refine (do_any F R g acc d o _ HL2.out.ld HL2.out.fine ((HLR.out.below HU2.out).more HU2.out.size)).mono ?_
    intro e u3 hp
    have HON := Lib.hid hp.2.1
    obtain ⟨rfl, F3, R3, L3⟩ := HL2.out.next (HL2.out.fine.doD o) hp
    have H3 := Lib.hid L3
    have HPK := Lib.hid ((HP1.out.keep HON.out (fun j hj hF => by have := HL1.out.ld.lt j hF; omega)).psr)
    clear hp L3 c1 d0 d1 d2 d3 x1 x2 x3 x4 x5
    obtain ⟨E, hE⟩ : ∃ E, doE acc d o = E := ⟨_, rfl⟩
    rw [hE]
    have HE := Lib.hid hE
    clear hE
    obtain ⟨X3, hX⟩ : ∃ X, balX acc (doD acc d o) a t = X := ⟨_, rfl⟩
    have HX3 := Lib.hid hX
    clear hX
    go_wp2_with fail
    refine (balance_any F3 R3 g acc (doD acc d o) a t X3 Y _ H3.out.ld H3.out.fine HY.out HX3.out).mono ?_
    rintro e u4 ⟨rfl, hb4⟩
    have H4 := Lib.hid (H3.out.below hb4); have HPK4 := Lib.hid (HPK.out.below hb4)
    clear hb4
    go_wp2_with fail
    refine (postings_any F3 R3 g acc (doD acc d o) _ H4.out.ld H4.out.fine).mono ?_
    rintro e u5 ⟨A2, m2, k2, ps2, rfl, hm2, hps2, hb5⟩
    have H5 := Lib.hid (H4.out.below hb5); have HPK5 := Lib.hid (HPK4.out.below hb5)
    have HM2 := Lib.hid hm2; have HP2 := Lib.hid hps2
    have hcap : m2 ≤ k2 := own_cap hps2.2.1
    have hm512 : m1 ≤ 512 := by have := HM1.out; have := HL2.out.fine.len; omega
    have HSM := Lib.hid (same_hist (o := o) (acc := acc) HP1.out.1 HP2.out.1 HM1.out)
    clear hb5 hps2 hm2
    have c1 := ((ofB HB0.out H5.out.bel).cell 1).trans rfl
    rw [HAA.out] at c1
    have d1 := keepc H5.out.bel HD1.out
    have yy : (Y != Y) = false := by simp
    have HBQ : ∀ q, Below u5.heap.size u5 (u5.drewN q) := fun q => ⟨rfl, rfl, rfl, Nat.le_refl _, fun _ _ => rfl⟩
    by_cases he : E = 0
    · subst he
      have hm : m2 = m1 + 1 := by rw [HM2.out, doD_len HE.out, HM1.out]
      subst hm
      have hlt2 : (m1 : Int) ≤ (m1 + 1 : Nat) := by omega
      have hq : (((m1 + 1 : Nat) : Int) != (m1 : Int) + 1) = false := by simp
      by_cases htm : o.tm ≤ t
      · go_wp2_with fail
        refine (same_any A2 A1 m1 k2 m1 k1 _ _ true _ (psr_take HP2.out.psr (by omega)) HPK5.out (by omega) HSM.out).mono ?_
        rintro e w6 ⟨rfl, q, rfl⟩
        have H6 := Lib.hid (H5.out.below (HBQ q))
        have c1 := ((ofB HB0.out H6.out.bel).cell 1).trans rfl
        rw [HAA.out] at c1
        have d1 := keepc H6.out.bel HD1.out
        go_wp2_with fail
        all_goals (go_roundw)
        all_goals first
          | exact ⟨k + 1, F3, R3, by omega, by go_num, Lib.hid (by rw [HPT.out]; exact H6.out)⟩
          | (simp [intOf]; omega)
      · have hXX : (X3 != X) = false := by rw [← HX3.out, balX_late (by omega), HX.out]; simp
        have htm2 : t < o.tm := by omega
        clear htm
        go_wp2_with fail
        refine (same_any A2 A1 m1 k2 m1 k1 _ _ true _ (psr_take HP2.out.psr (by omega)) HPK5.out (by omega) HSM.out).mono ?_
        rintro e w6 ⟨rfl, q, rfl⟩
        have H6 := Lib.hid (H5.out.below (HBQ q))
        have c1 := ((ofB HB0.out H6.out.bel).cell 1).trans rfl
        rw [HAA.out] at c1
        have d1 := keepc H6.out.bel HD1.out
        go_wp2_with fail
        all_goals (go_roundw)
        all_goals first
          | exact ⟨k + 1, F3, R3, by omega, by go_num, Lib.hid (by rw [HPT.out]; exact H6.out)⟩
          | (simp [intOf]; omega)
    · have hm : m1 = m2 := by rw [HM2.out, doD_no (by rw [HE.out]; exact he), HM1.out]
      subst hm
      have hXX : (X3 != X) = false := by rw [← HX3.out, doD_no (by rw [HE.out]; exact he), HX.out]; simp
      have hE1 : (E != 0) = true := by simpa using he
      have hE2 : (E == 0) = false := by simpa using he
      have hmm : ((m1 : Int) != m1) = false := by simp
      clear he
      go_wp2_with fail
      refine (same_any A2 A1 m1 k2 m1 k1 _ _ true _ (psr_take HP2.out.psr (by omega)) HPK5.out (by omega) HSM.out).mono ?_
      rintro e w6 ⟨rfl, q, rfl⟩
      have H6 := Lib.hid (H5.out.below (HBQ q))
      have c1 := ((ofB HB0.out H6.out.bel).cell 1).trans rfl
      rw [HAA.out] at c1
      have d1 := keepc H6.out.bel HD1.out
      go_wp2_with fail
      all_goals (go_roundw)
      all_goals first
        | exact ⟨k + 1, F3, R3, by omega, by go_num, Lib.hid (by rw [HPT.out]; exact H6.out)⟩
        | (simp [intOf]; omega)
end Go.Proofs.Ytoammbjnejdgpaa
