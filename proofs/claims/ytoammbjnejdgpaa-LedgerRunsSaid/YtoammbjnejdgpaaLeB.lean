/- The walk of LedgerApart. -/
import Derived.Test.YtoammbjnejdgpaaLeA
namespace Go.Proofs.Ytoammbjnejdgpaa
open Go.RowKit
/-- Two ledgers that do not touch one another. -/
structure Pair (w0 w : World) (F R : Nat → Prop) (g : Nat) (F' R' : Nat → Prop) (g' : Nat) (acc : Int) (d d' : List Dt) : Prop where
  l : LdW w0 w F R g acc d
  r : LdW w0 w F' R' g' acc d'
  lr : ∀ x, F x → ¬ F' x ∧ ¬ R' x
  rl : ∀ x, F' x → ¬ F x ∧ ¬ R x
section
variable {w0 w w' : World} {F R F' R' F0 : Nat → Prop} {g g' : Nat} {acc x : Int} {d d' d1 : List Dt} {e : Ending}
theorem Pair.swap (h : Pair w0 w F R g F' R' g' acc d d') : Pair w0 w F' R' g' F R g acc d' d := ⟨h.r, h.l, h.rl, h.lr⟩
theorem Pair.below (h : Pair w0 w F R g F' R' g' acc d d') (hb : Below w.heap.size w w') : Pair w0 w' F R g F' R' g' acc d d' := ⟨h.l.below hb, h.r.below hb, h.lr, h.rl⟩
theorem Pair.only (h : Pair w0 w F R g F' R' g' acc d d') (ho : Only F0 w w') (hd : ∀ k, k < w.heap.size → F k ∨ R k ∨ F' k ∨ R' k → ¬ F0 k) (hn : ∀ k, F0 k → w0.heap.size ≤ k) : Pair w0 w' F R g F' R' g' acc d d' :=
  ⟨h.l.only ho (fun k hk => hd k (hk.elim (h.l.ld.lt k) (h.l.ld.rlt k)) (hk.imp id .inl)) hn, h.r.only ho (fun k hk => hd k (hk.elim (h.r.ld.lt k) (h.r.ld.rlt k)) (.inr (.inr hk))) hn, h.lr, h.rl⟩
theorem Pair.do1 (h : Pair w0 w F R g F' R' g' acc d d') (hf : Fine acc d1) (hp : PostL w F R g acc x d1 e w') : e = .returned (.int .i64 x) ∧ Only F w w' ∧ ∃ F1 R1 : Nat → Prop, (∀ k, F1 k → F k ∨ w.heap.size ≤ k) ∧ (∀ k, R1 k → R k ∨ w.heap.size ≤ k) ∧ Pair w0 w' F1 R1 g F' R' g' acc d1 d' := by
  obtain ⟨he, ho, F1, R1, h1, h2, h3⟩ := h.l.next2 hf hp
  refine ⟨he, ho, F1, R1, h1, h2, h3, h.r.only ho (fun k hk => ?_) (fun k hk => h.l.new_ k hk), fun k hk => ?_, fun k hk => ?_⟩
  · intro hF
    rcases hk with hk | hk
    · exact (h.lr k hF).1 hk
    · exact (h.lr k hF).2 hk
  · rcases h1 k hk with h4 | h4
    · exact h.lr k h4
    · exact ⟨fun e => by have := h.r.ld.lt k e; omega, fun e => by have := h.r.ld.rlt k e; omega⟩
  · have hs := h.r.ld.lt k hk
    exact ⟨fun e => by
      rcases h1 k e with h4 | h4
      · exact (h.rl k hk).1 h4
      · omega, fun e => by
      rcases h2 k e with h4 | h4
      · exact (h.rl k hk).2 h4
      · omega⟩
theorem LdF.dis (h : LdF w F R g acc d) : ∀ k, F k → ¬ R k := by
  obtain ⟨l, A, n, c, _, hB⟩ := h
  exact fun k hk hr => (hB.2.2.1 k hr).2 hk
end
/-- Postings in some blocks. -/
def PsI (w : World) (G : Nat → Prop) (A : Option Addr) (n : Nat) (l : List Pg) : Prop := RIn w G 3 A n (cellsPg l) ∧ ∀ p ∈ l, RIn w G 2 p.A p.n (cellsLn p.ls) ∧ p.n ≤ 16
section
variable {w w' : World} {G F0 : Nat → Prop} {A : Option Addr} {n c base : Nat} {l : List Pg} {d : List Dt}
theorem PsW.psi (h : PsW base w A n c l d) : PsI w (fun j => base ≤ j ∧ j < w.heap.size) A n l :=
  ⟨(RIn.of_own h.2.1).mono fun _ hk hb => ⟨hb, hk⟩, fun p hp => ⟨(h.2.2 p hp).1.mono fun _ hk hb => ⟨hb.1, hk⟩, (h.2.2 p hp).2⟩⟩
theorem PsI.keep (h : PsI w G A n l) (ho : Only F0 w w') (hG : ∀ j, G j → ¬ F0 j) : PsI w' G A n l :=
  ⟨h.1.keep ho fun k _ hk => hG k hk, fun p hp => ⟨(h.2 p hp).1.keep ho fun k _ hk => hG k hk, (h.2 p hp).2⟩⟩
theorem PsI.below (h : PsI w G A n l) (hb : Below w.heap.size w w') : PsI w' G A n l := h.keep (Only.of_new hb fun _ => False) fun _ _ e => e
theorem PsI.psr (h : PsI w G A n l) : PsR w A n l := ⟨h.1.reads, fun p hp => ⟨(h.2 p hp).1.reads, Nat.le_trans (h.2 p hp).2 (by omega)⟩⟩
end
/-- What may be written to in a list of postings of one's own. -/
def AF (base : Nat) (w : World) (b m : Nat) (ps : List Pg) : Prop := Wr w b (m * 3) ∧ (∀ k (hk : k < ps.length), w.cell? ⟨b, k * 3 + 2, none⟩ = some (.slice ps[k].A ps[k].n ps[k].c)) ∧ ∀ p ∈ ps, 0 < p.n → ∃ b', p.A = some ⟨b', 0, none⟩ ∧ b' ≠ b ∧ base ≤ b' ∧ Wr w b' (p.n * 2)
theorem AF.of_u {base k c b : Nat} {w : World} {ps : List Pg} {d : List Dt} (h : PsU base w (some ⟨b, 0, none⟩) k c ps d) (hk : 0 < k) : base ≤ b ∧ AF base w b k ps := by
  have hb : (Value.slice (some ⟨b, 0, none⟩) k c).ownBlock = some b := rfl
  refine ⟨(h.1.2.1.lt b hb).1, Wr.of_own h.1.2.1, fun j hj => ?_, fun p hp h0 => ?_⟩
  · obtain ⟨b2, off, e, hb2, hc⟩ := h.1.psr.cells hk
    injection e with e
    injection e with e1 e2
    subst e1 e2
    have := (hc j hj).2.2
    rwa [Nat.zero_add] at this
  · obtain ⟨b', e1, e2, e3, e4⟩ := h.2 p hp h0
    exact ⟨b', e1, fun e => e3 (by rw [hb, e]), e2, e4⟩
theorem AF.drewN {base b m : Nat} {w : World} {ps : List Pg} (h : AF base w b m ps) (q : Nat) : AF base (w.drewN q) b m ps := h
theorem AF.set_id {base b m : Nat} {w : World} {ps : List Pg} (h : AF base w b m ps) (k : Nat) (x : Value) : AF base (w.setCell ⟨b, k * 3, none⟩ x) b m ps :=
  ⟨h.1.set_ _ _, fun j hj => by
    rw [World.cell?_setCell_other]
    · exact h.2.1 j hj
    · simp; try omega, fun p hp h0 => by
    obtain ⟨b', e1, e2, e3, e4⟩ := h.2.2 p hp h0
    exact ⟨b', e1, e2, e3, e4.set_ _ _⟩⟩
theorem AF.set_ln {base b m b' j : Nat} {w : World} {ps : List Pg} (h : AF base w b m ps) (hb : b' ≠ b) (x : Value) : AF base (w.setCell ⟨b', j, none⟩ x) b m ps :=
  ⟨h.1.set_ _ _, fun k hk => by
    rw [World.cell?_setCell_other]
    · exact h.2.1 k hk
    · intro e; injection e with e; exact hb e, fun p hp h0 => by
    obtain ⟨b', e1, e2, e3, e4⟩ := h.2.2 p hp h0
    exact ⟨b', e1, e2, e3, e4.set_ _ _⟩⟩
theorem AF.below {base b m : Nat} {w w' : World} {ps : List Pg} (h : AF base w b m ps) (hb : Below w.heap.size w w') : AF base w' b m ps :=
  ⟨h.1.of_heap (Nat.lt_of_lt_of_le h.1.1 hb.size) (hb.block _ h.1.1), fun k hk => keepc hb (h.2.1 k hk), fun p hp h0 => by
    obtain ⟨b', e1, e2, e3, e4⟩ := h.2.2 p hp h0
    exact ⟨b', e1, e2, e3, e4.of_heap (Nat.lt_of_lt_of_le e4.1 hb.size) (hb.block _ e4.1)⟩⟩
theorem same_two {ps ps2 : List Pg} {d d' : List Dt} (h1 : ps.map Pg.of = d.map Dt.of) (h2 : ps2.map Pg.of = d'.map Dt.of) (h : d = d') : sameP ps ps2 = true := decide_eq_true (by rw [h1, h2, h])
set_option maxHeartbeats 8000000 in
set_option maxRecDepth 10000 in
theorem ledgerApart_walk (acc : Int) (A : Option Addr) (n c : Nat) (l : List Oc) (w : World) (hr : OsR w A n l) : Calls Try.prog 9 #[.agg #[.int .i64 acc, .slice A n c]] w (RetB w true) := by
  obtain ⟨il, hil, hly0, hly1, hly2⟩ := info_parts infoLn
  obtain ⟨B0, hbx⟩ := box1 w 40 #[.int .i64 acc, .slice A n c]
  have HLEN := Lib.hid (recs_len hr.1 encOc_len (by omega))
  obtain ⟨w1, hw1⟩ : ∃ u, w.alloc (.cells #[.int .i64 acc, .slice A n c] 40) = u := ⟨_, rfl⟩
  rw [hw1] at B0 hbx
  have HB0 := Lib.hid B0; have HBX := Lib.hid hbx; have HR := Lib.hid (hr.below hbx)
  have HW1 := Lib.hid hw1
  have c0 := (B0.cell 0).trans rfl; have c1 := (B0.cell 1).trans rfl
  clear B0 hbx hr hw1
  obtain ⟨x, hfw⟩ : ∃ x, fewB l = x := ⟨_, rfl⟩
  have HFW := Lib.hid hfw
  clear hfw
  go_enter Try.func9, Try.ntmps9
  go_upto_region 1 with fail
  rw [HW1.out]
  go_wp2_with fail
  refine (few_any acc A n c l x _ HR.out HFW.out).mono ?_
  rintro e w2 ⟨rfl, hb2⟩
  have HK := Lib.hid hb2
  clear hb2 c0 c1
  rcases x with _ | _
  case false =>
    go_wp2_with fail
    refine (awake_any _).mono ?_
    rintro e wA ⟨rfl, hbA⟩
    go_wp2_with fail
    go_ret
    exact ⟨rfl, below_next (below_next HBX.out (Nat.le_refl _) HK.out) (Nat.le_refl _) hbA⟩
  have hn60 : n ≤ 60 := by have := (few_t HFW.out).1; have := HLEN.out; omega
  have c0 := ((ofB HB0.out HK.out).cell 0).trans rfl; have c1 := ((ofB HB0.out HK.out).cell 1).trans rfl
  go_wp2_with fail
  refine (new_any acc _).mono ?_
  intro e w3 hh
  unfold RetNew at hh
  by_cases h0 : acc < 2 ∨ 64 < acc
  case pos =>
    rw [if_pos h0] at hh
    obtain ⟨rfl, rfl⟩ := hh
    clear h0 c0 c1
    go_wp2_with fail
    refine (awake_any _).mono ?_
    rintro e wA ⟨rfl, hbA⟩
    go_wp2_with fail
    go_ret
    exact ⟨rfl, below_next (below_next HBX.out (Nat.le_refl _) HK.out) (Nat.le_refl _) hbA⟩
  rw [if_neg h0] at hh
  obtain ⟨rfl, rfl⟩ := hh
  have L1 : LdW w2 (w2.alloc (.cells #[.int .i64 acc, .slice none 0 0] 62)) (fun k => k = w2.heap.size) (fun _ => False) w2.heap.size acc (playD acc (l.take 0)) := ⟨new_ld acc w2, fun k hk => by omega, (Below.refl _ _).alloc (Nat.le_refl _) _, fine_nil acc⟩
  obtain ⟨w3, hw3⟩ : ∃ u, w2.alloc (.cells #[.int .i64 acc, .slice none 0 0] 62) = u := ⟨_, rfl⟩
  rw [hw3] at L1 ⊢
  have HL0 := Lib.hid (L1.from_ HK.out)
  have hacc : 2 ≤ acc ∧ acc ≤ 64 := by omega
  clear hw3 L1 h0 c0 c1
  obtain ⟨g, hg⟩ : ∃ g, w2.heap.size = g := ⟨_, rfl⟩
  rw [hg] at HL0 ⊢
  clear hg
  go_wp2_with fail
  go_loopw [5] (fun s wr => ∃ (k : Nat) (F R : Nat → Prop), k ≤ n ∧ s = .int .i64 k ∧ Hid (LdW w1 wr F R g acc (playD acc (l.take k)))) (fun s _ => n - (intOf s).toNat)
  case atStart => exact ⟨0, _, _, Nat.zero_le _, rfl, HL0⟩
  case round =>
    obtain ⟨u0, rfl⟩ : ∃ u : World, u = wr := ⟨_, rfl⟩
    obtain ⟨k, F, R, hk, rfl, HL⟩ := hrel
    have c1 := ((ofB HB0.out HL.out.bel).cell 1).trans rfl
    by_cases hlt : k < n
    case neg =>
      go_wp2_with fail
      refine (awake_any _).mono ?_
      rintro e wA ⟨rfl, hbA⟩
      go_wp2_with fail
      go_ret
      exact ⟨rfl, below_next (below_next HBX.out (Nat.le_refl _) HL.out.bel) (Nat.le_refl _) hbA⟩
    have hkl : k < l.length := by have := HLEN.out; omega
    obtain ⟨b, off, hA, hb, hc⟩ := HR.out.cells (by omega)
    have HD := Lib.hid (hc k hkl)
    have HLR := Lib.hid (HR.out.2 l[k] (List.getElem_mem _))
    have HPT := Lib.hid (playD_take acc l k hkl)
    have hon := (few_t HFW.out).2 l[k] (List.getElem_mem _)
    obtain ⟨o, ho⟩ : ∃ o, l[k] = o := ⟨_, rfl⟩
    rw [ho] at HD HLR HPT hon
    obtain ⟨d, hd⟩ : ∃ d, playD acc (l.take k) = d := ⟨_, rfl⟩
    rw [hd] at HL HPT
    have hk1 : (k : Int) < n := by omega
    have hk0 : (0 : Int) ≤ k := by omega
    have HAA := Lib.hid hA
    clear hc ho hd hA
    go_wp2_with fail
    refine (copy_any F R g acc d _ HL.out.ld HL.out.fine).mono ?_
    rintro e u1 ⟨hb1, g', F', rfl, hF', L'⟩
    have HP1 : Hid (Pair w1 u1 F R g F' R g' acc d d) := Lib.hid ⟨HL.out.below hb1, ⟨L', fun x hx => Nat.le_trans HL.out.bel.size (hF' x hx), (HL.out.below hb1).bel, HL.out.fine⟩,
      fun x hx => ⟨fun e => by have h1 := hF' x e; have h2 := HL.out.ld.lt x hx; omega, HL.out.ld.dis x hx⟩, fun x hx => ⟨fun e => by have h1 := hF' x hx; have h2 := HL.out.ld.lt x e; omega, fun e => by have h1 := hF' x hx; have h2 := HL.out.ld.rlt x e; omega⟩⟩
    clear hb1 hF' L' c1
    go_wp2_with fail
    refine (postings_any F R g acc d _ HP1.out.l.ld HP1.out.l.fine).mono ?_
    rintro e u2 ⟨A1, m1, k1, ps1, rfl, hm1, hps1, hb2⟩
    have HP2 := Lib.hid (HP1.out.below hb2)
    have HM1 := Lib.hid hm1; have HS1 := Lib.hid hps1
    have HU2 : Hid (u1.heap.size ≤ u2.heap.size) := Lib.hid hb2.size
    clear hb2 hps1 hm1
    have c1 := ((ofB HB0.out HP2.out.l.bel).cell 1).trans rfl
    rw [HAA.out] at c1
    have d0 := keepc HP2.out.l.bel HD.out.1; have d1 := keepc HP2.out.l.bel HD.out.2.1; have d2 := keepc HP2.out.l.bel HD.out.2.2.1; have d3 := keepc HP2.out.l.bel HD.out.2.2.2
    go_upto_region 12 with fail
    clear c1 d0 d1 d2 d3
    obtain ⟨Y1, hbY⟩ := box1 u2 47 #[.int .i64 o.id, .int .i64 o.tm, .slice o.A o.n o.c, .int .i64 o.of_]
    have hsy : (u2.alloc (.cells #[.int .i64 o.id, .int .i64 o.tm, .slice o.A o.n o.c, .int .i64 o.of_] 47)).heap.size = u2.heap.size + 1 := by simp
    obtain ⟨v0, hv0⟩ : ∃ v, u2.alloc (.cells #[.int .i64 o.id, .int .i64 o.tm, .slice o.A o.n o.c, .int .i64 o.of_] 47) = v := ⟨_, rfl⟩
    rw [hv0] at Y1 hbY hsy ⊢
    have y2 := (Y1.cell 2).trans rfl
    have HY1 := Lib.hid Y1; have HBY := Lib.hid hbY; have HSY := Lib.hid hsy
    have HLRv := Lib.hid ((HLR.out.below (HP2.out.l.bel)).more HP2.out.l.bel.size)
    have HLRw := Lib.hid ((HLRv.out.below hbY).more hbY.size)
    clear hv0 Y1 hbY hsy
    have y2a : (v0.alloc (.cells #[] 54)).cell? ⟨u2.heap.size, 2, none⟩ = some (.slice o.A o.n o.c) := (World.cell?_alloc_lt v0 _ _ (by rw [HSY.out]; exact Nat.lt_succ_self _)).trans y2
    go_wp2_with (at_builtin; refine wpList_append_any _ rfl (.tmp 48) (.tmp 51) _ rfl v0.heap.size 54 il _ 2 16 Try.underlying43 hil hly0 hly1 hly2 rfl (by omega) (.slice (some ⟨v0.heap.size, 0, none⟩) 0 0) 0 [] rfl (own_zero v0 _ _ _ _ rfl (Nat.le_refl _)) v0.heap.size o.A o.n o.c (cellsLn o.ls) rfl (HLRw.out.alloc (Nat.le_refl _) _) (one_cellsLn _) (by simp only [maxLen]; omega) (by omega) (by simp) ?_; intro v9 w9 hown9 hg9 hat9; obtain ⟨A9, c9, rfl, hr9⟩ := own_reads hown9; rw [Nat.zero_add] at hown9 ⊢; have HB9 := Lib.hid ((HY1.out.alloc (.cells #[] 54)).grown hg9 (by rw [HSY.out]; simp [Value.ownBlock])); have q0 := (HB9.out.cell 0).trans rfl; have q1 := (HB9.out.cell 1).trans rfl; have q2 := (HB9.out.cell 2).trans rfl; have q3 := (HB9.out.cell 3).trans rfl; have z2 := HB9.out.frozen 2; have H9 : Hid (w9.ownsRow v0.heap.size 54 2 (.slice A9 o.n c9) o.n (cellsLn o.ls)) := Lib.hid hown9; have HW9 : Hid (Below u2.heap.size u2 w9) := Lib.hid (below_own (HBY.out.alloc (by rw [HSY.out]; exact Nat.le_succ _) _) (own_zero v0 _ _ 54 2 rfl (Nat.le_refl _)) hg9 (by simp; rw [HSY.out]; omega) (by rw [HSY.out]; omega)); clear hown9 hg9 hat9 hr9 y2 y2a)
    have HB10 : Hid (Blk (w9.setCell ⟨u2.heap.size, 2, none⟩ (.slice A9 o.n c9)) u2.heap.size 47 #[.int .i64 o.id, .int .i64 o.tm, .slice A9 o.n c9, .int .i64 o.of_]) := Lib.hid (by simpa using HB9.out.set_ 2 (.slice A9 o.n c9))
    have H10 : Hid ((w9.setCell ⟨u2.heap.size, 2, none⟩ (.slice A9 o.n c9)).ownsRow v0.heap.size 54 2 (.slice A9 o.n c9) o.n (cellsLn o.ls)) := Lib.hid (((Only.refl (fun x => x = u2.heap.size) w9).setCell (p := ⟨u2.heap.size, 2, none⟩) (fun _ => rfl) _).own H9.out fun x hx e => by have := (H9.out.lt x hx).1; have := HSY.out; omega)
    have HW3 : Hid (Below u2.heap.size u2 (w9.setCell ⟨u2.heap.size, 2, none⟩ (.slice A9 o.n c9))) := Lib.hid (HW9.out.setCell (p := ⟨u2.heap.size, 2, none⟩) (Nat.le_refl _) _)
    obtain ⟨v3, hv3⟩ : ∃ v, w9.setCell ⟨u2.heap.size, 2, none⟩ (.slice A9 o.n c9) = v := ⟨_, rfl⟩
    rw [hv3] at HB10 H10 HW3 ⊢
    clear hv3 q0 q1 q2 q3 z2
    have HP3 := Lib.hid (HP2.out.below HW3.out)
    refine (do_any F R g acc d ⟨o.id, o.tm, A9, o.n, c9, o.ls, o.of_⟩ _ HP3.out.l.ld HP3.out.l.fine (Reads.of_own H10.out)).mono ?_
    intro e p1 hp0
    have hp : PostL v3 F R g acc (doE acc d o) (doD acc d o) e p1 := hp0
    clear hp0
    obtain ⟨E, hE⟩ : ∃ E, doE acc d o = E := ⟨_, rfl⟩
    obtain ⟨d1, hd1⟩ : ∃ d1, doD acc d o = d1 := ⟨_, rfl⟩
    have HF1 := Lib.hid (HP3.out.l.fine.doD o)
    rw [hE, hd1] at hp
    rw [hd1] at HF1 HPT
    have HE := Lib.hid hE; have HD1 := Lib.hid hd1
    obtain ⟨rfl, hO1, F1, R1, hF1, hR1, hP4⟩ := HP3.out.do1 HF1.out hp
    have HP4 := Lib.hid hP4; have HFs := Lib.hid hF1; have HRs := Lib.hid hR1
    have HFL : Hid (∀ x, F x ∨ R x ∨ F' x → x < u1.heap.size) := Lib.hid fun x hx => by
      rcases hx with hx | hx | hx
      · exact HP1.out.l.ld.lt x hx
      · exact HP1.out.l.ld.rlt x hx
      · exact HP1.out.r.ld.lt x hx
    have HBo := Lib.hid (hO1.blk HB10.out fun e => by have := HFL.out _ (.inl e); have := HU2.out; omega)
    have HSZ : Hid (u1.heap.size ≤ u2.heap.size ∧ v0.heap.size = u2.heap.size + 1 ∧ ∀ x, (Value.slice A9 o.n c9).ownBlock = some x → v0.heap.size ≤ x ∧ x < v3.heap.size) := Lib.hid ⟨HU2.out, HSY.out, H10.out.lt⟩
    have HO9 := Lib.hid (hO1.own H10.out fun x hx e => by have h1 := HFL.out _ (.inl e); have h2 := HSZ.out.2.2 x hx; have := HSZ.out.1; have := HSZ.out.2.1; omega)
    have HPI := Lib.hid (((HS1.out.psi.below HW3.out).keep hO1) fun x hx e => by have h1 := HFL.out _ (.inl e); omega)
    clear hp hO1 hF1 hR1 hP4 hE hd1
    go_wp2_with fail
    go_loopw [11] (fun s wr => ∃ (j : Nat), j ≤ o.n ∧ s = .int .i64 j ∧ Hid (Only (fun x => (Value.slice A9 o.n c9).ownBlock = some x) p1 wr) ∧ Hid (∀ b9, A9 = some ⟨b9, 0, none⟩ → Wr wr b9 (o.n * 2))) (fun s _ => o.n - (intOf s).toNat)
    case atStart => exact ⟨0, Nat.zero_le _, rfl, Lib.hid (Only.refl _ _), Lib.hid fun b9 e => by have h := HO9.out; rw [e] at h; exact Wr.of_own h⟩
    case round =>
      obtain ⟨p2, rfl⟩ : ∃ u : World, u = wr := ⟨_, rfl⟩
      obtain ⟨j, hj, rfl, HOn, HWr⟩ := hrel
      have y2 := ((HOn.out.blk HBo.out fun e => by have h1 := HSZ.out.2.2 _ e; have := HSZ.out.2.1; omega).cell 2).trans rfl
      by_cases hlj : j < o.n
      case pos =>
        obtain ⟨b9, cap9, hv9, _, _⟩ := HO9.out.form (by omega)
        have hA9 : A9 = some ⟨b9, 0, none⟩ := by injection hv9
        have HWb := Lib.hid (HWr.out b9 hA9)
        obtain ⟨x9, q1⟩ := HWb.out.2.2 (j * 2 + 1) (by omega)
        have z1 := HWb.out.2.1 (j * 2 + 1)
        rw [hA9] at y2
        have HON2 : Hid (Only (fun x => (Value.slice A9 o.n c9).ownBlock = some x) p1 (p2.setCell ⟨b9, j * 2 + 1, none⟩ (.int .i64 77))) := Lib.hid (HOn.out.setCell (p := ⟨b9, j * 2 + 1, none⟩) (fun _ => by rw [hA9]; rfl) _)
        have HWr2 : Hid (∀ b9', A9 = some ⟨b9', 0, none⟩ → Wr (p2.setCell ⟨b9, j * 2 + 1, none⟩ (.int .i64 77)) b9' (o.n * 2)) := Lib.hid fun b9' e => (HWr.out b9' e).set_ _ _
        have hj1 : (j : Int) < o.n := by omega
        have hj0 : (0 : Int) ≤ j := by omega
        clear hv9 hA9
        go_wp2_with fail
        go_roundw
        case rel => exact ⟨j + 1, by omega, by go_num, HON2, HWr2⟩
        case measure => simp [intOf]; omega
      have hjn : (o.n : Int) ≤ j := by omega
      have HP5 := Lib.hid (HP4.out.only HOn.out (fun x _ hx e => by
        have h1 := HSZ.out.2.2 x e; have h2 := HSZ.out.1; have h3 := HSZ.out.2.1
        rcases hx with hx | hx | hx | hx
        · rcases HFs.out x hx with h | h
          · have := HFL.out x (.inl h); omega
          · omega
        · rcases HRs.out x hx with h | h
          · have := HFL.out x (.inr (.inl h)); omega
          · omega
        · have := HFL.out x (.inr (.inr hx)); omega
        · have := HFL.out x (.inr (.inl hx)); omega) (fun x e => by have h1 := HSZ.out.2.2 x e; have h2 := HSZ.out.2.1; have h3 := HP2.out.l.bel.size; omega))
      have HPI2 := Lib.hid (HPI.out.keep HOn.out fun x hx e => by have h1 := HSZ.out.2.2 x e; have h2 := HSZ.out.2.1; omega)
      go_wp2_with fail
      clear y2
      refine (postings_any F' R g' acc d _ HP5.out.r.ld HP5.out.r.fine).mono ?_
      rintro e p3 ⟨A3, m3, k3, ps3, rfl, hm3, hps3, hb3⟩
      have HP6 := Lib.hid (HP5.out.below hb3); have HS3 := Lib.hid hps3; have HM3 := Lib.hid hm3
      have HPI3 := Lib.hid (HPI2.out.below hb3)
      clear hb3 hps3 hm3
      go_wp2_with fail
      refine (same_any A3 A1 m3 k3 m1 k1 _ _ true _ HS3.out.psr HPI3.out.psr (by have := HM3.out; have := HP6.out.r.fine.len; omega) (same_two HS3.out.1 HS1.out.1 rfl)).mono ?_
      rintro e p4 ⟨rfl, q, rfl⟩
      have HP7 := Lib.hid (HP6.out.below (⟨rfl, rfl, rfl, Nat.le_refl _, fun _ _ => rfl⟩ : Below p3.heap.size p3 (p3.drewN q)))
      obtain ⟨p4, hp4⟩ : ∃ u, p3.drewN q = u := ⟨_, rfl⟩
      rw [hp4] at HP7 ⊢
      clear hp4
      have c1 := ((ofB HB0.out HP7.out.l.bel).cell 1).trans rfl
      rw [HAA.out] at c1
      have d0 := keepc HP7.out.l.bel HD.out.1; have d1' := keepc HP7.out.l.bel HD.out.2.1; have d2 := keepc HP7.out.l.bel HD.out.2.2.1; have d3 := keepc HP7.out.l.bel HD.out.2.2.2
      have HLR4 := Lib.hid ((HLR.out.below HP7.out.l.bel).more HP7.out.l.bel.size)
      go_wp2_with fail
      refine (do_any F' R g' acc d o _ HP7.out.r.ld HP7.out.r.fine HLR4.out).mono ?_
      intro e p5 hp
      rw [HE.out, HD1.out] at hp
      obtain ⟨rfl, _, F3, R3, _, _, hP8⟩ := HP7.out.swap.do1 HF1.out hp
      have HP8 := Lib.hid hP8.swap
      clear hp hP8 c1 d0 d1' d2 d3
      go_wp2_with fail
      refine (postings_u F1 R1 g acc d1 _ HP8.out.l.ld HP8.out.l.fine).mono ?_
      rintro e p6 ⟨A5, m5, k5, ps5, rfl, hm5, hps5, hb5⟩
      have HP9 := Lib.hid (HP8.out.below hb5); have HS5 := Lib.hid hps5; have HM5 := Lib.hid hm5
      have hm512 : m5 ≤ 512 := by have := HM5.out; have := HP9.out.l.fine.len; omega
      have HB56 : Hid (p5.heap.size ≤ p6.heap.size) := Lib.hid hb5.size
      have ee : (E != E) = false := by simp
      clear hb5 hps5 hm5
      go_wp2_with fail
      refine (postings_any F3 R3 g' acc d1 _ HP9.out.r.ld HP9.out.r.fine).mono ?_
      rintro e p7 ⟨A6, m6, k6, ps6, rfl, hm6, hps6, hb6⟩
      have HP10 := Lib.hid (HP9.out.below hb6); have HS6 := Lib.hid hps6; have HM6 := Lib.hid hm6
      have HPR5 := Lib.hid (HS5.out.1.psr.below hb6)
      have HB67 := Lib.hid hb6
      clear hb6 hps6 hm6
      go_wp2_with fail
      refine (same_any A6 A5 m6 k6 m5 k5 _ _ true _ HS6.out.psr HPR5.out (by have := HM6.out; have := HP10.out.r.fine.len; omega) (same_two HS6.out.1 HS5.out.1.1 rfl)).mono ?_
      rintro e p8 ⟨rfl, q2, rfl⟩
      have HB78 : Hid (Below p7.heap.size p7 (p7.drewN q2)) := Lib.hid ⟨rfl, rfl, rfl, Nat.le_refl _, fun _ _ => rfl⟩
      obtain ⟨p8, hp8⟩ : ∃ u, p7.drewN q2 = u := ⟨_, rfl⟩
      rw [hp8] at HB78 ⊢
      clear hp8
      have HP11 := Lib.hid (HP10.out.below HB78.out)
      by_cases hz : m5 = 0
      · subst hz
        go_wp2_with fail
        go_loopw [13] (fun s wr => s = .int .i64 0 ∧ wr = p8) (fun _ _ => 0)
        case atStart => exact ⟨rfl, rfl⟩
        case round =>
          obtain ⟨rfl, rfl⟩ := hrel
          go_wp2_with fail
          refine (postings_any F1 R1 g acc d1 _ HP11.out.l.ld HP11.out.l.fine).mono ?_
          rintro e q1 ⟨Aa, ma, ka, psa, rfl, hma, hpsa, hba⟩
          have HQ1 := Lib.hid (HP11.out.below hba); have HSa := Lib.hid hpsa; have HMa := Lib.hid hma
          clear hba hpsa hma
          go_wp2_with fail
          refine (postings_any F3 R3 g' acc d1 _ HQ1.out.r.ld HQ1.out.r.fine).mono ?_
          rintro e q2 ⟨Ab, mb, kb, psb, rfl, hmb, hpsb, hbb⟩
          have HQ2 := Lib.hid (HQ1.out.below hbb); have HSb := Lib.hid hpsb; have HPRa := Lib.hid (HSa.out.psr.below hbb)
          clear hbb hpsb hmb
          go_wp2_with fail
          refine (same_any Aa Ab ma ka mb kb _ _ true _ HPRa.out HSb.out.psr (by have := HMa.out; have := HQ1.out.l.fine.len; omega) (same_two HSa.out.1 HSb.out.1 rfl)).mono ?_
          rintro e q3 ⟨rfl, q, rfl⟩
          have HQ3 := Lib.hid (HQ2.out.below (⟨rfl, rfl, rfl, Nat.le_refl _, fun _ _ => rfl⟩ : Below q2.heap.size q2 (q2.drewN q)))
          go_wp2_with fail
          go_roundw
          case rel => exact ⟨k + 1, F1, R1, by omega, by go_num, Lib.hid (by rw [HPT.out]; exact HQ3.out.l)⟩
          case measure => simp [intOf]; omega
      · obtain ⟨b5, cap5, hv5, _, _⟩ := HS5.out.1.2.1.form (by omega)
        have hA5 : A5 = some ⟨b5, 0, none⟩ := by injection hv5
        clear hv5
        subst hA5
        have HAF := AF.of_u HS5.out (by omega)
        have HB5 := Lib.hid HAF.1
        have HAF8 := Lib.hid ((HAF.2.below HB67.out).below HB78.out)
        have HPL := Lib.hid (ps_len HS5.out.1)
        clear HAF
        go_wp2_with fail
        go_loopw [13] (fun s wr => ∃ (j : Nat), j ≤ m5 ∧ s = .int .i64 j ∧ Hid (Only (fun x => p5.heap.size ≤ x) p8 wr) ∧ Hid (AF p5.heap.size wr b5 m5 ps5)) (fun s _ => m5 - (intOf s).toNat)
        case atStart => exact ⟨0, Nat.zero_le _, rfl, Lib.hid (Only.refl _ _), HAF8⟩
        case round =>
          obtain ⟨wo, rfl⟩ : ∃ u : World, u = wr := ⟨_, rfl⟩
          obtain ⟨j, hj, rfl, HOo, HAo⟩ := hrel
          by_cases hlj : j < m5
          case neg =>
            have hj2 : (m5 : Int) ≤ j := by omega
            have HPX := Lib.hid (HP11.out.only HOo.out (fun x _ hx e => by
              have e2 : p5.heap.size ≤ x := e
              rcases hx with hx | hx | hx | hx
              · have := HP8.out.l.ld.lt x hx; omega
              · have := HP8.out.l.ld.rlt x hx; omega
              · have := HP8.out.r.ld.lt x hx; omega
              · have := HP8.out.r.ld.rlt x hx; omega) (fun x e => Nat.le_trans HP8.out.l.bel.size e))
            go_wp2_with fail
            refine (postings_any F1 R1 g acc d1 _ HPX.out.l.ld HPX.out.l.fine).mono ?_
            rintro e q1 ⟨Aa, ma, ka, psa, rfl, hma, hpsa, hba⟩
            have HQ1 := Lib.hid (HPX.out.below hba); have HSa := Lib.hid hpsa; have HMa := Lib.hid hma
            clear hba hpsa hma
            go_wp2_with fail
            refine (postings_any F3 R3 g' acc d1 _ HQ1.out.r.ld HQ1.out.r.fine).mono ?_
            rintro e q2 ⟨Ab, mb, kb, psb, rfl, hmb, hpsb, hbb⟩
            have HQ2 := Lib.hid (HQ1.out.below hbb); have HSb := Lib.hid hpsb; have HPRa := Lib.hid (HSa.out.psr.below hbb)
            clear hbb hpsb hmb
            go_wp2_with fail
            refine (same_any Aa Ab ma ka mb kb _ _ true _ HPRa.out HSb.out.psr (by have := HMa.out; have := HQ1.out.l.fine.len; omega) (same_two HSa.out.1 HSb.out.1 rfl)).mono ?_
            rintro e q3 ⟨rfl, q, rfl⟩
            have HQ3 := Lib.hid (HQ2.out.below (⟨rfl, rfl, rfl, Nat.le_refl _, fun _ _ => rfl⟩ : Below q2.heap.size q2 (q2.drewN q)))
            go_wp2_with fail
            go_roundw
            case rel => exact ⟨k + 1, F1, R1, by omega, by go_num, Lib.hid (by rw [HPT.out]; exact HQ3.out.l)⟩
            case measure => simp [intOf]; omega
          have hjp : j < ps5.length := by have := HPL.out; have := HM5.out; omega
          obtain ⟨x5, q0⟩ := HAo.out.1.2.2 (j * 3) (by omega)
          have z0 := HAo.out.1.2.1 (j * 3)
          have hj1 : (j : Int) < m5 := by omega
          have hj0 : (0 : Int) ≤ j := by omega
          have HO2 : Hid (Only (fun x => p5.heap.size ≤ x) p8 (wo.setCell ⟨b5, j * 3, none⟩ (.int .i64 (-1)))) := Lib.hid (HOo.out.setCell (p := ⟨b5, j * 3, none⟩) (fun _ => HB5.out) _)
          have HA2 := Lib.hid (HAo.out.set_id j (.int .i64 (-1)))
          go_wp2_with fail
          clear q0 z0
          obtain ⟨wv, hwv⟩ : ∃ u, wo.setCell ⟨b5, j * 3, none⟩ (.int .i64 (-1)) = u := ⟨_, rfl⟩
          rw [hwv] at HO2 HA2 ⊢
          clear hwv
          obtain ⟨f, hf⟩ : ∃ f, ps5[j] = f := ⟨_, rfl⟩
          have HF := Lib.hid hf
          have hfm : f ∈ ps5 := by rw [← hf]; exact List.getElem_mem hjp
          have HFM := Lib.hid hfm
          have hf16 := (HS5.out.1.2.2 f hfm).2
          clear hf hfm
          go_loopw [14] (fun s wr => ∃ (t : Nat), t ≤ f.n ∧ s = .int .i64 t ∧ Hid (Only (fun x => p5.heap.size ≤ x) p8 wr) ∧ Hid (AF p5.heap.size wr b5 m5 ps5)) (fun s _ => f.n - (intOf s).toNat)
          case atStart => exact ⟨0, Nat.zero_le _, rfl, HO2, HA2⟩
          case round =>
            obtain ⟨wi, rfl⟩ : ∃ u : World, u = wr := ⟨_, rfl⟩
            obtain ⟨t, ht, rfl, HOi, HAi⟩ := hrel
            have y2 := HAi.out.2.1 j hjp
            rw [HF.out] at y2
            by_cases hlt2 : t < f.n
            case pos =>
              obtain ⟨b', e1, e2, e3, e4⟩ := HAi.out.2.2 f HFM.out (by omega)
              obtain ⟨x9, q1⟩ := e4.2.2 (t * 2 + 1) (by omega)
              have z1 := e4.2.1 (t * 2 + 1)
              rw [e1] at y2
              have ht1 : (t : Int) < f.n := by omega
              have ht0 : (0 : Int) ≤ t := by omega
              have HON2 : Hid (Only (fun x => p5.heap.size ≤ x) p8 (wi.setCell ⟨b', t * 2 + 1, none⟩ (.int .i64 99))) := Lib.hid (HOi.out.setCell (p := ⟨b', t * 2 + 1, none⟩) (fun _ => e3) _)
              have HAN2 := Lib.hid (HAi.out.set_ln (b' := b') (j := t * 2 + 1) e2 (.int .i64 99))
              clear e1 e2 e3 e4
              go_wp2_with fail
              go_roundw
              case rel => exact ⟨t + 1, by omega, by go_num, HON2, HAN2⟩
              case measure => simp [intOf]; omega
            have ht2 : (f.n : Int) ≤ t := by omega
            go_wp2_with fail
            go_roundw
            case rel => exact ⟨j + 1, by omega, by go_num, HOi, HAi⟩
            case measure => simp [intOf]; omega
end Go.Proofs.Ytoammbjnejdgpaa
