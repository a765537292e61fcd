/- The walk of Balance. -/
import Derived.Test.YtoammbjnejdgpaaLdD
namespace Go.Proofs.Ytoammbjnejdgpaa
open Go.RowKit
/-- A ledger's postings are in order, different, and each of them right. -/
structure Fine (acc : Int) (d : List Dt) : Prop where
  len : d.length ≤ 512
  ord : ∀ i j (hj : j < d.length) (hi : i < j), (d[i]'(by omega)).tm ≤ d[j].tm
  dis : ∀ i j (hj : j < d.length) (hi : i < j), (d[i]'(by omega)).id ≠ d[j].id
  rng : ∀ x ∈ d, rangeP x.id x.tm = true
  lns : ∀ x ∈ d, linesE acc x.ls = 0
theorem fine_nil (acc : Int) : Fine acc [] := ⟨by simp, fun i j hj => absurd hj (Nat.not_lt_zero _), fun i j hj => absurd hj (Nat.not_lt_zero _), (fun _ hx => nomatch hx), (fun _ hx => nomatch hx)⟩
theorem lnAdd_app (a : Int) : ∀ l m : List Ln, lnAdd a (l ++ m) = lnAdd a l + lnAdd a m
  | [], m => by simp [lnAdd]
  | x :: l, m => by rw [List.cons_append]; simp only [lnAdd]; rw [lnAdd_app a l m]; omega
theorem lnAdd_take {a : Int} {l : List Ln} {k : Nat} (h : k < l.length) : lnAdd a (l.take (k + 1)) = lnAdd a (l.take k) + (if l[k].1 = a then l[k].2 else 0) := by
  rw [List.take_succ_eq_append_getElem h, lnAdd_app]; simp [lnAdd]
theorem lnAdd_bd {acc a : Int} : ∀ {l : List Ln}, (∀ x ∈ l, lnErr acc x = 0) → -1000000000000 * (l.length : Int) ≤ lnAdd a l ∧ lnAdd a l ≤ 1000000000000 * (l.length : Int)
  | [], _ => by simp [lnAdd]
  | x :: l, h => by
    have h1 := lnErr_inv (h x (List.mem_cons_self ..))
    have h2 := lnAdd_bd (a := a) (l := l) fun y hy => h y (List.mem_cons_of_mem _ hy)
    simp only [lnAdd, List.length_cons, Int.natCast_add]
    split <;> omega
theorem balN_app (a t : Int) : ∀ l m : List Dt, balN (l ++ m) a t = balN l a t + balN m a t
  | [], m => by simp [balN]
  | x :: l, m => by rw [List.cons_append]; simp only [balN]; rw [balN_app a t l m]; omega
theorem balN_take {a t : Int} {l : List Dt} {k : Nat} (h : k < l.length) : balN (l.take (k + 1)) a t = balN (l.take k) a t + (if l[k].tm ≤ t then lnAdd a l[k].ls else 0) := by
  rw [List.take_succ_eq_append_getElem h, balN_app]; simp [balN]
theorem lnAdd_small {acc a : Int} {ls : List Ln} (h : linesE acc ls = 0) (k : Nat) : -16000000000000 ≤ lnAdd a (ls.take k) ∧ lnAdd a (ls.take k) ≤ 16000000000000 := by
  obtain ⟨_, h2, h3, _⟩ := linesE_inv h
  have := lnAdd_bd (a := a) (l := ls.take k) fun x hx => lnsErr_inv h3 x (List.mem_of_mem_take hx)
  rw [List.length_take] at this
  have h4 : ((min k ls.length : Nat) : Int) ≤ 16 := by omega
  omega
theorem balN_bd {acc a t : Int} : ∀ {d : List Dt}, (∀ x ∈ d, linesE acc x.ls = 0) → -16000000000000 * (d.length : Int) ≤ balN d a t ∧ balN d a t ≤ 16000000000000 * (d.length : Int)
  | [], _ => by simp [balN]
  | x :: d, h => by
    have h1 := lnAdd_small (a := a) (h x (List.mem_cons_self ..)) x.ls.length
    rw [List.take_length] at h1
    have h2 := balN_bd (a := a) (t := t) (d := d) fun y hy => h y (List.mem_cons_of_mem _ hy)
    simp only [balN, List.length_cons, Int.natCast_add]
    split <;> omega
theorem balN_small {acc a t : Int} {d : List Dt} (h : Fine acc d) (k : Nat) : -8192000000000000 ≤ balN (d.take k) a t ∧ balN (d.take k) a t ≤ 8192000000000000 := by
  have := balN_bd (acc := acc) (a := a) (t := t) (d := d.take k) fun x hx => h.lns x (List.mem_of_mem_take hx)
  rw [List.length_take] at this
  have h4 : ((min k d.length : Nat) : Int) ≤ 512 := by have := h.len; omega
  omega
theorem balN_late {a t : Int} : ∀ {d : List Dt}, (∀ x ∈ d, t < x.tm) → balN d a t = 0
  | [], _ => rfl
  | x :: d, h => by
    simp only [balN]
    rw [if_neg (by have := h x (List.mem_cons_self ..); omega), balN_late fun y hy => h y (List.mem_cons_of_mem _ hy)]; rfl
/-- Behind the first late posting all are late. -/
theorem balN_break {acc a t : Int} {d : List Dt} (h : Fine acc d) {i : Nat} (hi : i < d.length) (ht : t < d[i].tm) : balN d a t = balN (d.take i) a t := by
  have e : d = d.take i ++ d.drop i := (List.take_append_drop i d).symm
  have : balN d a t = balN (d.take i ++ d.drop i) a t := by rw [← e]
  rw [this, balN_app, balN_late (d := d.drop i), Int.add_zero]
  intro x hx
  obtain ⟨j, hj, rfl⟩ := List.getElem_of_mem hx
  rw [List.getElem_drop]
  rcases Nat.eq_zero_or_pos j with h0 | h0
  · subst h0; simpa using ht
  · have hl : i + j < d.length := by simp at hj; omega
    have := h.ord i (i + j) hl (by omega)
    omega
theorem balE_none {acc a t : Int} (h : a < 0 ∨ acc ≤ a) : balE acc a t = 7 := if_pos h
theorem balE_range {acc a t : Int} (h : ¬ (a < 0 ∨ acc ≤ a)) (h2 : t < 0 ∨ 4294943999 < t) : balE acc a t = 1 := by unfold balE; rw [if_neg h, if_pos h2]
theorem balE_ok {acc a t : Int} (h : ¬ (a < 0 ∨ acc ≤ a)) (h2 : ¬ (t < 0 ∨ 4294943999 < t)) : balE acc a t = 0 := by unfold balE; rw [if_neg h, if_neg h2]
/-- What Balance returns. -/
def balX (acc : Int) (d : List Dt) (a t : Int) : Int := if balE acc a t = 0 then balN d a t else 0
theorem balance_nil (a t : Int) (w : World) : Calls Try.prog 14 #[.pointer none, .int .i64 a, .int .i64 t] w fun e w' => e = .returned (.tuple #[.int .i64 0, .int .i64 11]) ∧ w = w' := by
  go_enter Try.func14, Try.ntmps14
  go_wp2_with fail
  go_ret2
  exact ⟨rfl, rfl⟩
theorem dt_at {l : List En} {d : List Dt} (h : l.map En.dt = d) {k : Nat} (hk : k < l.length) : d[k]'(by rw [← h, List.length_map]; exact hk) = (l[k]).dt := by subst h; simp
set_option maxHeartbeats 4000000 in
set_option maxRecDepth 10000 in
theorem balance_any (F R : Nat → Prop) (g : Nat) (acc : Int) (d : List Dt) (a t x y : Int) (w : World) (h : LdF w F R g acc d) (hf : Fine acc d) (hy : balE acc a t = y) (hx : balX acc d a t = x) : Calls Try.prog 14 #[.pointer (some ⟨g, 0, none⟩), .int .i64 a, .int .i64 t] w (RetII w x y) := by
  obtain ⟨l, A, n, c, hd, hB⟩ := h
  have HB := Lib.hid hB; have HD := Lib.hid hd; have HF := Lib.hid hf; have HL := Lib.hid hB.len
  have HDL : Hid (d.length = n) := Lib.hid (by rw [← hd, List.length_map]; exact hB.len)
  have hn512 : n ≤ 512 := by have := hf.len; have := HDL.out; omega
  have c0 := (hB.blk.cell 0).trans rfl; have c1 := (hB.blk.cell 1).trans rfl
  have hg := hB.blk.lt
  have HG := Lib.hid hB.blk
  clear hB hd hf
  by_cases hh : a < 0 ∨ acc ≤ a
  · have e := balE_none (t := t) hh
    have HX : Hid (0 = x) := Lib.hid (by rw [← hx]; unfold balX; rw [e]; rfl)
    have HY : Hid (7 = y) := Lib.hid (by rw [← hy, e])
    have HH := Lib.hid (hasA_f hh)
    clear hh hx hy e
    go_enter Try.func14, Try.ntmps14
    go_wp2_with fail
    refine (has_any g acc a A n c false _ HG.out HH.out).mono ?_
    rintro e w1 ⟨rfl, rfl⟩
    go_wp2_with fail
    go_ret2
    exact ⟨ret_ii HX.out HY.out, Below.refl _ _⟩
  have HH := Lib.hid (hasA_t hh)
  have hcs : t < 0 ∨ (0 ≤ t ∧ 4294943999 < t) ∨ (0 ≤ t ∧ t ≤ 4294943999) := by omega
  rcases hcs with g0 | ⟨g0, g1⟩ | ⟨g0, g1⟩
  · have e := balE_range hh (.inl g0)
    have HX : Hid (0 = x) := Lib.hid (by rw [← hx]; unfold balX; rw [e]; rfl)
    have HY : Hid (1 = y) := Lib.hid (by rw [← hy, e])
    clear hh hx hy e
    go_enter Try.func14, Try.ntmps14
    go_wp2_with fail
    refine (has_any g acc a A n c true _ HG.out HH.out).mono ?_
    rintro e w1 ⟨rfl, rfl⟩
    go_wp2_with fail
    go_ret2
    exact ⟨ret_ii HX.out HY.out, Below.refl _ _⟩
  · have e := balE_range hh (.inr g1)
    have HX : Hid (0 = x) := Lib.hid (by rw [← hx]; unfold balX; rw [e]; rfl)
    have HY : Hid (1 = y) := Lib.hid (by rw [← hy, e])
    clear hh hx hy e
    go_enter Try.func14, Try.ntmps14
    go_wp2_with fail
    refine (has_any g acc a A n c true _ HG.out HH.out).mono ?_
    rintro e w1 ⟨rfl, rfl⟩
    go_wp2_with fail
    go_ret2
    exact ⟨ret_ii HX.out HY.out, Below.refl _ _⟩
  have e := balE_ok hh (show ¬ (t < 0 ∨ 4294943999 < t) by omega)
  have HX : Hid (balN d a t = x) := Lib.hid (by rw [← hx]; unfold balX; rw [e, if_pos rfl])
  have HY : Hid (0 = y) := Lib.hid (by rw [← hy, e])
  clear hh hx hy e
  go_enter Try.func14, Try.ntmps14
  go_wp2_with fail
  refine (has_any g acc a A n c true _ HG.out HH.out).mono ?_
  rintro e w1 ⟨rfl, rfl⟩
  go_wp2_with fail
  go_loopw [8, 33] (fun s1 s2 wr => ∃ (k : Nat) (S : Int), k ≤ n ∧ s1 = .int .i64 S ∧ s2 = .int .i64 k ∧ Hid (balN (d.take k) a t = S) ∧ Below w.heap.size w wr) (fun _ s _ => n - (intOf s).toNat)
  case atStart => exact ⟨0, 0, Nat.zero_le _, rfl, rfl, Lib.hid rfl, Below.refl _ _⟩
  case round =>
    obtain ⟨wo, rfl⟩ : ∃ wo : World, wo = wr := ⟨_, rfl⟩
    obtain ⟨k, S, hk, rfl, rfl, HS, hbw⟩ := hrel
    have HBW := Lib.hid hbw
    have HBr := Lib.hid (HB.out.below hbw)
    have hS := balN_small (a := a) (t := t) HF.out k
    rw [HS.out] at hS
    clear hbw
    by_cases hlt : k < n
    · have hkl : k < l.length := by have := HL.out; omega
      have hkd : k < d.length := by have := HDL.out; omega
      obtain ⟨b, rfl, hb, hFb, hne, hc⟩ := HBr.out.cells (by omega)
      obtain ⟨d0, d1, d2, d3⟩ := hc k hkl
      have hk0 : (0 : Int) ≤ k := by omega
      have hk1 : (k : Int) < n := by omega
      have HDT := Lib.hid (dt_at HD.out hkl)
      have HTK := Lib.hid (balN_take (a := a) (t := t) hkd)
      have HBK : Hid (t < d[k].tm → balN d a t = balN (d.take k) a t) := Lib.hid fun h => balN_break HF.out hkd h
      have HLE := Lib.hid (HF.out.lns _ (List.getElem_mem hkd))
      have HLI := Lib.hid (HBr.out.lines l[k] (List.getElem_mem hkl))
      rw [HDT.out] at HTK HBK HLE
      obtain ⟨f, hz⟩ : ∃ f, l[k] = f := ⟨_, rfl⟩
      rw [hz] at d0 d1 d2 d3 HTK HBK HLE HLI
      replace HLE : Hid (linesE acc f.ls = 0) := Lib.hid HLE.out
      clear hc hz HDT
      obtain ⟨B0, hbb⟩ := box1 wo 64 #[.int .i64 f.id, .int .i64 f.tm, .slice f.A f.n f.c, .bool f.used]
      have e0 := (B0.cell 0).trans rfl; have e1 := (B0.cell 1).trans rfl; have e2 := (B0.cell 2).trans rfl; have e3 := (B0.cell 3).trans rfl
      have HBX := Lib.hid (below_next HBW.out (Nat.le_refl _) hbb)
      have HBY := Lib.hid hbb
      have HC0 := Lib.hid B0
      clear B0 hbb
      by_cases hlate : t < f.tm
      · have HX2 : Hid (S = x) := Lib.hid (by rw [← HX.out, HBK.out hlate, HS.out])
        go_wp2_with fail
        go_ret2
        exact ⟨ret_ii HX2.out HY.out, HBX.out⟩
      · have hearly : f.tm ≤ t := by omega
        have HTK2 : Hid (balN (d.take (k + 1)) a t = S + lnAdd a f.ls) := Lib.hid (by rw [HTK.out, HS.out]; show S + (if f.tm ≤ t then _ else _) = _; rw [if_pos hearly]; rfl)
        have HLR := Lib.hid (HLI.out.1.reads.below HBY.out)
        have hfn : f.n ≤ 16 := HLI.out.2
        have HLN := Lib.hid (recs_len HLI.out.1.reads encLn_len (by omega))
        clear hlate
        go_wp2_with fail
        clear d0 d1 d2 d3
        obtain ⟨v1, hv1⟩ : ∃ v, wo.alloc (.cells #[.int .i64 f.id, .int .i64 f.tm, .slice f.A f.n f.c, .bool f.used] 64) = v := ⟨_, rfl⟩
        rw [hv1] at HBX HBY HC0 e0 e1 e2 e3 HLR ⊢
        clear hv1
        go_loopw [8, 46] (fun s1 s2 wr => ∃ (j : Nat) (T : Int), j ≤ f.n ∧ s1 = .int .i64 T ∧ s2 = .int .i64 j ∧ Hid (S + lnAdd a (f.ls.take j) = T) ∧ Below v1.heap.size v1 wr) (fun _ s _ => f.n - (intOf s).toNat)
        case atStart => exact ⟨0, S, Nat.zero_le _, rfl, rfl, Lib.hid (by simp [lnAdd]), Below.refl _ _⟩
        case round =>
          obtain ⟨wi, rfl⟩ : ∃ wi : World, wi = wr := ⟨_, rfl⟩
          obtain ⟨j, T, hj, rfl, rfl, HTT, hbi⟩ := hrel
          have HBI := Lib.hid hbi
          have hLA := lnAdd_small (a := a) HLE.out j
          have HRr : Hid (Reads wi wi.heap.size 2 f.A f.n (cellsLn f.ls)) := Lib.hid ((HLR.out.below (hbi.mono HBY.out.size)).more (Nat.le_trans HBY.out.size hbi.size))
          clear hbi
          by_cases hlj : j < f.n
          · have hjl : j < f.ls.length := by have := HLN.out; omega
            obtain ⟨b2, off, hA, hb2, hc2⟩ := ln_cells HRr.out (by omega)
            obtain ⟨p0, p1⟩ := hc2 j hjl
            have hj0 : (0 : Int) ≤ j := by omega
            have hj1 : (j : Int) < f.n := by omega
            have HST := Lib.hid (lnAdd_take (a := a) hjl)
            have hLA2 := lnAdd_small (a := a) HLE.out (j + 1)
            rw [HST.out] at hLA2
            obtain ⟨v, hv⟩ : ∃ v, f.ls[j] = v := ⟨_, rfl⟩
            rw [hv] at p0 p1 HST hLA2
            rw [hA] at e2 ⊢
            clear hc2 hv
            have HQ := HTT.out
            by_cases ha : v.1 = a
            · have HN : Hid (S + lnAdd a (f.ls.take (j + 1)) = T + v.2) := Lib.hid (by rw [HST.out, if_pos ha, ← HTT.out]; omega)
              have z0 : (v.1 == a) = true := by simp [ha]
              rw [if_pos ha] at hLA2
              have f1 : IntKind.i64.wrap (T + v.2) = T + v.2 := IntWalk.i64_in _ (by omega)
              have HBN := Lib.hid (below_next HBI.out (Nat.le_refl _) (box1 wi 54 #[.int .i64 v.1, .int .i64 v.2]).2)
              clear ha HQ
              go_wp2_with fail
              go_roundw
              case rel => exact ⟨j + 1, T + v.2, by omega, rfl, by go_num, HN, HBN.out⟩
              case measure => simp [intOf]; omega
            · have HN : Hid (S + lnAdd a (f.ls.take (j + 1)) = T) := Lib.hid (by rw [HST.out, if_neg ha, ← HTT.out]; omega)
              have z0 : (v.1 == a) = false := by simp [ha]
              have HBN := Lib.hid (below_next HBI.out (Nat.le_refl _) (box1 wi 54 #[.int .i64 v.1, .int .i64 v.2]).2)
              clear ha HQ
              go_wp2_with fail
              go_roundw
              case rel => exact ⟨j + 1, T, by omega, rfl, by go_num, HN, HBN.out⟩
              case measure => simp [intOf]; omega
          · have hle : f.ls.take j = f.ls := List.take_of_length_le (by have := HLN.out; omega)
            have HN : Hid (balN (d.take (k + 1)) a t = T) := Lib.hid (by rw [HTK2.out, ← HTT.out, hle])
            have HBN := Lib.hid (below_next HBX.out (Nat.le_refl _) HBI.out)
            clear hle
            go_wp2_with fail
            go_roundw
            case rel => exact ⟨k + 1, T, by omega, rfl, by go_num, HN, HBN.out⟩
            case measure => simp [intOf]; omega
    · have hle : d.take k = d := List.take_of_length_le (by have := HDL.out; omega)
      have HX2 : Hid (S = x) := Lib.hid (by rw [← HX.out, ← HS.out, hle])
      clear hle
      go_wp2_with fail
      go_ret2
      exact ⟨ret_ii HX2.out HY.out, HBW.out⟩
end Go.Proofs.Ytoammbjnejdgpaa
