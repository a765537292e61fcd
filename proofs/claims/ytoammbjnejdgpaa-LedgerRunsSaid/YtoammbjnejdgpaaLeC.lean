/- The reference: New, Balance, lines, find. -/
import Derived.Test.YtoammbjnejdgpaaLeB
namespace Go.Proofs.Ytoammbjnejdgpaa
open Go.RowKit
theorem of_at {ps : List Pg} {d : List Dt} (h : ps.map Pg.of = d.map Dt.of) {i : Nat} (hi : i < ps.length) (hd : i < d.length) : ps[i].id = d[i].id ∧ ps[i].tm = d[i].tm ∧ ps[i].ls = d[i].ls := by
  have h1 : (ps.map Pg.of)[i]? = (d.map Dt.of)[i]? := by rw [h]
  rw [List.getElem?_map, List.getElem?_map, List.getElem?_eq_getElem hi, List.getElem?_eq_getElem hd] at h1
  simp only [Option.map_some, Option.some.injEq, Pg.of, Dt.of, Prod.mk.injEq] at h1
  exact h1
def RetRn (w : World) (acc : Int) (e : Ending) (w' : World) : Prop := (∃ a : Int, (¬ (acc < 2 ∨ 64 < acc) → a = acc) ∧ e = .returned (.tuple #[.agg #[.int .i64 a, .slice none 0 0, .slice none 0 0], .int .i64 (if acc < 2 ∨ 64 < acc then 1 else 0)])) ∧ Below w.heap.size w w'
theorem rnew_any (acc : Int) (w : World) : Calls Try.prog 12 #[.int .i64 acc] w (RetRn w acc) := by
  obtain ⟨B0, hb⟩ := box1 w 29 #[.int .i64 0, .slice none 0 0, .slice none 0 0]
  have z0 := B0.frozen 0; have z1 := B0.frozen 1; have z2 := B0.frozen 2
  have c0 := (B0.cell 0).trans rfl; have c1 := (B0.cell 1).trans rfl; have c2 := (B0.cell 2).trans rfl
  have HB := Lib.hid hb
  clear B0 hb
  have hcs : acc < 2 ∨ (2 ≤ acc ∧ 64 < acc) ∨ (2 ≤ acc ∧ acc ≤ 64) := by omega
  rcases hcs with g0 | ⟨g0, g1⟩ | ⟨g0, g1⟩
  · go_enter Try.func12, Try.ntmps12
    go_wp2_with fail
    refine bodyPost_ret (v := .tuple #[.agg #[.int .i64 0, .slice none 0 0, .slice none 0 0], .int .i64 1]) (by simp [results, Try.results12, go_sem, c0, c1, c2]) rfl ⟨⟨0, fun h => absurd (.inl g0) h, by rw [if_pos (.inl g0)]⟩, ?_⟩
    exact HB.out
  · go_enter Try.func12, Try.ntmps12
    go_wp2_with fail
    refine bodyPost_ret (v := .tuple #[.agg #[.int .i64 0, .slice none 0 0, .slice none 0 0], .int .i64 1]) (by simp [results, Try.results12, go_sem, c0, c1, c2]) rfl ⟨⟨0, fun h => absurd (.inr g1) h, by rw [if_pos (.inr g1)]⟩, ?_⟩
    exact HB.out
  · go_enter Try.func12, Try.ntmps12
    go_wp2_with fail
    refine bodyPost_ret (v := .tuple #[.agg #[.int .i64 acc, .slice none 0 0, .slice none 0 0], .int .i64 0]) (by simp [results, Try.results12, go_sem]) rfl ⟨⟨acc, fun _ => rfl, by rw [if_neg (by omega)]⟩, ?_⟩
    exact (Below.refl _ _).alloc (Nat.le_refl _) _
set_option maxHeartbeats 2000000 in
set_option maxRecDepth 10000 in
theorem rfind_any (acc : Int) (Ap : Option Addr) (n c : Nat) (Ao : Option Addr) (no co : Nat) (ps : List Pg) (d : List Dt) (r x : Int) (w : World) (hr : PsR w Ap n ps) (hof : ps.map Pg.of = d.map Dt.of) (hn : n ≤ 1000000) (hx : idxI d r = x) : Calls Try.prog 36 #[.agg #[.int .i64 acc, .slice Ap n c, .slice Ao no co], .int .i64 r] w (RetI w x) := by
  obtain ⟨B0, hbx⟩ := box1 w 29 #[.int .i64 acc, .slice Ap n c, .slice Ao no co]
  obtain ⟨w1, hw1⟩ : ∃ u, w.alloc (.cells #[.int .i64 acc, .slice Ap n c, .slice Ao no co] 29) = u := ⟨_, rfl⟩
  rw [hw1] at B0 hbx
  have HB0 := Lib.hid B0; have HBX := Lib.hid hbx; have HR := Lib.hid (hr.below hbx)
  have HW1 := Lib.hid hw1
  have HL := Lib.hid (recs_len hr.1 encPg_len (by omega))
  have c0 := (B0.cell 0).trans rfl; have c1 := (B0.cell 1).trans rfl; have c2 := (B0.cell 2).trans rfl
  clear B0 hbx hr hw1
  have HOF := Lib.hid hof; have HX := Lib.hid hx
  have HPL : Hid (ps.length = d.length) := Lib.hid (by simpa using congrArg List.length hof)
  clear hof hx
  go_enter Try.func36, Try.ntmps36
  go_upto_region 1 with fail
  rw [HW1.out]
  go_wp2_with fail
  go_loop [5] (fun s => ∃ k : Nat, k ≤ n ∧ s = .int .i64 k ∧ Hid (∀ j (hj : j < d.length), j < k → d[j].id ≠ r)) (fun s => n - (intOf s).toNat)
  case atStart => exact ⟨0, Nat.zero_le _, rfl, Lib.hid fun _ _ h => absurd h (Nat.not_lt_zero _)⟩
  case round =>
    obtain ⟨k, hk, rfl, HA⟩ := hrel
    by_cases hlt : k < n
    · have hkl : k < ps.length := by have := HL.out; omega
      have hkd : k < d.length := by have := HPL.out; omega
      obtain ⟨b, off, rfl, hb, hc⟩ := HR.out.cells (by omega)
      obtain ⟨d0, _, _⟩ := hc k hkl
      have HE := Lib.hid (of_at HOF.out hkl hkd).1
      obtain ⟨p, hp⟩ : ∃ p, ps[k] = p := ⟨_, rfl⟩
      rw [hp] at d0 HE
      have hk1 : (k : Int) < n := by omega
      have hk0 : (0 : Int) ≤ k := by omega
      clear hc hp
      by_cases he : p.id = r
      · have z0 : (p.id == r) = true := by simp [he]
        have HX2 : Hid ((k : Int) = x) := Lib.hid (by rw [← HX.out, idxI_some (idx_at hkd (by rw [← HE.out, he]) HA.out)])
        clear he
        go_wp2_with fail
        go_ret
        exact ⟨ret_int HX2.out, HBX.out⟩
      · have z0 : (p.id == r) = false := by simp [he]
        have HA2 : Hid (∀ j (hj : j < d.length), j < k + 1 → d[j].id ≠ r) := Lib.hid fun j hj hjk => by
          rcases Nat.lt_or_eq_of_le (Nat.lt_succ_iff.1 hjk) with h' | rfl
          · exact HA.out j hj h'
          · rw [← HE.out]; exact he
        clear he
        go_wp2_with fail
        go_round
        case rel => exact ⟨k + 1, by omega, by go_num, HA2⟩
        case measure => simp [intOf]; omega
    · have HX2 : Hid (-1 = x) := Lib.hid (by rw [← HX.out, idxI_none (idx_no fun j hj => HA.out j hj (by have := HPL.out; have := HL.out; omega))])
      go_wp2_with fail
      go_ret
      exact ⟨ret_int HX2.out, HBX.out⟩
set_option maxHeartbeats 4000000 in
set_option maxRecDepth 10000 in
theorem rbalance_any (acc : Int) (Ap : Option Addr) (n c : Nat) (Ao : Option Addr) (no co : Nat) (ps : List Pg) (d : List Dt) (a t x y : Int) (w : World) (hr : PsR w Ap n ps) (hof : ps.map Pg.of = d.map Dt.of) (hf : Fine acc d) (hy : balE acc a t = y) (hx : balX acc d a t = x) : Calls Try.prog 16 #[.agg #[.int .i64 acc, .slice Ap n c, .slice Ao no co], .int .i64 a, .int .i64 t] w (RetII w x y) := by
  obtain ⟨B0, hbx⟩ := box1 w 29 #[.int .i64 acc, .slice Ap n c, .slice Ao no co]
  obtain ⟨w1, hw1⟩ : ∃ u, w.alloc (.cells #[.int .i64 acc, .slice Ap n c, .slice Ao no co] 29) = u := ⟨_, rfl⟩
  rw [hw1] at B0 hbx
  have HB0 := Lib.hid B0; have HBX := Lib.hid hbx; have HR := Lib.hid (hr.below hbx)
  have HW1 := Lib.hid hw1
  have HL := Lib.hid (recs_len hr.1 encPg_len (by omega))
  have c0 := (B0.cell 0).trans rfl; have c1 := (B0.cell 1).trans rfl; have c2 := (B0.cell 2).trans rfl
  clear B0 hbx hr hw1
  have HOF := Lib.hid hof; have HF := Lib.hid hf
  have HPL : Hid (ps.length = d.length) := Lib.hid (by simpa using congrArg List.length hof)
  have hn512 : n ≤ 512 := by have := HPL.out; have := HL.out; have := hf.len; omega
  clear hof hf
  by_cases hh : a < 0 ∨ acc ≤ a
  case pos =>
    have e := balE_none (t := t) hh
    have HX : Hid (0 = x) := Lib.hid (by rw [← hx]; unfold balX; rw [e]; rfl)
    have HY : Hid (7 = y) := Lib.hid (by rw [← hy, e])
    have hcs : a < 0 ∨ (0 ≤ a ∧ acc ≤ a) := by omega
    clear hh hx hy e
    rcases hcs with g0 | ⟨g0, g1⟩
    all_goals
      go_enter Try.func16, Try.ntmps16
      go_upto_region 1 with fail
      rw [HW1.out]
      go_wp2_with fail
      go_ret2
      exact ⟨ret_ii HX.out HY.out, HBX.out⟩
  have ha0 : 0 ≤ a := by omega
  have ha1 : a < acc := by omega
  by_cases ht : t < 0 ∨ 4294943999 < t
  case pos =>
    have e := balE_range hh ht
    have HX : Hid (0 = x) := Lib.hid (by rw [← hx]; unfold balX; rw [e]; rfl)
    have HY : Hid (1 = y) := Lib.hid (by rw [← hy, e])
    have hcs : t < 0 ∨ (0 ≤ t ∧ 4294943999 < t) := by omega
    clear hh hx hy e ht
    rcases hcs with g0 | ⟨g0, g1⟩
    all_goals
      go_enter Try.func16, Try.ntmps16
      go_upto_region 1 with fail
      rw [HW1.out]
      go_wp2_with fail
      go_ret2
      exact ⟨ret_ii HX.out HY.out, HBX.out⟩
  have ht0 : 0 ≤ t := by omega
  have ht1 : t ≤ 4294943999 := by omega
  have e := balE_ok hh ht
  have HX : Hid (balN d a t = x) := Lib.hid (by rw [← hx]; unfold balX; rw [e, if_pos rfl])
  have HY : Hid (0 = y) := Lib.hid (by rw [← hy, e])
  clear hh hx hy e ht
  go_enter Try.func16, Try.ntmps16
  go_upto_region 1 with fail
  rw [HW1.out]
  go_wp2_with fail
  clear c0 c1 c2
  go_loopw [8, 9] (fun s1 s2 wr => ∃ (i : Nat) (S : Int), i ≤ n ∧ s1 = .int .i64 S ∧ s2 = .int .i64 i ∧ Hid (balN (d.take i) a t = S) ∧ Hid (Below w1.heap.size w1 wr)) (fun _ s _ => n - (intOf s).toNat)
  case atStart => exact ⟨0, 0, Nat.zero_le _, rfl, rfl, Lib.hid rfl, Lib.hid (Below.refl _ _)⟩
  case round =>
    obtain ⟨wo, rfl⟩ : ∃ wo : World, wo = wr := ⟨_, rfl⟩
    obtain ⟨i, S, hi, rfl, rfl, HS, HBW⟩ := hrel
    have c1 := ((ofB HB0.out HBW.out).cell 1).trans rfl
    by_cases hlt : i < n
    case neg =>
      have hle : d.take i = d := List.take_of_length_le (by have := HPL.out; have := HL.out; omega)
      have HX2 : Hid (S = x) := Lib.hid (by rw [← HX.out, ← HS.out, hle])
      clear hle
      go_wp2_with fail
      go_ret2
      exact ⟨ret_ii HX2.out HY.out, below_next HBX.out (Nat.le_refl _) HBW.out⟩
    have hil : i < ps.length := by have := HL.out; omega
    have hid_ : i < d.length := by have := HPL.out; omega
    have HRr := Lib.hid (HR.out.below HBW.out)
    obtain ⟨b, off, hAp, hb, hc⟩ := HRr.out.cells (by omega)
    obtain ⟨d0, d1, d2⟩ := hc i hil
    have HEQ := Lib.hid (of_at HOF.out hil hid_)
    have HTK := Lib.hid (balN_take (a := a) (t := t) hid_)
    have HLE := Lib.hid (HF.out.lns _ (List.getElem_mem hid_))
    have HRL := Lib.hid (HRr.out.2 ps[i] (List.getElem_mem hil)).1
    rw [← HEQ.out.2.1, ← HEQ.out.2.2] at HTK
    rw [← HEQ.out.2.2] at HLE
    obtain ⟨f, hz⟩ : ∃ f, ps[i] = f := ⟨_, rfl⟩
    rw [hz] at d0 d1 d2 HTK HLE HRL
    replace HLE : Hid (linesE acc f.ls = 0) := Lib.hid HLE.out
    have HLN := Lib.hid (recs_len HRL.out encLn_len (by omega))
    have hfn : f.n ≤ 16 := by have h1 := (linesE_inv HLE.out).2.1; have := HLN.out; omega
    have hS := balN_small (a := a) (t := t) HF.out i
    rw [HS.out] at hS
    have hi0 : (0 : Int) ≤ i := by omega
    have hi1 : (i : Int) < n := by omega
    rw [hAp] at c1
    clear hc hz HEQ hAp
    obtain ⟨P0, hbp⟩ := box1 wo 45 #[.int .i64 f.id, .int .i64 f.tm, .slice f.A f.n f.c]
    have e1 := (P0.cell 1).trans rfl; have e2 := (P0.cell 2).trans rfl
    have HBN := Lib.hid (below_next HBW.out (Nat.le_refl _) hbp)
    have HRLp := Lib.hid (HRL.out.below hbp)
    clear P0 hbp
    go_wp2_with fail
    clear d0 d1 d2 c1
    obtain ⟨v1, hv1⟩ : ∃ v, wo.alloc (.cells #[.int .i64 f.id, .int .i64 f.tm, .slice f.A f.n f.c] 45) = v := ⟨_, rfl⟩
    rw [hv1] at HBN HRLp e1 e2 ⊢
    clear hv1
    go_loopw [8, 11] (fun s1 s2 wr => ∃ (k : Nat) (T : Int), k ≤ f.n ∧ s1 = .int .i64 T ∧ s2 = .int .i64 k ∧ Hid (S + (if f.tm ≤ t then lnAdd a (f.ls.take k) else 0) = T) ∧ wr = v1) (fun _ s _ => f.n - (intOf s).toNat)
    case atStart => exact ⟨0, S, Nat.zero_le _, rfl, rfl, Lib.hid (by simp [lnAdd]), rfl⟩
    case round =>
      obtain ⟨k, T, hk, rfl, rfl, HT, rfl⟩ := hrel
      by_cases hft : f.tm ≤ t
      case neg =>
        have hft2 : t < f.tm := by omega
        have HTN : Hid (balN (d.take (i + 1)) a t = T) := Lib.hid (by rw [HTK.out, ← HT.out, HS.out, if_neg hft, if_neg hft])
        clear hft hS
        by_cases hlk : k < f.n
        · have hk1 : (k : Int) < f.n := by omega
          go_wp2_with fail
          go_roundw
          case rel => exact ⟨i + 1, T, by omega, rfl, by go_num, HTN, HBN⟩
          case measure => simp [intOf]; omega
        · have hk1 : (f.n : Int) ≤ k := by omega
          go_wp2_with fail
          go_roundw
          case rel => exact ⟨i + 1, T, by omega, rfl, by go_num, HTN, HBN⟩
          case measure => simp [intOf]; omega
      by_cases hlk : k < f.n
      case neg =>
        have hle : f.ls.take k = f.ls := List.take_of_length_le (by have := HLN.out; omega)
        have HTN : Hid (balN (d.take (i + 1)) a t = T) := Lib.hid (by rw [HTK.out, ← HT.out, HS.out, hle])
        have hk1 : (f.n : Int) ≤ k := by omega
        clear hle hS
        go_wp2_with fail
        go_roundw
        case rel => exact ⟨i + 1, T, by omega, rfl, by go_num, HTN, HBN⟩
        case measure => simp [intOf]; omega
      have hkl : k < f.ls.length := by have := HLN.out; omega
      obtain ⟨b2, off2, hA, hb2, hc2⟩ := ln_cells HRLp.out (by omega)
      obtain ⟨p0, p1⟩ := hc2 k hkl
      have hk0 : (0 : Int) ≤ k := by omega
      have hk1 : (k : Int) < f.n := by omega
      have HST := Lib.hid (lnAdd_take (a := a) hkl)
      have hLA2 := lnAdd_small (a := a) HLE.out (k + 1)
      rw [HST.out] at hLA2
      obtain ⟨v, hv⟩ : ∃ v, f.ls[k] = v := ⟨_, rfl⟩
      rw [hv] at p0 p1 HST hLA2
      have E2 := e2
      rw [hA] at E2
      have hTT := HT.out
      rw [if_pos hft] at hTT
      clear hc2 hv hA e2
      by_cases ha : v.1 = a
      · have z1 : (v.1 == a) = true := by simp [ha]
        rw [if_pos ha] at hLA2
        have HTN : Hid (S + (if f.tm ≤ t then lnAdd a (f.ls.take (k + 1)) else 0) = T + v.2) := Lib.hid (by
          rw [if_pos hft, HST.out, if_pos ha]; omega)
        have fT : IntKind.i64.wrap (T + v.2) = T + v.2 := IntWalk.i64_in _ (by omega)
        clear ha hTT hLA2 hS
        go_wp2_with fail
        go_roundw
        case rel => exact ⟨k + 1, T + v.2, by omega, rfl, by go_num, HTN, trivial⟩
        case measure => simp [intOf]; omega
      · have z1 : (v.1 == a) = false := by simp [ha]
        have HTN : Hid (S + (if f.tm ≤ t then lnAdd a (f.ls.take (k + 1)) else 0) = T) := Lib.hid (by
          rw [if_pos hft, HST.out, if_neg ha]; omega)
        clear ha hTT hLA2 hS
        go_wp2_with fail
        go_roundw
        case rel => exact ⟨k + 1, T, by omega, rfl, by go_num, HTN, trivial⟩
        case measure => simp [intOf]; omega
end Go.Proofs.Ytoammbjnejdgpaa
