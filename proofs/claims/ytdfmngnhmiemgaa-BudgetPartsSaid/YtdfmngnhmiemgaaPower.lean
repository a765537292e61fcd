/- The walks of both Power. -/
import Derived.Test.YtdfmngnhmiemgaaCheck
import Derived.Test.YtdfmngnhmiemgaaPow
namespace Go.Proofs.Ytdfmngnhmiemgaa
open Go.RowKit Go.Maps
def RetP (w : World) (x y err : Int) (e : Ending) (w' : World) : Prop := e = .returned (.tuple #[.agg #[.int .i64 x, .int .i64 y], .int .i64 err]) ∧ Below w.heap.size w w'

theorem ret_p {a b c a' b' c' : Int} (h1 : a = a') (h2 : b = b') (h3 : c = c') : Ending.returned (.tuple #[.agg #[.int .i64 a, .int .i64 b], .int .i64 c]) = .returned (.tuple #[.agg #[.int .i64 a', .int .i64 b'], .int .i64 c']) := by rw [h1, h2, h3]

set_option maxHeartbeats 2000000 in
set_option maxRecDepth 10000 in
theorem power_any (num den k : Int) (w : World) :
    Calls Try.prog 17 #[.agg #[.int .i64 num, .int .i64 den], .int .i64 k] w (RetP w (powN num den k) (powD num den k) (powE num den k)) := by
  by_cases hb : badP num den k
  · have HE := Lib.hid (pow_bad hb)
    have hcs : den < 1 ∨ (1 ≤ den ∧ num < den) ∨ (1 ≤ den ∧ den ≤ num ∧ 1000000 < num) ∨ (1 ≤ den ∧ den ≤ num ∧ num ≤ 1000000 ∧ (k < 0 ∨ 512 < k)) := by unfold badP at hb; omega
    clear hb
    rcases hcs with g1 | ⟨g1, g2⟩ | ⟨g1, g2, g3⟩ | ⟨g1, g2, g3, g4⟩
    · go_enter Try.func17, Try.ntmps17
      go_wp2_with fail
      exact bodyPost_ret (v := .tuple #[.agg #[.int .i64 0, .int .i64 0], .int .i64 1]) (by simp [results, Try.results17, go_sem]) rfl ⟨ret_p HE.out.2.1.symm HE.out.2.2.symm HE.out.1.symm, below_alloc ((Below.refl _ _).alloc (Nat.le_refl _) _) (Nat.le_refl _) _⟩
    · go_enter Try.func17, Try.ntmps17
      go_wp2_with fail
      exact bodyPost_ret (v := .tuple #[.agg #[.int .i64 0, .int .i64 0], .int .i64 1]) (by simp [results, Try.results17, go_sem]) rfl ⟨ret_p HE.out.2.1.symm HE.out.2.2.symm HE.out.1.symm, below_alloc ((Below.refl _ _).alloc (Nat.le_refl _) _) (Nat.le_refl _) _⟩
    · go_enter Try.func17, Try.ntmps17
      go_wp2_with fail
      exact bodyPost_ret (v := .tuple #[.agg #[.int .i64 0, .int .i64 0], .int .i64 1]) (by simp [results, Try.results17, go_sem]) rfl ⟨ret_p HE.out.2.1.symm HE.out.2.2.symm HE.out.1.symm, below_alloc ((Below.refl _ _).alloc (Nat.le_refl _) _) (Nat.le_refl _) _⟩
    · have H4 := Lib.hid g4
      clear g4
      go_enter Try.func17, Try.ntmps17
      go_wp2_with fail
      refine (within_no _ _ _ _ H4.out).mono ?_
      rintro e w' ⟨rfl, rfl⟩
      go_wp2_with fail
      exact bodyPost_ret (v := .tuple #[.agg #[.int .i64 0, .int .i64 0], .int .i64 1]) (by simp [results, Try.results17, go_sem]) rfl ⟨ret_p HE.out.2.1.symm HE.out.2.2.symm HE.out.1.symm, below_alloc ((Below.refl _ _).alloc (Nat.le_refl _) _) (Nat.le_refl _) _⟩
  have HNB := Lib.hid hb
  have g1 : 1 ≤ den := by unfold badP at hb; omega
  have g2 : den ≤ num := by unfold badP at hb; omega
  have g3 : num ≤ 1000000 := by unfold badP at hb; omega
  have g4 : 0 ≤ k := by unfold badP at hb; omega
  have g5 : k ≤ 512 := by unfold badP at hb; omega
  clear hb
  obtain ⟨K, rfl⟩ := Int.eq_ofNat_of_zero_le g4
  have HO : Hid (M < num ^ K → powE num den K = 2 ∧ powN num den K = 0 ∧ powD num den K = 0) := Lib.hid fun h => pow_over HNB.out h
  have HK : Hid (num ^ K ≤ M → powE num den K = 0 ∧ powN num den K = num ^ K ∧ powD num den K = den ^ K) := Lib.hid fun h => pow_ok HNB.out h
  have hs0 := (Blk.new w 36 #[.int .i64 num, .int .i64 den])
  have hB0 : Blk (((w.alloc (.cells #[.int .i64 num, .int .i64 den] 36)).alloc (.cells #[.int .i64 0, .int .i64 0] 36)).alloc (.cells #[.int .i64 1, .int .i64 1] 36)) w.heap.size 36 #[.int .i64 num, .int .i64 den] := ((Blk.new w 36 _).alloc _).alloc _
  have hB1 : Blk (((w.alloc (.cells #[.int .i64 num, .int .i64 den] 36)).alloc (.cells #[.int .i64 0, .int .i64 0] 36)).alloc (.cells #[.int .i64 1, .int .i64 1] 36)) (w.heap.size + 1) 36 #[.int .i64 0, .int .i64 0] := by have := (Blk.new (w.alloc (.cells #[.int .i64 num, .int .i64 den] 36)) 36 #[.int .i64 0, .int .i64 0]).alloc (.cells #[.int .i64 1, .int .i64 1] 36); simpa using this
  have hB2 : Blk (((w.alloc (.cells #[.int .i64 num, .int .i64 den] 36)).alloc (.cells #[.int .i64 0, .int .i64 0] 36)).alloc (.cells #[.int .i64 1, .int .i64 1] 36)) (w.heap.size + 2) 36 #[.int .i64 1, .int .i64 1] := by have := Blk.new ((w.alloc (.cells #[.int .i64 num, .int .i64 den] 36)).alloc (.cells #[.int .i64 0, .int .i64 0] 36)) 36 #[.int .i64 1, .int .i64 1]; simpa using this
  have HB0 := Lib.hid hB0
  have HB1 := Lib.hid hB1
  have HB2 := Lib.hid hB2
  clear hs0 hB0 hB1 hB2
  go_enter Try.func17, Try.ntmps17
  go_wp2_with fail
  refine (within_yes _ _ _ _ ⟨g4, g5⟩).mono ?_
  rintro e w' ⟨rfl, rfl⟩
  go_wp2_with fail
  go_loopw [30] (fun j wr => ∃ i : Nat, i ≤ K ∧ j = .int .i64 i ∧ Blk wr w.heap.size 36 #[.int .i64 num, .int .i64 den] ∧ Blk wr (w.heap.size + 1) 36 #[.int .i64 0, .int .i64 0] ∧ Blk wr (w.heap.size + 2) 36 #[.int .i64 (num ^ i), .int .i64 (den ^ i)] ∧ num ^ i ≤ M ∧ Below w.heap.size w wr) (fun j _ => K - (intOf j).toNat)
  case atStart => exact ⟨0, Nat.zero_le _, rfl, HB0.out, HB1.out, by simpa using HB2.out, by simp [M], below_alloc (below_alloc ((Below.refl _ _).alloc (Nat.le_refl _) _) (Nat.le_refl _) _) (Nat.le_refl _) _⟩
  case round =>
    obtain ⟨i, hi, rfl, hB0, hB1, hB2, hM, hbw⟩ := hrel
    have hp1 := ppos (show 1 ≤ num by omega) i
    have hq1 := ppos g1 i
    have hqp := pow_le_pow g1 g2 i
    have hpi := Int.pow_succ num i
    have hqi := Int.pow_succ den i
    obtain ⟨p, hp⟩ : ∃ p, p = num ^ i := ⟨_, rfl⟩
    obtain ⟨q, hq⟩ : ∃ q, q = den ^ i := ⟨_, rfl⟩
    rw [← hp] at hB2 hM hp1 hqp hpi
    rw [← hq] at hB2 hq1 hqp hqi
    have HP := Lib.hid hp
    have HQ := Lib.hid hq
    have HPI := Lib.hid hpi
    have HQI := Lib.hid hqi
    have hM' : p ≤ 1125899906842624 := hM
    have c00 := hB0.cell 0
    have c01 := hB0.cell 1
    have c10 := hB1.cell 0
    have c11 := hB1.cell 1
    have f10 := hB1.frozen 0
    have f11 := hB1.frozen 1
    have c20 := hB2.cell 0
    have c21 := hB2.cell 1
    have f20 := hB2.frozen 0
    have f21 := hB2.frozen 1
    have HBB0 := Lib.hid hB0
    have HBB1 := Lib.hid hB1
    have HBB2 := Lib.hid hB2
    clear hp hq hpi hqi hM hB0 hB1 hB2
    by_cases hlt : i < K
    · have qq : IntKind.i64.wrap ((1125899906842624 : Int).tdiv num) = 1125899906842624 / num := IntWalk.i64_quo _ _ (by omega)
      by_cases hov : 1125899906842624 / num < p
      · have hE : M < num ^ K := by
          have h1 : M < p * num := (mul_over (by omega)).1 hov
          have h2 := pow_mono (show 1 ≤ num by omega) (show i + 1 ≤ K by omega)
          rw [HPI.out] at h2
          omega
        have HE := Lib.hid (HO.out hE)
        have hd : decide (1125899906842624 / num < p) = true := decide_eq_true hov
        clear hE
        go_wp2_with fail
        go_quiet (fail)
        clear qq
        go_wp2_with fail
        exact bodyPost_ret (v := .tuple #[.agg #[.int .i64 0, .int .i64 0], .int .i64 2]) (by simp [results, Try.results17, go_sem, c10, c11]) rfl ⟨ret_p HE.out.2.1.symm HE.out.2.2.symm HE.out.1.symm, ((below_drewN hbw nq).setCell (by simp <;> omega) _).setCell (by simp <;> omega) _⟩
      · have hd : decide (1125899906842624 / num < p) = false := decide_eq_false hov
        have hle : p * num ≤ M := by
          have := (mul_over (p := p) (show 1 ≤ num by omega))
          have h2 : ¬ M < p * num := fun h => hov (this.2 h)
          omega
        have hpn : 1 ≤ p * num := by have := ppos (show 1 ≤ num by omega) (i + 1); rw [HPI.out] at this; exact this
        have hqn : 1 ≤ q * den := by have := ppos g1 (i + 1); rw [HQI.out] at this; exact this
        have hqn2 : q * den ≤ p * num := by have := pow_le_pow g1 g2 (i + 1); rw [HPI.out, HQI.out] at this; exact this
        have hle' : p * num ≤ 1125899906842624 := hle
        have HM2 : Hid (num ^ (i + 1) ≤ M) := Lib.hid (by rw [HPI.out]; exact hle)
        clear hle
        go_wp2_with fail
        go_quiet (fail)
        clear qq
        go_wp2_with fail
        go_roundw
        case rel =>
          refine ⟨i + 1, by omega, by go_num, ?_, ?_, ?_, HM2.out, ((below_drewN hbw nq).setCell (by simp <;> omega) _).setCell (by simp <;> omega) _⟩
          · exact ((HBB0.out.drewN nq).far (by simp <;> omega) _).far (by simp <;> omega) _
          · exact ((HBB1.out.drewN nq).far (by simp <;> omega) _).far (by simp <;> omega) _
          · have h9 := ((HBB2.out.drewN nq).set_ 0 (.int .i64 (p * num))).set_ 1 (.int .i64 (q * den))
            rw [HPI.out, HQI.out]
            simpa using h9
        case measure => simp [intOf]; omega
    · have hie : i = K := by omega
      have HE := Lib.hid (HK.out (by rw [← hie, ← HP.out]; exact hM'))
      have HE2 : Hid (powN num den K = p ∧ powD num den K = q) := Lib.hid ⟨by rw [HE.out.2.1, HP.out, hie], by rw [HE.out.2.2, HQ.out, hie]⟩
      clear hie
      go_wp2_with fail
      exact bodyPost_ret (v := .tuple #[.agg #[.int .i64 p, .int .i64 q], .int .i64 0]) (by simp [results, Try.results17, go_sem, c10, c11]) rfl ⟨ret_p HE2.out.1.symm HE2.out.2.symm HE.out.1.symm, (hbw.setCell (by simp <;> omega) _).setCell (by simp <;> omega) _⟩

set_option maxHeartbeats 2000000 in
set_option maxRecDepth 10000 in
theorem rpower_any (num den k : Int) (w : World) :
    Calls Try.prog 18 #[.agg #[.int .i64 num, .int .i64 den], .int .i64 k] w (RetP w (powN num den k) (powD num den k) (powE num den k)) := by
  by_cases hb : badP num den k
  · have HE := Lib.hid (pow_bad hb)
    have hcs : den < 1 ∨ (1 ≤ den ∧ num < den) ∨ (1 ≤ den ∧ den ≤ num ∧ 1000000 < num) ∨ (1 ≤ den ∧ den ≤ num ∧ num ≤ 1000000 ∧ k < 0) ∨ (1 ≤ den ∧ den ≤ num ∧ num ≤ 1000000 ∧ 512 < k) := by unfold badP at hb; omega
    clear hb
    rcases hcs with g1 | ⟨g1, g2⟩ | ⟨g1, g2, g3⟩ | ⟨g1, g2, g3, g4⟩ | ⟨g1, g2, g3, g4⟩
    · go_enter Try.func18, Try.ntmps18
      go_wp2_with fail
      exact bodyPost_ret (v := .tuple #[.agg #[.int .i64 0, .int .i64 0], .int .i64 1]) (by simp [results, Try.results18, go_sem]) rfl ⟨ret_p HE.out.2.1.symm HE.out.2.2.symm HE.out.1.symm, below_alloc ((Below.refl _ _).alloc (Nat.le_refl _) _) (Nat.le_refl _) _⟩
    · go_enter Try.func18, Try.ntmps18
      go_wp2_with fail
      exact bodyPost_ret (v := .tuple #[.agg #[.int .i64 0, .int .i64 0], .int .i64 1]) (by simp [results, Try.results18, go_sem]) rfl ⟨ret_p HE.out.2.1.symm HE.out.2.2.symm HE.out.1.symm, below_alloc ((Below.refl _ _).alloc (Nat.le_refl _) _) (Nat.le_refl _) _⟩
    · go_enter Try.func18, Try.ntmps18
      go_wp2_with fail
      exact bodyPost_ret (v := .tuple #[.agg #[.int .i64 0, .int .i64 0], .int .i64 1]) (by simp [results, Try.results18, go_sem]) rfl ⟨ret_p HE.out.2.1.symm HE.out.2.2.symm HE.out.1.symm, below_alloc ((Below.refl _ _).alloc (Nat.le_refl _) _) (Nat.le_refl _) _⟩
    · go_enter Try.func18, Try.ntmps18
      go_wp2_with fail
      exact bodyPost_ret (v := .tuple #[.agg #[.int .i64 0, .int .i64 0], .int .i64 1]) (by simp [results, Try.results18, go_sem]) rfl ⟨ret_p HE.out.2.1.symm HE.out.2.2.symm HE.out.1.symm, below_alloc ((Below.refl _ _).alloc (Nat.le_refl _) _) (Nat.le_refl _) _⟩
    · go_enter Try.func18, Try.ntmps18
      go_wp2_with fail
      exact bodyPost_ret (v := .tuple #[.agg #[.int .i64 0, .int .i64 0], .int .i64 1]) (by simp [results, Try.results18, go_sem]) rfl ⟨ret_p HE.out.2.1.symm HE.out.2.2.symm HE.out.1.symm, below_alloc ((Below.refl _ _).alloc (Nat.le_refl _) _) (Nat.le_refl _) _⟩
  have HNB := Lib.hid hb
  have g1 : 1 ≤ den := by unfold badP at hb; omega
  have g2 : den ≤ num := by unfold badP at hb; omega
  have g3 : num ≤ 1000000 := by unfold badP at hb; omega
  have g4 : 0 ≤ k := by unfold badP at hb; omega
  have g5 : k ≤ 512 := by unfold badP at hb; omega
  clear hb
  obtain ⟨K, rfl⟩ := Int.eq_ofNat_of_zero_le g4
  have HO : Hid (M < num ^ K → powE num den K = 2 ∧ powN num den K = 0 ∧ powD num den K = 0) := Lib.hid fun h => pow_over HNB.out h
  have HK : Hid (num ^ K ≤ M → powE num den K = 0 ∧ powN num den K = num ^ K ∧ powD num den K = den ^ K) := Lib.hid fun h => pow_ok HNB.out h
  have hs0 := (Blk.new w 36 #[.int .i64 num, .int .i64 den])
  have hB0 : Blk (((w.alloc (.cells #[.int .i64 num, .int .i64 den] 36)).alloc (.cells #[.int .i64 0, .int .i64 0] 36)).alloc (.cells #[.int .i64 1, .int .i64 1] 36)) w.heap.size 36 #[.int .i64 num, .int .i64 den] := ((Blk.new w 36 _).alloc _).alloc _
  have hB1 : Blk (((w.alloc (.cells #[.int .i64 num, .int .i64 den] 36)).alloc (.cells #[.int .i64 0, .int .i64 0] 36)).alloc (.cells #[.int .i64 1, .int .i64 1] 36)) (w.heap.size + 1) 36 #[.int .i64 0, .int .i64 0] := by have := (Blk.new (w.alloc (.cells #[.int .i64 num, .int .i64 den] 36)) 36 #[.int .i64 0, .int .i64 0]).alloc (.cells #[.int .i64 1, .int .i64 1] 36); simpa using this
  have hB2 : Blk (((w.alloc (.cells #[.int .i64 num, .int .i64 den] 36)).alloc (.cells #[.int .i64 0, .int .i64 0] 36)).alloc (.cells #[.int .i64 1, .int .i64 1] 36)) (w.heap.size + 2) 36 #[.int .i64 1, .int .i64 1] := by have := Blk.new ((w.alloc (.cells #[.int .i64 num, .int .i64 den] 36)).alloc (.cells #[.int .i64 0, .int .i64 0] 36)) 36 #[.int .i64 1, .int .i64 1]; simpa using this
  have HB0 := Lib.hid hB0
  have HB1 := Lib.hid hB1
  have HB2 := Lib.hid hB2
  clear hs0 hB0 hB1 hB2
  go_enter Try.func18, Try.ntmps18
  go_wp2_with fail
  go_loopw [7] (fun j wr => ∃ i : Nat, i ≤ K ∧ j = .int .i64 i ∧ Blk wr w.heap.size 36 #[.int .i64 num, .int .i64 den] ∧ Blk wr (w.heap.size + 1) 36 #[.int .i64 0, .int .i64 0] ∧ Blk wr (w.heap.size + 2) 36 #[.int .i64 (num ^ i), .int .i64 (den ^ i)] ∧ num ^ i ≤ M ∧ Below w.heap.size w wr) (fun j _ => K - (intOf j).toNat)
  case atStart => exact ⟨0, Nat.zero_le _, rfl, HB0.out, HB1.out, by simpa using HB2.out, by simp [M], below_alloc (below_alloc ((Below.refl _ _).alloc (Nat.le_refl _) _) (Nat.le_refl _) _) (Nat.le_refl _) _⟩
  case round =>
    obtain ⟨i, hi, rfl, hB0, hB1, hB2, hM, hbw⟩ := hrel
    have hp1 := ppos (show 1 ≤ num by omega) i
    have hq1 := ppos g1 i
    have hqp := pow_le_pow g1 g2 i
    have hpi := Int.pow_succ num i
    have hqi := Int.pow_succ den i
    obtain ⟨p, hp⟩ : ∃ p, p = num ^ i := ⟨_, rfl⟩
    obtain ⟨q, hq⟩ : ∃ q, q = den ^ i := ⟨_, rfl⟩
    rw [← hp] at hB2 hM hp1 hqp hpi
    rw [← hq] at hB2 hq1 hqp hqi
    have HP := Lib.hid hp
    have HQ := Lib.hid hq
    have HPI := Lib.hid hpi
    have HQI := Lib.hid hqi
    have hM' : p ≤ 1125899906842624 := hM
    have c00 := hB0.cell 0
    have c01 := hB0.cell 1
    have c10 := hB1.cell 0
    have c11 := hB1.cell 1
    have f10 := hB1.frozen 0
    have f11 := hB1.frozen 1
    have c20 := hB2.cell 0
    have c21 := hB2.cell 1
    have f20 := hB2.frozen 0
    have f21 := hB2.frozen 1
    have HBB0 := Lib.hid hB0
    have HBB1 := Lib.hid hB1
    have HBB2 := Lib.hid hB2
    clear hp hq hpi hqi hM hB0 hB1 hB2
    by_cases hlt : i < K
    · have qq : IntKind.i64.wrap ((1125899906842624 : Int).tdiv num) = 1125899906842624 / num := IntWalk.i64_quo _ _ (by omega)
      by_cases hov : 1125899906842624 / num < p
      · have hE : M < num ^ K := by
          have h1 : M < p * num := (mul_over (by omega)).1 hov
          have h2 := pow_mono (show 1 ≤ num by omega) (show i + 1 ≤ K by omega)
          rw [HPI.out] at h2
          omega
        have HE := Lib.hid (HO.out hE)
        have hd : decide (1125899906842624 / num < p) = true := decide_eq_true hov
        clear hE
        go_wp2_with fail
        go_quiet (fail)
        clear qq
        go_wp2_with fail
        exact bodyPost_ret (v := .tuple #[.agg #[.int .i64 0, .int .i64 0], .int .i64 2]) (by simp [results, Try.results18, go_sem, c10, c11]) rfl ⟨ret_p HE.out.2.1.symm HE.out.2.2.symm HE.out.1.symm, ((below_drewN hbw nq).setCell (by simp <;> omega) _).setCell (by simp <;> omega) _⟩
      · have hd : decide (1125899906842624 / num < p) = false := decide_eq_false hov
        have hle : p * num ≤ M := by
          have := (mul_over (p := p) (show 1 ≤ num by omega))
          have h2 : ¬ M < p * num := fun h => hov (this.2 h)
          omega
        have hpn : 1 ≤ p * num := by have := ppos (show 1 ≤ num by omega) (i + 1); rw [HPI.out] at this; exact this
        have hqn : 1 ≤ q * den := by have := ppos g1 (i + 1); rw [HQI.out] at this; exact this
        have hqn2 : q * den ≤ p * num := by have := pow_le_pow g1 g2 (i + 1); rw [HPI.out, HQI.out] at this; exact this
        have hle' : p * num ≤ 1125899906842624 := hle
        have HM2 : Hid (num ^ (i + 1) ≤ M) := Lib.hid (by rw [HPI.out]; exact hle)
        clear hle
        go_wp2_with fail
        go_quiet (fail)
        clear qq
        go_wp2_with fail
        go_roundw
        case rel =>
          refine ⟨i + 1, by omega, by go_num, ?_, ?_, ?_, HM2.out, ((below_drewN hbw nq).setCell (by simp <;> omega) _).setCell (by simp <;> omega) _⟩
          · exact ((HBB0.out.drewN nq).far (by simp <;> omega) _).far (by simp <;> omega) _
          · exact ((HBB1.out.drewN nq).far (by simp <;> omega) _).far (by simp <;> omega) _
          · have h9 := ((HBB2.out.drewN nq).set_ 0 (.int .i64 (p * num))).set_ 1 (.int .i64 (q * den))
            rw [HPI.out, HQI.out]
            simpa using h9
        case measure => simp [intOf]; omega
    · have hie : i = K := by omega
      have HE := Lib.hid (HK.out (by rw [← hie, ← HP.out]; exact hM'))
      have HE2 : Hid (powN num den K = p ∧ powD num den K = q) := Lib.hid ⟨by rw [HE.out.2.1, HP.out, hie], by rw [HE.out.2.2, HQ.out, hie]⟩
      clear hie
      go_wp2_with fail
      exact bodyPost_ret (v := .tuple #[.agg #[.int .i64 p, .int .i64 q], .int .i64 0]) (by simp [results, Try.results18, go_sem, c10, c11]) rfl ⟨ret_p HE2.out.1.symm HE2.out.2.symm HE.out.1.symm, (hbw.setCell (by simp <;> omega) _).setCell (by simp <;> omega) _⟩
end Go.Proofs.Ytdfmngnhmiemgaa
