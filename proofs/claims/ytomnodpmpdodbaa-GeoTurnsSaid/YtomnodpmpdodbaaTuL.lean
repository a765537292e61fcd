/- A polygon with another first corner, turned, or in the opposite order: what Check, Area and Inside answer. -/
import Derived.Test.YtomnodpmpdodbaaTuK
namespace Go.Proofs.Ytomnodpmpdodbaa
def negW (x : Int) : Int := IntKind.i64.wrap (-x)
def tn (t : Bool) (x : Pt) : Pt := if t then (negW x.2, x.1) else x
def turnedL (p : List Pt) (k : Nat) (t : Bool) : List Pt := (List.range p.length).map fun i => tn t (pAt p ((i + k) % p.length))
def Rg (x : Pt) : Prop := -9223372036854775808 ≤ x.2 ∧ x.2 ≤ 9223372036854775807
theorem turned_len (p : List Pt) (k : Nat) (t : Bool) : (turnedL p k t).length = p.length := by simp [turnedL]
theorem turned_PP {p : List Pt} (hn : 0 < p.length) (k : Nat) (t : Bool) (i : Nat) : PP (turnedL p k t) i = tn t (PP p (i + k)) := by
  unfold PP
  rw [turned_len, pAt_get (by rw [turned_len]; exact Nat.mod_lt _ hn)]
  simp [turnedL, Nat.mod_add_mod]
theorem negW_wrap {x : Int} (h : -9223372036854775808 ≤ x ∧ x ≤ 9223372036854775807) : negW x = -x ∨ (x = -9223372036854775808 ∧ negW x = -9223372036854775808) := by
  by_cases e : x = -9223372036854775808
  · subst e; exact .inr ⟨rfl, by rfl⟩
  · exact .inl (wr_ (by omega))
theorem ok_tn (t : Bool) {x : Pt} (h : Rg x) : okP (tn t x) = okP x := by
  cases t with
  | false => rfl
  | true =>
    unfold okP tn
    refine decide_eq_decide.2 ?_
    simp only [if_true]
    rcases negW_wrap h with e | ⟨e1, e2⟩
    · rw [e]; omega
    · rw [e2]; omega
theorem tn_J {x : Pt} (h : okP x = true) : tn true x = JJ x := by
  obtain ⟨_, _, h3, h4⟩ := okP_t h
  unfold tn JJ
  simp only [if_true]
  rw [show negW x.2 = -x.2 from wr_ (by omega)]
section
variable {p : List Pt}
theorem turned_all (hn : 0 < p.length) (hr : ∀ x ∈ p, Rg x) (k : Nat) (t : Bool) : (turnedL p k t).all okP = p.all okP := by
  have hR : ∀ i, Rg (PP p i) := fun i => hr _ (by unfold PP; rw [pAt_get (Nat.mod_lt _ hn)]; exact List.getElem_mem _)
  refine bool_iff ?_
  rw [all_PP hn, all_PP (by rw [turned_len]; exact hn)]
  constructor
  · intro hq i
    have h3 : k ≤ p.length * k := Nat.le_mul_of_pos_left k hn
    have := hq (i + (p.length * k - k))
    rw [turned_PP hn, show i + (p.length * k - k) + k = i + p.length * k by omega, per_mul (PP_per p), ok_tn t (hR _)] at this
    exact this
  · intro hp i
    rw [turned_PP hn, ok_tn t (hR _)]; exact hp _
theorem turned_J (hn : 0 < p.length) (hok : p.all okP = true) (k : Nat) (i : Nat) : PP (turnedL p k true) i = JJ (PP (turnedL p k false) i) := by
  rw [turned_PP hn, turned_PP hn, tn_J (PP_ok hn hok _)]; rfl
theorem turned_F (hn : 0 < p.length) (k : Nat) (i : Nat) : PP (turnedL p k false) i = PP p (i + k) := turned_PP hn k false i
theorem turned_check (hr : ∀ x ∈ p, Rg x) (k : Nat) (t : Bool) : checkZ (turnedL p k t) = checkZ p := by
  rcases Nat.eq_zero_or_pos p.length with h0 | hn
  · obtain rfl := List.eq_nil_of_length_eq_zero h0
    rfl
  · cases hok : p.all okP with
    | false =>
      unfold checkZ
      rw [turned_all hn hr, turned_len, hok, if_pos rfl, if_pos rfl]
    | true =>
      have h1 := check_shift hn (turned_len p k false) (turned_F hn k)
      cases t with
      | false => exact h1
      | true =>
        rw [← h1]
        exact check_J (by rw [turned_len]; exact hn) (by rw [turned_len, turned_len]) (turned_J hn hok k)
theorem turned_area (hr : ∀ x ∈ p, Rg x) (k : Nat) (t : Bool) : areaZ (turnedL p k t) = areaZ p := by
  unfold areaZ
  rw [turned_check hr]
  by_cases h : checkZ p = 0
  · rw [if_pos h, if_pos h]
    obtain ⟨h1, hok, _, _⟩ := check_inv h
    have hn : 0 < p.length := by omega
    have e1 := twice_shift (turned_len p k false) (turned_F hn k)
    cases t with
    | false => exact e1
    | true => rw [← e1]; exact twice_J (by rw [turned_len, turned_len]) (turned_J hn hok k)
  · rw [if_neg h, if_neg h]
theorem turned_insE (hr : ∀ x ∈ p, Rg x) (k : Nat) (t : Bool) {a : Pt} (ha : Rg a) : insE (turnedL p k t) (tn t a) = insE p a := by
  unfold insE
  rw [turned_check hr, ok_tn t ha]
theorem turned_insZ (hr : ∀ x ∈ p, Rg x) (k : Nat) (t : Bool) {a : Pt} (ha : Rg a) : insZ (turnedL p k t) (tn t a) = insZ p a := by
  unfold insZ
  rw [turned_insE hr k t ha]
  by_cases h : insE p a = 0
  · rw [if_pos h, if_pos h]
    obtain ⟨h0, h2⟩ := insE_inv h
    obtain ⟨h1, hok, _, _⟩ := check_inv h0
    have hn : 0 < p.length := by omega
    have e1 := where_shift hn (turned_len p k false) (turned_F hn k) a
    cases t with
    | false => exact e1
    | true => rw [← e1, tn_J h2]; exact where_J (by rw [turned_len]; exact hn) (by rw [turned_len, turned_len]) (turned_J hn hok k) a
  · rw [if_neg h, if_neg h]
theorem rev_PP (hn : 0 < p.length) {i s M : Nat} (h : i + s + 1 = p.length * M) : PP p.reverse i = PP p s := by
  unfold PP
  rw [List.length_reverse]
  have h1 : i % p.length < p.length := Nat.mod_lt _ hn
  have h2 : s % p.length < p.length := Nat.mod_lt _ hn
  rw [pAt_get h2, pAt_get (by rw [List.length_reverse]; exact h1), List.getElem_reverse]
  congr 1
  have e1 := Nat.div_add_mod i p.length
  have e2 := Nat.div_add_mod s p.length
  generalize hx : i % p.length = x at *
  generalize hy : s % p.length = y at *
  generalize i / p.length = u at *
  generalize s / p.length = v at *
  have hd : p.length * M = p.length * (u + v) + (x + y + 1) := by rw [Nat.mul_add]; omega
  have : M = u + v + 1 := by
    have l1 : u + v < M := Nat.lt_of_mul_lt_mul_left (a := p.length) (by omega)
    have l2 : M < u + v + 2 := Nat.lt_of_mul_lt_mul_left (a := p.length) (by rw [hd, Nat.mul_add _ (u + v) 2]; omega)
    omega
  rw [this, Nat.mul_add _ (u + v) 1] at hd
  omega
theorem sm_rev (hn : 3 ≤ p.length) (h : Sm (PP p) p.length) : Sm (PP p.reverse) p.length := by
  refine sm_back h fun i => ?_
  have h0 : i ≤ p.length * i := Nat.le_mul_of_pos_left i (by omega)
  have h1 : p.length * (i + 4) = p.length * i + p.length * 4 := Nat.mul_add _ _ _
  refine ⟨p.length * (i + 4) - (i + p.length + 3), ?_, ?_, ?_, fun k hk => ⟨?_, ?_⟩⟩
  all_goals exact rev_PP (by omega) (M := i + 4) (by omega)
theorem rev_simple (hn : 3 ≤ p.length) : simpleB (edgesL p.reverse) = simpleB (edgesL p) := by
  have hr : 3 ≤ p.reverse.length := by rw [List.length_reverse]; exact hn
  refine bool_iff ?_
  rw [sm_iff hn, sm_iff hr]
  constructor
  · intro h
    have := sm_rev hr h
    rwa [List.reverse_reverse, List.length_reverse] at this
  · intro h
    rw [List.length_reverse]
    exact sm_rev hn h
theorem sumZ_bk (f : Nat → Int) : ∀ n, sumZ (fun i => f (n - 1 - i)) n = sumZ f n
  | 0 => rfl
  | n + 1 => by
    rw [sumZ_front]
    have := sumZ_bk f n
    rw [show sumZ f (n + 1) = sumZ f n + f n from rfl, ← this, Int.add_comm]
    congr 1
    exact sumZ_congr fun i _ => by rw [show n + 1 - 1 - (i + 1) = n - 1 - i by omega]
theorem twice_rev (hn : 0 < p.length) : twiceZ p.reverse = -twiceZ p := by
  rw [twice_cr, twice_cr, List.length_reverse]
  have hper : ∀ i, cr (PP p (i + p.length)) (PP p (i + p.length + 1)) = cr (PP p i) (PP p (i + 1)) := fun i => by rw [PP_per, show i + p.length + 1 = i + 1 + p.length by omega, PP_per]
  have h1 := sumZ_shift (f := fun i => cr (PP p i) (PP p (i + 1))) hper (p.length - 1)
  rw [← h1, ← sumZ_bk (fun k => cr (PP p (p.length - 1 + k)) (PP p (p.length - 1 + k + 1))), ← Int.neg_one_mul, ← sumZ_mul]
  refine sumZ_congr fun i hi => ?_
  rw [rev_PP hn (i := i) (s := p.length - 1 + (p.length - 1 - i) + 1) (M := 2) (by omega), rev_PP hn (i := i + 1) (s := p.length - 1 + (p.length - 1 - i)) (M := 2) (by omega), cr_anti]
  omega
/-- The opposite order. -/
theorem rev_law (p : List Pt) : (checkZ p = 0 → checkZ p.reverse = 9 ∧ 0 < areaZ p) ∧ (checkZ p = 9 → checkZ p.reverse = 0 ∧ areaZ p = 0) ∧ (checkZ p ≠ 0 → checkZ p ≠ 9 → checkZ p.reverse = checkZ p ∧ areaZ p = 0) := by
  by_cases h1 : p.length < 3 ∨ 32 < p.length
  · have e := check_len h1
    have e2 : checkZ p.reverse = 3 := check_len (by rw [List.length_reverse]; exact h1)
    refine ⟨fun h => by omega, fun h => by omega, fun h _ => ⟨by omega, if_neg h⟩⟩
  have h1' : ¬ (p.reverse.length < 3 ∨ 32 < p.reverse.length) := by rw [List.length_reverse]; exact h1
  cases hok : p.all okP with
  | false =>
    have e := check_range h1 hok
    have e2 : checkZ p.reverse = 1 := check_range h1' (by rw [List.all_reverse]; exact hok)
    exact ⟨fun h => by omega, fun h => by omega, fun h _ => ⟨by omega, if_neg h⟩⟩
  | true =>
    have hok' : p.reverse.all okP = true := by rw [List.all_reverse]; exact hok
    have hsr := rev_simple (p := p) (by omega)
    cases hs : simpleB (edgesL p) with
    | false =>
      have e := check_cross h1 hok hs
      have e2 := check_cross h1' hok' (by rw [hsr]; exact hs)
      exact ⟨fun h => by omega, fun h => by omega, fun h _ => ⟨by omega, if_neg h⟩⟩
    | true =>
      have hs' : simpleB (edgesL p.reverse) = true := by rw [hsr]; exact hs
      have hne := twice_ne (by omega) hs hok
      have ht := twice_rev (p := p) (by omega)
      by_cases h2 : twiceZ p < 0
      · have e := check_order h1 hok hs h2
        have e2 := check_ok h1' hok' hs' (by omega)
        exact ⟨fun h => by omega, fun h => ⟨e2, if_neg (by omega)⟩, fun _ h => by omega⟩
      · have e := check_ok h1 hok hs h2
        have e2 := check_order h1' hok' hs' (by omega)
        exact ⟨fun h => ⟨e2, by unfold areaZ; rw [if_pos h]; omega⟩, fun h => by omega, fun h _ => by omega⟩
end
end Go.Proofs.Ytomnodpmpdodbaa
