/- The walks of the reference's Find, Add and New and of the statement's few: lists of strings. -/
import Derived.Test.YteifmkpibgjkoaaValid
import Derived.Test.YteifmkpibgjkoaaNames
namespace Go.Proofs.Yteifmkpibgjkoaa
open Go.RowKit

/-- The cells of a list of strings. -/
abbrev strs (l : List ByteArray) : List Value := l.map Value.string
theorem strs_at {l : List ByteArray} {k : Nat} {u : Value} (h : (strs l)[k]? = some u) (hk : k < l.length) : u = .string l[k] := by
  rw [List.getElem?_map, List.getElem?_eq_getElem hk] at h
  exact (Option.some.inj h).symm
theorem reads_len {w : World} {B : Nat} {A : Option Addr} {n : Nat} {l : List ByteArray} (h : Reads w B 1 A n (strs l)) : l.length = n := by simpa using h.1

set_option maxHeartbeats 400000 in
theorem find_any (A : Option Addr) (n c : Nat) (l : List ByteArray) (s : ByteArray) (B : Nat) (w : World) (hr : Reads w B 1 A n (strs l)) (hn : n ≤ 100000) :
    Calls Try.prog 24 #[.slice A n c, .string s] w fun e w' => e = .returned (.int .i64 (findI l s)) ∧ w = w' := by
  have hl := reads_len hr
  have HL := Lib.hid hl
  clear hl
  go_enter Try.func24, Try.ntmps24
  go_wp2_with fail
  go_loop [5] (fun i => ∃ k : Nat, k ≤ n ∧ i = .int .i64 k ∧ ∀ j (hj : j < l.length), j < k → eqS l[j] s = false) (fun i => n - (intOf i).toNat)
  case atStart => exact ⟨0, Nat.zero_le _, rfl, fun _ _ h => absurd h (Nat.not_lt_zero _)⟩
  case round =>
    obtain ⟨k, hk, rfl, hno⟩ := hrel
    have HN := Lib.hid hno
    clear hno
    by_cases hlt : k < n
    · obtain ⟨ad, u, rfl, hb, hx, hc⟩ := hr.at_ hlt
      have hkl : k < l.length := by have := HL.out; omega
      obtain rfl := strs_at hx hkl
      clear hx
      rcases he : eqS l[k] s with _ | _
      · have he' : (l[k].toList == s.toList) = false := by rw [eqS_walk]; exact he
        have HE := Lib.hid he
        clear he
        go_wp2_with fail
        go_round
        case rel =>
          refine ⟨k + 1, by omega, by go_num, fun j hj hjk => ?_⟩
          rcases Nat.lt_or_eq_of_le (Nat.lt_succ_iff.1 hjk) with h' | rfl
          · exact HN.out j hj h'
          · exact HE.out
        case measure => simp [intOf]; omega
      · have he' : (l[k].toList == s.toList) = true := by rw [eqS_walk]; exact he
        have HE := Lib.hid he
        clear he
        have HF := Lib.hid (findI_some (posOf_some hkl HE.out fun j hj => HN.out j (by omega) hj))
        go_wp2_with fail
        go_ret
        exact ⟨ret_int HF.out.symm, rfl⟩
    · have HF := Lib.hid (findI_none (posOf_none fun j hj => HN.out j hj (by have := HL.out; omega)))
      go_wp2_with fail
      go_ret
      exact ⟨ret_int HF.out.symm, rfl⟩

/-- few -/
def fewB (l : List ByteArray) : Bool := decide (∀ s ∈ l, s.size ≤ 100) && decide (l.length ≤ 60)

set_option maxHeartbeats 400000 in
theorem few_any (A : Option Addr) (n c : Nat) (l : List ByteArray) (B : Nat) (w : World) (hr : Reads w B 1 A n (strs l)) (hn : n ≤ maxLen) :
    Calls Try.prog 13 #[.slice A n c] w fun e w' => e = .returned (.bool (fewB l)) ∧ w = w' := by
  unfold maxLen at hn
  have HL := Lib.hid (reads_len hr)
  have HT : Hid ((∀ j (hj : j < l.length), l[j].size ≤ 100) → fewB l = decide (n ≤ 60)) := fun h => by
    have : decide (∀ s ∈ l, s.size ≤ 100) = true := decide_eq_true fun s hs => by obtain ⟨j, hj, rfl⟩ := List.getElem_of_mem hs; exact h j hj
    rw [fewB, this, HL.out]; rfl
  have HF : Hid (∀ j (hj : j < l.length), 100 < l[j].size → fewB l = false) := fun j hj h => by
    have : decide (∀ s ∈ l, s.size ≤ 100) = false := decide_eq_false fun a => by have := a l[j] (List.getElem_mem hj); omega
    rw [fewB, this]; rfl
  go_enter Try.func13, Try.ntmps13
  go_wp2_with fail
  go_loop [3] (fun i => ∃ k : Nat, k ≤ n ∧ i = .int .i64 k ∧ ∀ j (hj : j < l.length), j < k → l[j].size ≤ 100) (fun i => n - (intOf i).toNat)
  case atStart => exact ⟨0, Nat.zero_le _, rfl, fun _ _ h => absurd h (Nat.not_lt_zero _)⟩
  case round =>
    obtain ⟨k, hk, rfl, hno⟩ := hrel
    have HN := Lib.hid hno
    clear hno
    by_cases hlt : k < n
    · obtain ⟨ad, u, rfl, hb, hx, hc⟩ := hr.at_ hlt
      have hkl : k < l.length := by have := HL.out; omega
      obtain rfl := strs_at hx hkl
      clear hx
      by_cases h1 : l[k].size ≤ 100
      · go_wp2_with fail
        go_round
        case rel =>
          refine ⟨k + 1, by omega, by go_num, fun j hj hjk => ?_⟩
          rcases Nat.lt_or_eq_of_le (Nat.lt_succ_iff.1 hjk) with h' | rfl
          · exact HN.out j hj h'
          · exact h1
        case measure => simp [intOf]; omega
      · have HE := Lib.hid (HF.out k hkl (by omega))
        go_wp2_with fail
        go_ret
        exact ⟨ret_bool HE.out.symm, rfl⟩
    · have HE := Lib.hid (HT.out fun j hj => HN.out j hj (by have := HL.out; omega))
      by_cases h6 : n ≤ 60
      all_goals
        go_wp2_with fail
        go_ret
        exact ⟨ret_bool (by rw [HE.out]; simp <;> omega), rfl⟩

/-! The reference's Add. -/
theorem Try.info9 : (Try.prog.info? 9).map (fun i => (i.zero, i.size, i.bytes)) = some (some (.string ByteArray.empty), 1, 16) := by kernel_rfl
theorem one_strs (l : List ByteArray) : ∀ u ∈ strs l, u.oneCell' = true := by
  intro u hu
  obtain ⟨s, _, rfl⟩ := List.mem_map.1 hu
  rfl

/-- A slice that lies in a block of G, or in a new one, and an error number. -/
def RetIn (w : World) (G : Nat → Prop) (size : Nat) (xs : List Value) (err : Int) (e : Ending) (w' : World) : Prop :=
  ∃ A n c, e = .returned (.tuple #[.slice A n c, .int .i64 err]) ∧ RIn w' (fun k => G k ∨ w.heap.size ≤ k) size A n xs ∧ Below w.heap.size w w'
set_option maxHeartbeats 400000 in
set_option maxRecDepth 10000 in
theorem radd_in (G : Nat → Prop) (A : Option Addr) (n c : Nat) (l : List ByteArray) (s : ByteArray) (w : World) (hg : RIn w G 1 A n (strs l)) (hn : n ≤ 100000) (hs : s.size ≤ maxLen) :
    Calls Try.prog 18 #[.slice A n c, .string s] w (RetIn w G 1 (strs (addL l s)) (addE l s)) := by
  have hr := hg.reads
  have HG := Lib.hid hg
  clear hg
  have HL := Lib.hid (reads_len hr)
  obtain ⟨i0, hi, hz0, hz1, hz2⟩ := info_parts Try.info9
  rcases hv : validS s with _ | _
  · have H1 := Lib.hid (addE_name (l := l) hv)
    have H2 : Hid (addL l s = l) := addL_no (by rw [H1.out]; decide)
    go_enter Try.func18, Try.ntmps18
    go_wp2_with (go_at_call 12; refine (rvalid_any _ hs _).mono ?_; rintro e w' ⟨rfl, nq, rfl⟩)
    go_ret2
    exact ⟨A, n, c, ret_se H1.out.symm, by rw [H2.out]; exact (HG.out.drewN nq).mono fun _ _ h => .inl h, below_drewN (Below.refl _ _) nq⟩
  rcases hp : posOf l s with _ | i
  · have HP := Lib.hid (findI_none hp)
    by_cases hf : 512 ≤ n
    · have H1 : Hid (addE l s = 8) := addE_full hv hp (by rw [HL.out]; exact hf)
      have H2 : Hid (addL l s = l) := addL_no (by rw [H1.out]; decide)
      clear hp
      go_enter Try.func18, Try.ntmps18
      go_wp2_with fail
      refine (rvalid_any _ hs _).mono ?_
      rintro e w' ⟨rfl, nq, rfl⟩
      go_wp2_with fail
      refine (find_any A n c l s w.heap.size _ (hr.drewN _) hn).mono ?_
      rw [HP.out]
      rintro e w' ⟨rfl, rfl⟩
      go_wp2_with fail
      go_ret2
      exact ⟨A, n, c, ret_se H1.out.symm, by rw [H2.out]; exact (HG.out.drewN nq).mono fun _ _ h => .inl h, below_drewN (Below.refl _ _) nq⟩
    · have H1 : Hid (addE l s = 0) := addE_ok hv hp (by rw [HL.out]; omega)
      have H2 : Hid (addL l s = l ++ [s]) := addL_ok H1.out
      clear hp
      go_enter Try.func18, Try.ntmps18
      go_wp2_with fail
      refine (rvalid_any _ hs _).mono ?_
      rintro e w' ⟨rfl, nq, rfl⟩
      go_wp2_with fail
      refine (find_any A n c l s w.heap.size _ (hr.drewN _) hn).mono ?_
      rw [HP.out]
      rintro e w' ⟨rfl, rfl⟩
      go_wp2_with (first
        | (at_builtin
           refine wpList_append_any _ rfl (.tmp 19) (.tmp 20) _ rfl w.heap.size 9 i0 _ 1 16 Try.underlying24 hi hz0 hz1 hz2 rfl (by omega) (.slice (some ⟨w.heap.size, 0, none⟩) 0 0) 0 [] rfl (World.ownsRow_made (size := 1) (w.drewN nq) #[] 0 (Nat.le_refl _) (Nat.zero_le _) rfl) w.heap.size A n c (strs l) rfl ((hr.drewN nq).alloc (Nat.le_refl _) _) (one_strs l) (by simp only [maxLen]; omega) (by omega) (by simp) ?_
           intro v1 w1 hown1 hg1 hat1
           simp only [Nat.zero_add, List.nil_append] at hown1)
        | (at_builtin
           refine wpList_append_any _ rfl (.tmp 21) (.tmp 23) _ rfl w.heap.size 9 i0 _ 1 16 Try.underlying24 hi hz0 hz1 hz2 rfl (by omega) v1 n (strs l) rfl (hown1.alloc _) (w1.heap.size + 1) (some ⟨w1.heap.size, 0, none⟩) 1 1 (strs [s]) rfl ?_ (one_strs [s]) (by simp only [maxLen]; omega) (by omega) ?_ ?_
           rotate_right
           intro v2 w2 hown2 hg2 hat2))
      · obtain ⟨A', c', rfl, _⟩ := own_reads hown2
        have hr2 := RIn.of_own hown2
        go_ret2
        refine ⟨A', n + 1, c', ret_se H1.out.symm, by rw [H2.out]; have := hr2.mono (G' := fun k => G k ∨ w.heap.size ≤ k) fun _ _ h => .inr h; simpa [strs] using this, ?_⟩
        have b1 : Below w.heap.size w w1 := below_own ((below_drewN (Below.refl _ _) nq).alloc (Nat.le_refl _) _) (World.ownsRow_made (size := 1) (w.drewN nq) #[] 0 (Nat.le_refl _) (Nat.zero_le _) rfl) hg1 (by simp) (Nat.le_refl _)
        exact below_own (b1.alloc b1.size _) (hown1.alloc _) hg2 (by have := b1.size; simp; omega) (Nat.le_refl _)
      · exact Reads.fresh w1 9 #[.string s] 1 1 rfl
      · have := hg1.size; simp at this ⊢; omega
  · have H1 : Hid (addE l s = 6) := addE_twice hv (by rw [hp]; rfl)
    have H2 : Hid (addL l s = l) := addL_no (by rw [H1.out]; decide)
    have HP := Lib.hid (findI_some hp)
    clear hp
    go_enter Try.func18, Try.ntmps18
    go_wp2_with fail
    refine (rvalid_any _ hs _).mono ?_
    rintro e w' ⟨rfl, nq, rfl⟩
    go_wp2_with fail
    refine (find_any A n c l s w.heap.size _ (hr.drewN _) hn).mono ?_
    rw [HP.out]
    rintro e w' ⟨rfl, rfl⟩
    go_wp2_with fail
    go_ret2
    exact ⟨A, n, c, ret_se H1.out.symm, by rw [H2.out]; exact (HG.out.drewN nq).mono fun _ _ h => .inl h, below_drewN (Below.refl _ _) nq⟩

theorem radd_any (A : Option Addr) (n c : Nat) (l : List ByteArray) (s : ByteArray) (w : World) (hr : Reads w w.heap.size 1 A n (strs l)) (hn : n ≤ 100000) (hs : s.size ≤ maxLen) :
    Calls Try.prog 18 #[.slice A n c, .string s] w (RetSE w 1 (strs (addL l s)) (addE l s)) :=
  (radd_in _ A n c l s w (RIn.of_reads hr (Nat.le_refl _)) hn hs).mono fun _ _ ⟨A', n', c', he, h, hb⟩ => ⟨A', n', c', he, h.reads, hb⟩

/-! The reference's New. -/

def newL (l : List ByteArray) : List ByteArray := if newE [] l = 0 then l else []
set_option maxHeartbeats 400000 in
set_option maxRecDepth 10000 in
theorem rnew_any (A : Option Addr) (n c : Nat) (l : List ByteArray) (w : World) (hr : Reads w w.heap.size 1 A n (strs l)) (hn : n ≤ 90000) (hs : ∀ s ∈ l, s.size ≤ maxLen) :
    Calls Try.prog 15 #[.slice A n c] w (RetSE w 1 (strs (newL l)) (newE [] l)) := by
  have HL := Lib.hid (reads_len hr)
  have HS := Lib.hid hs
  clear hs
  go_enter Try.func15, Try.ntmps15
  go_wp2_with fail
  go_loopw [4, 5] (fun o i wr => ∃ (k : Nat) (A' : Option Addr) (n' c' : Nat), k ≤ n ∧ i = .int .i64 k ∧ o = .slice A' n' c' ∧ Reads wr wr.heap.size 1 A' n' (strs (l.take k)) ∧ fits l k ∧ Below w.heap.size w wr) (fun _ i _ => n - (intOf i).toNat)
  case atStart => exact ⟨0, none, 0, 0, Nat.zero_le _, rfl, rfl, Reads.none_, fits_zero l, Below.refl _ _⟩
  case round =>
    obtain ⟨k, A', n', c', hk, rfl, rfl, hr', hf, hbw⟩ := hrel
    have HF := Lib.hid hf
    clear hf
    by_cases hlt : k < n
    · obtain ⟨ad, u, rfl, hb, hx, hc⟩ := (hr.below hbw).at_ hlt
      have hkl : k < l.length := by have := HL.out; omega
      obtain rfl := strs_at hx hkl
      clear hx
      have HN : Hid (n' = k) := by have := reads_len hr'; rw [List.length_take] at this; unfold Hid; omega
      have hn' : n' ≤ 100000 := by have := HN.out; omega
      have hsz : l[k].size ≤ maxLen := HS.out _ (List.getElem_mem hkl)
      have HSZ := Lib.hid hsz
      clear hsz
      by_cases he : addE (l.take k) l[k] = 0
      · have HE := Lib.hid he
        have HA := Lib.hid (addL_ok he)
        have he' := ne0_f he
        clear he
        go_wp2_with fail
        refine (radd_any A' n' c' (l.take k) l[k] wr hr' hn' HSZ.out).mono ?_
        rintro e w1 ⟨A2, n2, c2, rfl, hr2, hb2⟩
        go_wp2_with fail
        go_roundw
        case rel => exact ⟨k + 1, A2, n2, c2, by omega, by go_num, rfl, by rw [List.take_succ_eq_append_getElem hkl, ← HA.out]; exact hr2, fits_succ hkl HF.out HE.out, hbw.trans (hb2.mono hbw.size)⟩
        case measure => simp [intOf]; omega
      · have HE := Lib.hid (newE_bad hkl HF.out he)
        have HZ : Hid (newL l = []) := by rw [newL, HE.out]; exact if_neg he
        have he' := ne0_t he
        clear he
        go_wp2_with fail
        refine (radd_any A' n' c' (l.take k) l[k] wr hr' hn' HSZ.out).mono ?_
        rintro e w1 ⟨A2, n2, c2, rfl, hr2, hb2⟩
        go_wp2_with fail
        go_ret2
        exact ⟨none, 0, 0, ret_se HE.out.symm, by rw [HZ.out]; exact Reads.none_, hbw.trans (hb2.mono hbw.size)⟩
    · have HK : Hid (k = l.length) := by have := HL.out; unfold Hid; omega
      have HE := Lib.hid (newE_ok (HK.out ▸ HF.out))
      have HZ : Hid (newL l = l) := by rw [newL, HE.out]; exact if_pos rfl
      go_wp2_with fail
      go_ret2
      exact ⟨A', n', c', ret_se HE.out.symm, by rw [HZ.out]; have := hr'; rw [HK.out, List.take_length] at this; exact this, hbw⟩
end Go.Proofs.Yteifmkpibgjkoaa
