/- The reference's desk: what it holds; the walks of at, of, Next, Open, Settled, Refused, New. -/
import Derived.Test.YtakjdffebpcmnaaLawsD
import Derived.Test.YtakjdffebpcmnaaChain
namespace Go.Proofs.Ytakjdffebpcmnaa
open Go.RowKit Go.Maps
/-- The reference's number of a state. -/
def stR (s : Int) : Int := if s = 0 then 33 else if s = 1 then 0 else if s = 2 then 21 else 22
theorem stR_lost (s : Int) : stR s = 33 ↔ s = 0 := by unfold stR; (repeat' split) <;> omega
theorem stR_ok (s : Int) : stR s = 0 ↔ s = 1 := by unfold stR; (repeat' split) <;> omega
theorem stR_diff (s : Int) : stR s = 21 ↔ s = 2 := by unfold stR; (repeat' split) <;> omega
def rdP (l : List En) : List P3 := l.map (·.1)
def rdT (l : List En) : List Int := l.map (·.2.2)
def rdS (l : List En) : List Int := l.map fun x => stR x.2.1
theorem rdP_len (l : List En) : (rdP l).length = l.length := by simp [rdP]
theorem rdT_len (l : List En) : (rdT l).length = l.length := by simp [rdT]
theorem rdS_len (l : List En) : (rdS l).length = l.length := by simp [rdS]
theorem rdP_at {l : List En} {k : Nat} (hk : k < l.length) : (rdP l)[k]'(by rw [rdP_len]; exact hk) = l[k].1 := by simp [rdP]
theorem rdT_get {l : List En} {k : Nat} (hk : k < l.length) : (ints (rdT l))[k]? = some (.int .i64 l[k].2.2) := by simp [ints, rdT, hk]
theorem rdS_get {l : List En} {k : Nat} (hk : k < l.length) : (ints (rdS l))[k]? = some (.int .i64 (stR l[k].2.1)) := by simp [ints, rdS, hk]
def idxR (P : List P3) (r : Int) : Int := match P.findIdx? (fun x => decide (x.1 = r)) with | some i => i | none => -1
theorem idxR_at {P : List P3} {r : Int} {k : Nat} (hk : k < P.length) (h : P[k].1 = r) (hb : ∀ j (hj : j < P.length), j < k → P[j].1 ≠ r) : idxR P r = k := by
  unfold idxR
  rw [List.findIdx?_eq_some_iff_getElem.2 ⟨hk, decide_eq_true h, fun j hj => by simpa using hb j (by omega) hj⟩]
theorem idxR_no {P : List P3} {r : Int} (hb : ∀ j (hj : j < P.length), P[j].1 ≠ r) : idxR P r = -1 := by
  unfold idxR
  have : P.findIdx? (fun x => decide (x.1 = r)) = none := by
    rw [List.findIdx?_eq_none_iff]
    intro x hx
    obtain ⟨j, hj, rfl⟩ := List.getElem_of_mem hx
    exact decide_eq_false (hb j hj)
  rw [this]
theorem idx_rdP (l : List En) (r : Int) : (rdP l).findIdx? (fun x => decide (x.1 = r)) = idx l r := by
  unfold rdP idx
  rw [List.findIdx?_map]
  rfl
theorem idxR_none {l : List En} {r : Int} (h : idx l r = none) : idxR (rdP l) r = -1 := by unfold idxR; rw [idx_rdP, h]
theorem idxR_some {l : List En} {r : Int} {i : Nat} (h : idx l r = some i) : idxR (rdP l) r = i := by unfold idxR; rw [idx_rdP, h]
/-- The three rows of a desk of the reference; all in blocks of G. -/
def RdW (w : World) (G : Nat → Prop) (A : Option Addr) (n : Nat) (T S : Option Addr) (l : List En) : Prop :=
  RIn w G 3 A n (cellsP (rdP l)) ∧ RIn w G 1 T n (ints (rdT l)) ∧ RIn w G 1 S n (ints (rdS l))
section
variable {w w' : World} {G G' F : Nat → Prop} {A T S : Option Addr} {n : Nat} {l : List En}
theorem RdW.keep (h : RdW w G A n T S l) (ho : Only F w w') (hG : ∀ k, k < w.heap.size → G k → ¬ F k) : RdW w' G A n T S l := ⟨h.1.keep ho hG, h.2.1.keep ho hG, h.2.2.keep ho hG⟩
theorem RdW.below (h : RdW w G A n T S l) (hb : Below w.heap.size w w') : RdW w' G A n T S l := ⟨h.1.below hb, h.2.1.below hb, h.2.2.below hb⟩
theorem RdW.mono (h : RdW w G A n T S l) (hG : ∀ k, k < w.heap.size → G k → G' k) : RdW w G' A n T S l := ⟨h.1.mono hG, h.2.1.mono hG, h.2.2.mono hG⟩
theorem RdW.len (h : RdW w G A n T S l) : n = l.length := by
  have := h.2.1.1
  rw [Nat.mul_one] at this
  rw [← this]
  simp [ints, rdT_len]
theorem RdW.nil (w : World) (G : Nat → Prop) : RdW w G none 0 none none [] := ⟨.none_, .none_, .none_⟩
end
set_option maxHeartbeats 1000000 in
set_option maxRecDepth 10000 in
theorem rat_any (A T S : Option Addr) (n c n2 c2 n3 c3 : Nat) (P : List P3) (r x : Int) (w : World) (hr : Reads w w.heap.size 3 A n (cellsP P)) (hn : n ≤ 100000) (hx : idxR P r = x) :
    Calls Try.prog 44 #[.agg #[.slice A n c, .slice T n2 c2, .slice S n3 c3], .int .i64 r] w (RetI w x) := by
  have B0 := Blk.new w 44 #[.slice A n c, .slice T n2 c2, .slice S n3 c3]
  have hbx := below_alloc (Below.refl w.heap.size w) (Nat.le_refl _) (.cells #[.slice A n c, .slice T n2 c2, .slice S n3 c3] 44)
  obtain ⟨w1, hw1⟩ : ∃ u, w.alloc (.cells #[.slice A n c, .slice T n2 c2, .slice S n3 c3] 44) = u := ⟨_, rfl⟩
  rw [hw1] at B0 hbx
  have HR := Lib.hid (hr.below hbx)
  have HBX := Lib.hid hbx
  have HW1 := Lib.hid hw1
  have HL := Lib.hid (recs_len hr encP_len (by omega))
  have HX := Lib.hid hx
  have c0 := (B0.cell 0).trans rfl
  clear B0 hbx hr hw1 hx
  go_enter Try.func44, Try.ntmps44
  go_upto_region 1 with fail
  rw [HW1.out]
  go_wp2_with fail
  go_loop [5] (fun s => ∃ k : Nat, k ≤ n ∧ s = .int .i64 k ∧ Hid (∀ j (hj : j < P.length), j < k → P[j].1 ≠ r)) (fun s => n - (intOf s).toNat)
  case atStart => exact ⟨0, Nat.zero_le _, rfl, Lib.hid fun _ _ h => absurd h (Nat.not_lt_zero _)⟩
  case round =>
    obtain ⟨k, hk, rfl, HA⟩ := hrel
    by_cases hlt : k < n
    · have hkl : k < P.length := by have := HL.out; omega
      obtain ⟨b, off, rfl, _, hc⟩ := HR.out.recs encP_len (by omega) (by omega)
      have d0 : w1.cell? ⟨b, off + k * 3, none⟩ = some (.int .i64 P[k].1) := hc k hkl 0 _ rfl
      obtain ⟨p, hp⟩ : ∃ p, P[k].1 = p := ⟨_, rfl⟩
      rw [hp] at d0
      have HP := Lib.hid hp
      have hk1 : (k : Int) < n := by omega
      have hk0 : (0 : Int) ≤ k := by omega
      clear hc hp
      by_cases he : p = r
      · have z0 : (p == r) = true := by simp [he]
        have HX2 : Hid ((k : Int) = x) := Lib.hid (by rw [← HX.out, idxR_at hkl (by rw [HP.out, he]) HA.out])
        clear he
        go_wp2_with fail
        go_ret
        exact ⟨ret_int HX2.out, HBX.out⟩
      · have z0 : (p == r) = false := by simp [he]
        have HA2 : Hid (∀ j (hj : j < P.length), j < k + 1 → P[j].1 ≠ r) := Lib.hid fun j hj hjk => by
          rcases Nat.lt_or_eq_of_le (Nat.lt_succ_iff.1 hjk) with h' | rfl
          · exact HA.out j hj h'
          · rw [HP.out]; exact he
        clear he
        go_wp2_with fail
        go_round
        case rel => exact ⟨k + 1, by omega, by go_num, HA2⟩
        case measure => simp [intOf]; omega
    · have HX2 : Hid ((-1 : Int) = x) := Lib.hid (by rw [← HX.out, idxR_no fun j hj => HA.out j hj (by have := HL.out; omega)])
      go_wp2_with fail
      go_ret
      exact ⟨ret_int HX2.out, HBX.out⟩
set_option maxHeartbeats 1000000 in
theorem rnew_any (w : World) : Calls Try.prog 21 #[] w fun e w' => e = .returned (.agg #[.slice none 0 0, .slice none 0 0, .slice none 0 0]) ∧ Below w.heap.size w w' := by
  have HB := Lib.hid (below_alloc (Below.refl w.heap.size w) (Nat.le_refl _) (.cells #[.slice none 0 0, .slice none 0 0, .slice none 0 0] 44))
  go_enter Try.func21, Try.ntmps21
  go_wp2_with fail
  refine bodyPost_ret (v := .agg #[.slice none 0 0, .slice none 0 0, .slice none 0 0]) (by simp [results, Try.results21, go_sem]) rfl ⟨rfl, ?_⟩
  exact HB.out
set_option maxHeartbeats 1000000 in
set_option maxRecDepth 10000 in
theorem rof_any (A T S : Option Addr) (n c c2 c3 : Nat) (l : List En) (s e : Int) (w : World) (hr : Reads w w.heap.size 3 A n (cellsP (rdP l))) (hs : Reads w w.heap.size 1 S n (ints (rdS l))) (hn : n ≤ 100000) (he : ∀ x, stR x = e ↔ x = s) :
    Calls Try.prog 43 #[.agg #[.slice A n c, .slice T n c2, .slice S n c3], .int .i64 e] w (RetOwn w 23 3 (cellsP (ofS l s))) := by
  obtain ⟨i0, hi0, hz0, hz1, hz2⟩ := info_parts Try.info23
  have B0 := Blk.new w 44 #[.slice A n c, .slice T n c2, .slice S n c3]
  have hbx := below_alloc (Below.refl w.heap.size w) (Nat.le_refl _) (.cells #[.slice A n c, .slice T n c2, .slice S n c3] 44)
  have HL : Hid (l.length = n) := Lib.hid (by have := recs_len hr encP_len (by omega); rwa [rdP_len] at this)
  have HR := Lib.hid hr
  have HS := Lib.hid hs
  have HB0 := Lib.hid B0
  have HBX := Lib.hid hbx
  have HEQ := Lib.hid he
  clear hr hs B0 hbx he
  go_enter Try.func43, Try.ntmps43
  go_wp2_with fail
  go_loopw [5, 6] (fun out i wr => ∃ k n1 : Nat, ∃ A1 c1, k ≤ n ∧ i = .int .i64 k ∧ out = .slice A1 n1 c1 ∧ n1 ≤ k ∧ Hid (wr.ownsRow (w.heap.size + 1) 23 3 (.slice A1 n1 c1) n1 (cellsP (ofS (l.take k) s))) ∧ Hid (Below (w.heap.size + 1) (w.alloc (.cells #[.slice A n c, .slice T n c2, .slice S n c3] 44)) wr)) (fun _ i _ => n - (intOf i).toNat)
  case atStart => exact ⟨0, 0, none, 0, Nat.zero_le _, rfl, rfl, Nat.le_refl _, World.ownsRow_nil _ _ _ _, Below.refl _ _⟩
  case round =>
    obtain ⟨k, n1, A1, c1, hk, rfl, rfl, hn1, HO, HBW⟩ := hrel
    have hB := HB0.out.below HBW.out (by omega)
    have c0 := (hB.cell 0).trans rfl
    have c2' := (hB.cell 2).trans rfl
    have hsw : w.heap.size + 1 ≤ wr.heap.size := by have := HBW.out.size; simpa using this
    have hbw : Below w.heap.size w wr := HBX.out.trans (HBW.out.mono (by omega))
    have HBW0 := Lib.hid hbw
    by_cases hlt : k < n
    · obtain ⟨b, off, rfl, hb2, hd⟩ := (HR.out.below hbw).recs encP_len (by omega) (by omega)
      obtain ⟨b', off', rfl, hb3, hd'⟩ := (HS.out.below hbw).open_ (by omega) (by omega)
      have hkl : k < l.length := by have := HL.out; omega
      have d0 : wr.cell? ⟨b, off + k * 3, none⟩ = some (.int .i64 l[k].1.1) := by have := hd k (by rw [rdP_len]; exact hkl) 0 _ rfl; rwa [rdP_at hkl] at this
      have d1 : wr.cell? ⟨b, off + k * 3 + 1, none⟩ = some (.int .i64 l[k].1.2.1) := by have := hd k (by rw [rdP_len]; exact hkl) 1 _ rfl; rwa [rdP_at hkl] at this
      have d2 : wr.cell? ⟨b, off + k * 3 + 2, none⟩ = some (.int .i64 l[k].1.2.2) := by have := hd k (by rw [rdP_len]; exact hkl) 2 _ rfl; rwa [rdP_at hkl] at this
      have d3 : wr.cell? ⟨b', off' + k, none⟩ = some (.int .i64 (stR l[k].2.1)) := hd' k _ (rdS_get hkl)
      clear hd hd' hbw hB
      by_cases hs : l[k].2.1 = s
      · have HS2 := Lib.hid (ofS_yes hkl hs)
        have hs' : (stR l[k].2.1 == e) = true := beq_iff_eq.2 ((HEQ.out _).2 hs)
        clear hs
        go_wp2_with (at_builtin; go_loud (
                     refine wpList_append_any _ rfl (.tmp 21) (.tmp 27) _ rfl (w.heap.size + 1) 23 i0 _ 3 24 Try.underlying30 hi0 hz0 hz1 hz2 rfl (by omega) (.slice A1 n1 c1) n1 (cellsP (ofS (l.take k) s)) rfl (HO.out.alloc _) (wr.heap.size + 1) (some ⟨wr.heap.size, 0, none⟩) 1 1 (encP l[k].1) rfl (Reads.fresh wr 23 #[.int .i64 l[k].1.1, .int .i64 l[k].1.2.1, .int .i64 l[k].1.2.2] 1 3 rfl) (one_enc l[k].1) (by simp only [maxLen]; omega) (by omega) (by simp; omega) ?_
                     intro v3 w3 hown3 hg3 hat3
                     obtain ⟨A3, c3', rfl, hr3⟩ := own_reads hown3
                     rw [← snocP, ← HS2.out] at hown3))
        go_roundw
        case rel => exact ⟨k + 1, n1 + 1, A3, c3', by omega, by go_num, rfl, by omega, hown3, below_own (HBW.out.alloc hsw _) (HO.out.alloc _) hg3 (by simp; omega) (by simp)⟩
        case measure => simp [intOf]; omega
      · have HS2 := Lib.hid (ofS_no hkl hs)
        have hs' : (stR l[k].2.1 == e) = false := beq_eq_false_iff_ne.2 fun h => hs ((HEQ.out _).1 h)
        clear hs
        go_wp2_with fail
        go_roundw
        case rel => exact ⟨k + 1, n1, A1, c1, by omega, by go_num, rfl, by omega, by rw [HS2.out]; exact HO, HBW⟩
        case measure => simp [intOf]; omega
    · have HO2 := HO.out
      rw [ofS_all l s (k := k) (by have := HL.out; omega)] at HO2
      have HO3 := Lib.hid HO2
      clear HO2 hB hbw
      go_wp2_with fail
      go_ret
      exact ⟨A1, n1, c1, rfl, own_mono HO3.out (by omega), HBW0.out⟩
end Go.Proofs.Ytakjdffebpcmnaa
