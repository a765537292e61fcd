/- The walk of PartsConserve. -/
import Derived.Test.YthbmofijdhfeeaaBook
import Derived.Test.YthbmofijdhfeeaaFirst
import Derived.Test.YthbmofijdhfeeaaOpen
import Derived.Test.YthbmofijdhfeeaaLawsE
namespace Go.Proofs.Ythbmofijdhfeeaa
open Go.RowKit Go.Maps Go.WideMaps
def sumA : List T2 → Int
  | [] => 0
  | t :: ts => t.2 + sumA ts
theorem sumA_app (a b : List T2) : sumA (a ++ b) = sumA a + sumA b := by
  induction a with
  | nil => simp [sumA]
  | cons t a ih => simp only [List.cons_append, sumA, ih]; omega
theorem sumA_take {a : List T2} {i : Nat} (hi : i < a.length) : sumA (a.take (i + 1)) = sumA (a.take i) + a[i].2 := by
  rw [List.take_succ_eq_append_getElem hi, sumA_app]
  simp [sumA]
theorem takeO_sum (k : Int) : ∀ (l : List Lt) (n : Int), sumA (takeO k n l) = n - takeR k n l
  | [], n => by simp [takeO, takeR, sumA]
  | x :: l, n => by
    have ih := takeO_sum k l (n - tk k n x)
    simp only [takeO, takeR, sumA_app, ih]
    unfold tk
    split
    · simp [sumA]; omega
    · simp [sumA]
theorem sumA_bd : ∀ (a : List T2), (∀ t ∈ a, 0 ≤ t.2 ∧ t.2 ≤ 1000000) → 0 ≤ sumA a ∧ sumA a ≤ 1000000 * (a.length : Nat)
  | [], _ => by simp [sumA]
  | t :: a, h => by
    have h1 := sumA_bd a fun u hu => h u (List.mem_cons_of_mem _ hu)
    have h2 := h t (List.mem_cons_self ..)
    simp only [sumA, List.length_cons]
    omega
/-- What a call without an error asks of its number. -/
theorem doE_count {l : List Lt} {k : Int} {x : L4} (h : doE l k x = 0) : 1 ≤ x.2.2.1 ∧ x.2.2.1 ≤ 1000000 := by
  unfold doE at h
  split at h
  · obtain ⟨_, h1, _⟩ := addE_inv h
    have := okL_iff.1 h1
    omega
  · split at h
    · have := takeE_inv h
      exact of_decide_eq_true this.2.1
    · obtain ⟨_, _, h1, _⟩ := backE_inv h
      exact of_decide_eq_true h1
/-- The accounts after a call. -/
theorem do_acc {L : List Lt} {k : Int} {x : L4} (hd : dist L) (h : doE L k x = 0) : accOf (doL L k x) = if k = 0 then accOf L ++ [(x, 0)] else if k = 1 then addT (accOf L) (doO L k x) else addT (accOf L) [(x.1, -x.2.2.1)] := by
  unfold doL
  unfold doE at h
  split
  · rename_i h0; rw [if_pos h0] at h; exact add_acc h
  · rename_i h0
    rw [if_neg h0] at h
    split
    · rename_i h1
      rw [if_pos h1] at h
      have e : doO L k x = takeO x.2.1 x.2.2.1 L := by unfold doO; rw [if_pos h1, tookO_ok h]
      rw [e, take_acc hd, tookX_ok h]
    · rename_i h1
      rw [if_neg h1] at h
      rw [back_acc hd h]
theorem doO_bd {L : List Lt} {k : Int} {x : L4} (h : doE L k x = 0) : ∀ t ∈ doO L k x, 0 ≤ t.2 ∧ t.2 ≤ 1000000 := fun t ht => by
  unfold doO at ht
  unfold doE at h
  by_cases h1 : k = 1
  · subst h1
    rw [if_pos rfl] at ht
    have h' : takeE L x.2.1 x.2.2.1 = 0 := h
    rw [tookO_ok h'] at ht
    obtain ⟨_, _, _, g1, _, g2, _⟩ := takeO_mem _ _ _ _ ht
    have := (takeE_inv h').2.1
    have := of_decide_eq_true this
    omega
  · rw [if_neg h1] at ht; cases ht
theorem doO_sum {L : List Lt} {x : L4} (hf : fine L) (h : doE L 1 x = 0) : sumA (doO L 1 x) = x.2.2.1 := by
  have h' : takeE L x.2.1 x.2.2.1 = 0 := h
  have e : doO L 1 x = takeO x.2.1 x.2.2.1 L := by unfold doO; rw [if_pos rfl, tookO_ok h']
  rw [e, takeO_sum, (take_all hf h').1]
  omega
section
open Go.ChangeShapes Go.WideShapes Go.ChangeAt Go.Deep
variable {H : Type} {enc : TypeId × Value → H} {W : World} {b0 : Nat} {v : Value} {d : DataW H} {p : List MemPlace}
theorem open_ops2 (hv : Value.okWide Try.prog W .any b0 42 v) (h : DataW.Trod enc Try.prog W 0 (fun _ => true) true 42 v d p) :
    ∃ (A : Option Addr) (n c : Nat) (l : List Op5), v = .slice A n c ∧ Reads W W.heap.size 5 A n (cellsO l) ∧ n ≤ c ∧ c ≤ maxLen ∧ ∀ o ∈ l, (Lit.int .i64 o.2.1).wf = true ∧ 0 ≤ o.1 := by
  obtain ⟨A, n, c, row, rfl, h1, h2, h3, h4, h5⟩ := open_flat_recs (k := 4) (ts := [5, 3, 3, 3, 3]) Try.underlying42 (by kernel_rfl) (by kernel_rfl) (by decide) hv h
  obtain ⟨l, _, hl2, hq⟩ := rows_recs (enc := encO) (Q := fun o => (Lit.int .i64 o.2.1).wf = true ∧ 0 ≤ o.1) (row := row) (n := n) fun i hi => by
    obtain ⟨k, h0, hw0⟩ := (h5 i hi).int 0 rfl Try.underlying5
    obtain ⟨a, h1, hw⟩ := (h5 i hi).int 1 rfl Try.underlying3
    obtain ⟨b, h2, _⟩ := (h5 i hi).int 2 rfl Try.underlying3
    obtain ⟨c, h3, _⟩ := (h5 i hi).int 3 rfl Try.underlying3
    obtain ⟨e, h6, _⟩ := (h5 i hi).int 4 rfl Try.underlying3
    refine ⟨(k, a, b, c, e), list5 (h4 i) h0 h1 h2 h3 h6, hw, ?_⟩
    change (decide (0 ≤ k) && decide (k ≤ 255)) = true at hw0
    rw [Bool.and_eq_true] at hw0
    exact of_decide_eq_true hw0.1
  rw [hl2] at h1
  exact ⟨A, n, c, l, rfl, h1, h2, h3, hq⟩
end
theorem book_any (A At : Option Addr) (n c nt ct base : Nat) (L : List Lt) (ts : List T2) (k a b cc d : Int) (w : World) (h : w.ownsRow base 60 5 (.slice A n c) n (cellsX (accOf L))) (hf : fine L) (hd : dist L) (hb : base ≤ w.heap.size) (hk : 0 ≤ k)
    (hrt : Reads w w.heap.size 2 At nt (cellsT ts)) (hat : ∀ q, At = some q → (Value.slice A n c).ownBlock ≠ some q.block) (hx : doE L k (a, b, cc, d) = 0) (ho : doO L k (a, b, cc, d) = ts) :
    Calls Try.prog 23 #[.slice A n c, .agg #[.int .u8 k, .int .i64 a, .int .i64 b, .int .i64 cc, .int .i64 d], .slice At nt ct] w (RetBook w base (.slice A n c) (accOf (doL L k (a, b, cc, d)))) := by
  have hl := recs_len (Reads.of_own h) encX_len (by omega)
  rw [accOf_len] at hl
  have hn : n ≤ 1000 := by have := hf.1; omega
  have hM : ∀ x ∈ accOf L, x.1.2.2.1 ≤ 1000000 := fun x hx => by
    obtain ⟨y, hy, rfl⟩ := List.mem_map.1 hx
    have := okL_iff.1 (hf.2 y hy).1
    show y.1.2.2.1 ≤ 1000000
    omega
  rw [do_acc hd hx]
  by_cases h0 : k = 0
  · subst h0
    rw [if_pos rfl]
    exact book_add A At n c nt ct base _ a b cc d w h hn hb
  · rw [if_neg h0]
    by_cases h1 : k = 1
    · subst h1
      rw [if_pos rfl]
      have hx' : takeE L b cc = 0 := hx
      have ho' : takeO b cc L = ts := by
        have e : doO L 1 (a, b, cc, d) = takeO b cc L := by unfold doO; rw [if_pos rfl, tookO_ok hx']
        rw [← e]; exact ho
      rw [ho]
      have hlt := recs_len hrt encT_len (by omega)
      have := takeO_len b L cc
      rw [ho'] at this
      exact book_take A At n c nt ct base _ ts a b cc d w h hn hrt hat (by have := hf.1; omega) hM (by rw [← ho']; exact take_book hf hd)
    · rw [if_neg h1]
      have hx' : backE L a cc = 0 := by unfold doE at hx; rwa [if_neg h0, if_neg h1] at hx
      have hc := doE_count hx
      exact book_back A At n c nt ct base _ k a b cc d w h hn (by omega) (by show 0 ≤ cc; have : 1 ≤ cc := hc.1; omega) hc.2 hM (back_book hf hd hx' b)
set_option maxHeartbeats 16000000 in
set_option maxRecDepth 20000 in
theorem partsConserve_walk (A : Option Addr) (n c : Nat) (ops : List Op5) (w : World) (hr : Reads w w.heap.size 5 A n (cellsO ops)) (_hnc : n ≤ c) (_hc : c ≤ maxLen) (hwl : ∀ o ∈ ops, (Lit.int .i64 o.2.1).wf = true ∧ 0 ≤ o.1) :
    Calls Try.prog 5 #[.slice A n c] w (AwakePost w) := by
  have HL := Lib.hid (recs_len hr encO_len (by omega))
  by_cases hn : 100 < n
  · have hni : (100 : Int) < n := by omega
    clear hr
    go_enter Try.func5, Try.ntmps5
    go_wp2_with fail
    refine (awake_any _).mono ?_
    rintro e w1 ⟨rfl, hb1⟩
    go_wp2_with fail
    go_ret
    exact ⟨rfl, hb1⟩
  · have HR := Lib.hid hr
    have HWL := Lib.hid hwl
    have hni : ¬ (100 : Int) < n := by omega
    have hn1 : n ≤ 100 := by omega
    clear hr hn hwl
    go_enter Try.func5, Try.ntmps5
    go_wp2_with fail
    refine (new_any none 0 0 [] 0 [] _ Reads.none_ (by decide) rfl).mono ?_
    rintro e w1 ⟨hb1, ⟨_, F1, g, rfl, hs1, hF1⟩ | ⟨h, _⟩⟩
    case inr => exact absurd rfl h
    have HS1 := Lib.hid hs1; have HB1 := Lib.hid hb1; have HF1 := Lib.hid hF1
    clear hb1 hs1 hF1
    go_wp2_with fail
    go_loopw [5, 6] (fun s5 s6 wr => ∃ (k n5 c5 : Nat) (A5 : Option Addr) (F : Nat → Prop), k ≤ n ∧ s6 = .int .i64 k ∧ s5 = .slice A5 n5 c5 ∧ Hid (StoreF wr F g (playL (ops.take k))) ∧ Hid (wr.ownsRow w.heap.size 60 5 (.slice A5 n5 c5) n5 (cellsX (accOf (playL (ops.take k))))) ∧ Hid (∀ j, (Value.slice A5 n5 c5).ownBlock = some j → ¬ F j) ∧ Hid (∀ j, F j → w.heap.size ≤ j) ∧ Hid (Below w.heap.size w wr)) (fun _ s _ => n - (intOf s).toNat)
    case atStart => exact ⟨0, 0, 0, none, F1, Nat.zero_le _, rfl, rfl, HS1, Lib.hid (World.ownsRow_nil _ _ _ _), Lib.hid (fun j hj => by simp [Value.ownBlock] at hj), HF1, HB1⟩
    case round =>
      obtain ⟨wo, rfl⟩ : ∃ wo : World, wo = wr := ⟨_, rfl⟩
      obtain ⟨k, n5, c5, A5, F, hk, rfl, rfl, HST, HOA, HDA, HF, HB⟩ := hrel
      by_cases hlt : k < n
      · have hkl : k < ops.length := by have := HL.out; omega
        have hk0 : (0 : Int) ≤ k := by omega
        have hk1 : (k : Int) < n := by omega
        have HP := Lib.hid (playL_snoc hkl)
        have HWK := Lib.hid (HWL.out _ (List.getElem_mem hkl))
        obtain ⟨L, hL⟩ : ∃ L, playL (ops.take k) = L := ⟨_, rfl⟩
        have HFI : Hid (fine L) := Lib.hid (by rw [← hL]; exact (playL_fine _).1)
        have HDI : Hid (dist L) := Lib.hid (by rw [← hL]; exact (playL_fine _).2)
        rw [hL] at HST HP HOA
        obtain ⟨x, hx⟩ : ∃ x, doE L ops[k].1 ops[k].2 = x := ⟨_, rfl⟩
        obtain ⟨L2, hL2⟩ : ∃ x, doL L ops[k].1 ops[k].2 = x := ⟨_, rfl⟩
        obtain ⟨o, ho⟩ : ∃ x, doO L ops[k].1 ops[k].2 = x := ⟨_, rfl⟩
        have HX := Lib.hid hx; have HL2 := Lib.hid hL2; have HO := Lib.hid ho
        have HFI2 : Hid (fine L2) := Lib.hid (by rw [← hL2]; exact fine_do HFI.out)
        have HFL : Hid (∀ j, F j → j < wo.heap.size) := Lib.hid HST.out.2.1
        have HOL : Hid (∀ j, (Value.slice A5 n5 c5).ownBlock = some j → j < wo.heap.size) := Lib.hid fun j hj => (HOA.out.lt j hj).2
        clear hL hx hL2 ho
        obtain ⟨b, off, rfl, hb3, hcc⟩ := (HR.out.below HB.out).recs encO_len (by omega) (by omega)
        have d0 : wo.cell? ⟨b, off + k * 5, none⟩ = some (.int .u8 ops[k].1) := hcc k hkl 0 _ rfl
        have d1 : wo.cell? ⟨b, off + k * 5 + 1, none⟩ = some (.int .i64 ops[k].2.1) := hcc k hkl 1 _ rfl
        have d2 : wo.cell? ⟨b, off + k * 5 + 2, none⟩ = some (.int .i64 ops[k].2.2.1) := hcc k hkl 2 _ rfl
        have d3 : wo.cell? ⟨b, off + k * 5 + 3, none⟩ = some (.int .i64 ops[k].2.2.2.1) := hcc k hkl 3 _ rfl
        have d4 : wo.cell? ⟨b, off + k * 5 + 4, none⟩ = some (.int .i64 ops[k].2.2.2.2) := hcc k hkl 4 _ rfl
        clear hcc hb3
        go_wp2_with fail
        refine (do_any F g L L2 ops[k].1 ops[k].2.1 ops[k].2.2.1 ops[k].2.2.2.1 ops[k].2.2.2.2 x o _ HST.out HWK.out.1 HFI.out HX.out HL2.out HO.out).mono ?_
        rintro e u3 ⟨Aa, na, ca, Fs, rfl, hown3, hst3, hF3, hx3, ho3⟩
        have HOA3 := Lib.hid (ho3.own HOA.out HDA.out)
        have HS3 := Lib.hid hst3
        have HT3 := Lib.hid hown3
        have HFS : Hid (∀ j, Fs j → F j ∨ (wo.heap.size ≤ j ∧ j < u3.heap.size)) := Lib.hid hF3
        have HXA := Lib.hid hx3
        have HS03 : Hid (wo.heap.size ≤ u3.heap.size) := Lib.hid ho3.size
        have HB3 : Hid (Below w.heap.size w u3) := Lib.hid (HB.out.trans (ho3.below (fun j _ hj => HF.out j hj) HB.out.size))
        have HF3 : Hid (∀ j, Fs j → w.heap.size ≤ j) := Lib.hid fun j hj => by
          rcases HFS.out j hj with h | h
          · exact HF.out j h
          · have := HB.out.size; omega
        have HDA3 : Hid (∀ j, (Value.slice A5 n5 c5).ownBlock = some j → ¬ Fs j) := Lib.hid fun j hj h => by
          rcases HFS.out j h with h1 | h1
          · exact HDA.out j hj h1
          · have := HOL.out j hj; omega
        have HNA : Hid (o.length = na) := Lib.hid (recs_len (Reads.of_own HT3.out) encT_len (by omega))
        clear d0 d1 d2 d3 d4 hown3 hst3 hF3 hx3 ho3
        by_cases h0 : x = 0
        case neg =>
          have t0 := ne0_t h0
          have HE2 : Hid (L2 = L) := Lib.hid (by rw [← HL2.out]; exact doL_err (by rw [HX.out]; exact h0))
          obtain rfl : na = 0 := by
            have h1 := HNA.out
            rw [← HO.out, doO_err (by rw [HX.out]; exact h0)] at h1
            simpa using h1.symm
          have HQ1 : Hid (StoreF u3 Fs g (playL (ops.take (k + 1)))) := Lib.hid (by rw [HP.out, HL2.out]; exact HS3.out)
          have HQ2 : Hid (u3.ownsRow w.heap.size 60 5 (.slice A5 n5 c5) n5 (cellsX (accOf (playL (ops.take (k + 1)))))) := Lib.hid (by rw [HP.out, HL2.out, HE2.out]; exact HOA3.out)
          clear h0
          go_wp2_with fail
          go_roundw
          case rel => exact ⟨k + 1, n5, c5, A5, Fs, by omega, by go_num, rfl, HQ1, HQ2, HDA3, HF3, HB3⟩
          case measure => simp [intOf]; omega
        case pos =>
          subst h0
          have HCT := Lib.hid (doE_count HX.out)
          have HDI2 : Hid (dist L2) := Lib.hid (by rw [← HL2.out]; exact dist_do HDI.out)
          have hct := HCT.out
          obtain ⟨hct1, hct2⟩ : 1 ≤ ops[k].2.2.2.1 ∧ ops[k].2.2.2.1 ≤ 1000000 := hct
          obtain ⟨b2, off2, e, hb3, hcc⟩ := (HR.out.below HB3.out).recs encO_len (by omega) (by omega)
          injection e with e
          injection e with e1 e2
          subst e1 e2
          have d0 : u3.cell? ⟨b, off + k * 5, none⟩ = some (.int .u8 ops[k].1) := hcc k hkl 0 _ rfl
          have d1 : u3.cell? ⟨b, off + k * 5 + 1, none⟩ = some (.int .i64 ops[k].2.1) := hcc k hkl 1 _ rfl
          have d2 : u3.cell? ⟨b, off + k * 5 + 2, none⟩ = some (.int .i64 ops[k].2.2.1) := hcc k hkl 2 _ rfl
          have d3 : u3.cell? ⟨b, off + k * 5 + 3, none⟩ = some (.int .i64 ops[k].2.2.2.1) := hcc k hkl 3 _ rfl
          have d4 : u3.cell? ⟨b, off + k * 5 + 4, none⟩ = some (.int .i64 ops[k].2.2.2.2) := hcc k hkl 4 _ rfl
          have HATT : Hid (∀ q, Aa = some q → (Value.slice A5 n5 c5).ownBlock ≠ some q.block) := Lib.hid fun q e e2 => by
            have h1 := HOL.out _ e2
            subst e
            rcases HT3.out.2 with ⟨hv, _⟩ | ⟨g7, cap, cur, hv, h7, _⟩
            · cases hv
            · injection hv with e3 _ _
              injection e3 with e3
              rw [e3] at h1
              simp at h1
              omega
          clear hcc hb3
          go_wp2_with fail
          refine (book_any A5 Aa n5 c5 na ca w.heap.size L o ops[k].1 ops[k].2.1 ops[k].2.2.1 ops[k].2.2.2.1 ops[k].2.2.2.2 _ HOA3.out HFI.out HDI.out HB3.out.size HWK.out.2 (Reads.of_own HT3.out) HATT.out HX.out HO.out).mono ?_
          rintro e u4 ⟨A6, n6, c6, rfl, hown4, ho4, hnew4⟩
          have HOA4 : Hid (u4.ownsRow w.heap.size 60 5 (.slice A6 n6 c6) n6 (cellsX (accOf L2))) := Lib.hid (by rw [← HL2.out]; exact hown4)
          have HS4 := Lib.hid (HS3.out.keep ho4 fun j h1 h2 => HDA3.out j h2 h1)
          have HT4 := Lib.hid ((Reads.of_own HT3.out).only_ ho4 fun q e => HATT.out q e)
          have HB4 : Hid (Below w.heap.size w u4) := Lib.hid (HB3.out.trans (ho4.below (fun j _ hj => (HOA3.out.lt j hj).1) HB3.out.size))
          have HDA4 : Hid (∀ j, (Value.slice A6 n6 c6).ownBlock = some j → ¬ Fs j) := Lib.hid fun j hj h => by
            rcases hnew4 j hj with h1 | h1
            · exact HDA3.out j h1 h
            · have := HS3.out.2.1 j h; omega
          clear d0 d1 d2 d3 d4 hown4 ho4 hnew4
          go_wp2_with fail
          have HBD : Hid (∀ t ∈ o, 0 ≤ t.2 ∧ t.2 ≤ 1000000) := Lib.hid (by rw [← HO.out]; exact doO_bd HX.out)
          have HNO : Hid (na ≤ 512) := Lib.hid (by
            have h2 := doO_len (l := L) (k := ops[k].1) (x := ops[k].2)
            rw [HO.out] at h2
            have := HFI.out.1
            have := HNA.out
            omega)
          go_loopw [11, 12] (fun s11 s12 wr => ∃ j : Nat, j ≤ na ∧ s12 = .int .i64 j ∧ s11 = .int .i64 (sumA (o.take j)) ∧ wr = u4) (fun _ s _ => na - (intOf s).toNat)
          case atStart => exact ⟨0, Nat.zero_le _, rfl, rfl, rfl⟩
          case round =>
            obtain ⟨j, hj, rfl, rfl, rfl⟩ := hrel
            have hno := HNO.out
            by_cases hjl : j < na
            · have hjo : j < o.length := by have := HNA.out; omega
              have hj0 : (0 : Int) ≤ j := by omega
              have hj1 : (j : Int) < na := by omega
              obtain ⟨bt, ot, et, _, hct⟩ := HT4.out.recs encT_len (by omega) (by omega)
              have e1 : wr.cell? ⟨bt, ot + j * 2 + 1, none⟩ = some (.int .i64 o[j].2) := hct j hjo 1 _ rfl
              have g1 := sumA_bd (o.take j) fun t ht => HBD.out t (List.mem_of_mem_take ht)
              have g2 := HBD.out _ (List.getElem_mem hjo)
              have g3 : (o.take j).length ≤ 512 := by rw [List.length_take]; omega
              have HSM := Lib.hid (sumA_take hjo)
              obtain ⟨s0, hs0⟩ : ∃ x, sumA (o.take j) = x := ⟨_, rfl⟩
              rw [hs0] at g1 HSM ⊢
              obtain ⟨g4, g5⟩ := g1
              obtain ⟨g6, g7⟩ := g2
              subst et
              clear hct hs0
              go_wp2_with fail
              go_roundw
              case rel => exact ⟨j + 1, by omega, by go_num, by rw [HSM.out], trivial⟩
              case measure => simp [intOf]; omega
            · obtain rfl : j = na := by omega
              have hj1 : (j : Int) ≤ j := Int.le_refl _
              obtain ⟨b2, off2, e, hb3, hcc⟩ := (HR.out.below HB4.out).recs encO_len (by omega) (by omega)
              injection e with e
              injection e with e1 e2
              subst e1 e2
              have d0 : wr.cell? ⟨b, off + k * 5, none⟩ = some (.int .u8 ops[k].1) := hcc k hkl 0 _ rfl
              have d3 : wr.cell? ⟨b, off + k * 5 + 3, none⟩ = some (.int .i64 ops[k].2.2.2.1) := hcc k hkl 3 _ rfl
              have HSE : Hid (o.take j = o) := Lib.hid (List.take_of_length_le (by have := HNA.out; omega))
              rw [HSE.out]
              obtain ⟨sm, hsm⟩ : ∃ x, sumA o = x := ⟨_, rfl⟩
              rw [hsm]
              have HSS : Hid (ops[k].1 = 1 → sm = ops[k].2.2.2.1) := Lib.hid fun e => by
                have h1 := HX.out
                have h2 := HO.out
                rw [e] at h1 h2
                rw [← hsm, ← h2]
                exact doO_sum HFI.out h1
              have HQ1 : Hid (StoreF wr Fs g (playL (ops.take (k + 1)))) := Lib.hid (by rw [HP.out, HL2.out]; exact HS4.out)
              have HQ2 : Hid (wr.ownsRow w.heap.size 60 5 (.slice A6 n6 c6) n6 (cellsX (accOf (playL (ops.take (k + 1)))))) := Lib.hid (by rw [HP.out, HL2.out]; exact HOA4.out)
              clear hcc hb3 hsm
              by_cases hkd : ops[k].1 = 1
              · have t1 : (ops[k].1 == 1) = true := beq_iff_eq.2 hkd
                have t2 : (sm != ops[k].2.2.2.1) = false := by rw [HSS.out hkd]; exact bne_self_eq_false _
                clear hkd
                go_wp2_with fail
                go_roundw
                case rel => exact ⟨k + 1, n6, c6, A6, Fs, by omega, by go_num, rfl, HQ1, HQ2, HDA4, HF3, HB4⟩
                case measure => simp [intOf]; omega
              · have t1 : (ops[k].1 == 1) = false := beq_eq_false_iff_ne.2 hkd
                clear hkd
                go_wp2_with fail
                go_roundw
                case rel => exact ⟨k + 1, n6, c6, A6, Fs, by omega, by go_num, rfl, HQ1, HQ2, HDA4, HF3, HB4⟩
                case measure => simp [intOf]; omega
      · obtain rfl : k = n := by omega
        have HE : Hid (playL (ops.take k) = playL ops) := Lib.hid (by rw [List.take_of_length_le (by have := HL.out; omega)])
        obtain ⟨L, hL⟩ : ∃ L, playL ops = L := ⟨_, rfl⟩
        have HFI : Hid (fine L) := Lib.hid (by rw [← hL]; exact (playL_fine _).1)
        have HDI : Hid (dist L) := Lib.hid (by rw [← hL]; exact (playL_fine _).2)
        rw [HE.out, hL] at HST HOA
        clear hL HE hlt
        have HNL : Hid (L.length = n5) := Lib.hid (by have := recs_len (Reads.of_own HOA.out) encX_len (by omega); rw [accOf_len] at this; exact this)
        go_wp2_with fail
        refine (lots_any F g L _ HST.out HFI.out.1).mono ?_
        rintro e u1 ⟨Al, nl, cl, rfl, hol, hb1⟩
        have HLR := Lib.hid (Reads.of_own hol)
        have HNN : Hid (nl = n5) := Lib.hid (by
          have := recs_len HLR.out encL_len (by omega)
          have h3 : (lotsL L).length = L.length := by simp [lotsL]
          have := HNL.out
          omega)
        have HS1' := Lib.hid (HST.out.below hb1)
        have HA1 := Lib.hid (own_below HOA.out hb1)
        have HB1' := Lib.hid (below_next HB.out (Nat.le_refl _) hb1)
        obtain rfl := HNN.out
        have hn5 : nl ≤ 512 := by have := HFI.out.1; have := HNL.out; omega
        clear hol hb1
        go_wp2_with fail
        go_loopw [14] (fun s14 wr => ∃ i : Nat, i ≤ nl ∧ s14 = .int .i64 i ∧ Hid (Below u1.heap.size u1 wr)) (fun s _ => nl - (intOf s).toNat)
        case atStart => exact ⟨0, Nat.zero_le _, rfl, Lib.hid (Below.refl _ _)⟩
        case round =>
          obtain ⟨wp, rfl⟩ : ∃ wp : World, wp = wr := ⟨_, rfl⟩
          obtain ⟨i, hi, rfl, HBP⟩ := hrel
          by_cases hil : i < nl
          · have hiL : i < L.length := by have := HNL.out; omega
            have hi0 : (0 : Int) ≤ i := by omega
            have hi1 : (i : Int) < nl := by omega
            obtain ⟨ba, oa, ea, _, hca⟩ := ((Reads.of_own HA1.out).below HBP.out).recs encX_len (by omega) (by omega)
            have hia : i < (accOf L).length := by rw [accOf_len]; exact hiL
            have hel := accOf_at L hiL
            have a0 : wp.cell? ⟨ba, oa + i * 5, none⟩ = some (.int .i64 L[i].1.1) := by have := hca i hia 0 _ rfl; rw [hel] at this; exact this
            have a1 : wp.cell? ⟨ba, oa + i * 5 + 1, none⟩ = some (.int .i64 L[i].1.2.1) := by have := hca i hia 1 _ rfl; rw [hel] at this; exact this
            have a2 : wp.cell? ⟨ba, oa + i * 5 + 2, none⟩ = some (.int .i64 L[i].1.2.2.1) := by have := hca i hia 2 _ rfl; rw [hel] at this; exact this
            have a3 : wp.cell? ⟨ba, oa + i * 5 + 3, none⟩ = some (.int .i64 L[i].1.2.2.2) := by have := hca i hia 3 _ rfl; rw [hel] at this; exact this
            have a4 : wp.cell? ⟨ba, oa + i * 5 + 4, none⟩ = some (.int .i64 (L[i].1.2.2.1 - L[i].2)) := by have := hca i hia 4 _ rfl; rw [hel] at this; exact this
            obtain ⟨_, _, w3, w4⟩ := HFI.out.2 _ (List.getElem_mem hiL)
            have w5 := okL_iff.1 (HFI.out.2 _ (List.getElem_mem hiL)).1
            obtain ⟨gn, hgn⟩ : ∃ x, L[i].1.2.2.1 - L[i].2 = x := ⟨_, rfl⟩
            rw [hgn] at a4
            have hww : IntKind.i64.wrap (L[i].1.2.2.1 - gn) = L[i].2 := by rw [IntKind.wrap_i64]; omega
            have HWR : Hid (Lit.wf (Lit.int .i64 L[i].1.1) = true) := Lib.hid (by
              change (decide (-9223372036854775808 ≤ L[i].1.1) && decide (L[i].1.1 ≤ 9223372036854775807)) = true
              rw [decide_eq_true (by omega), decide_eq_true (by omega)]; rfl)
            obtain ⟨u2, hu2⟩ : ∃ u, wp.alloc (.cells #[.int .i64 L[i].1.1, .int .i64 L[i].1.2.1, .int .i64 L[i].1.2.2.1, .int .i64 L[i].1.2.2.2] 47) = u := ⟨_, rfl⟩
            have HG : Hid (Blk u2 wp.heap.size 47 #[.int .i64 L[i].1.1, .int .i64 L[i].1.2.1, .int .i64 L[i].1.2.2.1, .int .i64 L[i].1.2.2.2]) := Lib.hid (by rw [← hu2]; exact Blk.new _ _ _)
            have HAL : Hid (Below wp.heap.size wp u2) := Lib.hid (by rw [← hu2]; exact (Below.refl _ _).alloc (Nat.le_refl _) _)
            obtain ⟨g2, hg2⟩ : ∃ x, wp.heap.size = x := ⟨_, rfl⟩
            have HGW := Lib.hid hg2
            subst ea
            clear hca hel w3 w4 w5 hgn hg2
            go_upto_region 32 with fail
            clear hu2 a0 a1 a2 a3
            have z2 := HG.out.frozen 2
            have c2 := (HG.out.cell 2).trans rfl
            have a4' := (HAL.out.cell (p := ⟨ba, oa + i * 5 + 4, none⟩) (World.block_lt_of_cell? wp _ a4)).trans a4
            have F0 : ∀ z : DFam (DB u2), z.val.cell? ⟨wp.heap.size, 2, none⟩ = some (.int .i64 L[i].1.2.2.1) := fun z => DB.some_ z c2
            have F1 : ∀ z : DFam (DB u2), z.val.cell? ⟨ba, oa + i * 5 + 4, none⟩ = some (.int .i64 gn) := fun z => DB.some_ z a4'
            refine wp_region_pb 0 [0, 1, 2, 3, 4, 5, 6, 7] [8, 9] (by kernel_rfl) (by kernel_rfl) ?_
            simp only [wpT, List.map_cons, List.map_nil, List.getD_cons_succ, List.getD_cons_zero]
            repeat (go_big_quiet_step (fail))
            refine wpQuiet_nil ?_
            clear F0 F1
            go_upto_region 33 with fail
            obtain ⟨u3, hu3⟩ : ∃ u, (u2.setCell ⟨wp.heap.size, 2, none⟩ (.int .i64 L[i].2)).drew = u := ⟨_, rfl⟩
            rw [hu3]
            have HG3 : Hid (Blk u3 wp.heap.size 47 #[.int .i64 L[i].1.1, .int .i64 L[i].1.2.1, .int .i64 L[i].2, .int .i64 L[i].1.2.2.2]) := Lib.hid (by rw [← hu3]; exact (HG.out.set_ 2 _).drew)
            have HW3 : Hid (Below wp.heap.size wp u3) := Lib.hid (by rw [← hu3]; exact (HAL.out.setCell (p := ⟨wp.heap.size, 2, none⟩) (Nat.le_refl _) _).drew)
            have HW13 := Lib.hid (below_next HBP.out (Nat.le_refl _) HW3.out)
            have HS3 := Lib.hid (HS1'.out.below HW13.out)
            clear hu3 z2 c2 a4 a4' hww
            have q0 := (HG3.out.cell 0).trans rfl
            have HLS := Lib.hid (left_some (dist_idx HDI.out hiL))
            go_wp2_with fail
            refine (left_any F g L L[i].1.1 L[i].2 0 u3 HS3.out HWR.out HLS.out.2 HLS.out.1).mono ?_
            rintro e w4 ⟨rfl, rfl⟩
            clear q0
            have hq := fun w => eq47_refl L[i].1.1 L[i].1.2.1 L[i].2 L[i].1.2.2.2 w
            obtain ⟨bl, ol, el, _, hcl⟩ := (HLR.out.below HW13.out).recs encL_len (by omega) (by omega)
            have hil2 : i < (lotsL L).length := by unfold lotsL; rw [List.length_map]; exact hiL
            have hll : (lotsL L)[i] = (L[i].1.1, L[i].1.2.1, L[i].2, L[i].1.2.2.2) := by simp [lotsL]
            have l0 : u3.cell? ⟨bl, ol + i * 4, none⟩ = some (.int .i64 L[i].1.1) := by have := hcl i hil2 0 _ rfl; rw [hll] at this; exact this
            have l1 : u3.cell? ⟨bl, ol + i * 4 + 1, none⟩ = some (.int .i64 L[i].1.2.1) := by have := hcl i hil2 1 _ rfl; rw [hll] at this; exact this
            have l2 : u3.cell? ⟨bl, ol + i * 4 + 2, none⟩ = some (.int .i64 L[i].2) := by have := hcl i hil2 2 _ rfl; rw [hll] at this; exact this
            have l3 : u3.cell? ⟨bl, ol + i * 4 + 3, none⟩ = some (.int .i64 L[i].1.2.2.2) := by have := hcl i hil2 3 _ rfl; rw [hll] at this; exact this
            have K0 : ∀ z : DFam (DB u3), z.val.cell? ⟨bl, ol + i * 4, none⟩ = some (.int .i64 L[i].1.1) := fun z => DB.some_ z l0
            have K1 : ∀ z : DFam (DB u3), z.val.cell? ⟨bl, ol + i * 4 + 1, none⟩ = some (.int .i64 L[i].1.2.1) := fun z => DB.some_ z l1
            have K2 : ∀ z : DFam (DB u3), z.val.cell? ⟨bl, ol + i * 4 + 2, none⟩ = some (.int .i64 L[i].2) := fun z => DB.some_ z l2
            have K3 : ∀ z : DFam (DB u3), z.val.cell? ⟨bl, ol + i * 4 + 3, none⟩ = some (.int .i64 L[i].1.2.2.2) := fun z => DB.some_ z l3
            have Q0 : ∀ z : DFam (DB u3), z.val.cell? ⟨wp.heap.size, 0, none⟩ = some (.int .i64 L[i].1.1) := fun z => DB.some_ z ((HG3.out.cell 0).trans rfl)
            have Q1 : ∀ z : DFam (DB u3), z.val.cell? ⟨wp.heap.size, 1, none⟩ = some (.int .i64 L[i].1.2.1) := fun z => DB.some_ z ((HG3.out.cell 1).trans rfl)
            have Q2 : ∀ z : DFam (DB u3), z.val.cell? ⟨wp.heap.size, 2, none⟩ = some (.int .i64 L[i].2) := fun z => DB.some_ z ((HG3.out.cell 2).trans rfl)
            have Q3 : ∀ z : DFam (DB u3), z.val.cell? ⟨wp.heap.size, 3, none⟩ = some (.int .i64 L[i].1.2.2.2) := fun z => DB.some_ z ((HG3.out.cell 3).trans rfl)
            subst el
            clear hcl hll l0 l1 l2 l3
            go_wp2_with fail
            refine wp_region_pb 0 [0, 1, 2, 3, 4, 5, 6, 7, 8, 9, 10, 11, 12, 13, 14, 15] [] (by kernel_rfl) (by kernel_rfl) ?_
            simp only [wpT, List.map_cons, List.map_nil, List.getD_cons_succ, List.getD_cons_zero]
            repeat (go_big_quiet_step (fail))
            refine wpQuiet_nil ?_
            clear K0 K1 K2 K3 Q0 Q1 Q2 Q3 hq
            go_wp2_with fail
            go_roundw
            case rel => exact ⟨i + 1, by omega, by go_num, Lib.hid HW13.out.drew⟩
            case measure => simp [intOf]; omega
          · obtain rfl : i = nl := by omega
            go_wp2_with fail
            refine (awake_any _).mono ?_
            rintro e w5 ⟨rfl, hb5⟩
            have HB5 := Lib.hid (below_next (below_next HB1'.out (Nat.le_refl _) HBP.out) (Nat.le_refl _) hb5)
            clear hb5
            go_wp2_with fail
            go_ret
            exact ⟨rfl, HB5.out⟩
end Go.Proofs.Ythbmofijdhfeeaa
