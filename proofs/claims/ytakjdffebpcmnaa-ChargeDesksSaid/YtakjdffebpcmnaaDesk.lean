/- The walks of charge.Desk's methods: what a desk holds, and what each makes of it. -/
import Derived.Test.YtakjdffebpcmnaaPaid
namespace Go.Proofs.Ytakjdffebpcmnaa
open Go.RowKit Go.Maps Go.WideMaps

theorem intLaw : Keyed Try.prog 3 := int_keyed Try.underlying3
theorem zero3 (w : World) : (zeroValue 3).run Try.prog w = .ok (.int .i64 0) w := by kernel_rfl
theorem Try.info68 : (Try.prog.info? 68).map (fun i => (i.zero, i.size, i.bytes)) = some (some (.agg #[.int .i64 0, .int .i64 0, .int .i64 0, .int .i64 0, .int .i64 0]), 5, 40) := by kernel_rfl
def placeR (l : List En) : Lit → Option Int
  | .int .i64 r => (idx l r).map fun i => (i : Int)
  | _ => none
theorem placeR_int (l : List En) (r : Int) : placeR l (.int .i64 r) = (idx l r).map fun i => (i : Int) := rfl
theorem placeR_snoc {l : List En} {x : En} (h : idx l x.1.1 = none) : updL (placeR l) (.int .i64 x.1.1) (l.length : Int) = placeR (l ++ [x]) := by
  funext kl
  by_cases e : kl = .int .i64 x.1.1
  · subst e
    rw [updL_same, placeR_int, idx_snoc _ h, if_pos rfl]
    rfl
  · rw [updL_other _ e]
    unfold placeR
    split
    · rename_i r
      rw [idx_snoc _ h, if_neg]
      intro h2
      exact e (by rw [h2])
    · rfl
theorem one_cellsE (l : List En) : ∀ u ∈ cellsE l, u.oneCell' = true := by
  intro u hu
  obtain ⟨p, _, hp⟩ := List.mem_flatMap.1 hu
  simp only [encE, List.mem_cons, List.not_mem_nil, or_false] at hp
  rcases hp with rfl | rfl | rfl | rfl | rfl <;> rfl
theorem one_encE (p : En) : ∀ u ∈ encE p, u.oneCell' = true := by
  intro u hu
  simp only [encE, List.mem_cons, List.not_mem_nil, or_false] at hu
  rcases hu with rfl | rfl | rfl | rfl | rfl <;> rfl

/-- Block g is a desk with the entries l, all its memory in the blocks of F. -/
def DeskF (w : World) (F : Nat → Prop) (g : Nat) (l : List En) : Prop :=
  F g ∧ (∀ k, F k → k < w.heap.size) ∧ ∃ A n c m, Blk w g 64 #[.slice A n c, .map (some m)] ∧ F m ∧ w.ownsRow 0 68 5 (.slice A n c) n (cellsE l) ∧ MapI Try.prog 3 3 w m n (placeR l) ∧ ∀ k, (Value.slice A n c).ownBlock = some k → F k
theorem DeskF.keep {w w' : World} {F F0 : Nat → Prop} {g : Nat} {l : List En} (h : DeskF w F g l) (ho : Only F0 w w') (hd : ∀ k, F k → ¬ F0 k) : DeskF w' F g l := by
  obtain ⟨h1, h0, A, n, c, m, h2, h3, h4, h5, h6⟩ := h
  exact ⟨h1, fun k hk => Nat.lt_of_lt_of_le (h0 k hk) ho.size, A, n, c, m, ho.blk h2 (hd g h1), h3, ho.own h4 (fun k hk => hd k (h6 k hk)), ho.mapI h5 (hd m h3), h6⟩
theorem DeskF.below {w w' : World} {F : Nat → Prop} {g : Nat} {l : List En} (h : DeskF w F g l) (hb : Below w.heap.size w w') : DeskF w' F g l := h.keep (Only.of_new hb fun _ => False) fun _ _ e => e
theorem DeskF.more {w : World} {F F' : Nat → Prop} {g : Nat} {l : List En} (h : DeskF w F g l) (hF : ∀ k, F k → F' k) (hlt : ∀ k, F' k → k < w.heap.size) : DeskF w F' g l := by
  obtain ⟨h1, h0, A, n, c, m, h2, h3, h4, h5, h6⟩ := h
  exact ⟨hF _ h1, hlt, A, n, c, m, h2, hF _ h3, h4, h5, fun k hk => hF k (h6 k hk)⟩

/-! Next. -/
set_option maxHeartbeats 1000000 in
set_option maxRecDepth 10000 in
theorem next_any (F : Nat → Prop) (g : Nat) (l : List En) (w : World) (h : DeskF w F g l) (hn : l.length ≤ 100000) :
    Calls Try.prog 19 #[.pointer (some ⟨g, 0, none⟩)] w (RetPB w (nextP l) (nextB l)) := by
  obtain ⟨h1, h0, A, n, c, m, h2, h3, h4, h5, h6⟩ := h
  have hr := Reads.of_own h4
  have HL := Lib.hid (recs_len hr encE_len (by omega))
  have hn' : n ≤ 100000 := by have := HL.out; omega
  have hgs : g < w.heap.size := h0 g h1
  have hal : Below w.heap.size w (w.alloc (.cells #[.int .i64 0, .int .i64 0, .int .i64 0] 23)) := (Below.refl _ _).alloc (Nat.le_refl _) _
  have hbg := h2.alloc (.cells #[.int .i64 0, .int .i64 0, .int .i64 0] 23)
  have hb2 := Blk.new w 23 #[.int .i64 0, .int .i64 0, .int .i64 0]
  have HR := Lib.hid (hr.below hal)
  have HBG := Lib.hid hbg
  have HB2 := Lib.hid hb2
  have HAL := Lib.hid hal
  clear hbg hb2 hal hr h2 h3 h4 h5 h6 h0 hn
  go_enter Try.func19, Try.ntmps19
  go_wp2_with fail
  go_loopw [4, 5] (fun bs i wr => ∃ k q : Nat, k ≤ n ∧ i = .int .i64 k ∧ bs = .int .i64 (bst l k) ∧ Hid (wr = (w.alloc (.cells #[.int .i64 0, .int .i64 0, .int .i64 0] 23)).drewN q)) (fun _ i _ => n - (intOf i).toNat)
  case atStart => exact ⟨0, 0, Nat.zero_le _, rfl, rfl, rfl⟩
  case round =>
    obtain ⟨k, q, hk, rfl, rfl, HW⟩ := hrel
    have hbg : Blk wr g 64 #[.slice A n c, .map (some m)] := by rw [HW.out]; exact HBG.out
    have hB2 : Blk wr w.heap.size 23 #[.int .i64 0, .int .i64 0, .int .i64 0] := by rw [HW.out]; exact HB2.out
    have hr3 : Reads wr w.heap.size 5 A n (cellsE l) := by rw [HW.out]; exact HR.out
    have hbw : Below w.heap.size w wr := by rw [HW.out]; exact below_drewN HAL.out q
    have c0 := hbg.cell 0
    have q0 := hB2.cell 0
    have q1 := hB2.cell 1
    have q2 := hB2.cell 2
    have fq := hB2.frozen 0
    have fq1 := hB2.frozen 1
    have fq2 := hB2.frozen 2
    have hbd := bst_bound l k
    by_cases hlt : k < n
    · obtain ⟨b, off, rfl, hb2, hd⟩ := hr3.recs encE_len (by omega) (by omega)
      have hkl : k < l.length := by have := HL.out; omega
      have d3 : wr.cell? ⟨b, off + k * 5 + 3, none⟩ = some (.int .i64 l[k].2.1) := hd k hkl 3 _ rfl
      have d4 : wr.cell? ⟨b, off + k * 5 + 4, none⟩ = some (.int .i64 l[k].2.2) := hd k hkl 4 _ rfl
      have hk1 : (k : Int) < n := by omega
      have hk0 : (0 : Int) ≤ k := by omega
      by_cases hs : l[k].2.1 = 0
      · have e1 : (l[k].2.1 == 0) = true := eq0_t hs
        by_cases hb0 : bst l k < 0
        · have HE := Lib.hid (bst_take hkl hs (.inl hb0))
          have e2 : decide (bst l k < 0) = true := decide_eq_true hb0
          clear hs hd
          go_wp2_with fail
          go_quiet (fail)
          go_wp2_with fail
          go_roundw
          case rel => exact ⟨k + 1, q + nq, by omega, by go_num, by rw [HE.out], by rw [HW.out, World.drewN_drewN]; rfl⟩
          case measure => simp [intOf]; omega
        · obtain ⟨j, hj⟩ : ∃ j : Nat, bst l k = j := ⟨(bst l k).toNat, by omega⟩
          have hjk : j < k := by omega
          have hjl : j < l.length := by omega
          have f4 : wr.cell? ⟨b, off + j * 5 + 4, none⟩ = some (.int .i64 l[j].2.2) := hd j hjl 4 _ rfl
          have e2 : decide ((j : Int) < 0) = false := decide_eq_false (by omega)
          have hj1 : (j : Int) < n := by omega
          have hj0 : (0 : Int) ≤ j := by omega
          have htj : trOf l (bst l k).toNat = l[j].2.2 := by rw [hj]; exact trOf_at hjl
          by_cases ht : l[k].2.2 < l[j].2.2
          · have HE := Lib.hid (bst_take hkl hs (.inr (by rw [htj]; exact ht)))
            have e3 : decide (l[k].2.2 < l[j].2.2) = true := decide_eq_true ht
            rw [hj]
            clear hs hd htj hj
            go_wp2_with fail
            go_quiet (fail)
            go_wp2_with fail
            go_roundw
            case rel => exact ⟨k + 1, q + nq, by omega, by go_num, by rw [HE.out], by rw [HW.out, World.drewN_drewN]; rfl⟩
            case measure => simp [intOf]; omega
          · have HE := Lib.hid (bst_later hkl (by omega) (by rw [htj]; omega))
            have e3 : decide (l[k].2.2 < l[j].2.2) = false := decide_eq_false ht
            have HJ := Lib.hid hj
            rw [hj]
            clear hs hd htj hj
            go_wp2_with fail
            go_quiet (fail)
            go_wp2_with fail
            go_roundw
            case rel => exact ⟨k + 1, q + nq, by omega, by go_num, by rw [HE.out, HJ.out], by rw [HW.out, World.drewN_drewN]; rfl⟩
            case measure => simp [intOf]; omega
      · have HE := Lib.hid (bst_state hkl hs)
        have e1 : (l[k].2.1 == 0) = false := eq0_f hs
        clear hs hd
        go_wp2_with fail
        go_quiet (fail)
        go_wp2_with fail
        go_roundw
        case rel => exact ⟨k + 1, q + nq, by omega, by go_num, by rw [HE.out], by rw [HW.out, World.drewN_drewN]; rfl⟩
        case measure => simp [intOf]; omega
    · have HK : Hid (k = l.length) := Lib.hid (by have := HL.out; omega)
      by_cases hb0 : bst l k < 0
      · have E2 : Hid (nextP l = z3) := Lib.hid (by unfold nextP; rw [← HK.out, if_pos hb0])
        have E3 : Hid (nextB l = false) := Lib.hid (by unfold nextB; rw [← HK.out]; exact decide_eq_false (by omega))
        go_wp2_with fail
        exact bodyPost_ret (v := .tuple #[.agg #[.int .i64 0, .int .i64 0, .int .i64 0], .bool false]) (by simp [results, Try.results19, go_sem, q0, q1, q2]) rfl ⟨by rw [E2.out, E3.out]; rfl, by repeat (first | exact hbw | refine Below.setCell ?_ (show w.heap.size ≤ w.heap.size from Nat.le_refl _) _)⟩
      · obtain ⟨j, hj⟩ : ∃ j : Nat, bst l k = j := ⟨(bst l k).toNat, by omega⟩
        have hjk : j < k := by omega
        have hjl : j < l.length := by have := HK.out; omega
        have E2 : Hid (nextP l = l[j].1) := Lib.hid (by unfold nextP; rw [← HK.out, if_neg hb0, hj]; simp [hjl])
        have E3 : Hid (nextB l = true) := Lib.hid (by unfold nextB; rw [← HK.out]; exact decide_eq_true (by omega))
        obtain ⟨b, off, rfl, hb2, hd⟩ := hr3.recs encE_len (by omega) (by omega)
        have d0 : wr.cell? ⟨b, off + j * 5, none⟩ = some (.int .i64 l[j].1.1) := hd j hjl 0 _ rfl
        have d1 : wr.cell? ⟨b, off + j * 5 + 1, none⟩ = some (.int .i64 l[j].1.2.1) := hd j hjl 1 _ rfl
        have d2 : wr.cell? ⟨b, off + j * 5 + 2, none⟩ = some (.int .i64 l[j].1.2.2) := hd j hjl 2 _ rfl
        rw [hj]
        have hj0 : (0 : Int) ≤ j := by omega
        have hjn : j < n := by omega
        clear hd hj
        go_wp2_with fail
        exact bodyPost_ret (v := .tuple #[.agg #[.int .i64 l[j].1.1, .int .i64 l[j].1.2.1, .int .i64 l[j].1.2.2], .bool true]) (by simp [results, Try.results19, go_sem, q0, q1, q2]) rfl ⟨by rw [E2.out, E3.out], by repeat (first | exact hbw | refine Below.setCell ?_ (show w.heap.size ≤ w.heap.size from Nat.le_refl _) _)⟩
end Go.Proofs.Ytakjdffebpcmnaa
