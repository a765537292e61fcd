/- The walk of PhotoMetric. -/
import Derived.Test.YtpipojgfpilhdaaPhS
import Derived.Test.YtpipojgfpilhdaaPhTPure
namespace Go.Proofs.Ytpipojgfpilhdaa
open Go.RowKit
def LitPost (p : Ph) (y : Int) (w : World) (ok : Bool) (e : Ending) (w' : World) : Prop :=
  Below w.heap.size w w' ∧ ((ok = true ∧ ∃ A c, e = .returned (.tuple #[aggF (litP p y A p.n c), .bool true]) ∧ PR w' (litP p y A p.n c)) ∨ (ok = false ∧ e = .returned (.tuple #[aggF p, .bool false])))
/-- A photo is stored over another one. -/
theorem store_photo {w : World} {g : Nat} {a0 a1 a2 a3 a4 : Value} (h : Blk w g 24 #[a0, a1, a2, a3, a4]) (b0 b1 b2 b3 b4 : Value) :
    Blk (((((w.setCell ⟨g, 0, none⟩ b0).setCell ⟨g, 1, none⟩ b1).setCell ⟨g, 2, none⟩ b2).setCell ⟨g, 3, none⟩ b3).setCell ⟨g, 4, none⟩ b4) g 24 #[b0, b1, b2, b3, b4] ∧ Only (fun k => k = g) w (((((w.setCell ⟨g, 0, none⟩ b0).setCell ⟨g, 1, none⟩ b1).setCell ⟨g, 2, none⟩ b2).setCell ⟨g, 3, none⟩ b3).setCell ⟨g, 4, none⟩ b4) :=
  ⟨((((h.set_ 0 b0).set_ 1 b1).set_ 2 b2).set_ 3 b3).set_ 4 b4, (((((Only.refl (fun k => k = g) w).setCell (p := ⟨g, 0, none⟩) (fun _ => rfl) _).setCell (p := ⟨g, 1, none⟩) (fun _ => rfl) _).setCell (p := ⟨g, 2, none⟩) (fun _ => rfl) _).setCell (p := ⟨g, 3, none⟩) (fun _ => rfl) _).setCell (p := ⟨g, 4, none⟩) (fun _ => rfl) _⟩
set_option maxHeartbeats 8000000 in
set_option maxRecDepth 20000 in
theorem lighter_any (p : Ph) (y : Int) (ok : Bool) (w : World) (h : PR w p) (hn : p.n ≤ 5000) (hok : litOk p.px y = ok) : Calls Try.prog 26 #[aggF p, .int .i64 y] w (LitPost p y w ok) := by
  have HPA : Hid (∀ u, Below w.heap.size w u → PR u p) := Lib.hid fun u hu => h.below hu
  have HBY := Lib.hid h.2.1
  have HLN := Lib.hid h.len
  have HNM := Lib.hid h.2.2
  have HOK := Lib.hid hok
  clear h hok
  obtain ⟨i0, hi0, hz0, hz1, hz2⟩ := info_parts infoByte
  go_enter Try.func26, Try.ntmps26
  go_wp2_with fail
  obtain ⟨v1, hv1⟩ : ∃ v, (((w.alloc (.cells #[.int .i64 p.ride, .int .i64 p.tm, .int .i64 p.W, .int .i64 p.H, .slice p.A p.n p.c] 24)).alloc (.cells #[.int .i64 0, .int .i64 0, .int .i64 0, .int .i64 0, .slice none 0 0] 24)).alloc (.cells #[.int .i64 p.ride, .int .i64 p.tm, .int .i64 p.W, .int .i64 p.H, .slice none 0 0] 24)) = v := ⟨_, rfl⟩
  have HBP : Hid (Blk v1 w.heap.size 24 #[.int .i64 p.ride, .int .i64 p.tm, .int .i64 p.W, .int .i64 p.H, .slice p.A p.n p.c]) := Lib.hid (by rw [← hv1]; exact ((Blk.new w _ _).alloc _).alloc _)
  have HBR : Hid (Blk v1 (w.heap.size + 1) 24 #[.int .i64 0, .int .i64 0, .int .i64 0, .int .i64 0, .slice none 0 0]) := Lib.hid (by
    rw [← hv1]
    have := (Blk.new (w.alloc (.cells #[.int .i64 p.ride, .int .i64 p.tm, .int .i64 p.W, .int .i64 p.H, .slice p.A p.n p.c] 24)) 24 #[.int .i64 0, .int .i64 0, .int .i64 0, .int .i64 0, .slice none 0 0]).alloc (.cells #[.int .i64 p.ride, .int .i64 p.tm, .int .i64 p.W, .int .i64 p.H, .slice none 0 0] 24)
    simpa using this)
  have HSZ : Hid (v1.heap.size = w.heap.size + 1 + 1 + 1) := Lib.hid (by rw [← hv1]; simp)
  have HBW : Hid (Below w.heap.size w v1) := Lib.hid (by
    rw [← hv1]
    exact ((((Below.refl _ _).alloc (Nat.le_refl _) _).alloc (by simp) _).alloc (by simp; omega) _))
  have HG0 : Hid (Grow v1 v1 v1.heap.size (w.heap.size + 1 + 1) p.ride p.tm p.W p.H none 0 0 (litL p.px y 0)) := Lib.hid (by
    refine ⟨?_, World.ownsRow_nil _ _ _ _, by have := HSZ.out; omega, Only.refl _ _, Nat.le_refl _⟩
    rw [← hv1]
    have := Blk.new ((w.alloc (.cells #[.int .i64 p.ride, .int .i64 p.tm, .int .i64 p.W, .int .i64 p.H, .slice p.A p.n p.c] 24)).alloc (.cells #[.int .i64 0, .int .i64 0, .int .i64 0, .int .i64 0, .slice none 0 0] 24)) 24 #[.int .i64 p.ride, .int .i64 p.tm, .int .i64 p.W, .int .i64 p.H, .slice none 0 0]
    simpa using this)
  rw [hv1]
  clear hv1
  go_loopw [7, 8] (fun s7 s8 wr => ∃ (k c : Nat) (A : Option Addr), k ≤ p.n ∧ s7 = .int .i64 k ∧ Hid (Grow v1 wr v1.heap.size (w.heap.size + 1 + 1) p.ride p.tm p.W p.H A k c (litL p.px y k)) ∧ Hid (∀ j, j < k → -255 ≤ y ∧ y ≤ 255 ∧ 0 ≤ uAt p.px j + y ∧ uAt p.px j + y ≤ 255)) (fun s _ _ => p.n - (intOf s).toNat)
  case atStart => exact ⟨0, 0, none, Nat.zero_le _, rfl, HG0, Lib.hid fun j hj => absurd hj (Nat.not_lt_zero _)⟩
  case round =>
    obtain ⟨wo, rfl⟩ : ∃ wo : World, wo = wr := ⟨_, rfl⟩
    obtain ⟨k, c, A, hk, rfl, HG, HJ⟩ := hrel
    have HBo := Lib.hid (HBW.out.trans (HG.out.old (by omega) HBW.out.size))
    have HP := Lib.hid (HPA.out _ HBo.out)
    have hBp := HG.out.only.blk HBP.out (fun e => by have := HSZ.out; rcases e with e | e <;> omega)
    have hBr := HG.out.only.blk HBR.out (fun e => by have := HSZ.out; rcases e with e | e <;> omega)
    have c04 := (hBp.cell 4).trans rfl
    by_cases hlt : k < p.n
    · obtain ⟨b, off, e', _, hc⟩ := u_cells HP.out.1 (by omega)
      have HE := Lib.hid e'
      rw [e'] at c04
      have d0 := hc k hlt
      have hby := HBY.out.at_ k
      obtain ⟨x, hx⟩ : ∃ x, uAt p.px k = x := ⟨_, rfl⟩
      rw [hx] at d0 hby
      have HX := Lib.hid hx
      have hk0 : (0 : Int) ≤ k := by omega
      have hk1 : (k : Int) < p.n := by omega
      have HBp := Lib.hid hBp; have HBr := Lib.hid hBr
      clear e' hc hx hBp hBr hlt
      by_cases hr : -255 ≤ y ∧ y ≤ 255 ∧ 0 ≤ x + y ∧ x + y ≤ 255
      case neg =>
        have HKO : Hid (ok = false) := Lib.hid (HOK.out.symm.trans (litOk_bad (k := k) (by have := HLN.out; omega) (by have := HX.out; omega)))
        rcases (by omega : y < -255 ∨ (-255 ≤ y ∧ 255 < y) ∨ (-255 ≤ y ∧ y ≤ 255 ∧ x + y < 0) ∨ (-255 ≤ y ∧ y ≤ 255 ∧ 0 ≤ x + y ∧ 255 < x + y)) with g1 | ⟨g1, g2⟩ | ⟨g1, g2, g3⟩ | ⟨g1, g2, g3, g4⟩
        all_goals
          clear hr
          have p0 := (HBp.out.cell 0).trans rfl; have p1 := (HBp.out.cell 1).trans rfl; have p2 := (HBp.out.cell 2).trans rfl; have p3 := (HBp.out.cell 3).trans rfl
          have q0 := (HBr.out.cell 0).trans rfl; have q1 := (HBr.out.cell 1).trans rfl; have q2 := (HBr.out.cell 2).trans rfl; have q3 := (HBr.out.cell 3).trans rfl; have q4 := (HBr.out.cell 4).trans rfl
          have y0 := HBr.out.frozen 0; have y1 := HBr.out.frozen 1; have y2 := HBr.out.frozen 2; have y3 := HBr.out.frozen 3; have y4 := HBr.out.frozen 4
          obtain ⟨hS1, hS2⟩ := store_photo HBr.out (.int .i64 p.ride) (.int .i64 p.tm) (.int .i64 p.W) (.int .i64 p.H) (.slice (some ⟨b, off, none⟩) p.n p.c)
          obtain ⟨wf, hwf⟩ : ∃ u, (((((wo.setCell ⟨w.heap.size + 1, 0, none⟩ (.int .i64 p.ride)).setCell ⟨w.heap.size + 1, 1, none⟩ (.int .i64 p.tm)).setCell ⟨w.heap.size + 1, 2, none⟩ (.int .i64 p.W)).setCell ⟨w.heap.size + 1, 3, none⟩ (.int .i64 p.H)).setCell ⟨w.heap.size + 1, 4, none⟩ (.slice (some ⟨b, off, none⟩) p.n p.c)) = u := ⟨_, rfl⟩
          rw [hwf] at hS1 hS2
          have HS1 := Lib.hid hS1
          have HBL : Hid (Below w.heap.size w wf) := Lib.hid (HBo.out.trans (hS2.below (fun k _ e => by omega) HBo.out.size))
          have HWF := Lib.hid hwf
          clear hwf hS1 hS2
          go_wp2_with fail
          rw [HWF.out]
          have z0 := (HS1.out.cell 0).trans rfl; have z1 := (HS1.out.cell 1).trans rfl; have z2 := (HS1.out.cell 2).trans rfl; have z3 := (HS1.out.cell 3).trans rfl; have z4 := (HS1.out.cell 4).trans rfl
          exact bodyPost_ret (v := .tuple #[.agg #[.int .i64 p.ride, .int .i64 p.tm, .int .i64 p.W, .int .i64 p.H, .slice (some ⟨b, off, none⟩) p.n p.c], .bool false]) (by simp [results, Try.results26, go_sem, z0, z1, z2, z3, z4]) rfl ⟨HBL.out, .inr ⟨HKO.out, by rw [← HE.out]⟩⟩
      have HC : Hid (litL p.px y (k + 1) = litL p.px y k ++ [x + y]) := Lib.hid (by rw [litL_step y (by have := HLN.out; omega), HX.out])
      have HJ2 : Hid (∀ j, j < k + 1 → -255 ≤ y ∧ y ≤ 255 ∧ 0 ≤ uAt p.px j + y ∧ uAt p.px j + y ≤ 255) := Lib.hid fun j hj => by
        rcases Nat.lt_succ_iff_lt_or_eq.1 hj with h1 | rfl
        · exact HJ.out j h1
        · rw [HX.out]; exact hr
      obtain ⟨g1, g2, g3, g4⟩ := hr
      have r2 : (x + y) % 256 = x + y := by omega
      have r3 : IntKind.u8.wrap (x + y) = x + y := by rw [IntKind.wrap_u8]; omega
      have g04 := (HG.out.blk.cell 4).trans rfl
      have zg := HG.out.blk.frozen 4
      have hglt := HG.out.blk.lt
      go_wp2_with (at_builtin; go_loud (refine wpList_append_any _ rfl (.tmp 42) (.tmp 45) _ rfl v1.heap.size 5 i0 _ 1 1 Try.underlying22 hi0 hz0 hz1 hz2 rfl (by omega) (.slice A k c) k _ (by rfl) (HG.out.own.alloc _) _ _ 1 1 [.int .u8 (x + y)] (by rfl) (fr1U _ (x + y)) oneU1 (le_max (by omega)) (by omega) (Nat.le_trans HG.out.size (by simp)) ?_; intro v7 w7 hown7 hg7 hat7; obtain ⟨A7, c7, rfl, hr7⟩ := own_reads hown7; have HN := Lib.hid (HG.out.push ((Below.refl wo.heap.size wo).alloc (Nat.le_refl _) _) hown7 hg7); have hB7 := (HG.out.blk.below ((Below.refl wo.heap.size wo).alloc (Nat.le_refl _) _) hglt).grown hg7 (fun e => HG.out.ne _ e.symm rfl); have g7 := (hB7.cell 4).trans rfl; have z7 := hB7.frozen 4; clear hown7 hg7 hat7 hr7 hB7))
      rw [← HC.out] at HN
      go_roundw
      case rel => exact ⟨k + 1, c7, A7, by omega, by go_num, HN, HJ2⟩
      case measure => simp [intOf]; omega
    · obtain rfl : k = p.n := by omega
      have HKO : Hid (ok = true) := Lib.hid (HOK.out.symm.trans (litOk_all fun j hj => HJ.out j (by have := HLN.out; omega)))
      have a0 := (HG.out.blk.cell 0).trans rfl; have a1 := (HG.out.blk.cell 1).trans rfl; have a2 := (HG.out.blk.cell 2).trans rfl; have a3 := (HG.out.blk.cell 3).trans rfl; have a4 := (HG.out.blk.cell 4).trans rfl
      have q0 := (hBr.cell 0).trans rfl; have q1 := (hBr.cell 1).trans rfl; have q2 := (hBr.cell 2).trans rfl; have q3 := (hBr.cell 3).trans rfl; have q4 := (hBr.cell 4).trans rfl
      have y0 := hBr.frozen 0; have y1 := hBr.frozen 1; have y2 := hBr.frozen 2; have y3 := hBr.frozen 3; have y4 := hBr.frozen 4
      obtain ⟨hS1, hS2⟩ := store_photo hBr (.int .i64 p.ride) (.int .i64 p.tm) (.int .i64 p.W) (.int .i64 p.H) (.slice A p.n c)
      obtain ⟨wf, hwf⟩ : ∃ u, (((((wo.setCell ⟨w.heap.size + 1, 0, none⟩ (.int .i64 p.ride)).setCell ⟨w.heap.size + 1, 1, none⟩ (.int .i64 p.tm)).setCell ⟨w.heap.size + 1, 2, none⟩ (.int .i64 p.W)).setCell ⟨w.heap.size + 1, 3, none⟩ (.int .i64 p.H)).setCell ⟨w.heap.size + 1, 4, none⟩ (.slice A p.n c)) = u := ⟨_, rfl⟩
      rw [hwf] at hS1 hS2
      have HS1 := Lib.hid hS1
      have HBL : Hid (Below w.heap.size w wf) := Lib.hid (HBo.out.trans (hS2.below (fun k _ e => by omega) HBo.out.size))
      have HRF : Hid (PR wf (litP p y A p.n c)) := Lib.hid ⟨Reads.of_own (hS2.own HG.out.own fun k hk e => by
        have := (HG.out.own.lt k hk).1
        have := HSZ.out
        omega), litL_bytes (HOK.out.trans HKO.out) _, HNM.out⟩
      have HWF := Lib.hid hwf
      clear hwf hS1 hS2 hBp hBr hlt
      go_wp2_with fail
      rw [HWF.out]
      have z0 := (HS1.out.cell 0).trans rfl; have z1 := (HS1.out.cell 1).trans rfl; have z2 := (HS1.out.cell 2).trans rfl; have z3 := (HS1.out.cell 3).trans rfl; have z4 := (HS1.out.cell 4).trans rfl
      exact bodyPost_ret (v := .tuple #[.agg #[.int .i64 p.ride, .int .i64 p.tm, .int .i64 p.W, .int .i64 p.H, .slice A p.n c], .bool true]) (by simp [results, Try.results26, go_sem, z0, z1, z2, z3, z4]) rfl ⟨HBL.out, .inl ⟨HKO.out, A, c, rfl, HRF.out⟩⟩
end Go.Proofs.Ytpipojgfpilhdaa
