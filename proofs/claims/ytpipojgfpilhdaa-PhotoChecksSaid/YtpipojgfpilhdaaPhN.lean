/- Photos that grow pixel by pixel; the walk of columns. -/
import Derived.Test.YtpipojgfpilhdaaPhM
import Derived.Test.YtpipojgfpilhdaaPhI
namespace Go.Proofs.Ytpipojgfpilhdaa
open Go.RowKit
def colL (t k : Nat) : List Int := (List.range k).map fun i => ((i % 9 * t : Nat) : Int)
theorem colL_step (t k : Nat) : colL t (k + 1) = colL t k ++ [((k % 9 * t : Nat) : Int)] := by unfold colL; rw [List.range_succ, List.map_append]; rfl
/-- A photo that is being made since v1: its five cells lie in block g, its pixels in a row of its own behind base. -/
structure Grow (v1 wr : World) (base g : Nat) (r t W H : Int) (A : Option Addr) (n c : Nat) (l : List Int) : Prop where
  blk : Blk wr g 24 #[.int .i64 r, .int .i64 t, .int .i64 W, .int .i64 H, .slice A n c]
  own : wr.ownsRow base 5 1 (.slice A n c) n (cellsU l)
  lt : g < base
  only : Only (fun k => k = g ∨ base ≤ k) v1 wr
  size : base ≤ wr.heap.size
section
variable {v1 wr u w7 wn : World} {base g : Nat} {r t W H : Int} {A A7 : Option Addr} {n c c7 : Nat} {l : List Int} {b : Int}
theorem Grow.ne (h : Grow v1 wr base g r t W H A n c l) : ∀ k, (Value.slice A n c).ownBlock = some k → k ≠ g := fun k hk e => by
  have := (h.own.lt k hk).1
  have := h.lt
  omega
/-- One pixel more: the append at the world u behind a buildSlice, then the store. -/
theorem Grow.push (h : Grow v1 wr base g r t W H A n c l) (hu : Below wr.heap.size wr u)
    (ho : w7.ownsRow base 5 1 (.slice A7 (n + 1) c7) (n + 1) (cellsU l ++ [.int .u8 b])) (hg : u.grownBy w7 (Value.slice A n c).ownBlock) : Grow v1 (w7.setCell ⟨g, 4, none⟩ (.slice A7 (n + 1) c7)) base g r t W H A7 (n + 1) c7 (l ++ [b]) := by
  have hB : Blk w7 g 24 #[.int .i64 r, .int .i64 t, .int .i64 W, .int .i64 H, .slice A n c] := (h.blk.below hu h.blk.lt).grown hg fun e => h.ne g e.symm rfl
  have hsz : base ≤ w7.heap.size := Nat.le_trans h.size (Nat.le_trans hu.size hg.size)
  have h1 : Only (fun k => k = g ∨ base ≤ k) v1 u := h.only.trans (Only.of_new hu (fun _ => False)) fun _ _ e => e.elim
  have h2 : Only (fun k => k = g ∨ base ≤ k) v1 w7 := h1.grown hg fun k hk _ => .inr (h.own.lt k hk).1
  refine ⟨hB.set_ 4 _, ?_, h.lt, h2.setCell (p := ⟨g, 4, none⟩) (fun _ => .inl rfl) _, by simpa [World.setCell] using hsz⟩
  rw [snocU]
  exact ((Only.refl (fun k => k = g) w7).setCell (p := ⟨g, 4, none⟩) (fun _ => rfl) _).own ho fun k hk e => by
    have := (ho.lt k hk).1
    have := h.lt
    omega
theorem Grow.drew (h : Grow v1 wr base g r t W H A n c l) : Grow v1 wr.drew base g r t W H A n c l :=
  ⟨h.blk.drew, h.own, h.lt, ⟨h.only.os, h.only.tape, h.only.output, h.only.size, h.only.block⟩, h.size⟩
theorem Grow.next (h : Grow v1 wr base g r t W H A n c l) (hb : Below wr.heap.size wr wn) : Grow v1 wn base g r t W H A n c l :=
  ⟨h.blk.below hb h.blk.lt, own_below h.own hb, h.lt, h.only.trans (Only.of_new hb (fun _ => False)) fun _ _ e => e.elim, Nat.le_trans h.size hb.size⟩
theorem Grow.old (h : Grow v1 wr base g r t W H A n c l) {B : Nat} (hg : B ≤ g) (hB : B ≤ v1.heap.size) : Below B v1 wr :=
  h.only.below (fun k _ e => by have := h.lt; omega) hB
end
set_option maxHeartbeats 4000000 in
set_option maxRecDepth 20000 in
theorem columns_any (t : Nat) (w : World) (ht : t ≤ 20) : Calls Try.prog 29 #[.int .i64 t] w (fun e w' => ∃ A c, e = .returned (aggF ⟨1, 0, 9, 9, A, 81, c, colL t 81⟩) ∧ Below w.heap.size w w' ∧ Reads w' w'.heap.size 1 A 81 (cellsU (colL t 81))) := by
  obtain ⟨i0, hi0, hz0, hz1, hz2⟩ := info_parts infoByte
  go_enter Try.func29, Try.ntmps29
  go_wp2_with fail
  obtain ⟨v1, hv1⟩ : ∃ v, ((w.alloc (.cells #[.int .i64 0, .int .i64 0, .int .i64 0, .int .i64 0, .slice none 0 0] 24)).alloc (.cells #[.int .i64 1, .int .i64 0, .int .i64 9, .int .i64 9, .slice none 0 0] 24)) = v := ⟨_, rfl⟩
  have HB2 : Hid (Blk v1 w.heap.size 24 #[.int .i64 0, .int .i64 0, .int .i64 0, .int .i64 0, .slice none 0 0]) := Lib.hid (by rw [← hv1]; exact (Blk.new w _ _).alloc _)
  have hsz : v1.heap.size = w.heap.size + 1 + 1 := by rw [← hv1]; simp
  have HBW : Hid (Below w.heap.size w v1) := Lib.hid (by rw [← hv1]; exact below_alloc ((Below.refl _ _).alloc (Nat.le_refl _) _) (Nat.le_refl _) _)
  have HG0 : Hid (Grow v1 v1 v1.heap.size (w.heap.size + 1) 1 0 9 9 none 0 0 []) := Lib.hid (by
    refine ⟨?_, World.ownsRow_nil _ _ _ _, by omega, Only.refl _ _, Nat.le_refl _⟩
    rw [← hv1]
    have := Blk.new (w.alloc (.cells #[.int .i64 0, .int .i64 0, .int .i64 0, .int .i64 0, .slice none 0 0] 24)) 24 #[.int .i64 1, .int .i64 0, .int .i64 9, .int .i64 9, .slice none 0 0]
    simpa using this)
  have HSZ := Lib.hid hsz
  rw [hv1]
  clear hv1 hsz
  go_loopw [4] (fun s4 wr => ∃ (k c : Nat) (A : Option Addr), k ≤ 81 ∧ s4 = .int .i64 k ∧ Hid (Grow v1 wr v1.heap.size (w.heap.size + 1) 1 0 9 9 A k c (colL t k))) (fun s _ => 81 - (intOf s).toNat)
  case atStart => exact ⟨0, 0, none, by decide, rfl, HG0⟩
  case round =>
    obtain ⟨wo, rfl⟩ : ∃ wo : World, wo = wr := ⟨_, rfl⟩
    obtain ⟨k, c, A, hk, rfl, HG⟩ := hrel
    have g4 := (HG.out.blk.cell 4).trans rfl
    have zg := HG.out.blk.frozen 4
    have hglt := HG.out.blk.lt
    by_cases hlt : k < 81
    · have hk1 : (k : Int) < 81 := by omega
      obtain ⟨q, hq⟩ : ∃ q, k % 9 = q := ⟨_, rfl⟩
      have r1 : (k : Int).tmod 9 = (q : Int) := by rw [Int.tmod_eq_emod_of_nonneg (by omega)]; omega
      obtain ⟨b, hb⟩ : ∃ b : Nat, q * t = b := ⟨_, rfl⟩
      have hbb : b ≤ 160 := by rw [← hb]; exact Nat.mul_le_mul (show q ≤ 8 by omega) ht
      have r2 : (q : Int) * (t : Int) = (b : Int) := by rw [← hb, Int.natCast_mul]
      have r3 : (k : Int) % 9 = (q : Int) := by omega
      have r4 : (b : Int) % 256 = b := by omega
      have HC : Hid (colL t (k + 1) = colL t k ++ [(b : Int)]) := Lib.hid (by rw [colL_step, hq, hb])
      clear hq hb
      go_wp2_with (at_builtin; refine wpList_append_any _ rfl (.tmp 11) (.tmp 17) _ rfl v1.heap.size 5 i0 _ 1 1 Try.underlying22 hi0 hz0 hz1 hz2 rfl (by omega) (.slice A k c) k _ (by rfl) (HG.out.own.alloc _) _ _ 1 1 [.int .u8 (b : Int)] (by rfl) (fr1U _ (b : Int)) oneU1 (le_max (by omega)) (by omega) (Nat.le_trans HG.out.size (by simp)) ?_; intro v7 w7 hown7 hg7 hat7; obtain ⟨A7, c7, rfl, hr7⟩ := own_reads hown7; have HN := Lib.hid (HG.out.push ((Below.refl wo.heap.size wo).alloc (Nat.le_refl _) _) hown7 hg7); have hB7 := (HG.out.blk.below ((Below.refl wo.heap.size wo).alloc (Nat.le_refl _) _) hglt).grown hg7 (fun e => HG.out.ne _ e.symm rfl); have g7 := (hB7.cell 4).trans rfl; have z7 := hB7.frozen 4; clear hown7 hg7 hat7 hr7 hB7)
      rw [← HC.out] at HN
      go_roundw
      case rel => exact ⟨k + 1, c7, A7, by omega, by go_num, HN⟩
      case measure => simp [intOf]; omega
    · obtain rfl : k = 81 := by omega
      have hB2 := HG.out.only.blk HB2.out (fun e => by have := HSZ.out; rcases e with e | e <;> omega)
      have a0 := (HG.out.blk.cell 0).trans rfl; have a1 := (HG.out.blk.cell 1).trans rfl; have a2 := (HG.out.blk.cell 2).trans rfl; have a3 := (HG.out.blk.cell 3).trans rfl
      have b0 := (hB2.cell 0).trans rfl; have b1 := (hB2.cell 1).trans rfl; have b2 := (hB2.cell 2).trans rfl; have b3 := (hB2.cell 3).trans rfl; have b4 := (hB2.cell 4).trans rfl
      have y0 := hB2.frozen 0; have y1 := hB2.frozen 1; have y2 := hB2.frozen 2; have y3 := hB2.frozen 3; have y4 := hB2.frozen 4
      obtain ⟨wf, hwf⟩ : ∃ x, (((((wo.setCell ⟨w.heap.size, 0, none⟩ (.int .i64 1)).setCell ⟨w.heap.size, 1, none⟩ (.int .i64 0)).setCell ⟨w.heap.size, 2, none⟩ (.int .i64 9)).setCell ⟨w.heap.size, 3, none⟩ (.int .i64 9)).setCell ⟨w.heap.size, 4, none⟩ (.slice A 81 c)) = x := ⟨_, rfl⟩
      have HBf : Hid (Blk wf w.heap.size 24 #[.int .i64 1, .int .i64 0, .int .i64 9, .int .i64 9, .slice A 81 c]) := Lib.hid (by
        rw [← hwf]
        exact ((((hB2.set_ 0 (.int .i64 1)).set_ 1 (.int .i64 0)).set_ 2 (.int .i64 9)).set_ 3 (.int .i64 9)).set_ 4 (.slice A 81 c))
      have hO : Only (fun k => k = w.heap.size) wo wf := by
        rw [← hwf]
        exact (((((Only.refl (fun k => k = w.heap.size) wo).setCell (p := ⟨w.heap.size, 0, none⟩) (fun _ => rfl) _).setCell (p := ⟨w.heap.size, 1, none⟩) (fun _ => rfl) _).setCell (p := ⟨w.heap.size, 2, none⟩) (fun _ => rfl) _).setCell (p := ⟨w.heap.size, 3, none⟩) (fun _ => rfl) _).setCell (p := ⟨w.heap.size, 4, none⟩) (fun _ => rfl) _
      have HRF : Hid (Reads wf wf.heap.size 1 A 81 (cellsU (colL t 81))) := Lib.hid (Reads.of_own (hO.own HG.out.own fun k hk e => by
        have := (HG.out.own.lt k hk).1
        have := HSZ.out
        omega))
      have HBL : Hid (Below w.heap.size w wf) := Lib.hid ((HBW.out.trans (HG.out.old (by omega) HBW.out.size)).trans (hO.below (fun k _ e => by omega) (HBW.out.trans (HG.out.old (by omega) HBW.out.size)).size))
      have HWF := Lib.hid hwf
      clear hwf hO
      go_wp2_with fail
      rw [HWF.out]
      have c0 := (HBf.out.cell 0).trans rfl; have c1 := (HBf.out.cell 1).trans rfl; have c2 := (HBf.out.cell 2).trans rfl; have c3 := (HBf.out.cell 3).trans rfl; have c4 := (HBf.out.cell 4).trans rfl
      exact bodyPost_ret (v := .agg #[.int .i64 1, .int .i64 0, .int .i64 9, .int .i64 9, .slice A 81 c]) (by simp [results, Try.results29, go_sem, c0, c1, c2, c3, c4]) rfl ⟨A, c, rfl, HBL.out, HRF.out⟩
end Go.Proofs.Ytpipojgfpilhdaa
