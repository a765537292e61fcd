/- Pixels in memory; the walks of Few, slices.Max, slices.Min, both Usable. -/
import Derived.Test.YtdgdjlpbnaoheaaPhA
import Derived.Test.YtdgdjlpbnaoheaaFam
import Derived.Lib.MinMax
namespace Go.Proofs.Ytdgdjlpbnaoheaa
open Go.RowKit
def uAt (l : List Int) (k : Nat) : Int := l.getD k 0
theorem uAt_get {l : List Int} {k : Nat} (h : k < l.length) : uAt l k = l[k] := by unfold uAt; rw [List.getD_eq_getElem?_getD, List.getElem?_eq_getElem h]; rfl
theorem cellsU_len (l : List Int) : (cellsU l).length = l.length := by simp [cellsU]
theorem reads_len {w : World} {B n : Nat} {A : Option Addr} {l : List Int} (h : Reads w B 1 A n (cellsU l)) : l.length = n := by have := h.1; rwa [cellsU_len, Nat.mul_one] at this
theorem u_cells {w : World} {B n : Nat} {A : Option Addr} {l : List Int} (h : Reads w B 1 A n (cellsU l)) (hn : 0 < n) : ∃ b off, A = some ⟨b, off, none⟩ ∧ b < B ∧ ∀ k, k < n → w.cell? ⟨b, off + k, none⟩ = some (.int .u8 (uAt l k)) := by
  have hl := reads_len h
  obtain ⟨b, off, e, hb, hc⟩ := h.open_ hn (by omega)
  refine ⟨b, off, e, hb, fun k hk => hc k _ ?_⟩
  rw [uAt_get (by omega)]
  simp [cellsU, hl, hk]
def Bytes (l : List Int) : Prop := ∀ b ∈ l, 0 ≤ b ∧ b ≤ 255
theorem Bytes.at_ {l : List Int} (h : Bytes l) (k : Nat) : 0 ≤ uAt l k ∧ uAt l k ≤ 255 := by
  rcases Nat.lt_or_ge k l.length with g | g
  · rw [uAt_get g]; exact h _ (List.getElem_mem g)
  · unfold uAt; rw [List.getD_eq_getElem?_getD, List.getElem?_eq_none g]; decide
/-- The photo's pixels lie where it says. -/
def PR (w : World) (p : Ph) : Prop := Reads w w.heap.size 1 p.A p.n (cellsU p.px) ∧ Bytes p.px ∧ p.n ≤ 9223372036854775807
theorem PR.below {w w' : World} {p : Ph} (h : PR w p) (hb : Below w.heap.size w w') : PR w' p := ⟨(h.1.below hb).more hb.size, h.2⟩
theorem PR.len {w : World} {p : Ph} (h : PR w p) : p.px.length = p.n := reads_len h.1
/-- A list of photos in memory. -/
def cellsF (l : List Ph) : List Value := l.flatMap encF
def PsR (w : World) (A : Option Addr) (n : Nat) (l : List Ph) : Prop := Reads w w.heap.size 5 A n (cellsF l) ∧ (∀ p ∈ l, PR w p) ∧ l.length = n
theorem PsR.below {w w' : World} {A : Option Addr} {n : Nat} {l : List Ph} (h : PsR w A n l) (hb : Below w.heap.size w w') : PsR w' A n l :=
  ⟨(h.1.below hb).more hb.size, fun p hp => (h.2.1 p hp).below hb, h.2.2⟩
theorem PsR.cells {w : World} {A : Option Addr} {n : Nat} {l : List Ph} (h : PsR w A n l) (hn : 0 < n) : ∃ b off, A = some ⟨b, off, none⟩ ∧ b < w.heap.size ∧ ∀ k (hk : k < l.length), w.cell? ⟨b, off + k * 5, none⟩ = some (.int .i64 l[k].ride) ∧ w.cell? ⟨b, off + k * 5 + 1, none⟩ = some (.int .i64 l[k].tm) ∧ w.cell? ⟨b, off + k * 5 + 2, none⟩ = some (.int .i64 l[k].W) ∧ w.cell? ⟨b, off + k * 5 + 3, none⟩ = some (.int .i64 l[k].H) ∧ w.cell? ⟨b, off + k * 5 + 4, none⟩ = some (.slice l[k].A l[k].n l[k].c) := by
  obtain ⟨b, off, e, hb, hc⟩ := h.1.recs encF_len (by omega) hn
  exact ⟨b, off, e, hb, fun k hk => ⟨hc k hk 0 _ rfl, hc k hk 1 _ rfl, hc k hk 2 _ rfl, hc k hk 3 _ rfl, hc k hk 4 _ rfl⟩⟩
def phAt (l : List Ph) (k : Nat) : Ph := l.getD k ⟨0, 0, 0, 0, none, 0, 0, []⟩
theorem phAt_get {l : List Ph} {k : Nat} (h : k < l.length) : phAt l k = l[k] := by unfold phAt; rw [List.getD_eq_getElem?_getD, List.getElem?_eq_getElem h]; rfl
def fewF (l : List Ph) (most : Int) : Bool := l.all (fun p => decide (p.n ≤ 5000)) && decide ((l.length : Int) ≤ most)
theorem fewF_bad {l : List Ph} {m : Int} {k : Nat} (hk : k < l.length) (h : 5000 < l[k].n) : fewF l m = false := by
  have : l.all (fun p => decide (p.n ≤ 5000)) = false := by
    rw [List.all_eq_false]; exact ⟨l[k], List.getElem_mem hk, by simp; omega⟩
  unfold fewF; rw [this]; rfl
theorem fewF_end {l : List Ph} {m : Int} (h : ∀ k (hk : k < l.length), l[k].n ≤ 5000) : fewF l m = decide ((l.length : Int) ≤ m) := by
  have : l.all (fun p => decide (p.n ≤ 5000)) = true := by
    rw [List.all_eq_true]; intro p hp
    obtain ⟨k, hk, rfl⟩ := List.getElem_of_mem hp
    exact decide_eq_true (h k hk)
  unfold fewF; rw [this]; rfl
theorem fewF_inv {l : List Ph} {m : Int} (h : fewF l m = true) : (∀ p ∈ l, p.n ≤ 5000) ∧ (l.length : Int) ≤ m := by
  unfold fewF at h
  rw [Bool.and_eq_true, List.all_eq_true] at h
  exact ⟨fun p hp => of_decide_eq_true (h.1 p hp), of_decide_eq_true h.2⟩
set_option maxHeartbeats 2000000 in
theorem fewF_any (A : Option Addr) (n c : Nat) (l : List Ph) (most : Int) (x : Bool) (w : World) (h : PsR w A n l) (hn : n ≤ 9223372036854775807) (hx : fewF l most = x) : Calls Try.prog 24 #[.slice A n c, .int .i64 most] w (RetB w x) := by
  have HP := Lib.hid h; have HX := Lib.hid hx; have HL := Lib.hid h.2.2
  clear h hx
  go_enter Try.func24, Try.ntmps24
  go_wp2_with fail
  go_loopw [5] (fun s wr => ∃ k : Nat, k ≤ n ∧ s = .int .i64 k ∧ Hid (∀ j (hj : j < l.length), j < k → l[j].n ≤ 5000) ∧ Below w.heap.size w wr) (fun s _ => n - (intOf s).toNat)
  case atStart => exact ⟨0, Nat.zero_le _, rfl, Lib.hid (fun _ _ h => absurd h (Nat.not_lt_zero _)), Below.refl _ _⟩
  case round =>
    obtain ⟨k, hk, rfl, HA, hbw⟩ := hrel
    have HBW := Lib.hid hbw
    have HPr := Lib.hid (HP.out.below hbw)
    clear hbw
    by_cases hlt : k < n
    · have hkl : k < l.length := by have := HL.out; omega
      obtain ⟨b, off, rfl, hb, hc⟩ := HPr.out.cells (by omega)
      obtain ⟨_, _, _, _, d4⟩ := hc k hkl
      have hk0 : (0 : Int) ≤ k := by omega
      have hk1 : (k : Int) < n := by omega
      clear hc
      by_cases g : 5000 < l[k].n
      · have g1 : (5000 : Int) < l[k].n := by omega
        have HN := Lib.hid (fewF_bad (m := most) hkl g)
        have HX2 : Hid (false = x) := Lib.hid (by rw [← HX.out, HN.out])
        clear g
        go_wp2_with fail
        go_ret
        exact ⟨ret_bool HX2.out, HBW.out⟩
      · have g1 : (l[k].n : Int) ≤ 5000 := by omega
        have HA2 : Hid (∀ j (hj : j < l.length), j < k + 1 → l[j].n ≤ 5000) := Lib.hid fun j hj hjk => by
          rcases Nat.lt_or_ge j k with h1 | h1
          · exact HA.out j hj h1
          · obtain rfl : j = k := by omega
            omega
        clear g
        go_wp2_with fail
        go_roundw
        case rel => exact ⟨k + 1, by omega, by go_num, HA2, HBW.out⟩
        case measure => simp [intOf]; omega
    · have HX2 : Hid (decide ((n : Int) ≤ most) = x) := Lib.hid (by rw [← HX.out, fewF_end fun j hj => HA.out j hj (by have := HL.out; omega), HL.out])
      obtain ⟨y, hy⟩ : ∃ y, decide ((n : Int) ≤ most) = y := ⟨_, rfl⟩
      have HY : Hid (y = x) := Lib.hid (by rw [← hy]; exact HX2.out)
      go_wp2_with fail
      go_ret
      first
        | exact ⟨ret_bool HY.out, HBW.out⟩
        | exact ⟨ret_bool (hy.trans HY.out), HBW.out⟩
def mxU (l : List Int) : Int := l.foldl max 0
def mnU (l : List Int) : Int := l.foldl min 255
theorem mxU_step {l : List Int} {k : Nat} (hk : k < l.length) : mxU (l.take (k + 1)) = max (mxU (l.take k)) (uAt l k) := by
  unfold mxU; rw [List.take_succ_eq_append_getElem hk, List.foldl_append, uAt_get hk]; rfl
theorem mnU_step {l : List Int} {k : Nat} (hk : k < l.length) : mnU (l.take (k + 1)) = min (mnU (l.take k)) (uAt l k) := by
  unfold mnU; rw [List.take_succ_eq_append_getElem hk, List.foldl_append, uAt_get hk]; rfl
theorem mx_bd {l : List Int} (h : Bytes l) (k : Nat) : 0 ≤ mxU (l.take k) ∧ mxU (l.take k) ≤ 255 := by
  induction k with
  | zero => simp [mxU]
  | succ k ih =>
    rcases Nat.lt_or_ge k l.length with g | g
    · rw [mxU_step g]; have := h.at_ k; omega
    · rw [List.take_of_length_le (by omega)]; rwa [List.take_of_length_le g] at ih
theorem mn_bd {l : List Int} (h : Bytes l) (k : Nat) : 0 ≤ mnU (l.take k) ∧ mnU (l.take k) ≤ 255 := by
  induction k with
  | zero => simp [mnU]
  | succ k ih =>
    rcases Nat.lt_or_ge k l.length with g | g
    · rw [mnU_step g]; have := h.at_ k; omega
    · rw [List.take_of_length_le (by omega)]; rwa [List.take_of_length_le g] at ih
theorem mn_le_mx {l : List Int} (h0 : 0 < l.length) : mnU l ≤ mxU l := by
  have key : ∀ k, 0 < k → k ≤ l.length → mnU (l.take k) ≤ uAt l 0 ∧ uAt l 0 ≤ mxU (l.take k) := fun k => by
    induction k with
    | zero => intro hk; exact absurd hk (Nat.lt_irrefl 0)
    | succ k ih =>
      intro _ hk
      rw [mnU_step (by omega), mxU_step (by omega)]
      rcases Nat.eq_zero_or_pos k with g | g
      · subst g; omega
      · have := ih g (by omega); omega
  have := key l.length h0 (Nat.le_refl _)
  rw [List.take_length] at this
  omega
def usableB (p : Ph) : Bool := decide (pcheckZ p = 0) && decide (32 ≤ mxU p.px - mnU p.px)
set_option maxHeartbeats 1000000 in
theorem max_any (A : Option Addr) (n c : Nat) (l : List Int) (x : Int) (w : World) (h : Reads w w.heap.size 1 A n (cellsU l)) (hb : Bytes l) (h0 : 0 < n) (hn : n ≤ 9223372036854775807) (hx : mxU l = x) : Calls Try.prog 67 #[.slice A n c] w fun e w' => e = .returned (.int .u8 x) ∧ w = w' := by
  have HR := Lib.hid h; have HX := Lib.hid hx; have HL := Lib.hid (reads_len h); have HB := Lib.hid hb
  obtain ⟨b, off, rfl, _, hc⟩ := u_cells h h0
  have HC := Lib.hid hc
  have e0 := hc 0 h0
  rw [Nat.add_zero] at e0
  clear h hx hb hc
  have hn0 : (0 : Int) < n := by omega
  go_enter Try.func67, Try.ntmps67
  go_wp2_with fail
  go_loop [3, 4] (fun s3 s4 => ∃ k : Nat, 1 ≤ k ∧ k ≤ n ∧ s4 = .int .i64 k ∧ s3 = .int .u8 (mxU (l.take k))) (fun _ s => n - (intOf s).toNat)
  case atStart => exact ⟨1, Nat.le_refl _, by omega, rfl, by rw [mxU_step (by have := HL.out; omega)]; show _ = Value.int .u8 (max 0 (uAt l 0)); rw [show max 0 (uAt l 0) = uAt l 0 by have := HB.out.at_ 0; omega]⟩
  case round =>
    obtain ⟨k, hk1, hk, rfl, rfl⟩ := hrel
    by_cases hlt : k < n
    · have e1 := HC.out k hlt
      have hi1 : (k : Int) < n := by omega
      have hi0 : (0 : Int) ≤ k := by omega
      have HS := Lib.hid (mxU_step (l := l) (k := k) (by have := HL.out; omega))
      obtain ⟨m, hm⟩ : ∃ m, mxU (l.take k) = m := ⟨_, rfl⟩
      obtain ⟨u, hu⟩ : ∃ m, uAt l k = m := ⟨_, rfl⟩
      rw [hm, hu] at HS
      rw [hu] at e1
      rw [hm]
      clear hm hu
      go_wp2_with fail
      go_round
      case rel => exact ⟨k + 1, by omega, by omega, by go_num, by rw [HS.out]⟩
      case measure => simp [intOf]; omega
    · obtain rfl : k = n := by omega
      have HE : Hid (mxU (l.take k) = x) := Lib.hid (by rw [← HX.out, List.take_of_length_le (by have := HL.out; omega)])
      go_wp2_with fail
      go_ret
      exact ⟨ret_int HE.out, rfl⟩
set_option maxHeartbeats 1000000 in
theorem min_any (A : Option Addr) (n c : Nat) (l : List Int) (x : Int) (w : World) (h : Reads w w.heap.size 1 A n (cellsU l)) (hb : Bytes l) (h0 : 0 < n) (hn : n ≤ 9223372036854775807) (hx : mnU l = x) : Calls Try.prog 68 #[.slice A n c] w fun e w' => e = .returned (.int .u8 x) ∧ w = w' := by
  have HR := Lib.hid h; have HX := Lib.hid hx; have HL := Lib.hid (reads_len h); have HB := Lib.hid hb
  obtain ⟨b, off, rfl, _, hc⟩ := u_cells h h0
  have HC := Lib.hid hc
  have e0 := hc 0 h0
  rw [Nat.add_zero] at e0
  clear h hx hb hc
  have hn0 : (0 : Int) < n := by omega
  go_enter Try.func68, Try.ntmps68
  go_wp2_with fail
  go_loop [3, 4] (fun s3 s4 => ∃ k : Nat, 1 ≤ k ∧ k ≤ n ∧ s4 = .int .i64 k ∧ s3 = .int .u8 (mnU (l.take k))) (fun _ s => n - (intOf s).toNat)
  case atStart => exact ⟨1, Nat.le_refl _, by omega, rfl, by rw [mnU_step (by have := HL.out; omega)]; show _ = Value.int .u8 (min 255 (uAt l 0)); rw [show min 255 (uAt l 0) = uAt l 0 by have := HB.out.at_ 0; omega]⟩
  case round =>
    obtain ⟨k, hk1, hk, rfl, rfl⟩ := hrel
    by_cases hlt : k < n
    · have e1 := HC.out k hlt
      have hi1 : (k : Int) < n := by omega
      have hi0 : (0 : Int) ≤ k := by omega
      have HS := Lib.hid (mnU_step (l := l) (k := k) (by have := HL.out; omega))
      obtain ⟨m, hm⟩ : ∃ m, mnU (l.take k) = m := ⟨_, rfl⟩
      obtain ⟨u, hu⟩ : ∃ m, uAt l k = m := ⟨_, rfl⟩
      rw [hm, hu] at HS
      rw [hu] at e1
      rw [hm]
      clear hm hu
      go_wp2_with fail
      go_round
      case rel => exact ⟨k + 1, by omega, by omega, by go_num, by rw [HS.out]⟩
      case measure => simp [intOf]; omega
    · obtain rfl : k = n := by omega
      have HE : Hid (mnU (l.take k) = x) := Lib.hid (by rw [← HX.out, List.take_of_length_le (by have := HL.out; omega)])
      go_wp2_with fail
      go_ret
      exact ⟨ret_int HE.out, rfl⟩
theorem usable_no {p : Ph} (h : pcheckZ p ≠ 0) : usableB p = false := by unfold usableB; rw [decide_eq_false h]; rfl
theorem usable_ok {p : Ph} (h : pcheckZ p = 0) : usableB p = decide (32 ≤ mxU p.px - mnU p.px) := by unfold usableB; rw [decide_eq_true h]; rfl
set_option maxHeartbeats 2000000 in
theorem usable_any (p : Ph) (x : Bool) (w : World) (h : PR w p) (hx : usableB p = x) : Calls Try.prog 46 #[aggF p] w (RetB w x) := by
  obtain ⟨kk, hK⟩ := box1K w 46 #[.int .i64 p.ride, .int .i64 p.tm, .int .i64 p.W, .int .i64 p.H, .slice p.A p.n p.c]
  have HK := Lib.hid hK
  clear hK
  obtain ⟨B0, hbb⟩ := HK.out _ kk
  have c00 := B0.cell 0
  have c01 := B0.cell 1
  have c02 := B0.cell 2
  have c03 := B0.cell 3
  have c04 := B0.cell 4
  have HB := Lib.hid hbb
  clear B0 hbb
  have HPA : Hid (∀ u, Below w.heap.size w u → PR u p) := Lib.hid fun u hu => h.below hu
  have HLEN := Lib.hid h.len
  have HBY := Lib.hid h.2.1
  have hn := h.2.2
  clear h
  obtain ⟨y, hy⟩ : ∃ y, pcheckZ p = y := ⟨_, rfl⟩
  have HY := Lib.hid hy
  by_cases h0 : y = 0
  · subst h0
    have HX : Hid (decide (32 ≤ mxU p.px - mnU p.px) = x) := Lib.hid (by rw [← hx, usable_ok hy])
    have hpos : 0 < p.n := by
      obtain ⟨_, _, _, _, g5, g6, g7, g8, g9⟩ := pcheck_inv hy
      have := Int.mul_le_mul g5 g7 (by decide) (by omega)
      omega
    obtain ⟨m, hm⟩ : ∃ m, mxU p.px = m := ⟨_, rfl⟩
    obtain ⟨k, hk⟩ : ∃ m, mnU p.px = m := ⟨_, rfl⟩
    have HM := Lib.hid hm; have HK2 := Lib.hid hk
    have hb1 := mx_bd HBY.out p.px.length; have hb2 := mn_bd HBY.out p.px.length
    have hb3 := mn_le_mx (l := p.px) (by have := HLEN.out; omega)
    rw [List.take_length, hm] at hb1; rw [List.take_length, hk] at hb2; rw [hm, hk] at hb3
    rw [hm, hk] at HX
    have f1 : IntKind.u8.wrap (m - k) = m - k := by rw [IntKind.wrap_u8]; omega
    have HWR := Lib.hid (HPA.out _ HB.out)
    clear hx hy hm hk hb1 hb2 hb3
    go_enter Try.func46, Try.ntmps46
    go_wp2_with fail
    have F00 : ∀ z : Fam _, z.val.cell? ⟨w.heap.size, 0, none⟩ = some (.int .i64 p.ride) := fun z => z.some_ c00
    have F01 : ∀ z : Fam _, z.val.cell? ⟨w.heap.size, 1, none⟩ = some (.int .i64 p.tm) := fun z => z.some_ c01
    have F02 : ∀ z : Fam _, z.val.cell? ⟨w.heap.size, 2, none⟩ = some (.int .i64 p.W) := fun z => z.some_ c02
    have F03 : ∀ z : Fam _, z.val.cell? ⟨w.heap.size, 3, none⟩ = some (.int .i64 p.H) := fun z => z.some_ c03
    have F04 : ∀ z : Fam _, z.val.cell? ⟨w.heap.size, 4, none⟩ = some (.slice p.A p.n p.c) := fun z => z.some_ c04
    clear c00 c01 c02 c03 c04
    refine wp_region_fam (by kernel_rfl) (by kernel_rfl) ?_
    repeat (go_big_quiet_step (((first | (go_at_call 66; exact fam_call (pcheck_any p 0 _ HY.out)) | (go_at_call 67; exact fam_same (max_any p.A p.n p.c p.px m _ (Fam.reads _ HWR.out.1) HBY.out hpos hn HM.out)) | (go_at_call 68; exact fam_same (min_any p.A p.n p.c p.px k _ (Fam.reads _ HWR.out.1) HBY.out hpos hn HK2.out))))))
    refine wpQuiet_nil ?_
    rintro _ ⟨z1, rfl⟩
    replace kk := below_next kk (Nat.le_refl _) z1.prop
    clear HB F00 F01 F02 F03 F04
    obtain ⟨B0, hbb⟩ := HK.out _ kk
    have c00 := B0.cell 0
    have c01 := B0.cell 1
    have c02 := B0.cell 2
    have c03 := B0.cell 3
    have c04 := B0.cell 4
    have HB := Lib.hid hbb
    clear B0 hbb
    clear f1
    go_wp2_with fail
    go_ret
    exact ⟨ret_bool HX.out, HB.out⟩
  · have HX : Hid (false = x) := Lib.hid (by rw [← hx, usable_no (by rw [hy]; exact h0)])
    have t0 := eq0_f h0
    clear hx hy h0
    go_enter Try.func46, Try.ntmps46
    go_wp2_with fail
    have F00 : ∀ z : Fam _, z.val.cell? ⟨w.heap.size, 0, none⟩ = some (.int .i64 p.ride) := fun z => z.some_ c00
    have F01 : ∀ z : Fam _, z.val.cell? ⟨w.heap.size, 1, none⟩ = some (.int .i64 p.tm) := fun z => z.some_ c01
    have F02 : ∀ z : Fam _, z.val.cell? ⟨w.heap.size, 2, none⟩ = some (.int .i64 p.W) := fun z => z.some_ c02
    have F03 : ∀ z : Fam _, z.val.cell? ⟨w.heap.size, 3, none⟩ = some (.int .i64 p.H) := fun z => z.some_ c03
    have F04 : ∀ z : Fam _, z.val.cell? ⟨w.heap.size, 4, none⟩ = some (.slice p.A p.n p.c) := fun z => z.some_ c04
    clear c00 c01 c02 c03 c04
    refine wp_region_fam (by kernel_rfl) (by kernel_rfl) ?_
    repeat (go_big_quiet_step (((first | (go_at_call 66; exact fam_call (pcheck_any p y _ HY.out))))))
    refine wpQuiet_nil ?_
    rintro _ ⟨z2, rfl⟩
    replace kk := below_next kk (Nat.le_refl _) z2.prop
    clear HB F00 F01 F02 F03 F04
    obtain ⟨B0, hbb⟩ := HK.out _ kk
    have c00 := B0.cell 0
    have c01 := B0.cell 1
    have c02 := B0.cell 2
    have c03 := B0.cell 3
    have c04 := B0.cell 4
    have HB := Lib.hid hbb
    clear B0 hbb
    go_wp2_with fail
    go_ret
    exact ⟨ret_bool HX.out, HB.out⟩
set_option maxHeartbeats 2000000 in
theorem rusable_any (p : Ph) (x : Bool) (w : World) (h : PR w p) (hx : usableB p = x) : Calls Try.prog 49 #[aggF p] w (RetB w x) := by
  obtain ⟨kk, hK⟩ := box1K w 46 #[.int .i64 p.ride, .int .i64 p.tm, .int .i64 p.W, .int .i64 p.H, .slice p.A p.n p.c]
  have HK := Lib.hid hK
  clear hK
  obtain ⟨B0, hbb⟩ := HK.out _ kk
  have c00 := B0.cell 0
  have c01 := B0.cell 1
  have c02 := B0.cell 2
  have c03 := B0.cell 3
  have c04 := B0.cell 4
  have HB := Lib.hid hbb
  clear B0 hbb
  have HPA : Hid (∀ u, Below w.heap.size w u → PR u p) := Lib.hid fun u hu => h.below hu
  have HLEN := Lib.hid h.len
  have HBY := Lib.hid h.2.1
  have hn := h.2.2
  clear h
  obtain ⟨y, hy⟩ : ∃ y, pcheckZ p = y := ⟨_, rfl⟩
  have HY := Lib.hid hy
  by_cases h0 : y = 0
  · subst h0
    have HX : Hid (decide (32 ≤ mxU p.px - mnU p.px) = x) := Lib.hid (by rw [← hx, usable_ok hy])
    have hnb : p.n ≤ 4096 := by
      obtain ⟨_, _, _, _, g5, g6, g7, g8, g9⟩ := pcheck_inv hy
      have := mul_wh g5 g6 g7 g8
      omega
    clear hx hy
    go_enter Try.func49, Try.ntmps49
    go_wp2_with fail
    refine (rpcheck_any p 0 _ HY.out).mono ?_
    rintro e w1 ⟨rfl, hb1⟩
    replace kk := below_next kk (Nat.le_refl _) hb1
    clear c00 c01 c02 c03 c04 HB hb1
    obtain ⟨B0, hbb⟩ := HK.out _ kk
    have c00 := B0.cell 0
    have c01 := B0.cell 1
    have c02 := B0.cell 2
    have c03 := B0.cell 3
    have c04 := B0.cell 4
    have HB := Lib.hid hbb
    clear B0 hbb
    clear c00 c01 c02 c03 c04
    have HKK := Lib.hid kk
    clear kk
    go_wp2_with fail
    go_loopw [3, 4, 5] (fun s3 s4 s5 wr => ∃ k : Nat, k ≤ p.n ∧ s5 = .int .i64 k ∧ s3 = .int .i64 (mnU (p.px.take k)) ∧ s4 = .int .i64 (mxU (p.px.take k)) ∧ Below w1.heap.size w1 wr) (fun _ _ s _ => p.n - (intOf s).toNat)
    case atStart => exact ⟨0, Nat.zero_le _, rfl, rfl, rfl, Below.refl _ _⟩
    case round =>
      obtain ⟨k, hk, rfl, rfl, rfl, hbw⟩ := hrel
      have HBW := Lib.hid hbw
      obtain ⟨B0, hbb⟩ := HK.out _ (below_next HKK.out (Nat.le_refl _) hbw)
      have c04 := (B0.cell 4).trans rfl
      have HBB := Lib.hid hbb
      have HPr := Lib.hid (HPA.out _ hbb)
      obtain ⟨m1, hm1⟩ : ∃ m, mnU (p.px.take k) = m := ⟨_, rfl⟩
      obtain ⟨m2, hm2⟩ : ∃ m, mxU (p.px.take k) = m := ⟨_, rfl⟩
      rw [hm1, hm2]
      have HM1 := Lib.hid hm1; have HM2 := Lib.hid hm2
      clear hbw B0 hbb hm1 hm2
      by_cases hlt : k < p.n
      · obtain ⟨b, off, hA, hb, hc⟩ := u_cells HPr.out.1 (by omega)
        rw [hA] at c04
        have e1 := hc k hlt
        have hi1 : (k : Int) < p.n := by omega
        have hi0 : (0 : Int) ≤ k := by omega
        have hub := HBY.out.at_ k
        have S1 := Lib.hid (mnU_step (l := p.px) (k := k) (by have := HLEN.out; omega))
        have S2 := Lib.hid (mxU_step (l := p.px) (k := k) (by have := HLEN.out; omega))
        obtain ⟨u, hu⟩ : ∃ m, uAt p.px k = m := ⟨_, rfl⟩
        rw [hu, HM1.out] at S1; rw [hu, HM2.out] at S2
        rw [hu] at e1 hub
        obtain ⟨r1, hr1⟩ : ∃ m, min m1 u = m := ⟨_, rfl⟩
        obtain ⟨r2, hr2⟩ : ∃ m, max m2 u = m := ⟨_, rfl⟩
        rw [hr1] at S1; rw [hr2] at S2
        have k1 : ∀ (ts : Array TypeId) (ty : TypeId) (v : World), (Builtin.min_ ts ty #[.int .i64 m1, .int .i64 u]).run Try.prog v = .ok (.int .i64 r1) v := fun ts ty v => by rw [Lib.run_min_ints, hr1]
        have k2 : ∀ (ts : Array TypeId) (ty : TypeId) (v : World), (Builtin.max_ ts ty #[.int .i64 m2, .int .i64 u]).run Try.prog v = .ok (.int .i64 r2) v := fun ts ty v => by rw [Lib.run_max_ints, hr2]
        have f1 := wr_ (n := u) (by omega)
        have HHA := Lib.hid hA
        clear hc hu hr1 hr2 hA
        go_wp2_with fail
        go_quiet (fail)
        clear k1 k2 f1
        go_wp2_with fail
        go_roundw
        case rel => exact ⟨k + 1, by omega, by go_num, by rw [S1.out], by rw [S2.out], below_drewN HBW.out _⟩
        case measure => simp [intOf]; omega
      · obtain rfl : k = p.n := by omega
        have hle : p.px.take p.n = p.px := List.take_of_length_le (by have := HLEN.out; omega)
        have hq1 := mn_bd HBY.out p.n; have hq2 := mx_bd HBY.out p.n
        rw [HM1.out] at hq1; rw [HM2.out] at hq2
        have HE : Hid (decide (32 ≤ m2 - m1) = x) := Lib.hid (by rw [← HX.out, ← HM1.out, ← HM2.out, hle])
        clear hle
        go_wp2_with fail
        go_ret
        exact ⟨ret_bool HE.out, HBB.out⟩
  · have HX : Hid (false = x) := Lib.hid (by rw [← hx, usable_no (by rw [hy]; exact h0)])
    have t0 := ne0_t h0
    clear hx hy h0
    go_enter Try.func49, Try.ntmps49
    go_wp2_with fail
    refine (rpcheck_any p y _ HY.out).mono ?_
    rintro e w2 ⟨rfl, hb2⟩
    replace kk := below_next kk (Nat.le_refl _) hb2
    clear c00 c01 c02 c03 c04 HB hb2
    obtain ⟨B0, hbb⟩ := HK.out _ kk
    have c00 := B0.cell 0
    have c01 := B0.cell 1
    have c02 := B0.cell 2
    have c03 := B0.cell 3
    have c04 := B0.cell 4
    have HB := Lib.hid hbb
    clear B0 hbb
    go_wp2_with fail
    go_ret
    exact ⟨ret_bool HX.out, HB.out⟩
end Go.Proofs.Ytdgdjlpbnaoheaa
