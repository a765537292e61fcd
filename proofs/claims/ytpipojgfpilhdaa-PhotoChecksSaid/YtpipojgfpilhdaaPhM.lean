/- The digest of a photo: what it is; the program's walk. -/
import Derived.Test.YtpipojgfpilhdaaPhL
import Derived.Test.YtpipojgfpilhdaaPhG
namespace Go.Proofs.Ytpipojgfpilhdaa
open Go.RowKit
def nums (p : Ph) : List Nat := [p.ride.toNat, p.tm.toNat, p.W.toNat, p.H.toNat]
def encTo (l : List Nat) (k : Nat) : List Int := (l.take k).flatMap fun x => codeN 10 (2 * x)
theorem encTo_step {l : List Nat} {k : Nat} (h : k < l.length) : encTo l (k + 1) = encTo l k ++ codeN 10 (2 * l[k]) := by
  unfold encTo
  rw [List.take_succ_eq_append_getElem h, List.flatMap_append]
  simp
theorem encTo_len (l : List Nat) : ∀ k, (encTo l k).length ≤ 10 * k
  | 0 => by simp [encTo]
  | k + 1 => by
    have ih := encTo_len l k
    rcases Nat.lt_or_ge k l.length with h | h
    · rw [encTo_step h, List.length_append]
      have := codeN_len 10 (2 * l[k])
      omega
    · have e : encTo l (k + 1) = encTo l k := by unfold encTo; rw [List.take_of_length_le (by omega), List.take_of_length_le h]
      rw [e]; omega
theorem encTo_bytes (l : List Nat) (k : Nat) : Bytes (encTo l k) := fun b hb => by
  unfold encTo at hb
  obtain ⟨x, _, hx⟩ := List.mem_flatMap.1 hb
  exact codeN_bytes 10 _ b hx
def digL (p : Ph) : List Int := encTo (nums p) 4 ++ p.px
def digZ (p : Ph) : Int := if pcheckZ p = 0 then sumV 0 0 (digL p) else 0
def RetDE (w : World) (d x : Int) (e : Ending) (w' : World) : Prop := e = .returned (.tuple #[.int .u64 d, .int .i64 x]) ∧ Below w.heap.size w w'
theorem ret_de {m m' x y : Int} (h : m = m') (h' : x = y) : Ending.returned (.tuple #[.int .u64 m, .int .i64 x]) = .returned (.tuple #[.int .u64 m', .int .i64 y]) := by rw [h, h']
theorem own_none {w : World} {base : Nat} {e : TypeId} {size n c : Nat} {A : Option Addr} {xs : List Value} (h : w.ownsRow base e size (.slice A n c) n xs) (hA : A = none) : c = 0 := by
  rcases h.2 with ⟨hv, _⟩ | ⟨g, cap, cur, hv, _⟩
  · injection hv with _ _ e
  · injection hv with e1 _ _
    rw [hA] at e1; cases e1
theorem nums_at {p : Ph} (h : pcheckZ p = 0) {k : Nat} (hk : k < 4) : ∃ x : Nat, (#[.int .i64 p.ride, .int .i64 p.tm, .int .i64 p.W, .int .i64 p.H] : Array Value)[k]? = some (.int .i64 (x : Int)) ∧ x < 4611686018427387904 ∧ encTo (nums p) (k + 1) = encTo (nums p) k ++ codeN 10 (2 * x) := by
  obtain ⟨g1, g2, g3, g4, g5, g6, g7, g8, _⟩ := pcheck_inv h
  have st := fun (k : Nat) (hk : k < (nums p).length) => encTo_step hk
  rcases (by omega : k = 0 ∨ k = 1 ∨ k = 2 ∨ k = 3) with rfl | rfl | rfl | rfl
  · exact ⟨p.ride.toNat, by rw [Int.toNat_of_nonneg (by omega)]; rfl, by omega, st 0 (by simp [nums])⟩
  · exact ⟨p.tm.toNat, by rw [Int.toNat_of_nonneg (by omega)]; rfl, by omega, st 1 (by simp [nums])⟩
  · exact ⟨p.W.toNat, by rw [Int.toNat_of_nonneg (by omega)]; rfl, by omega, st 2 (by simp [nums])⟩
  · exact ⟨p.H.toNat, by rw [Int.toNat_of_nonneg (by omega)]; rfl, by omega, st 3 (by simp [nums])⟩
set_option maxHeartbeats 8000000 in
set_option maxRecDepth 20000 in
theorem digest_any (p : Ph) (d x : Int) (w : World) (h : PR w p) (hd : digZ p = d) (hx : pcheckZ p = x) : Calls Try.prog 13 #[aggF p] w (RetDE w d x) := by
  obtain ⟨i0, hi0, hz0, hz1, hz2⟩ := info_parts infoByte
  obtain ⟨kk, hK⟩ := box1K w 24 #[.int .i64 p.ride, .int .i64 p.tm, .int .i64 p.W, .int .i64 p.H, .slice p.A p.n p.c]
  have HK := Lib.hid hK
  clear hK
  obtain ⟨B0, hbb⟩ := HK.out _ kk
  have c00 := B0.cell 0
  have c01 := B0.cell 1
  have c02 := B0.cell 2
  have c03 := B0.cell 3
  have c04 := B0.cell 4
  have HB := Lib.hid hbb
  clear B0 hbb
  have HPA : Hid (∀ u, Below w.heap.size w u → PR u p) := Lib.hid fun u hu => h.below hu
  have HBY := Lib.hid h.2.1
  have HX := Lib.hid hx
  by_cases h0 : x = 0
  · subst h0
    have HD : Hid (sumV 0 0 (encTo (nums p) 4 ++ p.px) = d) := Lib.hid (by rw [← hd]; unfold digZ; rw [if_pos hx]; rfl)
    have hn : p.n ≤ 4096 := by
      obtain ⟨_, _, _, _, g5, g6, g7, g8, g9⟩ := pcheck_inv hx
      have := mul_wh g5 g6 g7 g8
      omega
    have HNA := Lib.hid (fun (k : Nat) (hk : k < 4) => nums_at hx hk)
    clear h hd hx
    go_enter Try.func13, Try.ntmps13
    go_wp2_with fail
    refine (pcheck_any p 0 _ HX.out).mono ?_
    rintro e w1 ⟨rfl, hb1⟩
    replace kk := below_next kk (Nat.le_refl _) hb1
    clear c00 c01 c02 c03 c04 HB hb1
    obtain ⟨B0, hbb⟩ := HK.out _ kk
    have c00 := B0.cell 0
    have c01 := B0.cell 1
    have c02 := B0.cell 2
    have c03 := B0.cell 3
    have c04 := B0.cell 4
    have HB := Lib.hid hbb
    clear B0 hbb
    go_wp2_with fail
    obtain ⟨v1, hv1⟩ : ∃ v, w1.alloc (.cells #[.int .i64 p.ride, .int .i64 p.tm, .int .i64 p.W, .int .i64 p.H] 3) = v := ⟨_, rfl⟩
    have HG : Hid (Blk v1 w1.heap.size 3 #[.int .i64 p.ride, .int .i64 p.tm, .int .i64 p.W, .int .i64 p.H]) := Lib.hid (by rw [← hv1]; exact Blk.new _ _ _)
    have kk1 := kk.alloc kk.size (.cells #[.int .i64 p.ride, .int .i64 p.tm, .int .i64 p.W, .int .i64 p.H] 3)
    rw [hv1] at kk1 ⊢
    obtain ⟨g, hg⟩ : ∃ g, w1.heap.size = g := ⟨_, rfl⟩
    rw [hg] at HG ⊢
    have HKK := Lib.hid kk1
    have HBV := Lib.hid (HK.out _ kk1).2
    clear hv1 hg kk kk1 HB c00 c01 c02 c03 c04
    go_loopw [5, 23] (fun s5 s23 wr => ∃ (k n : Nat) (A : Option Addr) (c : Nat), k ≤ 4 ∧ s23 = .int .i64 k ∧ s5 = .slice A n c ∧ Hid (wr.ownsRow w.heap.size 5 1 (.slice A n c) n (cellsU (encTo (nums p) k))) ∧ Hid (Below v1.heap.size v1 wr)) (fun _ s _ => 4 - (intOf s).toNat)
    case atStart => exact ⟨0, 0, none, 0, by decide, rfl, rfl, Lib.hid (World.ownsRow_nil _ _ _ _), Lib.hid (Below.refl _ _)⟩
    case round =>
      obtain ⟨wo, rfl⟩ : ∃ wo : World, wo = wr := ⟨_, rfl⟩
      obtain ⟨k, n, A, c, hk, rfl, rfl, HOW, HBO⟩ := hrel
      have HBF := Lib.hid (below_next HBV.out (Nat.le_refl _) HBO.out)
      have HLN : Hid (n ≤ 10 * k) := Lib.hid (by have := encTo_len (nums p) k; have := reads_len (Reads.of_own HOW.out); omega)
      by_cases hlt : k < 4
      · have hk4 : (k : Int) < 4 := by omega
        have hk0 : (0 : Int) ≤ k := by omega
        obtain ⟨x, hx1, hx2, hx3⟩ := HNA.out k hlt
        have e1 := ((HG.out.below HBO.out HG.out.lt).cell k).trans hx1
        have HX3 := Lib.hid hx3
        clear hx1 hx3
        go_wp2_with fail
        refine (putInt_any A n c (encTo (nums p) k) x _ (Reads.of_own HOW.out) (by have := HLN.out; omega) (own_cap HOW.out) (own_none HOW.out) hx2).mono ?_
        rintro e w2 ⟨A2, n2, c2, rfl, ho2, hb2⟩
        have HO2 : Hid (w2.ownsRow w.heap.size 5 1 (.slice A2 n2 c2) n2 (cellsU (encTo (nums p) (k + 1)))) := Lib.hid (by rw [HX3.out]; exact own_mono ho2 HBF.out.size)
        have HB2 : Hid (Below v1.heap.size v1 w2) := Lib.hid (below_next HBO.out (Nat.le_refl _) hb2)
        clear ho2 hb2 e1 hx2
        go_wp2_with fail
        go_roundw
        case rel => exact ⟨k + 1, n2, A2, c2, by omega, by go_num, rfl, HO2, HB2⟩
        case measure => simp [intOf]; omega
      · obtain rfl : k = 4 := by omega
        obtain ⟨B0, _⟩ := HK.out _ (below_next HKK.out (Nat.le_refl _) HBO.out)
        have c04 := (B0.cell 4).trans rfl
        have HPo := Lib.hid (HPA.out _ HBF.out)
        have hn40 : n ≤ 40 := by have := HLN.out; omega
        clear B0
        go_wp2_with (at_builtin; refine wpList_append_any _ rfl (.tmp 32) (.tmp 34) _ rfl w.heap.size 5 i0 _ 1 1 Try.underlying22 hi0 hz0 hz1 hz2 rfl (by omega) (.slice A n c) n _ (by rfl) HOW.out _ p.A p.n p.c (cellsU p.px) (by rfl) HPo.out.1 oneU (le_max (by omega)) (by omega) HBF.out.size ?_; intro v7 w7 hown7 hg7 hat7; obtain ⟨A7, c7, rfl, hr7⟩ := own_reads hown7; have hb7 : Below w.heap.size w w7 := below_own HBF.out HOW.out hg7 HBF.out.size (Nat.le_refl _); have HB7 := Lib.hid hb7; have HO7 := Lib.hid hown7; clear hb7 hown7 hg7 hat7 hr7)
        have HR7 : Hid (Reads w7 w7.heap.size 1 A7 (n + p.n) (cellsU (encTo (nums p) 4 ++ p.px))) := Lib.hid (by rw [appU]; exact Reads.of_own HO7.out)
        refine (sum_any A7 (n + p.n) c7 _ 0 0 d _ HR7.out ((encTo_bytes _ _).append HBY.out) (by omega) (own_cap HO7.out) HD.out).mono ?_
        rintro e w8 ⟨rfl, hb8⟩
        have HB8 := Lib.hid (below_next HB7.out (Nat.le_refl _) hb8)
        clear hb8
        go_wp2_with fail
        go_ret2
        exact ⟨rfl, HB8.out⟩
  · have HD : Hid (0 = d) := Lib.hid (by rw [← hd]; unfold digZ; rw [if_neg (by rw [hx]; exact h0)])
    have t0 := ne0_t h0
    clear h hd hx h0
    go_enter Try.func13, Try.ntmps13
    go_wp2_with fail
    refine (pcheck_any p x _ HX.out).mono ?_
    rintro e w2 ⟨rfl, hb2⟩
    replace kk := below_next kk (Nat.le_refl _) hb2
    clear c00 c01 c02 c03 c04 HB hb2
    obtain ⟨B0, hbb⟩ := HK.out _ kk
    have c00 := B0.cell 0
    have c01 := B0.cell 1
    have c02 := B0.cell 2
    have c03 := B0.cell 3
    have c04 := B0.cell 4
    have HB := Lib.hid hbb
    clear B0 hbb
    go_wp2_with fail
    go_ret2
    exact ⟨ret_de HD.out rfl, HB.out⟩
end Go.Proofs.Ytpipojgfpilhdaa
