/- The encoding of a number as bytes: what it is; the walks of both PutInt. -/
import Derived.Test.YtpipojgfpilhdaaPhC
import Derived.Test.YtpipojgfpilhdaaPhPop
import Derived.ArgAppend
namespace Go.Proofs.Ytpipojgfpilhdaa
open Go.RowKit
def codeN : Nat → Nat → List Int
  | 0, _ => []
  | f + 1, u => if 128 ≤ u then ((128 + u % 128 : Nat) : Int) :: codeN f (u / 128) else [(u : Int)]
theorem codeN_more {f u : Nat} (h : 128 ≤ u) : codeN (f + 1) u = ((128 + u % 128 : Nat) : Int) :: codeN f (u / 128) := if_pos h
theorem codeN_last {f u : Nat} (h : u < 128) : codeN (f + 1) u = [(u : Int)] := if_neg (by omega)
theorem codeN_len : ∀ f u, (codeN f u).length ≤ f
  | 0, _ => Nat.le_refl _
  | f + 1, u => by
    unfold codeN
    split
    · have := codeN_len f (u / 128); simp; omega
    · simp
theorem codeN_bytes : ∀ f u, Bytes (codeN f u)
  | 0, _ => fun b hb => by cases hb
  | f + 1, u => by
    unfold codeN
    split
    · intro b hb
      rcases List.mem_cons.1 hb with rfl | hb
      · omega
      · exact codeN_bytes f (u / 128) b hb
    · intro b hb
      obtain rfl := List.mem_singleton.1 hb
      omega
theorem Bytes.append {l m : List Int} (h : Bytes l) (h2 : Bytes m) : Bytes (l ++ m) := fun b hb => by
  rcases List.mem_append.1 hb with g | g
  · exact h b g
  · exact h2 b g
theorem le_max {m : Nat} (h : m ≤ 20000) : m ≤ maxLen := Nat.le_trans h (by decide)
theorem snocU (l : List Int) (b : Int) : cellsU (l ++ [b]) = cellsU l ++ [.int .u8 b] := by simp [cellsU]
theorem appU (l m : List Int) : cellsU (l ++ m) = cellsU l ++ cellsU m := by simp [cellsU]
theorem oneU1 {b : Int} : ∀ u ∈ [Value.int .u8 b], u.oneCell' = true := by simp [Value.oneCell']
theorem oneU {l : List Int} : ∀ u ∈ cellsU l, u.oneCell' = true := by
  intro u hu
  simp only [cellsU, List.mem_map] at hu
  obtain ⟨b, _, rfl⟩ := hu
  rfl
theorem infoByte : (Try.prog.info? 5).map (fun i => (i.zero, i.size, i.bytes)) = some (some (.int .u8 0), 1, 1) := by kernel_rfl
theorem fr1U (u : World) (b : Int) : Reads (u.alloc (.cells #[.int .u8 b] 5)) (u.heap.size + 1) 1 (some ⟨u.heap.size, 0, none⟩) 1 [.int .u8 b] := by
  have := Reads.fresh u 5 #[.int .u8 b] 1 1 rfl
  simpa using this
theorem fr1U' (u : World) (b : Int) : ∀ j v, [Value.int .u8 b][j]? = some v → (u.alloc (.cells #[.int .u8 b] 5)).cell? ((⟨u.heap.size, 0, none⟩ : Addr).add j) = some v := fun j v hv => by
  obtain ⟨ad, e, _, hc⟩ := (fr1U u b).2 (by decide)
  injection e with e
  subst e
  exact hc j v hv
theorem or128 : ∀ n : Fin 256, bits .or .u8 (n.val : Int) 128 = ((128 + n.val % 128 : Nat) : Int) := by decide +kernel
theorem or128_of (u : Nat) : bits .or .u8 ((u : Int) % 256) 128 = ((128 + u % 128 : Nat) : Int) := by
  have := or128 ⟨u % 256, Nat.mod_lt _ (by decide)⟩
  simp only at this
  rw [show ((u : Int) % 256) = ((u % 256 : Nat) : Int) by omega, this]
  congr 2; omega
/-- What the loop of PutInt holds. -/
def PState (w wr : World) (A : Option Addr) (n : Nat) (xs : List Int) (v : Value) (m : Nat) (done : List Int) : Prop :=
  Below w.heap.size w wr ∧ ((done = [] ∧ v = .slice A n n ∧ m = n) ∨ wr.ownsRow w.heap.size 5 1 v m (cellsU (xs ++ done)))
set_option maxHeartbeats 4000000 in
set_option maxRecDepth 10000 in
theorem putInt_any (A : Option Addr) (n c : Nat) (xs : List Int) (x : Nat) (w : World) (h : Reads w w.heap.size 1 A n (cellsU xs)) (hn : n ≤ 10000) (hnc : n ≤ c) (hc0 : A = none → c = 0) (hx : x < 4611686018427387904) : Calls Try.prog 27 #[.slice A n c, .int .i64 x] w (RetOwn w 5 1 (cellsU (xs ++ codeN 10 (2 * x)))) := by
  obtain ⟨i0, hi0, hz0, hz1, hz2⟩ := info_parts infoByte
  have hx1 : (x : Int) < 4611686018427387904 := by omega
  have hx0 : (0 : Int) ≤ x := by omega
  have hn1 : (n : Int) ≤ c := by omega
  have f1 : bits .xor .u64 (2 * (x : Int)) 0 = ((2 * x : Nat) : Int) := by
    have := bits_xor_u64_nat (2 * x) 0 (by omega) (by decide)
    rw [Nat.xor_zero, Int.natCast_mul] at this
    rw [Int.natCast_mul]; exact this
  have f2 : IntKind.u64.wrap ((x : Int) * 2) = ((2 * x : Nat) : Int) := by rw [IntKind.wrap_u64]; omega
  have f3 : IntKind.u64.wrap (x : Int) = x := by rw [IntKind.wrap_u64]; omega
  have f4 : (x : Int) / 9223372036854775808 = 0 := by omega
  go_enter Try.func27, Try.ntmps27
  go_wp2_with fail
  have HR := Lib.hid h
  have h128 : (128 : Nat) ^ 10 = 1180591620717411303424 := by decide
  have HXB : Hid (2 * x < 128 ^ 10) := Lib.hid (by omega)
  obtain ⟨u0, hu0⟩ : ∃ u, 2 * x = u := ⟨_, rfl⟩
  have e0 : 2 * (x : Int) = (u0 : Int) := by omega
  rw [hu0] at HXB
  have HU0 := Lib.hid hu0
  rw [hu0, e0]
  clear h f1 f2 f3 f4 hx1 hx0 hn1 h128 hu0 e0
  go_loopw [5, 6] (fun s5 s6 wr => ∃ (m f u : Nat) (done : List Int) (v : Value), v = s5 ∧ s6 = .int .u64 (u : Int) ∧ done.length + f = 10 ∧ m = n + done.length ∧ 1 ≤ f ∧ Hid (u < 128 ^ f) ∧ Hid (done ++ codeN f u = codeN 10 u0) ∧ Hid (PState w wr A n xs v m done)) (fun _ s _ => (intOf s).toNat)
  case atStart => exact ⟨n, 10, u0, [], _, rfl, rfl, rfl, rfl, by decide, Lib.hid HXB.out, Lib.hid (List.nil_append _), Lib.hid ⟨Below.refl _ _, .inl ⟨rfl, rfl, rfl⟩⟩⟩
  case round =>
    obtain ⟨m, f, u, done, v, rfl, rfl, hdl, hm, hf1, HUB, HD, HS⟩ := hrel
    obtain ⟨f', hf'⟩ : ∃ f', f = f' + 1 := ⟨f - 1, by omega⟩
    subst hf'
    by_cases hlt : 128 ≤ u
    · have hu1 : (128 : Int) ≤ u := by omega
      have HC := Lib.hid (codeN_more (f := f') hlt)
      have HO := Lib.hid (or128_of u)
      have HUB2 : Hid (u / 128 < 128 ^ f') := Lib.hid (by
        have := HUB.out
        rw [Nat.pow_succ] at this
        exact Nat.div_lt_of_lt_mul (by rw [Nat.mul_comm]; exact this))
      have HD2 : Hid ((done ++ [((128 + u % 128 : Nat) : Int)]) ++ codeN f' (u / 128) = codeN 10 u0) := Lib.hid (by
        rw [← HD.out, HC.out, List.append_assoc]; rfl)
      have hf2 : 1 ≤ f' := by
        rcases Nat.eq_zero_or_pos f' with g | g
        · have := HUB.out; subst g; simp at this; omega
        · exact g
      have hm64 : m ≤ 10010 := by omega
      obtain ⟨b, hb⟩ : ∃ b : Int, ((128 + u % 128 : Nat) : Int) = b := ⟨_, rfl⟩
      rw [hb] at HO HD2
      have hmeas : (u / 128) < u := by omega
      clear hb
      rcases HS.out with ⟨hbw, ⟨hd, hv, hmn⟩ | hown⟩
      · subst hd hv hmn
        have HR2 := Lib.hid (HR.out.below hbw)
        have HBW := Lib.hid hbw
        have ho := HO.out
        have HDL := Lib.hid hdl
        clear hbw hm hdl
        go_wp2_with (at_builtin; refine wpList_append_grows _ rfl (.tmp 24) (.tmp 28) _ rfl 5 i0 _ 1 1 Try.underlying22 hi0 hz0 hz1 hz2 rfl (by omega) A m m (cellsU xs) (by rfl) (fun e => ⟨by have := hc0 e; omega, by have := hc0 e; omega⟩) (by rw [HR2.out.1]) (fun b0 hb0 j v hv => by
          rcases Nat.eq_zero_or_pos m with g | g
          · have := (List.getElem?_eq_some_iff.1 hv).1; rw [HR2.out.1] at this; omega
          · obtain ⟨ad, e, _, hcell⟩ := ((HR2.out.alloc HBW.out.size _)).2 g
            rw [hb0] at e; injection e with e; subst e; exact hcell j v hv) _ 1 1 [.int .u8 b] (by rfl) (by rfl) (fr1U' _ b) oneU1 (by omega) (le_max (by omega)) (by omega) ?_; intro v7 w7 hown7 hg7)
        have HB7 : Hid (Below w.heap.size w w7) := Lib.hid ((below_alloc HBW.out (Nat.le_refl _) _).grown hg7 (Nat.le_trans HBW.out.size (by simp)) (fun k hk => by cases hk))
        have HO7 : Hid (w7.ownsRow w.heap.size 5 1 v7 (m + 1) (cellsU (xs ++ [b]))) := Lib.hid (by rw [snocU]; exact own_mono hown7 (Nat.le_trans HBW.out.size (by simp)))
        clear hown7 hg7
        go_roundw
        case rel => exact ⟨m + 1, f', u / 128, [b], v7, rfl, by go_num, by have := HDL.out; simp at this ⊢; omega, by simp, hf2, HUB2, HD2, Lib.hid ⟨HB7.out, .inr (by simpa using HO7.out)⟩⟩
        case measure => simp [intOf]; omega
      · have HOWN := Lib.hid hown; have HBW := Lib.hid hbw
        have ho := HO.out
        have HDL := Lib.hid hdl; have HMM := Lib.hid hm
        obtain ⟨A5, c5, hv5, _⟩ := own_reads hown
        subst hv5
        clear hbw hown hm hdl
        go_wp2_with (at_builtin; refine wpList_append_any _ rfl (.tmp 24) (.tmp 28) _ rfl w.heap.size 5 i0 _ 1 1 Try.underlying22 hi0 hz0 hz1 hz2 rfl (by omega) (.slice A5 m c5) m _ (by rfl) (HOWN.out.alloc _) _ _ 1 1 [.int .u8 b] (by rfl) (fr1U _ b) oneU1 (le_max (by omega)) (by omega) (Nat.le_trans HBW.out.size (by simp)) ?_; intro v7 w7 hown7 hg7 hat7)
        have HB7 : Hid (Below w.heap.size w w7) := Lib.hid (below_own (below_alloc HBW.out (Nat.le_refl _) _) (HOWN.out.alloc _) hg7 (Nat.le_trans HBW.out.size (by simp)) (Nat.le_refl _))
        have HO7 : Hid (w7.ownsRow w.heap.size 5 1 v7 (m + 1) (cellsU (xs ++ (done ++ [b])))) := Lib.hid (by rw [← List.append_assoc, snocU]; exact hown7)
        clear hown7 hg7 hat7
        go_roundw
        case rel => exact ⟨m + 1, f', u / 128, done ++ [b], v7, rfl, by go_num, by have := HDL.out; simp; omega, by have := HMM.out; simp; omega, hf2, HUB2, HD2, Lib.hid ⟨HB7.out, .inr HO7.out⟩⟩
        case measure => simp [intOf]; omega
    · have hlt2 : u < 128 := by omega
      have hu1 : (u : Int) < 128 := by omega
      have hu2 : (u : Int) % 256 = u := by omega
      have hu3 : IntKind.u8.wrap (u : Int) = u := by rw [IntKind.wrap_u8]; omega
      have HE : Hid (done ++ [(u : Int)] = codeN 10 u0) := Lib.hid (by rw [← HD.out, codeN_last hlt2])
      have hm64 : m ≤ 10010 := by omega
      clear hlt
      rcases HS.out with ⟨hbw, ⟨hd, hv, hmn⟩ | hown⟩
      · subst hd hv hmn
        have HR2 := Lib.hid (HR.out.below hbw)
        have HBW := Lib.hid hbw
        clear hbw hm hdl
        go_wp2_with (at_builtin; refine wpList_append_grows _ rfl (.tmp 30) (.tmp 33) _ rfl 5 i0 _ 1 1 Try.underlying22 hi0 hz0 hz1 hz2 rfl (by omega) A m m (cellsU xs) (by rfl) (fun e => ⟨by have := hc0 e; omega, by have := hc0 e; omega⟩) (by rw [HR2.out.1]) (fun b0 hb0 j v hv => by
          rcases Nat.eq_zero_or_pos m with g | g
          · have := (List.getElem?_eq_some_iff.1 hv).1; rw [HR2.out.1] at this; omega
          · obtain ⟨ad, e, _, hcell⟩ := ((HR2.out.alloc HBW.out.size _)).2 g
            rw [hb0] at e; injection e with e; subst e; exact hcell j v hv) _ 1 1 [.int .u8 (u : Int)] (by rfl) (by rfl) (fr1U' _ (u : Int)) oneU1 (by omega) (le_max (by omega)) (by omega) ?_; intro v7 w7 hown7 hg7)
        have HB7 : Hid (Below w.heap.size w w7) := Lib.hid ((below_alloc HBW.out (Nat.le_refl _) _).grown hg7 (Nat.le_trans HBW.out.size (by simp)) (fun k hk => by cases hk))
        have HO7 : Hid (w7.ownsRow w.heap.size 5 1 v7 (m + 1) (cellsU (xs ++ [(u : Int)]))) := Lib.hid (by rw [snocU]; exact own_mono hown7 (Nat.le_trans HBW.out.size (by simp)))
        clear hown7 hg7
        go_ret
        obtain ⟨A7, c7, rfl, _⟩ := own_reads HO7.out
        exact ⟨A7, m + 1, c7, rfl, by first | (rw [HU0.out, ← HE.out]; exact HO7.out) | (rw [← HE.out]; exact HO7.out), HB7.out⟩
      · have HOWN := Lib.hid hown; have HBW := Lib.hid hbw
        obtain ⟨A5, c5, hv5, _⟩ := own_reads hown
        subst hv5
        clear hbw hown hm hdl
        go_wp2_with (at_builtin; refine wpList_append_any _ rfl (.tmp 30) (.tmp 33) _ rfl w.heap.size 5 i0 _ 1 1 Try.underlying22 hi0 hz0 hz1 hz2 rfl (by omega) (.slice A5 m c5) m _ (by rfl) (HOWN.out.alloc _) _ _ 1 1 [.int .u8 (u : Int)] (by rfl) (fr1U _ (u : Int)) oneU1 (le_max (by omega)) (by omega) (Nat.le_trans HBW.out.size (by simp)) ?_; intro v7 w7 hown7 hg7 hat7)
        have HB7 : Hid (Below w.heap.size w w7) := Lib.hid (below_own (below_alloc HBW.out (Nat.le_refl _) _) (HOWN.out.alloc _) hg7 (Nat.le_trans HBW.out.size (by simp)) (Nat.le_refl _))
        have HO7 : Hid (w7.ownsRow w.heap.size 5 1 v7 (m + 1) (cellsU (xs ++ (done ++ [(u : Int)])))) := Lib.hid (by rw [← List.append_assoc, snocU]; exact hown7)
        clear hown7 hg7 hat7
        obtain ⟨A7, c7, rfl, _⟩ := own_reads HO7.out
        go_ret
        exact ⟨A7, m + 1, c7, rfl, by first | (rw [HU0.out, ← HE.out]; exact HO7.out) | (rw [← HE.out]; exact HO7.out), HB7.out⟩
/-! The reference's. -/
theorem zigzag_int (y : Int) (w : World) (h0 : 0 ≤ y) (h1 : y < 4611686018427387904) : Calls Try.prog 45 #[.int .i64 y] w fun e w' => e = .returned (.int .u64 (2 * y)) ∧ w' = w := by
  have f3 : IntKind.u64.wrap y = y := by rw [IntKind.wrap_u64]; omega
  have f2 : IntKind.u64.wrap (2 * y) = 2 * y := by rw [IntKind.wrap_u64]; omega
  go_enter Try.func45, Try.ntmps45
  go_wp2_with fail
  go_ret
  exact ⟨rfl, rfl⟩
theorem zigzag_any (x : Nat) (w : World) (hx : x < 4611686018427387904) : Calls Try.prog 45 #[.int .i64 x] w fun e w' => e = .returned (.int .u64 ((2 * x : Nat) : Int)) ∧ w' = w := by
  have := zigzag_int x w (by omega) (by omega)
  rw [Int.natCast_mul]
  exact this
theorem mod128 (u : Nat) : IntKind.u8.wrap (128 + (u : Int) % 128) = ((128 + u % 128 : Nat) : Int) := by rw [IntKind.wrap_u8]; omega
set_option maxHeartbeats 4000000 in
set_option maxRecDepth 10000 in
theorem rcode_any (x : Nat) (w : World) (hx : x < 4611686018427387904) : Calls Try.prog 41 #[.int .i64 x] w (RetOwn w 5 1 (cellsU (codeN 10 (2 * x)))) := by
  obtain ⟨i0, hi0, hz0, hz1, hz2⟩ := info_parts infoByte
  have h128 : (128 : Nat) ^ 10 = 1180591620717411303424 := by decide
  have HXB : Hid (2 * x < 128 ^ 10) := Lib.hid (by omega)
  obtain ⟨u0, hu0⟩ : ∃ u, 2 * x = u := ⟨_, rfl⟩
  have HC := Lib.hid (zigzag_any x w hx)
  have hub : u0 < 9223372036854775808 := by omega
  rw [hu0] at HXB HC ⊢
  clear h128 hu0 hx
  go_enter Try.func41, Try.ntmps41
  go_wp2_with fail
  refine HC.out.mono ?_
  rintro e w1 ⟨rfl, rfl⟩
  go_wp2_with fail
  go_loopw [3, 4] (fun s3 s4 wr => ∃ (m f u : Nat) (done : List Int) (A5 : Option Addr) (c5 : Nat), s3 = .slice A5 m c5 ∧ s4 = .int .u64 (u : Int) ∧ done.length + f = 10 ∧ m = done.length ∧ u < 9223372036854775808 ∧ 1 ≤ f ∧ Hid (u < 128 ^ f) ∧ Hid (done ++ codeN f u = codeN 10 u0) ∧ Hid (Below w1.heap.size w1 wr) ∧ Hid (wr.ownsRow w1.heap.size 5 1 (.slice A5 m c5) m (cellsU done))) (fun _ s _ => (intOf s).toNat)
  case atStart => exact ⟨0, 10, u0, [], none, 0, rfl, rfl, rfl, rfl, hub, by decide, Lib.hid HXB.out, Lib.hid (List.nil_append _), Lib.hid (Below.refl _ _), Lib.hid (World.ownsRow_nil _ _ _ _)⟩
  case round =>
    obtain ⟨m, f, u, done, A5, c5, rfl, rfl, hdl, hm, hub2, hf1, HUB, HD, HBW, HOWN⟩ := hrel
    obtain ⟨f', hf'⟩ : ∃ f', f = f' + 1 := ⟨f - 1, by omega⟩
    subst hf'
    have hm64 : m ≤ 10010 := by omega
    have HDL := Lib.hid hdl; have HMM := Lib.hid hm
    by_cases hlt : 128 ≤ u
    · have hu1 : (128 : Int) ≤ u := by omega
      have HC1 := Lib.hid (codeN_more (f := f') hlt)
      have HUB2 : Hid (u / 128 < 128 ^ f') := Lib.hid (by
        have := HUB.out
        rw [Nat.pow_succ] at this
        exact Nat.div_lt_of_lt_mul (by rw [Nat.mul_comm]; exact this))
      have HD2 : Hid ((done ++ [((128 + u % 128 : Nat) : Int)]) ++ codeN f' (u / 128) = codeN 10 u0) := Lib.hid (by
        rw [← HD.out, HC1.out, List.append_assoc]; rfl)
      have hf2 : 1 ≤ f' := by
        rcases Nat.eq_zero_or_pos f' with g | g
        · have := HUB.out; subst g; simp at this; omega
        · exact g
      obtain ⟨b, hb⟩ : ∃ b : Int, ((128 + u % 128 : Nat) : Int) = b := ⟨_, rfl⟩
      rw [hb] at HD2
      have hmeas : (u / 128) < u := by omega
      have r1 : (u : Int).tmod 128 = (u : Int) % 128 := Int.tmod_eq_emod_of_nonneg (by omega)
      have r2 : IntKind.u64.wrap (128 + (u : Int) % 128) = 128 + (u : Int) % 128 := by rw [IntKind.wrap_u64]; omega
      have r3 : IntKind.u8.wrap (128 + (u : Int) % 128) = b := by rw [mod128, hb]
      have r4 : (u : Int).tdiv 128 = (u : Int) / 128 := Int.tdiv_eq_ediv_of_nonneg (by omega)
      have r6 : IntKind.u64.wrap ((u : Int) / 128) = (u : Int) / 128 := by rw [IntKind.wrap_u64]; omega
      have r5 : (128 + (u : Int) % 128) % 256 = b := by rw [← hb]; omega
      clear hb hdl hm
      go_wp2_with (at_builtin; refine wpList_append_any _ rfl (.tmp 9) (.tmp 14) _ rfl w1.heap.size 5 i0 _ 1 1 Try.underlying22 hi0 hz0 hz1 hz2 rfl (by omega) (.slice A5 m c5) m _ (by rfl) (HOWN.out.alloc _) _ _ 1 1 [.int .u8 b] (by rfl) (fr1U _ b) oneU1 (le_max (by omega)) (by omega) (Nat.le_trans HBW.out.size (by simp)) ?_; intro v7 w7 hown7 hg7 hat7; obtain ⟨A7, c7, rfl, hr7⟩ := own_reads hown7)
      have HB7 : Hid (Below w1.heap.size w1 w7) := Lib.hid (below_own (below_alloc HBW.out (Nat.le_refl _) _) (HOWN.out.alloc _) hg7 (Nat.le_trans HBW.out.size (by simp)) (Nat.le_refl _))
      have HO7 : Hid (w7.ownsRow w1.heap.size 5 1 (.slice A7 (m + 1) c7) (m + 1) (cellsU (done ++ [b]))) := Lib.hid (by rw [snocU]; exact hown7)
      clear hown7 hg7 hat7 hr7
      go_roundw
      case rel => exact ⟨m + 1, f', u / 128, done ++ [b], A7, c7, rfl, by go_num, by have := HDL.out; simp; omega, by have := HMM.out; simp; omega, by omega, hf2, HUB2, HD2, HB7, HO7⟩
      case measure => simp [intOf]; omega
    · have hlt2 : u < 128 := by omega
      have hu1 : (u : Int) < 128 := by omega
      have hu2 : (u : Int) % 256 = u := by omega
      have hu3 : IntKind.u8.wrap (u : Int) = u := by rw [IntKind.wrap_u8]; omega
      have HE : Hid (done ++ [(u : Int)] = codeN 10 u0) := Lib.hid (by rw [← HD.out, codeN_last hlt2])
      clear hlt hdl hm
      go_wp2_with (at_builtin; refine wpList_append_any _ rfl (.tmp 18) (.tmp 21) _ rfl w1.heap.size 5 i0 _ 1 1 Try.underlying22 hi0 hz0 hz1 hz2 rfl (by omega) (.slice A5 m c5) m _ (by rfl) (HOWN.out.alloc _) _ _ 1 1 [.int .u8 (u : Int)] (by rfl) (fr1U _ (u : Int)) oneU1 (le_max (by omega)) (by omega) (Nat.le_trans HBW.out.size (by simp)) ?_; intro v7 w7 hown7 hg7 hat7; obtain ⟨A7, c7, rfl, hr7⟩ := own_reads hown7)
      have HB7 : Hid (Below w1.heap.size w1 w7) := Lib.hid (below_own (below_alloc HBW.out (Nat.le_refl _) _) (HOWN.out.alloc _) hg7 (Nat.le_trans HBW.out.size (by simp)) (Nat.le_refl _))
      have HO7 : Hid (w7.ownsRow w1.heap.size 5 1 (.slice A7 (m + 1) c7) (m + 1) (cellsU (done ++ [(u : Int)]))) := Lib.hid (by rw [snocU]; exact hown7)
      clear hown7 hg7 hat7 hr7
      go_ret
      exact ⟨A7, m + 1, c7, rfl, by rw [← HE.out]; exact HO7.out, HB7.out⟩
set_option maxHeartbeats 2000000 in
set_option maxRecDepth 10000 in
theorem joined_any (A A' : Option Addr) (n c n' c' : Nat) (xs ys : List Int) (w : World) (h : Reads w w.heap.size 1 A n (cellsU xs)) (h' : Reads w w.heap.size 1 A' n' (cellsU ys)) (hn : n ≤ 9000) (hn' : n' ≤ 9000) : Calls Try.prog 40 #[.slice A n c, .slice A' n' c'] w (RetOwn w 5 1 (cellsU (xs ++ ys))) := by
  obtain ⟨i0, hi0, hz0, hz1, hz2⟩ := info_parts infoByte
  have HR := Lib.hid h; have HR' := Lib.hid h'
  clear h h'
  go_enter Try.func40, Try.ntmps40
  go_wp2_with (first
    | (at_builtin; refine wpList_append_any _ rfl (.tmp 6) (.tmp 7) _ rfl w.heap.size 5 i0 _ 1 1 Try.underlying22 hi0 hz0 hz1 hz2 rfl (by omega) (.slice none 0 0) 0 [] (by rfl) (World.ownsRow_nil _ _ _ _) _ A n c (cellsU xs) (by rfl) HR.out oneU (le_max (by omega)) (by omega) (Nat.le_refl _) ?_; intro v7 w7 hown7 hg7 hat7; rw [Nat.zero_add, List.nil_append] at hown7; obtain ⟨A7, c7, rfl, hr7⟩ := own_reads hown7; have hb7 : Below w.heap.size w w7 := below_own (Below.refl _ _) (World.ownsRow_nil w w.heap.size 5 1) hg7 (Nat.le_refl _) (Nat.le_refl _); have HB7 := Lib.hid hb7; have HO7 := Lib.hid hown7; clear hb7 hown7 hg7 hat7 hr7)
    | (at_builtin; refine wpList_append_any _ rfl (.tmp 9) (.tmp 10) _ rfl w.heap.size 5 i0 _ 1 1 Try.underlying22 hi0 hz0 hz1 hz2 rfl (by omega) (.slice A7 n c7) n _ (by rfl) HO7.out _ A' n' c' (cellsU ys) (by rfl) (HR'.out.below HB7.out) oneU (le_max (by omega)) (by omega) HB7.out.size ?_; intro v8 w8 hown8 hg8 hat8; obtain ⟨A8, c8, rfl, hr8⟩ := own_reads hown8; have hb8 : Below w.heap.size w w8 := below_own HB7.out HO7.out hg8 HB7.out.size (Nat.le_refl _); have HB8 := Lib.hid hb8; have HO8 := Lib.hid hown8; clear hb8 hown8 hg8 hat8 hr8))
  go_ret
  exact ⟨A8, _, c8, rfl, by rw [appU]; exact HO8.out, HB8.out⟩
set_option maxRecDepth 10000 in
theorem rputInt_any (A : Option Addr) (n c : Nat) (xs : List Int) (x : Nat) (w : World) (h : Reads w w.heap.size 1 A n (cellsU xs)) (hn : n ≤ 8000) (hx : x < 4611686018427387904) : Calls Try.prog 30 #[.slice A n c, .int .i64 x] w (RetOwn w 5 1 (cellsU (xs ++ codeN 10 (2 * x)))) := by
  have HR := Lib.hid h
  have HC := Lib.hid (codeN_len 10 (2 * x))
  clear h
  go_enter Try.func30, Try.ntmps30
  go_wp2_with fail
  refine (rcode_any x _ hx).mono ?_
  rintro e w1 ⟨A1, n1, c1, rfl, ho1, hb1⟩
  have HB1 := Lib.hid hb1
  have HR1 := Lib.hid (Reads.of_own ho1)
  have HRW := Lib.hid ((HR.out.below hb1).more hb1.size)
  have hl : n1 ≤ 10 := by have := reads_len HR1.out; have := HC.out; omega
  clear hb1 ho1
  go_wp2_with fail
  refine (joined_any A A1 n c n1 c1 xs (codeN 10 (2 * x)) _ HRW.out HR1.out (by omega) (by omega)).mono ?_
  rintro e w2 ⟨A2, n2, c2, rfl, ho2, hb2⟩
  have HO2 := Lib.hid (own_mono ho2 HB1.out.size)
  have HB2 := Lib.hid (below_next HB1.out (Nat.le_refl _) hb2)
  clear ho2 hb2
  go_wp2_with fail
  go_ret
  exact ⟨A2, n2, c2, rfl, HO2.out, HB2.out⟩
end Go.Proofs.Ytpipojgfpilhdaa
