/- The photos that repeat no earlier one: the reference's walk. -/
import Derived.Test.YtdgdjlpbnaoheaaPkF
namespace Go.Proofs.Ytdgdjlpbnaoheaa
open Go.RowKit
theorem apart_symm (a b : Nat) : apartN a b = apartN b a := cnt_congr fun i _ => by cases a.testBit i <;> cases b.testBit i <;> rfl
def sameB (x : Ph) (y : Ph) : Bool := decide (pcheckZ y = 0) && decide (y.ride ≠ x.ride) && decide (apartN (markN x) (markN y) ≤ 4)
theorem rep_same {l : List Ph} {x : Ph} (hx : pcheckZ x = 0) : repB l x = l.any (sameB x) := by
  unfold repB
  rw [decide_eq_true hx, Bool.true_and]
  congr 1
  funext y
  unfold sameB
  rw [apart_symm]
theorem any_take {α : Type} (q : α → Bool) {l : List α} {k : Nat} (h : k < l.length) : (l.take (k + 1)).any q = ((l.take k).any q || q l[k]) := by
  rw [List.take_succ_eq_append_getElem h, List.any_append]; simp
theorem fam_dn {P : Program} {f : FuncId} {args : Array Value} {w : World} {z : Fam w} {v : Value} (h : Calls P f args z.val fun e w' => e = .returned v ∧ ∃ n, w' = z.val.drewN n) :
    Calls P f args z.val fun e w'' => e = .returned v ∧ ∃ m : Fam w, w'' = m.val :=
  h.mono fun _ _ ⟨he, n, hb⟩ => ⟨he, ⟨_, below_drewN z.2 n⟩, hb⟩
theorem d_rep {w : World} {b off i : Nat} {x : Ph} (h : w.cell? ⟨b, off + i * 5, none⟩ = some (.int .i64 x.ride) ∧ w.cell? ⟨b, off + i * 5 + 1, none⟩ = some (.int .i64 x.tm) ∧ w.cell? ⟨b, off + i * 5 + 2, none⟩ = some (.int .i64 x.W) ∧ w.cell? ⟨b, off + i * 5 + 3, none⟩ = some (.int .i64 x.H) ∧ w.cell? ⟨b, off + i * 5 + 4, none⟩ = some (.slice x.A x.n x.c)) {B : Nat} (hb : b < B) {v : World} (hv : Below B w v) : v.cell? ⟨b, off + i * 5, none⟩ = some (.int .i64 x.ride) ∧ v.cell? ⟨b, off + i * 5 + 1, none⟩ = some (.int .i64 x.tm) ∧ v.cell? ⟨b, off + i * 5 + 2, none⟩ = some (.int .i64 x.W) ∧ v.cell? ⟨b, off + i * 5 + 3, none⟩ = some (.int .i64 x.H) ∧ v.cell? ⟨b, off + i * 5 + 4, none⟩ = some (.slice x.A x.n x.c) :=
  ⟨(hv.cell (p := ⟨b, _, none⟩) hb).trans h.1, (hv.cell (p := ⟨b, _, none⟩) hb).trans h.2.1, (hv.cell (p := ⟨b, _, none⟩) hb).trans h.2.2.1, (hv.cell (p := ⟨b, _, none⟩) hb).trans h.2.2.2.1, (hv.cell (p := ⟨b, _, none⟩) hb).trans h.2.2.2.2⟩
set_option maxHeartbeats 8000000 in
set_option maxRecDepth 10000 in
theorem first_any (A : Option Addr) (n c : Nat) (l : List Ph) (w : World) (h : PsR w A n l) (hn : n ≤ 64) : Calls Try.prog 37 #[.slice A n c] w (RetPs w (origL l)) := by
  obtain ⟨i1, hi1, hy0, hy1, hy2⟩ := info_parts infoPh
  have HL := Lib.hid h.2.2
  have HZA : Hid (∀ u, Below w.heap.size w u → PsR u A n l) := Lib.hid fun u hu => h.below hu
  have HT0 : Hid (Two w.heap.size w w 46 5 (.slice none 0 0) 0 [] 3 1 (.slice none 0 0) 0 []) := Lib.hid ⟨Below.refl _ _, Nat.le_refl _, World.ownsRow_nil _ _ _ _, World.ownsRow_nil _ _ _ _, fun g h => by simp [Value.ownBlock] at h⟩
  clear h
  go_enter Try.func37, Try.ntmps37
  go_wp2_with fail
  go_loopw [3, 4] (fun s1 s2 wr => ∃ (i j2 : Nat) (A2 : Option Addr) (c2 : Nat), i ≤ n ∧ s1 = .slice A2 j2 c2 ∧ s2 = .int .i64 i ∧ Hid (j2 = (origT l i).length) ∧ Two w.heap.size w wr 46 5 (.slice A2 j2 c2) j2 (cellsF (origT l i)) 3 1 (.slice none 0 0) 0 []) (fun _ s _ => n - (intOf s).toNat)
  case atStart => exact ⟨0, 0, none, 0, Nat.zero_le _, rfl, rfl, Lib.hid rfl, HT0.out⟩
  case round =>
    obtain ⟨wo, rfl⟩ : ∃ wo : World, wo = wr := ⟨_, rfl⟩
    obtain ⟨i, j2, A2, c2, hi, rfl, rfl, HJ2, hT⟩ := hrel
    have HT := Lib.hid hT
    have HBW := Lib.hid hT.below
    have HZr := Lib.hid (HZA.out _ HBW.out)
    have hj2 : j2 ≤ i := by rw [HJ2.out]; exact origT_len l i
    clear hT
    by_cases hlt : i < n
    · have hkl : i < l.length := by have := HL.out; omega
      obtain ⟨b, off, rfl, hb, hc⟩ := HZr.out.cells (by omega)
      have hd := hc i hkl
      have HC := Lib.hid hc
      have hk0 : (0 : Int) ≤ i := by omega
      have hk1 : (i : Int) < n := by omega
      have HSO := Lib.hid (orig_step hkl)
      obtain ⟨x, hz⟩ : ∃ x, l[i] = x := ⟨_, rfl⟩
      rw [hz] at hd HSO
      have HD := Lib.hid hd
      obtain ⟨d0, d1, d2, d3, d4⟩ := hd
      have HPR : Hid (PR wo x) := Lib.hid (by rw [← hz]; exact HZr.out.2.1 _ (List.getElem_mem hkl))
      clear hc hz
      obtain ⟨y, hy⟩ : ∃ y, pcheckZ x = y := ⟨_, rfl⟩
      obtain ⟨mk, hmk⟩ : ∃ m, markN x = m := ⟨_, rfl⟩
      have HY := Lib.hid hy; have HMK := Lib.hid hmk
      clear hy hmk
      have HNO : Hid (repB (l.take i) x = false → origT l (i + 1) = origT l i ++ [x]) := Lib.hid fun g => by rw [HSO.out, if_neg (by rw [g]; decide)]
      have HYES : Hid (repB (l.take i) x = true → origT l (i + 1) = origT l i) := Lib.hid fun g => by rw [HSO.out, if_pos g]
      by_cases h0 : y = 0
      case neg =>
        have HO2 : Hid (origT l (i + 1) = origT l i ++ [x]) := Lib.hid (HNO.out (rep_bad (by rw [HY.out]; exact h0)))
        have t0 := eq0_f h0
        clear h0
        go_wp2_with fail
        refine (rmark_any x mk y _ HPR.out HMK.out HY.out).mono ?_
        rintro e w2 ⟨rfl, hb2⟩
        have HB2 := Lib.hid hb2
        have HT2 := Lib.hid (HT.out.stepB hb2)
        clear hb2 d0 d1 d2 d3 d4
        go_wp2_with fail
        go_loopw [7, 8] (fun s1 s2 wr => s1 = .bool false ∧ s2 = .int .i64 0 ∧ Below w2.heap.size w2 wr) (fun _ _ _ => 0)
        case atStart => exact ⟨rfl, rfl, Below.refl _ _⟩
        case round =>
          obtain ⟨wj, rfl⟩ : ∃ wj : World, wj = wr := ⟨_, rfl⟩
          obtain ⟨rfl, rfl, hbj⟩ := hrel
          have T := HT2.out.stepB hbj
          obtain ⟨e0, e1, e2, e3, e4⟩ := d_rep HD.out hb (below_next HB2.out (Nat.le_refl _) hbj)
          clear hbj
          by_cases h3 : 0 < i
          · have h4 : (0 : Int) < i := by omega
            go_wp2_with (at_builtin; refine wpList_append_any _ rfl (.tmp 68) (.tmp 73) _ rfl _ 46 i1 _ 5 56 Try.underlying23 hi1 hy0 hy1 hy2 rfl (by omega) (.slice A2 j2 c2) j2 _ rfl (T.alloc _).ownX _ _ 1 1 [.int .i64 x.ride, .int .i64 x.tm, .int .i64 x.W, .int .i64 x.H, .slice x.A x.n x.c] (by rfl) (frF _ x) oneF (by simp only [maxLen]; omega) (by omega) (T.alloc _).base ?_; intro v7 w7 hown7 hg7 hat7; obtain ⟨A7, c7, rfl, hr7⟩ := own_reads hown7; rw [← snocF] at hown7; have T := (T.alloc _).left hown7 hg7 hat7; clear hown7 hg7 hat7 hr7)
            go_roundw
            case rel => exact ⟨i + 1, j2 + 1, A7, c7, by omega, rfl, by go_num, Lib.hid (by rw [HO2.out, List.length_append, ← HJ2.out]; rfl), by rw [HO2.out]; exact T⟩
            case measure => simp [intOf]; omega
          · have h4 : (i : Int) ≤ 0 := by omega
            go_wp2_with (at_builtin; refine wpList_append_any _ rfl (.tmp 68) (.tmp 73) _ rfl _ 46 i1 _ 5 56 Try.underlying23 hi1 hy0 hy1 hy2 rfl (by omega) (.slice A2 j2 c2) j2 _ rfl (T.alloc _).ownX _ _ 1 1 [.int .i64 x.ride, .int .i64 x.tm, .int .i64 x.W, .int .i64 x.H, .slice x.A x.n x.c] (by rfl) (frF _ x) oneF (by simp only [maxLen]; omega) (by omega) (T.alloc _).base ?_; intro v7 w7 hown7 hg7 hat7; obtain ⟨A7, c7, rfl, hr7⟩ := own_reads hown7; rw [← snocF] at hown7; have T := (T.alloc _).left hown7 hg7 hat7; clear hown7 hg7 hat7 hr7)
            go_roundw
            case rel => exact ⟨i + 1, j2 + 1, A7, c7, by omega, rfl, by go_num, Lib.hid (by rw [HO2.out, List.length_append, ← HJ2.out]; rfl), by rw [HO2.out]; exact T⟩
            case measure => simp [intOf]; omega
      subst h0
      go_wp2_with fail
      refine (rmark_any x mk 0 _ HPR.out HMK.out HY.out).mono ?_
      rintro e w2 ⟨rfl, hb2⟩
      have HB2 := Lib.hid hb2
      have HT2 := Lib.hid (HT.out.stepB hb2)
      clear hb2 d0 d1 d2 d3 d4
      go_wp2_with fail
      go_loopw [7, 8] (fun s1 s2 wr => ∃ (k : Nat) (a : Bool), k ≤ i ∧ s1 = .bool a ∧ s2 = .int .i64 k ∧ Hid (a = (l.take k).any (sameB x)) ∧ Below w2.heap.size w2 wr) (fun _ s _ => i - (intOf s).toNat)
      case atStart => exact ⟨0, false, Nat.zero_le _, rfl, rfl, Lib.hid rfl, Below.refl _ _⟩
      case round =>
        obtain ⟨wj, rfl⟩ : ∃ wj : World, wj = wr := ⟨_, rfl⟩
        obtain ⟨k, a, hk, rfl, rfl, HA, hbj⟩ := hrel
        have HBJ := Lib.hid hbj
        have HBO := Lib.hid (below_next HB2.out (Nat.le_refl _) hbj)
        have HZj := Lib.hid (HZr.out.below HBO.out)
        clear hbj
        by_cases hlk : k < i
        · have hkk : k < l.length := by omega
          have hd := HC.out k hkk
          have HAT := Lib.hid (any_take (sameB x) hkk)
          obtain ⟨z, hz⟩ : ∃ z, l[k] = z := ⟨_, rfl⟩
          rw [hz] at hd HAT
          have HPZ : Hid (PR wj z) := Lib.hid (by rw [← hz]; exact HZj.out.2.1 _ (List.getElem_mem hkk))
          have HDZ := Lib.hid hd
          obtain ⟨e0, e1, e2, e3, e4⟩ := d_rep HDZ.out hb HBO.out
          have hj0 : (0 : Int) ≤ k := by omega
          have hj1 : (k : Int) < i := by omega
          have hj3 : (k : Int) < n := by omega
          clear hd hz
          obtain ⟨y2, hy⟩ : ∃ y, pcheckZ z = y := ⟨_, rfl⟩
          obtain ⟨mk2, hmk⟩ : ∃ m, markN z = m := ⟨_, rfl⟩
          have HY2 := Lib.hid hy; have HMK2 := Lib.hid hmk
          clear hy hmk
          have HYC := HY2; have HMC := HMK2
          obtain ⟨q, hq⟩ : ∃ q, sameB x z = q := ⟨_, rfl⟩
          have HA3 : Hid ((a || q) = (l.take (k + 1)).any (sameB x)) := Lib.hid (by rw [HAT.out, ← HA.out, hq])
          have HQ := Lib.hid hq
          clear hq
          rcases a with _ | _
          · by_cases hz0 : y2 = 0
            case neg =>
              obtain rfl : q = false := by rw [← HQ.out]; unfold sameB; rw [decide_eq_false (by rw [HY2.out]; exact hz0)]; rfl
              have t0 := eq0_f hz0
              have hz9 : decide (y2 = 0) = false := by simp [hz0]
              clear hz0
              go_wp2_with fail
              refine (rmark_any z mk2 _ _ HPZ.out HMK2.out HY2.out).mono ?_
              rintro e w3 ⟨rfl, hb3⟩
              have HB3 := Lib.hid (below_next HBJ.out (Nat.le_refl _) hb3)
              obtain ⟨p0, p1, p2, p3, p4⟩ := d_rep HDZ.out hb (below_next HBO.out (Nat.le_refl _) hb3)
              obtain ⟨r0, r1, r2, r3, r4⟩ := d_rep HD.out hb (below_next HBO.out (Nat.le_refl _) hb3)
              have P0 : ∀ z' : Fam w3, z'.val.cell? ⟨b, off + k * 5, none⟩ = some (.int .i64 z.ride) := fun z' => z'.some_ p0
              have R0 : ∀ z' : Fam w3, z'.val.cell? ⟨b, off + i * 5, none⟩ = some (.int .i64 x.ride) := fun z' => z'.some_ r0
              clear hb3 e0 e1 e2 e3 e4 p0 p1 p2 p3 p4 r0 r1 r2 r3 r4
              go_wp2_with fail
              refine wp_region_fam (by kernel_rfl) (by kernel_rfl) ?_
              repeat (go_big_quiet_step (fail))
              refine wpQuiet_nil ?_
              rintro _ ⟨z1, rfl⟩
              clear P0 R0
              have HB4 := Lib.hid (below_next HB3.out (Nat.le_refl _) z1.prop)
              go_wp2_with fail
              go_roundw
              case rel => exact ⟨k + 1, false, by omega, rfl, by go_num, Lib.hid HA3.out, HB4.out⟩
              case measure => simp [intOf]; omega
            subst hz0
            by_cases hr : z.ride = x.ride
            · obtain rfl : q = false := by rw [← HQ.out]; unfold sameB; rw [decide_eq_false (fun e => e hr : ¬ z.ride ≠ x.ride), Bool.and_false]; rfl
              have hr2 : (z.ride != x.ride) = false := by simp [hr]
              have hr3 : decide (z.ride ≠ x.ride) = false := by simp [hr]
              have hr4 : (z.ride == x.ride) = true := by simp [hr]
              clear hr
              go_wp2_with fail
              refine (rmark_any z mk2 _ _ HPZ.out HMK2.out HY2.out).mono ?_
              rintro e w3 ⟨rfl, hb3⟩
              have HB3 := Lib.hid (below_next HBJ.out (Nat.le_refl _) hb3)
              obtain ⟨p0, p1, p2, p3, p4⟩ := d_rep HDZ.out hb (below_next HBO.out (Nat.le_refl _) hb3)
              obtain ⟨r0, r1, r2, r3, r4⟩ := d_rep HD.out hb (below_next HBO.out (Nat.le_refl _) hb3)
              have P0 : ∀ z' : Fam w3, z'.val.cell? ⟨b, off + k * 5, none⟩ = some (.int .i64 z.ride) := fun z' => z'.some_ p0
              have R0 : ∀ z' : Fam w3, z'.val.cell? ⟨b, off + i * 5, none⟩ = some (.int .i64 x.ride) := fun z' => z'.some_ r0
              clear hb3 e0 e1 e2 e3 e4 p0 p1 p2 p3 p4 r0 r1 r2 r3 r4
              go_wp2_with fail
              refine wp_region_fam (by kernel_rfl) (by kernel_rfl) ?_
              repeat (go_big_quiet_step (fail))
              refine wpQuiet_nil ?_
              rintro _ ⟨z1, rfl⟩
              clear P0 R0
              have HB4 := Lib.hid (below_next HB3.out (Nat.le_refl _) z1.prop)
              go_wp2_with fail
              go_roundw
              case rel => exact ⟨k + 1, false, by omega, rfl, by go_num, Lib.hid HA3.out, HB4.out⟩
              case measure => simp [intOf]; omega
            · obtain ⟨dd, hdd⟩ : ∃ d : Int, (apartN mk mk2 : Int) = d := ⟨_, rfl⟩
              have HDD := Lib.hid hdd
              have HQ4 : Hid (decide (dd ≤ 4) = q) := Lib.hid (by
                rw [← HQ.out]; unfold sameB
                rw [HMK.out, HMK2.out, decide_eq_true HY2.out, decide_eq_true hr, Bool.true_and, Bool.true_and, ← hdd]
                by_cases g : apartN mk mk2 ≤ 4
                · rw [decide_eq_true g, decide_eq_true (by omega)]
                · rw [decide_eq_false g, decide_eq_false (by omega)])
              have hr2 : (z.ride != x.ride) = true := by simp [hr]
              have hr3 : decide (z.ride ≠ x.ride) = true := by simp [hr]
              have hr4 : (z.ride == x.ride) = false := by simp [hr]
              clear hr hdd
              go_wp2_with fail
              refine (rmark_any z mk2 _ _ HPZ.out HMK2.out HY2.out).mono ?_
              rintro e w3 ⟨rfl, hb3⟩
              have HB3 := Lib.hid (below_next HBJ.out (Nat.le_refl _) hb3)
              obtain ⟨p0, p1, p2, p3, p4⟩ := d_rep HDZ.out hb (below_next HBO.out (Nat.le_refl _) hb3)
              obtain ⟨r0, r1, r2, r3, r4⟩ := d_rep HD.out hb (below_next HBO.out (Nat.le_refl _) hb3)
              have P0 : ∀ z' : Fam w3, z'.val.cell? ⟨b, off + k * 5, none⟩ = some (.int .i64 z.ride) := fun z' => z'.some_ p0
              have R0 : ∀ z' : Fam w3, z'.val.cell? ⟨b, off + i * 5, none⟩ = some (.int .i64 x.ride) := fun z' => z'.some_ r0
              clear hb3 e0 e1 e2 e3 e4 p0 p1 p2 p3 p4 r0 r1 r2 r3 r4
              go_wp2_with fail
              refine wp_region_fam (by kernel_rfl) (by kernel_rfl) ?_
              repeat (go_big_quiet_step (((go_at_call 57; exact fam_dn (rpapart_any mk mk2 dd _ HDD.out)))))
              refine wpQuiet_nil ?_
              rintro _ ⟨z1, rfl⟩
              clear P0 R0
              have HB4 := Lib.hid (below_next HB3.out (Nat.le_refl _) z1.prop)
              rw [HQ4.out]
              go_wp2_with fail
              go_roundw
              case rel => exact ⟨k + 1, q, by omega, rfl, by go_num, Lib.hid HA3.out, HB4.out⟩
              case measure => simp [intOf]; omega
          · skip
            go_wp2_with fail
            refine (rmark_any z mk2 _ _ HPZ.out HMK2.out HY2.out).mono ?_
            rintro e w3 ⟨rfl, hb3⟩
            have HB3 := Lib.hid (below_next HBJ.out (Nat.le_refl _) hb3)
            obtain ⟨p0, p1, p2, p3, p4⟩ := d_rep HDZ.out hb (below_next HBO.out (Nat.le_refl _) hb3)
            obtain ⟨r0, r1, r2, r3, r4⟩ := d_rep HD.out hb (below_next HBO.out (Nat.le_refl _) hb3)
            have P0 : ∀ z' : Fam w3, z'.val.cell? ⟨b, off + k * 5, none⟩ = some (.int .i64 z.ride) := fun z' => z'.some_ p0
            have R0 : ∀ z' : Fam w3, z'.val.cell? ⟨b, off + i * 5, none⟩ = some (.int .i64 x.ride) := fun z' => z'.some_ r0
            clear hb3 e0 e1 e2 e3 e4 p0 p1 p2 p3 p4 r0 r1 r2 r3 r4
            go_wp2_with fail
            refine wp_region_fam (by kernel_rfl) (by kernel_rfl) ?_
            repeat (go_big_quiet_step (fail))
            refine wpQuiet_nil ?_
            rintro _ ⟨z1, rfl⟩
            clear P0 R0
            have HB4 := Lib.hid (below_next HB3.out (Nat.le_refl _) z1.prop)
            go_wp2_with fail
            go_roundw
            case rel => exact ⟨k + 1, true, by omega, rfl, by go_num, Lib.hid HA3.out, HB4.out⟩
            case measure => simp [intOf]; omega
        · have hke : k = i := by omega
          have HRP : Hid (a = repB (l.take i) x) := Lib.hid (by rw [rep_same HY.out, HA.out, hke])
          have hk3 : (i : Int) ≤ k := by omega
          have T := HT2.out.stepB HBJ.out
          obtain ⟨e0, e1, e2, e3, e4⟩ := d_rep HD.out hb HBO.out
          clear hke
          rcases a with _ | _
          · have HO2 : Hid (origT l (i + 1) = origT l i ++ [x]) := Lib.hid (HNO.out HRP.out.symm)
            go_wp2_with (at_builtin; refine wpList_append_any _ rfl (.tmp 68) (.tmp 73) _ rfl _ 46 i1 _ 5 56 Try.underlying23 hi1 hy0 hy1 hy2 rfl (by omega) (.slice A2 j2 c2) j2 _ rfl (T.alloc _).ownX _ _ 1 1 [.int .i64 x.ride, .int .i64 x.tm, .int .i64 x.W, .int .i64 x.H, .slice x.A x.n x.c] (by rfl) (frF _ x) oneF (by simp only [maxLen]; omega) (by omega) (T.alloc _).base ?_; intro v7 w7 hown7 hg7 hat7; obtain ⟨A7, c7, rfl, hr7⟩ := own_reads hown7; rw [← snocF] at hown7; have T := (T.alloc _).left hown7 hg7 hat7; clear hown7 hg7 hat7 hr7)
            go_roundw
            case rel => exact ⟨i + 1, j2 + 1, A7, c7, by omega, rfl, by go_num, Lib.hid (by rw [HO2.out, List.length_append, ← HJ2.out]; rfl), by rw [HO2.out]; exact T⟩
            case measure => simp [intOf]; omega
          · have HO2 : Hid (origT l (i + 1) = origT l i) := Lib.hid (HYES.out HRP.out.symm)
            go_wp2_with fail
            go_roundw
            case rel => exact ⟨i + 1, j2, A2, c2, by omega, rfl, by go_num, Lib.hid (by rw [HO2.out]; exact HJ2.out), by rw [HO2.out]; exact T⟩
            case measure => simp [intOf]; omega
    · have hle : i = l.length := by have := HL.out; omega
      have HOO : Hid (origT l i = origL l) := Lib.hid (by rw [hle]; rfl)
      have HR : Hid (PsR wo A2 j2 (origL l)) := Lib.hid ⟨by rw [← HOO.out]; exact Reads.of_own HT.out.ownX, fun p hp => HZr.out.2.1 p (by rw [← HOO.out] at hp; exact origT_mem l i (by omega) p hp), by rw [← HOO.out]; exact HJ2.out.symm⟩
      clear hle
      go_wp2_with fail
      go_ret
      exact ⟨A2, j2, c2, rfl, HR.out, HBW.out⟩
end Go.Proofs.Ytdgdjlpbnaoheaa
