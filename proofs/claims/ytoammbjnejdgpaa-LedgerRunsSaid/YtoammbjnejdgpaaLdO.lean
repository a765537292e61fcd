/- The law's awake. -/
import Derived.Test.YtoammbjnejdgpaaLdN
namespace Go.Proofs.Ytoammbjnejdgpaa
open Go.RowKit
/-- A ledger made behind w0. -/
structure LdW (w0 w : World) (F R : Nat → Prop) (g : Nat) (acc : Int) (d : List Dt) : Prop where
  ld : LdF w F R g acc d
  new_ : ∀ k, F k → w0.heap.size ≤ k
  bel : Below w0.heap.size w0 w
  fine : Fine acc d
theorem LdW.below {w0 w w' : World} {F R : Nat → Prop} {g : Nat} {acc : Int} {d : List Dt} (h : LdW w0 w F R g acc d) (hb : Below w.heap.size w w') : LdW w0 w' F R g acc d := ⟨h.ld.below hb, h.new_, below_next h.bel (Nat.le_refl _) hb, h.fine⟩
theorem LdW.next {w0 w w' : World} {F R : Nat → Prop} {g : Nat} {acc x : Int} {d d' : List Dt} {e : Ending} (h : LdW w0 w F R g acc d) (hf : Fine acc d') (hp : PostL w F R g acc x d' e w') : e = .returned (.int .i64 x) ∧ ∃ F' R', LdW w0 w' F' R' g acc d' := by
  obtain ⟨he, ho, F', R', h1, _, h3⟩ := hp
  refine ⟨he, F', R', h3, fun k hk => ?_, h.bel.trans (ho.below (fun k _ hk => h.new_ k hk) h.bel.size), hf⟩
  rcases h1 k hk with h4 | h4
  · exact h.new_ k h4
  · exact Nat.le_trans h.bel.size h4
def aw1 : List Dt := [⟨1, 10, [(2, -500), (0, 500)], false⟩]
def aw2 : List Dt := [⟨1, 10, [(2, -500), (0, 500)], true⟩, ⟨2, 20, [(2, 500), (0, -500)], true⟩]
theorem aw_p : postE 3 [] 1 10 [(2, -500), (0, 500)] = 0 ∧ postD 3 [] 1 10 [(2, -500), (0, 500)] false = aw1 := ⟨by decide, by rfl⟩
theorem aw_r : revE 3 aw1 1 2 20 = 0 ∧ revD 3 aw1 1 2 20 = aw2 := ⟨by decide, by rfl⟩
theorem aw_s : revE 3 aw2 1 3 30 = 20 ∧ revD 3 aw2 1 3 30 = aw2 := ⟨by decide, by rfl⟩
theorem aw_t : revE 3 aw2 2 3 30 = 20 ∧ revD 3 aw2 2 3 30 = aw2 := ⟨by decide, by rfl⟩
theorem aw_b : (balE 3 0 10 = 0 ∧ balX 3 aw1 0 10 = 500) ∧ (balE 3 2 9 = 0 ∧ balX 3 aw1 2 9 = 0) ∧ (balE 3 2 20 = 0 ∧ balX 3 aw2 2 20 = 0) := ⟨⟨by decide, by decide⟩, ⟨by decide, by decide⟩, ⟨by decide, by decide⟩⟩
theorem fine1 : Fine 3 aw1 := by rw [← aw_p.2]; exact (fine_nil 3).post
theorem fine2 : Fine 3 aw2 := by rw [← aw_r.2]; exact fine1.rev
theorem aw_qs (w : World) (A2 : Option Addr) (c2 : Nat) (h : Reads w w.heap.size 2 A2 2 (cellsLn [(2, -500), (0, 500)])) : PsR ((w.alloc (.cells #[.int .i64 2, .int .i64 500, .int .i64 0, .int .i64 (-500)] 54)).alloc (.cells #[.int .i64 1, .int .i64 10, .slice A2 2 c2, .int .i64 2, .int .i64 20, .slice (some ⟨w.heap.size, 0, none⟩) 2 2] 45)) (some ⟨w.heap.size + 1, 0, none⟩) 2 [⟨1, 10, A2, 2, c2, [(2, -500), (0, 500)]⟩, ⟨2, 20, some ⟨w.heap.size, 0, none⟩, 2, 2, [(2, 500), (0, -500)]⟩] := by
  refine ⟨?_, fun p hp => ?_⟩
  · have r := (RIn.fresh (w.alloc (.cells #[.int .i64 2, .int .i64 500, .int .i64 0, .int .i64 (-500)] 54)) 45 #[.int .i64 1, .int .i64 10, .slice A2 2 c2, .int .i64 2, .int .i64 20, .slice (some ⟨w.heap.size, 0, none⟩) 2 2] 2 3 rfl).reads
    simpa [cellsPg, encPg] using r
  · have hbA : Below w.heap.size w ((w.alloc (.cells #[.int .i64 2, .int .i64 500, .int .i64 0, .int .i64 (-500)] 54)).alloc (.cells #[.int .i64 1, .int .i64 10, .slice A2 2 c2, .int .i64 2, .int .i64 20, .slice (some ⟨w.heap.size, 0, none⟩) 2 2] 45)) := ((Below.refl _ _).alloc (Nat.le_refl _) _).alloc (by simp) _
    simp only [List.mem_cons, List.not_mem_nil, or_false] at hp
    rcases hp with rfl | rfl
    · exact ⟨(h.below hbA).more hbA.size, (by decide : (2 : Nat) ≤ 100)⟩
    · have r := (RIn.fresh w 54 #[.int .i64 2, .int .i64 500, .int .i64 0, .int .i64 (-500)] 2 2 rfl).alloc (.cells #[.int .i64 1, .int .i64 10, .slice A2 2 c2, .int .i64 2, .int .i64 20, .slice (some ⟨w.heap.size, 0, none⟩) 2 2] 45)
      exact ⟨by simpa [cellsLn, encLn] using r.reads, (by decide : (2 : Nat) ≤ 100)⟩
set_option maxHeartbeats 4000000 in
set_option maxRecDepth 10000 in
theorem awake_any (w : World) : Calls Try.prog 15 #[] w (RetB w true) := by
  go_enter Try.func15, Try.ntmps15
  go_wp2_with fail
  refine (new_any 3 _).mono ?_
  intro e w0' hh
  unfold RetNew at hh
  rw [if_neg (by decide)] at hh
  obtain ⟨rfl, rfl⟩ := hh
  have L1 : LdW w (w.alloc (.cells #[.int .i64 3, .slice none 0 0] 62)) (fun k => k = w.heap.size) (fun _ => False) w.heap.size 3 [] := ⟨new_ld 3 w, fun k hk => by omega, (Below.refl _ _).alloc (Nat.le_refl _) _, fine_nil 3⟩
  obtain ⟨w1, hw1⟩ : ∃ u, w.alloc (.cells #[.int .i64 3, .slice none 0 0] 62) = u := ⟨_, rfl⟩
  rw [hw1] at L1 ⊢
  have H1 := Lib.hid L1
  clear hw1 L1
  go_wp2_with fail
  refine (move_any 1 10 2 0 500 _ (by decide) (by decide)).mono ?_
  rintro e w2 ⟨A1, c1, rfl, hr1, hb1⟩
  have H2 := Lib.hid (H1.out.below hb1); have HR1 := Lib.hid hr1.reads
  clear hr1 hb1
  go_wp2_with fail
  refine (post_any _ _ _ 3 [] aw1 1 10 A1 2 c1 _ 0 _ H2.out.ld (fine_nil 3) HR1.out aw_p.1 aw_p.2).mono ?_
  intro e w3 hp
  obtain ⟨rfl, F3, R3, L3⟩ := H2.out.next fine1 hp
  have H3 := Lib.hid L3
  clear hp L3
  go_wp2_with fail
  refine (balance_any F3 R3 _ 3 aw1 0 10 500 0 _ H3.out.ld fine1 aw_b.1.1 aw_b.1.2).mono ?_
  rintro e w4 ⟨rfl, hb4⟩
  have H4 := Lib.hid (H3.out.below hb4)
  clear hb4
  go_wp2_with fail
  refine (balance_any F3 R3 _ 3 aw1 2 9 0 0 _ H4.out.ld fine1 aw_b.2.1.1 aw_b.2.1.2).mono ?_
  rintro e w5 ⟨rfl, hb5⟩
  have H5 := Lib.hid (H4.out.below hb5)
  clear hb5
  go_wp2_with fail
  refine (reverse_any F3 R3 _ 3 aw1 aw2 1 2 20 0 _ H5.out.ld fine1 aw_r.1 aw_r.2).mono ?_
  intro e w6 hp
  obtain ⟨rfl, F6, R6, L6⟩ := H5.out.next fine2 hp
  have H6 := Lib.hid L6
  clear hp L6
  go_wp2_with fail
  refine (reverse_any F6 R6 _ 3 aw2 aw2 1 3 30 20 _ H6.out.ld fine2 aw_s.1 aw_s.2).mono ?_
  intro e w7 hp
  obtain ⟨rfl, F7, R7, L7⟩ := H6.out.next fine2 hp
  have H7 := Lib.hid L7
  clear hp L7
  go_wp2_with fail
  refine (reverse_any F7 R7 _ 3 aw2 aw2 2 3 30 20 _ H7.out.ld fine2 aw_t.1 aw_t.2).mono ?_
  intro e w8 hp
  obtain ⟨rfl, F8, R8, L8⟩ := H7.out.next fine2 hp
  have H8 := Lib.hid L8
  clear hp L8
  go_wp2_with fail
  refine (balance_any F8 R8 _ 3 aw2 2 20 0 0 _ H8.out.ld fine2 aw_b.2.2.1 aw_b.2.2.2).mono ?_
  rintro e w9 ⟨rfl, hb9⟩
  have H9 := Lib.hid (H8.out.below hb9)
  clear hb9
  go_wp2_with fail
  refine (postings_any F8 R8 _ 3 aw2 _ H9.out.ld fine2).mono ?_
  rintro e w10 ⟨A, n, c, ps, rfl, hn, hps, hb10⟩
  obtain rfl : n = 2 := hn
  have H10 := Lib.hid (below_next H9.out.bel (Nat.le_refl _) hb10); have HPS := Lib.hid hps
  clear hps hb10
  go_wp2_with fail
  refine (move_any 1 10 2 0 500 _ (by decide) (by decide)).mono ?_
  rintro e w11 ⟨A2, c2, rfl, hr2, hb11⟩
  have H11 := Lib.hid (below_next H10.out (Nat.le_refl _) hb11); have HPR := Lib.hid (HPS.out.psr.below hb11); have HM := Lib.hid hr2.reads
  clear hr2 hb11
  go_wp2_with fail
  have HSM : Hid (sameP ps [⟨1, 10, A2, 2, c2, [(2, -500), (0, 500)]⟩, ⟨2, 20, some ⟨w11.heap.size, 0, none⟩, 2, 2, [(2, 500), (0, -500)]⟩] = true) := Lib.hid (decide_eq_true (by rw [HPS.out.1]; rfl))
  have hb12 : Below w11.heap.size w11 ((w11.alloc (.cells #[.int .i64 2, .int .i64 500, .int .i64 0, .int .i64 (-500)] 54)).alloc (.cells #[.int .i64 1, .int .i64 10, .slice A2 2 c2, .int .i64 2, .int .i64 20, .slice (some ⟨w11.heap.size, 0, none⟩) 2 2] 45)) := ((Below.refl _ _).alloc (Nat.le_refl _) _).alloc (by simp) _
  have HQR := Lib.hid (aw_qs w11 A2 c2 HM.out)
  have HPR2 := Lib.hid (HPR.out.below hb12)
  have HB12 := Lib.hid (below_next H11.out (Nat.le_refl _) hb12)
  clear hb12
  refine (same_any A _ 2 c 2 2 ps _ true _ HPR2.out HQR.out (by decide) HSM.out).mono ?_
  rintro e w12 ⟨rfl, q, rfl⟩
  go_wp2_with fail
  go_ret
  exact ⟨rfl, below_next HB12.out (Nat.le_refl _) ⟨rfl, rfl, rfl, Nat.le_refl _, fun _ _ => rfl⟩⟩
end Go.Proofs.Ytoammbjnejdgpaa
