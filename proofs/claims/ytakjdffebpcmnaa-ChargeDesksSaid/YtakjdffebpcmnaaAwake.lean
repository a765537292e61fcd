/- The walk of the statements' awake: the chapter's examples, met by the contracts. -/
import Derived.Test.YtakjdffebpcmnaaAsk
import Derived.Deep.CutRange
import Derived.Deep.RegionHeld3
namespace Go.Proofs.Ytakjdffebpcmnaa
open Go.RowKit Go.Maps Go.WideMaps
theorem answer_state (F : Nat → Prop) (g : Nat) (l : List En) (r e : Int) (i : Nat) (w : World) (h : DeskF w F g l) (hw : (Lit.int .i64 r).wf = true) (hi : idx l r = some i) (hs : (l[i]'(idx_lt hi)).2.1 ≠ 0) :
    Calls Try.prog 20 #[.pointer (some ⟨g, 0, none⟩), .int .i64 r, .int .i64 e] w fun e w' => e = .returned (.int .i64 12) ∧ w = w' := by
  obtain ⟨h1, h0, A, n, c, m, h2, h3, h4, h5, h6⟩ := h
  have HL := Lib.hid (recs_len (Reads.of_own h4) encE_len (by omega))
  have hgs : g < w.heap.size := h0 g h1
  have c0 := h2.cell 0
  have c1 := h2.cell 1
  have hrun := h5.look intLaw Try.underlying61 Try.underlying3 (zero3 w) (keyOf_int_mk Try.underlying3 hw)
  rw [placeR_int] at hrun
  have hil := idx_lt hi
  rw [hi] at hrun
  have hin : i < n := by have := HL.out; omega
  obtain ⟨b, off, rfl, hbl, hd⟩ := (Reads.of_own h4).recs encE_len (by omega) (by omega)
  obtain ⟨rfl, _, cur, hB, _⟩ := own_blk h4
  have d3 : w.cell? ⟨b, i * 5 + 3, none⟩ = some (.int .i64 l[i].2.1) := by have := hd i hil 3 _ rfl; simpa using this
  have hi0 : (0 : Int) ≤ i := by omega
  have hi1 : (i : Int) < n := by omega
  have hs' : (l[i].2.1 != 0) = true := ne0_t hs
  clear h2 h4 h5 h6 hs hi hB hd
  go_enter Try.func20, Try.ntmps20
  go_wp2_with fail
  go_ret
  exact ⟨rfl, rfl⟩
theorem ask_at (F : Nat → Prop) (g : Nat) (l m : List En) (a b c x : Int) (w : World) (h : DeskF w F g l) (hn : l.length ≤ 100000) (h1 : askE l (a, b, c) = x) (h2 : askL l (a, b, c) = m) :
    Calls Try.prog 11 #[.pointer (some ⟨g, 0, none⟩), .agg #[.int .i64 a, .int .i64 b, .int .i64 c]] w (DeskPost w F g x m) := by
  rw [← h1, ← h2]; exact ask_any F g l a b c w h hn
theorem next_at (F : Nat → Prop) (g : Nat) (l : List En) (a b c : Int) (x : Bool) (w : World) (h : DeskF w F g l) (hn : l.length ≤ 100000) (h1 : nextP l = (a, b, c)) (h2 : nextB l = x) :
    Calls Try.prog 19 #[.pointer (some ⟨g, 0, none⟩)] w fun e w' => e = .returned (.tuple #[.agg #[.int .i64 a, .int .i64 b, .int .i64 c], .bool x]) ∧ Below w.heap.size w w' := by
  have := next_any F g l w h hn
  unfold RetPB at this
  rw [h1, h2] at this; exact this
theorem answer_at (F : Nat → Prop) (g : Nat) (l m : List En) (r e x : Int) (w : World) (h : DeskF w F g l) (hw : (Lit.int .i64 r).wf = true) (hn : l.length ≤ 100000) (ht : ∀ x ∈ l, 0 ≤ x.2.2 ∧ x.2.2 ≤ 1000000) (h1 : ansE l r = x) (h2 : ansL l r e = m) :
    Calls Try.prog 20 #[.pointer (some ⟨g, 0, none⟩), .int .i64 r, .int .i64 e] w (DeskPost w F g x m) := by
  rw [← h1, ← h2]; exact answer_any F g l r e w h hw hn ht
theorem pay_at (A : Option Addr) (n c : Nat) (l m : List P3) (pa pb pc x : Int) (w : World) (hr : Reads w w.heap.size 3 A n (cellsP l)) (hn : n ≤ 100000) (h1 : payE l (pa, pb, pc) = x) (h2 : payL l (pa, pb, pc) = m) :
    Calls Try.prog 26 #[.agg #[.slice A n c], .agg #[.int .i64 pa, .int .i64 pb, .int .i64 pc]] w (RetBank w m x) := by
  rw [← h1, ← h2]; exact pay26 A n c l pa pb pc w hr hn
theorem settled_at (F : Nat → Prop) (g : Nat) (l : List En) (m : List P3) (w : World) (h : DeskF w F g l) (hn : l.length ≤ 100000) (h1 : ofS l 1 = m) :
    Calls Try.prog 17 #[.pointer (some ⟨g, 0, none⟩)] w (RetOwn w 23 3 (cellsP m)) := by
  rw [← h1]; exact settled_any F g l w h hn
theorem same_at_ (A A' : Option Addr) (n c n' c' : Nat) (l m : List P3) (x : Bool) (B B' : Nat) (w : World) (hr : Reads w B 3 A n (cellsP l)) (hr' : Reads w B' 3 A' n' (cellsP m)) (hn : n ≤ 100000) (h : sameB l m = x) :
    Calls Try.prog 30 #[.slice A n c, .slice A' n' c'] w fun e w' => e = .returned (.bool x) ∧ ∃ q, w' = w.drewN q := by
  rw [← h]; exact same_any A A' n c n' c' l m B B' w hr hr' hn
abbrev p4 : P3 := (4, 1, 500)
abbrev p2 : P3 := (2, 1, 300)
theorem k1 : askE [] p4 = 0 ∧ askL [] p4 = [(p4, 0, 0)] := by decide +kernel
theorem k2 : askE [(p4, 0, 0)] p2 = 0 ∧ askL [(p4, 0, 0)] p2 = [(p4, 0, 0), (p2, 0, 0)] := by decide +kernel
theorem k3 : nextP [(p4, 0, 0), (p2, 0, 0)] = p4 ∧ nextB [(p4, 0, 0), (p2, 0, 0)] = true := by decide +kernel
theorem k4 : ansE [(p4, 0, 0), (p2, 0, 0)] 4 = 0 ∧ ansL [(p4, 0, 0), (p2, 0, 0)] 4 33 = [(p4, 0, 1), (p2, 0, 0)] := by decide +kernel
theorem k5 : nextP [(p4, 0, 1), (p2, 0, 0)] = p2 ∧ nextB [(p4, 0, 1), (p2, 0, 0)] = true := by decide +kernel
theorem k6 : ansE [(p4, 0, 1), (p2, 0, 0)] 2 = 0 ∧ ansL [(p4, 0, 1), (p2, 0, 0)] 2 0 = [(p4, 0, 1), (p2, 1, 1)] := by decide +kernel
theorem k7 : nextP [(p4, 0, 1), (p2, 1, 1)] = p4 ∧ nextB [(p4, 0, 1), (p2, 1, 1)] = true := by decide +kernel
theorem k8 : payE [] p4 = 0 ∧ payL [] p4 = [p4] := by decide +kernel
theorem k9 : payE [p4] (4, 1, 400) = 21 ∧ payL [p4] (4, 1, 400) = [] := by decide +kernel
theorem k10 : payE [p4] p4 = 0 ∧ payL [p4] p4 = [p4] := by decide +kernel
theorem k11 : ofS [(p4, 0, 1), (p2, 1, 1)] 1 = [p2] := by decide +kernel
theorem k12 : idx [(p4, 0, 1), (p2, 1, 1)] 2 = some 1 := by decide +kernel
def AwakePost (w : World) (e : Ending) (w' : World) : Prop := e = .returned (.bool true) ∧ Below w.heap.size w w'
theorem With.ge {F : Nat → Prop} {B : Nat} {w w' : World} (h : ∀ k, F k → B ≤ k) (hb : B ≤ w.heap.size) : ∀ k, With F w w' k → B ≤ k := fun k hk => hk.elim (h k) fun e => Nat.le_trans hb e.1

theorem below_next {B : Nat} {a b c : World} (h : Below B a b) (hB : B ≤ a.heap.size) (h2 : Below b.heap.size b c) : Below B a c := h.trans (h2.mono (Nat.le_trans hB h.size))
theorem below_drew_ {B : Nat} {a b : World} (h : Below B a b) : Below B a b.drew := ⟨h.os, h.tape, h.output, h.size, h.block⟩
def R11 (w0 : World) (s14 s15 : Value) (wx : World) : Prop := ∃ g A c, s14 = .pointer (some ⟨g, 0, none⟩) ∧ s15 = .int .i64 0 ∧ Blk wx g 51 #[.slice A 1 c] ∧ w0.heap.size ≤ g ∧ Below w0.heap.size w0 wx
set_option maxHeartbeats 4000000 in
set_option maxRecDepth 10000 in
theorem awake_any (w : World) : Calls Try.prog 15 #[] w (AwakePost w) := by
  go_enter Try.func15, Try.ntmps15
  go_wp2_with fail
  refine (new_any w).mono ?_
  rintro e w1 ⟨F1, g, rfl, hd1, hF1, hb1⟩
  go_wp2_with fail
  refine (pay_any 4 500 _).mono ?_
  rintro e w2 ⟨rfl, hb2⟩
  have hd2 := hd1.below hb2
  have hs1 := hb1.size
  have hs2 := hb2.size
  go_wp2_with fail
  refine (ask_at F1 g [] _ 4 1 500 0 _ hd2 (by decide) k1.1 k1.2).mono ?_
  rintro e w3 ⟨rfl, hd3, ho3⟩
  have hF3 := With.ge (w' := w3) hF1 (Nat.le_trans hs1 hs2)
  have hs3 := ho3.size
  have hbw3 : Below w.heap.size w w3 := (hb1.trans (hb2.mono hs1)).trans (ho3.below (fun k _ hk => hF1 k hk) (by omega))
  go_wp2_with fail
  refine (pay_any 2 300 _).mono ?_
  rintro e w4 ⟨rfl, hb4⟩
  have hd4 := hd3.below hb4
  have hs4 := hb4.size
  have hbw4 := hbw3.trans (hb4.mono hbw3.size)
  go_wp2_with fail
  refine (ask_at _ g _ _ 2 1 300 0 _ hd4 (by decide) k2.1 k2.2).mono ?_
  rintro e w5 ⟨rfl, hd5, ho5⟩
  have hF5 := With.ge (w' := w5) hF3 hbw4.size
  have hbw5 := hbw4.trans (ho5.below (fun k _ hk => hF3 k hk) hbw4.size)
  go_wp2_with fail
  refine (next_at _ g _ 4 1 500 true _ hd5 (by decide) k3.1 k3.2).mono ?_
  rintro e w6 ⟨rfl, hb6⟩
  have hd6 := hd5.below hb6
  have hbw6 := hbw5.trans (hb6.mono hbw5.size)
  have hd6' := hd6.below ((Below.refl _ _).alloc (Nat.le_refl _) (.cells #[.int .i64 4, .int .i64 1, .int .i64 500] 23))
  have hbw6' := hbw6.alloc hbw6.size (.cells #[.int .i64 4, .int .i64 1, .int .i64 500] 23)
  have hB2 := Blk.new w6 23 #[.int .i64 4, .int .i64 1, .int .i64 500]
  have hsz6 : w5.heap.size ≤ w6.heap.size := hb6.size
  have nF5 : ¬ With (With F1 w2 w3) w4 w5 w6.heap.size := fun e => by have := hd5.2.1 _ e; omega
  clear hd1 hd2 hd3 hd4 hd5 hd6
  go_wp2_with fail
  refine (answer_at _ g _ _ 4 33 0 _ hd6' (by decide) (by decide) (by decide) k4.1 k4.2).mono ?_
  rintro e w7 ⟨rfl, hd7, ho7⟩
  have hB27 := ho7.blk hB2 nF5
  have hF7 := With.ge (w := (w6.alloc (.cells #[.int .i64 4, .int .i64 1, .int .i64 500] 23))) (w' := w7) hF5 hbw6'.size
  have hbw7 := hbw6'.trans (ho7.below (fun k _ hk => hF5 k hk) hbw6'.size)
  go_wp2_with fail
  refine (next_at _ g _ 2 1 300 true _ hd7 (by decide) k5.1 k5.2).mono ?_
  rintro e w8 ⟨rfl, hb8⟩
  have hd8 := hd7.below hb8
  have hbw8 := hbw7.trans (hb8.mono hbw7.size)
  have hB28 := hB27.below hb8 hB27.lt
  have hd8' := hd8.below ((Below.refl _ _).alloc (Nat.le_refl _) (.cells #[.int .i64 2, .int .i64 1, .int .i64 300] 23))
  have hbw8' := hbw8.alloc hbw8.size (.cells #[.int .i64 2, .int .i64 1, .int .i64 300] 23)
  have hB5 := Blk.new w8 23 #[.int .i64 2, .int .i64 1, .int .i64 300]
  have hB28' := hB28.alloc (.cells #[.int .i64 2, .int .i64 1, .int .i64 300] 23)
  have nF7a : ¬ With (With (With F1 w2 w3) w4 w5) (w6.alloc (.cells #[.int .i64 4, .int .i64 1, .int .i64 500] 23)) w7 w6.heap.size := fun e => e.elim nF5 fun e => by have := e.1; simp at this; omega
  have nF7b : ¬ With (With (With F1 w2 w3) w4 w5) (w6.alloc (.cells #[.int .i64 4, .int .i64 1, .int .i64 500] 23)) w7 w8.heap.size := fun e => by have := hd8.2.1 _ e; omega
  clear hd7 hd8
  go_wp2_with fail
  refine (answer_at _ g _ _ 2 0 0 _ hd8' (by decide) (by decide) (by decide) k6.1 k6.2).mono ?_
  rintro e w9 ⟨rfl, hd9, ho9⟩
  have hB29 := ho9.blk hB28' nF7a
  have hB59 := ho9.blk hB5 nF7b
  have hbw9 := hbw8'.trans (ho9.below (fun k _ hk => hF7 k hk) hbw8'.size)
  obtain ⟨F9, hd9'⟩ : ∃ F, DeskF w9 F g [(p4, 0, 1), (p2, 1, 1)] := ⟨_, hd9⟩
  clear hd9 ho9 hB28' hB5 nF7a nF7b hF7 hB28 hB27 hB2 nF5
  go_wp2_with fail
  refine (next_at _ g _ 4 1 500 true _ hd9' (by decide) k7.1 k7.2).mono ?_
  rintro e w10 ⟨rfl, hb10⟩
  have hbw10 := hbw9.trans (hb10.mono hbw9.size)
  have hd10 := (hd9'.below hb10).below ((Below.refl _ _).alloc (Nat.le_refl _) (.cells #[.int .i64 4, .int .i64 1, .int .i64 500] 23))
  have hbw10' := hbw10.alloc hbw10.size (.cells #[.int .i64 4, .int .i64 1, .int .i64 500] 23)
  have hB2a := (hB29.below hb10 hB29.lt).alloc (.cells #[.int .i64 4, .int .i64 1, .int .i64 500] 23)
  have hB5a := (hB59.below hb10 hB59.lt).alloc (.cells #[.int .i64 4, .int .i64 1, .int .i64 500] 23)
  have hB8a := Blk.new w10 23 #[.int .i64 4, .int .i64 1, .int .i64 500]
  clear hB29 hB59 hd9'
  go_wp2_with fail
  refine (pay_any 4 500 _).mono ?_
  rintro e w11 ⟨rfl, hb11⟩
  have hbw11 := hbw10'.trans (hb11.mono hbw10'.size)
  have hd11 := hd10.below hb11
  have hB2b := hB2a.below hb11 hB2a.lt
  have hB5b := hB5a.below hb11 hB5a.lt
  have hB8b := hB8a.below hb11 hB8a.lt
  clear hB2a hB5a hB8a hd10
  go_wp2_with fail
  refine (pay_at none 0 0 [] _ 4 1 500 0 _ Reads.none_ (by decide) k8.1 k8.2).mono ?_
  rintro e w12 ⟨A, n, c, rfl, hr12, _, hb12⟩
  have hbw12 := hbw11.trans (hb12.mono hbw11.size)
  have hd12 := (hd11.below hb12).below ((Below.refl _ _).alloc (Nat.le_refl _) (.cells #[.slice A n c] 51))
  have hB2c := (hB2b.below hb12 hB2b.lt).alloc (.cells #[.slice A n c] 51)
  have hB5c := (hB5b.below hb12 hB5b.lt).alloc (.cells #[.slice A n c] 51)
  have hB8c := (hB8b.below hb12 hB8b.lt).alloc (.cells #[.slice A n c] 51)
  have hBt := Blk.new w12 51 #[.slice A n c]
  have hn1 : n = 1 := by have := recs_len hr12 encP_len (by omega); simpa using this.symm
  subst hn1
  clear hB2b hB5b hB8b hd11
  go_wp2_with fail
  obtain ⟨w13, HW13⟩ : ∃ w13 : World, Hid (w13 = w12.alloc (.cells #[.slice A 1 c] 51)) := ⟨_, Lib.hid rfl⟩
  rw [← HW13.out] at hd12 hB2c hB5c hB8c hBt ⊢
  have hr13 : Reads w13 w13.heap.size 3 A 1 (cellsP [p4]) := by rw [HW13.out]; exact (hr12.alloc (Nat.le_refl _) _).more (by simp)
  have hbw13 : Below w.heap.size w w13 := by rw [HW13.out]; exact below_alloc hbw12 (Nat.le_refl _) _
  have t0 := hBt.cell 0
  have HR : ∀ {w'}, Below w13.heap.size w13 w' → Reads w' w'.heap.size 3 A 1 (cellsP [p4]) := fun h => (hr13.below h).more h.size
  have HS : ∀ {w'}, Below w13.heap.size w13 w' → w'.cell? ⟨w12.heap.size, 0, none⟩ = some (.slice A 1 c) := fun h => (hBt.below h hBt.lt).cell 0
  have hlt12 : w12.heap.size < w13.heap.size := hBt.lt
  have k0 := Below.refl w13.heap.size w13
  clear hr12 HW13
  go_upto_region 10 with fail
  go_cut [12, 13] from 56 to 61 (fun _ s13 wx => s13 = .int .i64 21 ∧ Below w13.heap.size w13 wx)
  case first =>
    go_region_held3 (fun w' => w'.cell? ⟨w12.heap.size, 0, none⟩ = some (.slice A 1 c)) (first | go_keep | exact (World.cell?_setCell_other _ _ _ _ (fun e => by injection e with e; omega)).trans (HS k15))
     (first
      | (go_at_call 12; refine (pay_any 4 400 _).mono ?_; rintro e w14 ⟨rfl, hb14⟩; have k14 : Below w13.heap.size w13 w14 := below_next (below_drew_ k0) (Nat.le_refl _) hb14; have t14 := HS k14; have l14 := k14.size; have l12 := Nat.lt_of_lt_of_le hlt12 k14.size; have ord := True.intro)
      | (go_at_call 12; refine (pay_any 4 400 _).mono ?_; rintro e w14 ⟨rfl, hb14⟩; have k14 : Below w13.heap.size w13 w14 := below_next (below_drew_ (below_alloc k0 (Nat.le_refl _) (.cells #[.slice none 0 0] 51))) (Nat.le_refl _) hb14; have t14 := HS k14; have l14 := k14.size; have l12 := Nat.lt_of_lt_of_le hlt12 k14.size; have x14 : Blk w14 w13.heap.size 51 #[.slice none 0 0] := Blk.below (Blk.drew (Blk.new w13 51 #[.slice none 0 0])) hb14 (Blk.drew (Blk.new w13 51 #[.slice none 0 0])).lt; have x14l := x14.lt)
      | (go_at_call 26; refine (pay_at A 1 c [p4] [] 4 1 400 21 _ (HR k14) (by decide) k9.1 k9.2).mono ?_; rintro e w15 ⟨A15, n15, c15, rfl, _, _, hb15⟩; have k15 : Below w13.heap.size w13 w15 := below_next k14 (Nat.le_refl _) hb15; have l15 := k15.size; have t14 := HS k15; have x15 := x14.below hb15 x14.lt; have y15 := x15.cell 0; have z15 := x15.frozen 0; have x15l := x15.lt)
      | (go_at_call 26; refine (pay_at A 1 c [p4] [] 4 1 400 21 _ (HR (below_alloc k14 (Nat.le_refl _) _)) (by decide) k9.1 k9.2).mono ?_; rintro e w15 ⟨A15, n15, c15, rfl, _, _, hb15⟩; have k15 : Below w13.heap.size w13 w15 := below_next (below_alloc k14 (Nat.le_refl _) (.cells #[.slice none 0 0] 51)) (Nat.le_refl _) hb15; have l15 := k15.size; have t14 := HS k15; have x15 := (Blk.new w14 51 #[.slice none 0 0]).below hb15 (Blk.new w14 51 #[.slice none 0 0]).lt; have y15 := x15.cell 0; have z15 := x15.frozen 0; have x15l := x15.lt)
      | (go_at_call 26; refine (pay_at A 1 c [p4] [] 4 1 400 21 _ (HR k14) (by decide) k9.1 k9.2).mono ?_; rintro e w15 ⟨A15, n15, c15, rfl, _, _, hb15⟩; have k15 : Below w13.heap.size w13 w15 := below_next k14 (Nat.le_refl _) hb15; have l15 := k15.size; have t14 := HS k15))
    all_goals
      go_wp2_with fail
      go_meet
      refine ⟨rfl, ?_⟩
      first
        | exact k15
        | exact k15.setCell (p := ⟨w13.heap.size, 0, none⟩) (Nat.le_refl _) _
        | exact k15.setCell (p := ⟨w14.heap.size, 0, none⟩) l14 _
        | exact below_alloc k15 (Nat.le_refl _) _
        | exact (below_alloc k15 (Nat.le_refl _) _).setCell (p := ⟨w15.heap.size, 0, none⟩) l15 _
  case rest =>
  obtain ⟨rfl, k15⟩ := hcut
  obtain ⟨v0, rfl⟩ : ∃ v0 : World, v0 = wc := ⟨_, rfl⟩
  have hBt' := hBt.below k15 hBt.lt
  have hB8d := hB8c.below k15 hB8c.lt
  have hB5d := hB5c.below k15 hB5c.lt
  have hB2d := hB2c.below k15 hB2c.lt
  have hd15 := hd12.below k15
  have hr15 := HR k15
  have hbw15 : Below w.heap.size w v0 := below_next hbw13 (Nat.le_refl _) k15
  have hlt15 : w12.heap.size < v0.heap.size := hBt'.lt
  clear HR HS hBt hB8c hB5c hB2c hd12 hr13 k0 t0 hlt12
  have HR : ∀ {w'}, Below v0.heap.size v0 w' → Reads w' w'.heap.size 3 A 1 (cellsP [p4]) := fun h => (hr15.below h).more h.size
  have HS : ∀ {w'}, Below v0.heap.size v0 w' → w'.cell? ⟨w12.heap.size, 0, none⟩ = some (.slice A 1 c) := fun h => (hBt'.below h hBt'.lt).cell 0
  have k0 := Below.refl v0.heap.size v0
  have t0 := HS k0
  go_upto_region 11 with fail
  go_cut [14, 15] from 62 to 67 (fun s14 s15 wx => R11 v0 s14 s15 wx)
  case first =>
    go_region_held3 (fun w' => w'.cell? ⟨w12.heap.size, 0, none⟩ = some (.slice A 1 c)) (first | go_keep | exact (World.cell?_setCell_other _ _ _ _ (fun e => by injection e with e; omega)).trans (HS k15))
     (first
      | (go_at_call 12; refine (pay_any 4 500 _).mono ?_; rintro e w14 ⟨rfl, hb14⟩; have k14 : Below v0.heap.size v0 w14 := below_next (below_drew_ k0) (Nat.le_refl _) hb14; have t14 := HS k14; have l14 := k14.size; have l12 := Nat.lt_of_lt_of_le hlt15 k14.size; have ord := True.intro)
      | (go_at_call 12; refine (pay_any 4 500 _).mono ?_; rintro e w14 ⟨rfl, hb14⟩; have k14 : Below v0.heap.size v0 w14 := below_next (below_drew_ (below_alloc k0 (Nat.le_refl _) (.cells #[.slice none 0 0] 51))) (Nat.le_refl _) hb14; have t14 := HS k14; have l14 := k14.size; have l12 := Nat.lt_of_lt_of_le hlt15 k14.size; have x14 : Blk w14 v0.heap.size 51 #[.slice none 0 0] := Blk.below (Blk.drew (Blk.new v0 51 #[.slice none 0 0])) hb14 (Blk.drew (Blk.new v0 51 #[.slice none 0 0])).lt; have x14l := x14.lt)
      | (go_at_call 26; refine (pay_at A 1 c [p4] [p4] 4 1 500 0 _ (HR k14) (by decide) k10.1 k10.2).mono ?_; rintro e w15 ⟨A15, n15, c15, rfl, hq15, _, hb15⟩; have k15 : Below v0.heap.size v0 w15 := below_next k14 (Nat.le_refl _) hb15; have l15 := k15.size; have t14 := HS k15; have x15 := x14.below hb15 x14.lt; have y15 := x15.cell 0; have z15 := x15.frozen 0; have x15l := x15.lt; obtain rfl : n15 = 1 := (recs_len hq15 encP_len (by omega)).symm)
      | (go_at_call 26; refine (pay_at A 1 c [p4] [p4] 4 1 500 0 _ (HR (below_alloc k14 (Nat.le_refl _) _)) (by decide) k10.1 k10.2).mono ?_; rintro e w15 ⟨A15, n15, c15, rfl, hq15, _, hb15⟩; have k15 : Below v0.heap.size v0 w15 := below_next (below_alloc k14 (Nat.le_refl _) (.cells #[.slice none 0 0] 51)) (Nat.le_refl _) hb15; have l15 := k15.size; have t14 := HS k15; have x15 := (Blk.new w14 51 #[.slice none 0 0]).below hb15 (Blk.new w14 51 #[.slice none 0 0]).lt; have y15 := x15.cell 0; have z15 := x15.frozen 0; have x15l := x15.lt; obtain rfl : n15 = 1 := (recs_len hq15 encP_len (by omega)).symm)
      | (go_at_call 26; refine (pay_at A 1 c [p4] [p4] 4 1 500 0 _ (HR k14) (by decide) k10.1 k10.2).mono ?_; rintro e w15 ⟨A15, n15, c15, rfl, hq15, _, hb15⟩; have k15 : Below v0.heap.size v0 w15 := below_next k14 (Nat.le_refl _) hb15; have l15 := k15.size; have t14 := HS k15; obtain rfl : n15 = 1 := (recs_len hq15 encP_len (by omega)).symm))
    all_goals
      go_wp2_with fail
      go_meet
      first
        | exact ⟨_, _, _, rfl, rfl, x15.set_ 0 _, by omega, k15.setCell (p := ⟨v0.heap.size, 0, none⟩) (Nat.le_refl _) _⟩
        | exact ⟨_, _, _, rfl, rfl, x15.set_ 0 _, by omega, k15.setCell (p := ⟨w14.heap.size, 0, none⟩) l14 _⟩
        | exact ⟨_, _, _, rfl, rfl, Blk.new _ _ _, by omega, below_alloc k15 (Nat.le_refl _) _⟩
  case rest =>
  obtain ⟨g14, A14, c14, rfl, rfl, hB14, hg14, k16⟩ := hcut
  obtain ⟨v1, rfl⟩ : ∃ v1 : World, v1 = wc := ⟨_, rfl⟩
  have hB8e := hB8d.below k16 hB8d.lt
  have hB5e := hB5d.below k16 hB5d.lt
  have hB2e := hB2d.below k16 hB2d.lt
  have hd16 := hd15.below k16
  have hbw16 : Below w.heap.size w v1 := below_next hbw15 (Nat.le_refl _) k16
  clear HR HS hB8d hB5d hB2d hd15 hr15 k0 t0 hlt15
  have KS : ∀ {w'}, Below v1.heap.size v1 w' → (w'.cell? ⟨w6.heap.size, 0, none⟩ = some (.int .i64 4) ∧ w'.cell? ⟨w6.heap.size, 1, none⟩ = some (.int .i64 1) ∧ w'.cell? ⟨w6.heap.size, 2, none⟩ = some (.int .i64 500) ∧ w'.cell? ⟨w8.heap.size, 0, none⟩ = some (.int .i64 2) ∧ w'.cell? ⟨w8.heap.size, 1, none⟩ = some (.int .i64 1) ∧ w'.cell? ⟨w8.heap.size, 2, none⟩ = some (.int .i64 300) ∧ w'.cell? ⟨w10.heap.size, 0, none⟩ = some (.int .i64 4) ∧ w'.cell? ⟨w10.heap.size, 1, none⟩ = some (.int .i64 1) ∧ w'.cell? ⟨w10.heap.size, 2, none⟩ = some (.int .i64 500) ∧ w'.cell? ⟨g14, 0, none⟩ = some (.slice A14 1 c14)) := fun h =>
    ⟨(hB2e.below h hB2e.lt).cell 0, (hB2e.below h hB2e.lt).cell 1, (hB2e.below h hB2e.lt).cell 2, (hB5e.below h hB5e.lt).cell 0, (hB5e.below h hB5e.lt).cell 1, (hB5e.below h hB5e.lt).cell 2, (hB8e.below h hB8e.lt).cell 0, (hB8e.below h hB8e.lt).cell 1, (hB8e.below h hB8e.lt).cell 2, (hB14.below h hB14.lt).cell 0⟩
  have kk := Below.refl v1.heap.size v1
  obtain ⟨t0, t1, t2, t3, t4, t5, t6, t7, t8, t9⟩ := KS kk
  have q1 : ∀ w, (Op.equalIn 10000 23 (.agg #[.int .i64 4, .int .i64 1, .int .i64 500]) (.agg #[.int .i64 4, .int .i64 1, .int .i64 500])).run Try.prog w = .ok true w := fun w => by rw [eq23]; rfl
  have q2 : ∀ w, (Op.equalIn 10000 23 (.agg #[.int .i64 2, .int .i64 1, .int .i64 300]) (.agg #[.int .i64 2, .int .i64 1, .int .i64 300])).run Try.prog w = .ok true w := fun w => by rw [eq23]; rfl
  go_upto_region 12 with fail
  go_region_held3 (fun w' => w'.cell? ⟨w6.heap.size, 0, none⟩ = some (.int .i64 4) ∧ w'.cell? ⟨w6.heap.size, 1, none⟩ = some (.int .i64 1) ∧ w'.cell? ⟨w6.heap.size, 2, none⟩ = some (.int .i64 500) ∧ w'.cell? ⟨w8.heap.size, 0, none⟩ = some (.int .i64 2) ∧ w'.cell? ⟨w8.heap.size, 1, none⟩ = some (.int .i64 1) ∧ w'.cell? ⟨w8.heap.size, 2, none⟩ = some (.int .i64 300) ∧ w'.cell? ⟨w10.heap.size, 0, none⟩ = some (.int .i64 4) ∧ w'.cell? ⟨w10.heap.size, 1, none⟩ = some (.int .i64 1) ∧ w'.cell? ⟨w10.heap.size, 2, none⟩ = some (.int .i64 500) ∧ w'.cell? ⟨g14, 0, none⟩ = some (.slice A14 1 c14))
    (first | exact KS kk | go_keep | exact KS (below_drew_ kk) | exact KS (below_alloc kk (Nat.le_refl _) _))
    (first
      | (go_at_call 12; refine (pay_any _ _ _).mono ?_; rintro e w18 ⟨rfl, hb18⟩; have hr18 := (hr17.below hb18).more hb18.size; have kk := below_next kk (Nat.le_refl _) hb18)
      | (go_at_call 12; refine (pay_any _ _ _).mono ?_; rintro e w18 ⟨rfl, hb18⟩; have kk := below_next (below_drew_ kk) (Nat.le_refl _) hb18)
      | (go_at_call 12; refine (pay_any _ _ _).mono ?_; rintro e w18 ⟨rfl, hb18⟩; have kk := below_next kk (Nat.le_refl _) hb18)
      | (go_at_call 17; refine (settled_at F9 g _ [p2] _ (hd16.below kk) (by decide) k11).mono ?_; rintro e w17 ⟨A17, n17, c17, rfl, ho17, hb17⟩; have kk := below_next kk (Nat.le_refl _) hb17; have hr17 := Reads.of_own ho17; obtain rfl : n17 = 1 := (recs_len hr17 encP_len (by omega)).symm; clear ho17)
      | (go_at_call 30; refine (same_at_ A17 _ 1 c17 1 _ [p2] [p2] true _ _ _ (hr18.alloc (Nat.le_refl _) _) (Reads.fresh _ 23 #[.int .i64 2, .int .i64 1, .int .i64 300] 1 3 rfl) (by decide) (by decide)).mono ?_; rintro e w19 ⟨rfl, q, rfl⟩; have kk := below_drewN (below_alloc kk (Nat.le_refl _) (.cells #[.int .i64 2, .int .i64 1, .int .i64 300] 23)) q)
      | (go_at_call 20; refine (answer_state F9 g _ 2 0 1 _ (hd16.below kk) (by decide) k12 (by decide)).mono ?_; rintro e w20 ⟨rfl, rfl⟩))
  go_wp2_with fail
  go_ret
  exact ⟨rfl, below_next hbw16 (Nat.le_refl _) kk⟩
end Go.Proofs.Ytakjdffebpcmnaa
