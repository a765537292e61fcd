/- The walks of the reference's with and Back. -/
import Derived.Test.YthbmofijdhfeeaaRef
import Derived.Test.YthbmofijdhfeeaaTake
import Derived.Deep.RegionHeld3
import Derived.Deep.CutBlock
namespace Go.Proofs.Ythbmofijdhfeeaa
open Go.RowKit Go.Maps Go.WideMaps
/-- A slice is the old one, or it lies in new blocks. -/
def From (B : Nat) (A A2 : Option Addr) : Prop := ∀ q, A2 = some q → A = some q ∨ B ≤ q.block
theorem From.same (B : Nat) (A : Option Addr) : From B A A := fun _ h => Or.inl h
theorem From.new {B : Nat} {A A2 : Option Addr} (h : ∀ q, A2 = some q → B ≤ q.block) : From B A A2 := fun q hq => Or.inr (h q hq)
theorem From.some_ {B b off : Nat} {A : Option Addr} (h : B ≤ b) : From B A (some ⟨b, off, none⟩) := fun q hq => by cases hq; exact Or.inr h
theorem From.trans {B B2 : Nat} {A A2 A3 : Option Addr} (h : From B A A2) (h2 : From B2 A2 A3) (hB : B ≤ B2) : From B A A3 := fun q hq => by
  rcases h2 q hq with h3 | h3
  · exact h q h3
  · exact Or.inr (Nat.le_trans hB h3)
theorem From.mono {B B2 : Nat} {A A2 : Option Addr} (h : From B2 A A2) (hB : B ≤ B2) : From B A A2 := fun q hq => (h q hq).imp id (Nat.le_trans hB)
/-- A slice lies apart from a block. -/
def Apart (g : Nat) (A : Option Addr) : Prop := ∀ q, A = some q → q.block ≠ g
theorem Apart.from_ {B g : Nat} {A A2 : Option Addr} (h : Apart g A) (hf : From B A A2) (hg : g < B) : Apart g A2 := fun q hq => by
  rcases hf q hq with h3 | h3
  · exact h q h3
  · omega
theorem Apart.some_ {g b off : Nat} (h : b ≠ g) : Apart g (some ⟨b, off, none⟩) := fun q hq => by cases hq; exact h
theorem Reads.far {w : World} {B size n : Nat} {A : Option Addr} {xs : List Value} (h : Reads w B size A n xs) {p : Addr} (hp : Apart p.block A) (u : Value) : Reads (w.setCell p u) B size A n xs :=
  ⟨h.1, fun hn => by
    obtain ⟨ad, e, hb, hc⟩ := h.2 hn
    exact ⟨ad, e, hb, fun j u' hu => (World.cell?_setCell_other w p _ u (fun e' => hp ad e (by rw [← block_of_add ad j, e']))).trans (hc j u' hu)⟩⟩
theorem Reads.apart {w : World} {B size n g : Nat} {A : Option Addr} {xs : List Value} (h : Reads w B size A n xs) (hn : 0 < n) (hg : B ≤ g) : Apart g A := fun q hq => by
  obtain ⟨ad, e, hb, _⟩ := h.2 hn
  rw [e] at hq; cases hq; omega
theorem RefS.far {w : World} {A A' : Option Addr} {n : Nat} {l : List Lt} (h : RefS w A n A' l) {p : Addr} (h1 : Apart p.block A) (h2 : Apart p.block A') (u : Value) : RefS (w.setCell p u) A n A' l := by
  refine ⟨?_, ?_, h.2.2⟩
  · have := h.1.far h1 u; simpa using this
  · have := h.2.1.far h2 u; simpa using this
theorem RefS.far2 {w : World} {A A' : Option Addr} {n : Nat} {l : List Lt} (h : RefS w A n A' l) {g : Nat} (h1 : Apart g A) (h2 : Apart g A') (u v : Value) : RefS ((w.setCell ⟨g, 0, none⟩ u).setCell ⟨g, 1, none⟩ v) A n A' l :=
  (h.far (p := ⟨g, 0, none⟩) h1 h2 u).far (p := ⟨g, 1, none⟩) h1 h2 v
theorem RefS.same {w : World} {A A' : Option Addr} {n : Nat} {l l' : List Lt} (h : RefS w A n A' l) (e : l = l') : RefS w A n A' l' := e ▸ h
/-- With a left number set, the store comes back: the same lots, new lefts. -/
def RetWith (w : World) (A : Option Addr) (n c : Nat) (l : List Lt) (e : Ending) (w' : World) : Prop :=
  ∃ b c2, e = .returned (.agg #[.slice A n c, .slice (some ⟨b, 0, none⟩) n c2]) ∧ RefS w' A n (some ⟨b, 0, none⟩) l ∧ w.heap.size ≤ b ∧ Below w.heap.size w w'
/-- A store of the reference comes back, with an error number. -/
def RetRefE (w : World) (A A' : Option Addr) (l : List Lt) (x : Int) (e : Ending) (w' : World) : Prop :=
  ∃ A2 n c A2' c', e = .returned (.tuple #[.agg #[.slice A2 n c, .slice A2' n c'], .int .i64 x]) ∧ RefS w' A2 n A2' l ∧ From w.heap.size A A2 ∧ From w.heap.size A' A2' ∧ Below w.heap.size w w' ∧ (0 < n ∨ (A2 = A ∧ A2' = A'))
theorem lefts_set (l : List Lt) (i : Nat) (t : Int) (x : L4) : (cellsI (lefts l)).set i (.int .i64 t) = cellsI (lefts (l.set i (x, t))) := by
  simp [cellsI, lefts, List.map_set]
theorem own_blk_off {w : World} {base : Nat} {e : TypeId} {size n c b off : Nat} {xs : List Value} (h : w.ownsRow base e size (.slice (some ⟨b, off, none⟩) n c) n xs) : off = 0 := (own_blk h).1
theorem own_blk_lt {w : World} {base : Nat} {e : TypeId} {size n c b off : Nat} {xs : List Value} (h : w.ownsRow base e size (.slice (some ⟨b, off, none⟩) n c) n xs) : base ≤ b ∧ b < w.heap.size ∧ ∀ i, w.frozen? ⟨b, i, none⟩ = false := by
  obtain ⟨_, h2, cur, hB, _⟩ := own_blk h
  exact ⟨h2, hB.lt, fun i => hB.frozen i⟩
set_option maxHeartbeats 1000000 in
set_option maxRecDepth 10000 in
theorem rwith_any (A A' : Option Addr) (n c c' i : Nat) (l m' : List Lt) (t : Int) (w : World) (h : RefS w A n A' l) (hi : i < l.length) (hn : n ≤ 100000) (hm : l.set i (l[i].1, t) = m') :
    Calls Try.prog 38 #[.agg #[.slice A n c, .slice A' n c'], .int .i64 i, .int .i64 t] w (RetWith w A n c m') := by
  obtain ⟨i0, hi0, hz0, hz1, hz2⟩ := info_parts Try.info3
  have hb0 : Below w.heap.size w ((w.alloc (.cells #[.slice A n c, .slice A' n c'] 30)).alloc (.cells #[.slice none 0 0, .slice none 0 0] 30)) := ((Below.refl _ _).alloc (Nat.le_refl _) _).alloc (by simp) _
  have hB0 : Blk ((w.alloc (.cells #[.slice A n c, .slice A' n c'] 30)).alloc (.cells #[.slice none 0 0, .slice none 0 0] 30)) w.heap.size 30 #[.slice A n c, .slice A' n c'] := (Blk.new w 30 #[.slice A n c, .slice A' n c']).alloc _
  have hB1 : Blk ((w.alloc (.cells #[.slice A n c, .slice A' n c'] 30)).alloc (.cells #[.slice none 0 0, .slice none 0 0] 30)) (w.heap.size + 1) 30 #[.slice none 0 0, .slice none 0 0] := by simpa using Blk.new (w.alloc (.cells #[.slice A n c, .slice A' n c'] 30)) 30 #[.slice none 0 0, .slice none 0 0]
  have hsz : ((w.alloc (.cells #[.slice A n c, .slice A' n c'] 30)).alloc (.cells #[.slice none 0 0, .slice none 0 0] 30)).heap.size = w.heap.size + 2 := by simp
  have HB0 := Lib.hid hB0; have HB1 := Lib.hid hB1; have HBW := Lib.hid hb0
  have HR := Lib.hid (h.below hb0)
  have HL := Lib.hid h.2.2
  have HSZ := Lib.hid hsz
  have HH := Lib.hid h
  have c1 := hB0.cell 1
  have HM := Lib.hid hm
  have hin : i < n := by have := HL.out; omega
  clear hm hb0 hB0 hB1 h hsz
  go_enter Try.func38, Try.ntmps38
  go_wp2_with (at_builtin; go_loud (
    refine wpList_append_any _ rfl (.tmp 8) (.tmp 10) _ rfl (w.heap.size + 2) 3 i0 _ 1 8 Try.underlying28 hi0 hz0 hz1 hz2 rfl (by omega) (.slice none 0 0) 0 [] rfl (World.ownsRow_nil _ _ _ _) _ A' n c' (cellsI (lefts l)) rfl HR.out.2.1 (one_cellsI _) (by simp only [maxLen]; omega) (by omega) (by rw [HSZ.out]; exact Nat.le_refl _) ?_
    intro v2 w2 hown2 hg2 hat2
    simp only [Nat.zero_add, List.nil_append] at hown2
    obtain ⟨A2, c2, rfl, hr2⟩ := own_reads hown2
    obtain ⟨b, off, rfl, hbl, hcc⟩ := hr2.open_ (by omega) (by omega)
    have hoff := (own_blk_off hown2)
    subst hoff
    obtain ⟨hbk1, hbk2, hbk3⟩ := own_blk_lt hown2
    have hbf := hbk3 i
    clear hbk3
    have HOWN := Lib.hid hown2
    have b2 := Lib.hid (below_own (B := w.heap.size + 2) (a := ((w.alloc (.cells #[.slice A n c, .slice A' n c'] 30)).alloc (.cells #[.slice none 0 0, .slice none 0 0] 30))) (Below.refl _ _) (World.ownsRow_nil _ (w.heap.size + 2) 3 1) hg2 (by rw [HSZ.out]; exact Nat.le_refl _) (Nat.le_refl _))
    have e0 : w2.cell? ⟨b, i, none⟩ = some (.int .i64 l[i].2) := by simpa using hcc i (.int .i64 l[i].2) (cellsI_at hi)
    have hs2 : w.heap.size + 2 ≤ w2.heap.size := by have := b2.out.size; rw [HSZ.out] at this; exact this
    have hs3 : w.heap.size < w2.heap.size := by omega
    have hs4 : w.heap.size + 1 < w2.heap.size := by omega
    have x0 := (HB0.out.below b2.out (by omega))
    have x1 := (HB1.out.below b2.out (by omega))
    have y0 := x0.cell 0
    have y1 := x0.cell 1
    have z0 := x1.cell 0
    have z1 := x1.cell 1
    have f1 := x0.frozen 1
    have g0 := x1.frozen 0
    have g1 := x1.frozen 1
    clear hcc hg2 hat2 hown2))
  have W4 : Below w.heap.size w ((((w2.setCell ⟨b, i, none⟩ (.int .i64 t)).setCell ⟨w.heap.size, 1, none⟩ (.slice (some ⟨b, 0, none⟩) n c2)).setCell ⟨w.heap.size + 1, 0, none⟩ (.slice A n c)).setCell ⟨w.heap.size + 1, 1, none⟩ (.slice (some ⟨b, 0, none⟩) n c2)) :=
    ((((HBW.out.trans (b2.out.mono (by omega))).setCell (p := ⟨b, i, none⟩) (by show w.heap.size ≤ b; omega) _).setCell (p := ⟨w.heap.size, 1, none⟩) (Nat.le_refl _) _).setCell (p := ⟨w.heap.size + 1, 0, none⟩) (Nat.le_succ _) _).setCell (p := ⟨w.heap.size + 1, 1, none⟩) (Nat.le_succ _) _
  have hne0 : (Value.slice (some ⟨b, 0, none⟩) n c2).ownBlock ≠ some w.heap.size := fun e => by injection e with e; simp at e; omega
  have hne1 : (Value.slice (some ⟨b, 0, none⟩) n c2).ownBlock ≠ some (w.heap.size + 1) := fun e => by injection e with e; simp at e; omega
  have o4 := ownsRow_setCell_other (ownsRow_setCell_other (ownsRow_setCell_other (own_set HOWN.out i (.int .i64 t)) (a := ⟨w.heap.size, 1, none⟩) hne0 (.slice (some ⟨b, 0, none⟩) n c2)) (a := ⟨w.heap.size + 1, 0, none⟩) hne1 (.slice A n c)) (a := ⟨w.heap.size + 1, 1, none⟩) hne1 (.slice (some ⟨b, 0, none⟩) n c2)
  rw [lefts_set l i t l[i].1, HM.out] at o4
  have x3 := ((x1.far (p := ⟨b, i, none⟩) (by show w.heap.size + 1 ≠ b; omega) (.int .i64 t)).far (p := ⟨w.heap.size, 1, none⟩) (by show w.heap.size + 1 ≠ w.heap.size; omega) (.slice (some ⟨b, 0, none⟩) n c2)).set_ 0 (.slice A n c)
  have x4 := x3.set_ 1 (.slice (some ⟨b, 0, none⟩) n c2)
  have r0 := x3.cell 0
  have r1 := x4.cell 1
  have hlm : lots l = lots m' := by rw [← HM.out]; unfold lots; rw [lots_set]
  refine bodyPost_ret (v := .agg #[.slice A n c, .slice (some ⟨b, 0, none⟩) n c2]) (by simp [results, Try.results38, go_sem, r0, r1]) rfl ⟨b, c2, rfl, RefS.mk ?_ (Reads.of_own o4), by omega, W4⟩
  rw [← hlm]
  exact (HH.out.1.below W4).more W4.size
theorem set2_facts {w : World} {g t : Nat} {x y : Value} (h : Blk w g t #[x, y]) (a b : Value) : (w.setCell ⟨g, 0, none⟩ a).cell? ⟨g, 0, none⟩ = some a ∧ ((w.setCell ⟨g, 0, none⟩ a).setCell ⟨g, 1, none⟩ b).cell? ⟨g, 1, none⟩ = some b :=
  ⟨(h.set_ 0 a).cell 0, ((h.set_ 0 a).set_ 1 b).cell 1⟩
theorem set2_other (w : World) (g : Nat) (q : Addr) (u0 u1 : Value) (h : q.block ≠ g) : ((w.setCell ⟨g, 0, none⟩ u0).setCell ⟨g, 1, none⟩ u1).cell? q = w.cell? q := by
  rw [World.cell?_setCell_other _ _ _ _ (fun e => h (by rw [← e])), World.cell?_setCell_other _ _ _ _ (fun e => h (by rw [← e]))]
theorem set2_below {w0 w : World} {B g : Nat} (u0 u1 : Value) (h : Below B w0 w) (hg : B ≤ g) : Below B w0 ((w.setCell ⟨g, 0, none⟩ u0).setCell ⟨g, 1, none⟩ u1) :=
  (h.setCell (p := ⟨g, 0, none⟩) hg _).setCell (p := ⟨g, 1, none⟩) hg _
/-- The same store goes back with an error. -/
theorem refE_no {w w' : World} {A A' : Option Addr} {n c c' : Nat} {l m' : List Lt} {x y : Int} (h : RefS w A n A' l) (hb : Below w.heap.size w w') (hm : m' = l) (hx : y = x) : RetRefE w A A' m' x (.returned (.tuple #[.agg #[.slice A n c, .slice A' n c'], .int .i64 y])) w' := by
  subst hm hx
  exact ⟨A, n, c, A', c', rfl, h.below hb, From.same _ _, From.same _ _, hb, .inr ⟨rfl, rfl⟩⟩
set_option maxHeartbeats 2000000 in
set_option maxRecDepth 10000 in
theorem rback_any (A A' : Option Addr) (n c c' : Nat) (l m' : List Lt) (r t x : Int) (w : World) (h : RefS w A n A' l) (hf : fine l) (hx : backE l r t = x) (hm : backL l r t = m') :
    Calls Try.prog 33 #[.agg #[.slice A n c, .slice A' n c'], .agg #[.int .i64 r, .int .i64 t]] w (RetRefE w A A' m' x) := by
  have hb0 : Below w.heap.size w (((w.alloc (.cells #[.slice A n c, .slice A' n c'] 30)).alloc (.cells #[.int .i64 r, .int .i64 t] 58)).alloc (.cells #[.slice none 0 0, .slice none 0 0] 30)) := (((Below.refl _ _).alloc (Nat.le_refl _) _).alloc (by simp) _).alloc (by simp; omega) _
  have hB0 : Blk (((w.alloc (.cells #[.slice A n c, .slice A' n c'] 30)).alloc (.cells #[.int .i64 r, .int .i64 t] 58)).alloc (.cells #[.slice none 0 0, .slice none 0 0] 30)) w.heap.size 30 #[.slice A n c, .slice A' n c'] := ((Blk.new w 30 #[.slice A n c, .slice A' n c']).alloc _).alloc _
  have hB1 : Blk (((w.alloc (.cells #[.slice A n c, .slice A' n c'] 30)).alloc (.cells #[.int .i64 r, .int .i64 t] 58)).alloc (.cells #[.slice none 0 0, .slice none 0 0] 30)) (w.heap.size + 1) 58 #[.int .i64 r, .int .i64 t] := by simpa using (Blk.new (w.alloc (.cells #[.slice A n c, .slice A' n c'] 30)) 58 #[.int .i64 r, .int .i64 t]).alloc (.cells #[.slice none 0 0, .slice none 0 0] 30)
  have hB2 : Blk (((w.alloc (.cells #[.slice A n c, .slice A' n c'] 30)).alloc (.cells #[.int .i64 r, .int .i64 t] 58)).alloc (.cells #[.slice none 0 0, .slice none 0 0] 30)) (w.heap.size + 1 + 1) 30 #[.slice none 0 0, .slice none 0 0] := by simpa using Blk.new ((w.alloc (.cells #[.slice A n c, .slice A' n c'] 30)).alloc (.cells #[.int .i64 r, .int .i64 t] 58)) 30 #[.slice none 0 0, .slice none 0 0]
  have HH := Lib.hid h
  have HR := Lib.hid (h.below hb0)
  have HB0 := Lib.hid hB0; have HB1 := Lib.hid hB1; have HB2 := Lib.hid hB2; have HBW := Lib.hid hb0
  have HL := Lib.hid h.2.2
  have hn : n ≤ 100000 := by have := HL.out; have := hf.1; omega
  have a0 := hB0.cell 0; have a1 := hB0.cell 1; have b0 := hB1.cell 0; have b1 := hB1.cell 1
  have HX := Lib.hid hx; have HM := Lib.hid hm
  clear hx hm hb0 hB0 hB1 hB2 h
  rcases Option.eq_none_or_eq_some (idx l r) with hi | ⟨i, hi⟩
  · have HP := Lib.hid (posI_none hi)
    obtain rfl : x = 7 := HX.out.symm.trans (backE_none hi)
    have HML := Lib.hid (show m' = l from HM.out.symm.trans (backL_no (by rw [HX.out]; decide)))
    clear hi
    go_enter Try.func33, Try.ntmps33
    go_wp2_with fail
    refine (rfind_any A A' n c c' l r (-1) _ HR.out hn HP.out).mono ?_
    rintro e w1 ⟨rfl, hb1⟩
    have HW1 := Lib.hid (HBW.out.trans (hb1.mono HBW.out.size))
    have d0 := HB0.out.below hb1 HB0.out.lt; have d2 := HB2.out.below hb1 HB2.out.lt
    clear a0 a1 b0 b1 hb1
    have a0 := d0.cell 0; have a1 := d0.cell 1; have z0 := d2.cell 0; have z1 := d2.cell 1; have f0 := d2.frozen 0; have f1 := d2.frozen 1
    have hsz := d2.lt
    obtain ⟨r0, r1⟩ := set2_facts d2 (.slice A n c) (.slice A' n c')
    have R0 := Lib.hid r0; have R1 := Lib.hid r1
    clear r0 r1
    go_wp2_with fail
    exact bodyPost_ret (v := .tuple #[.agg #[.slice A n c, .slice A' n c'], .int .i64 7]) (by simp [results, Try.results33, go_sem, R0.out, R1.out]) rfl (refE_no HH.out (set2_below _ _ HW1.out (by omega)) HML.out rfl)
  · have hil := idx_lt hi
    have hin : i < n := by have := HL.out; omega
    have HP := Lib.hid (posI_some hi)
    have hbd := hf.2 _ (List.getElem_mem hil)
    obtain ⟨q1, q2, q3, q4⟩ := hbd
    have q5 := okL_iff.1 q1
    obtain ⟨q6, q7⟩ : 1 ≤ l[i].1.2.2.1 ∧ l[i].1.2.2.1 ≤ 1000000 := ⟨q5.2.2.1, q5.2.2.2.1⟩
    have HI := Lib.hid hi
    clear hi q1 q2 q5
    rcases hnb : numB t with _ | _
    · obtain rfl : x = 1 := HX.out.symm.trans (backE_range HI.out hnb)
      have HML := Lib.hid (show m' = l from HM.out.symm.trans (backL_no (by rw [HX.out]; decide)))
      have hcs : t < 1 ∨ (1 ≤ t ∧ 1000000 < t) := by
        have : ¬ (1 ≤ t ∧ t ≤ 1000000) := of_decide_eq_false hnb
        omega
      clear hnb
      rcases hcs with g1 | ⟨g1, g2⟩
      all_goals
        go_enter Try.func33, Try.ntmps33
        go_wp2_with fail
        refine (rfind_any A A' n c c' l r i _ HR.out hn HP.out).mono ?_
        rintro e w1 ⟨rfl, hb1⟩
        have HW1 := Lib.hid (HBW.out.trans (hb1.mono HBW.out.size))
        have d0 := HB0.out.below hb1 HB0.out.lt; have d1 := HB1.out.below hb1 HB1.out.lt; have d2 := HB2.out.below hb1 HB2.out.lt
        clear a0 a1 b0 b1 hb1
        have a0 := d0.cell 0; have a1 := d0.cell 1; have b1 := d1.cell 1; have z0 := d2.cell 0; have z1 := d2.cell 1; have f0 := d2.frozen 0; have f1 := d2.frozen 1
        have hsz := d2.lt
        obtain ⟨r0, r1⟩ := set2_facts d2 (.slice A n c) (.slice A' n c')
        have R0 := Lib.hid r0; have R1 := Lib.hid r1
        clear r0 r1
        go_wp2_with fail
        exact bodyPost_ret (v := .tuple #[.agg #[.slice A n c, .slice A' n c'], .int .i64 1]) (by simp [results, Try.results33, go_sem, R0.out, R1.out]) rfl (refE_no HH.out (set2_below _ _ HW1.out (by omega)) HML.out rfl)
    · obtain ⟨t1, t2⟩ : 1 ≤ t ∧ t ≤ 1000000 := of_decide_eq_true hnb
      have hi0 : (0 : Int) ≤ i := by omega
      have hi1 : (i : Int) < n := by omega
      have hwr : IntKind.i64.wrap (l[i].2 + t) = l[i].2 + t := IntWalk.i64_in _ (by omega)
      by_cases hq : l[i].1.2.2.1 < l[i].2 + t
      · obtain rfl : x = 27 := HX.out.symm.trans (backE_amount HI.out hnb hq)
        have HML := Lib.hid (show m' = l from HM.out.symm.trans (backL_no (by rw [HX.out]; decide)))
        clear hnb
        go_enter Try.func33, Try.ntmps33
        go_wp2_with fail
        refine (rfind_any A A' n c c' l r i _ HR.out hn HP.out).mono ?_
        rintro e w1 ⟨rfl, hb1⟩
        have HW1 := Lib.hid (HBW.out.trans (hb1.mono HBW.out.size))
        have d0 := HB0.out.below hb1 HB0.out.lt; have d1 := HB1.out.below hb1 HB1.out.lt; have d2 := HB2.out.below hb1 HB2.out.lt
        obtain ⟨bb, off, rfl, hbl, hcc⟩ := (HR.out.below hb1).lot (by omega)
        obtain ⟨bb', off', rfl, hbl', hcc'⟩ := (HR.out.below hb1).left (by omega)
        have e2 := (hcc i hil).2.2.1
        have e3 := hcc' i hil
        clear a0 a1 b0 b1 hb1 hcc hcc'
        have a0 := d0.cell 0; have a1 := d0.cell 1; have b1 := d1.cell 1; have z0 := d2.cell 0; have z1 := d2.cell 1; have f0 := d2.frozen 0; have f1 := d2.frozen 1
        have hsz := d2.lt
        have D2 := Lib.hid d2
        go_wp2_with fail
        go_quiet (fail)
        obtain ⟨r0, r1⟩ := set2_facts (D2.out.drewN nq) (.slice (some ⟨bb, off, none⟩) n c) (.slice (some ⟨bb', off', none⟩) n c')
        have R0 := Lib.hid r0; have R1 := Lib.hid r1
        clear r0 r1
        go_wp2_with fail
        exact bodyPost_ret (v := .tuple #[.agg #[.slice (some ⟨bb, off, none⟩) n c, .slice (some ⟨bb', off', none⟩) n c'], .int .i64 27]) (by simp [results, Try.results33, go_sem, R0.out, R1.out]) rfl (refE_no HH.out (set2_below _ _ (below_drewN HW1.out nq) (by omega)) HML.out rfl)
      · obtain rfl : x = 0 := HX.out.symm.trans (backE_ok HI.out hnb (by omega))
        have HML := Lib.hid (show l.set i (l[i].1, l[i].2 + t) = m' from (backL_ok HI.out HX.out).symm.trans HM.out)
        clear hnb
        go_enter Try.func33, Try.ntmps33
        go_wp2_with fail
        refine (rfind_any A A' n c c' l r i _ HR.out hn HP.out).mono ?_
        rintro e w1 ⟨rfl, hb1⟩
        have HW1 := Lib.hid (HBW.out.trans (hb1.mono HBW.out.size))
        have d0 := HB0.out.below hb1 HB0.out.lt; have d1 := HB1.out.below hb1 HB1.out.lt; have d2 := HB2.out.below hb1 HB2.out.lt
        obtain ⟨bb, off, rfl, hbl, hcc⟩ := (HR.out.below hb1).lot (by omega)
        obtain ⟨bb', off', rfl, hbl', hcc'⟩ := (HR.out.below hb1).left (by omega)
        have hlo : bb < w.heap.size := by
          obtain ⟨_, _, e, hh, _⟩ := HH.out.lot (by omega); cases e; exact hh
        have hlo' : bb' < w.heap.size := by
          obtain ⟨_, _, e, hh, _⟩ := HH.out.left (by omega); cases e; exact hh
        have HRR := Lib.hid (HR.out.below hb1)
        have e2 := (hcc i hil).2.2.1
        have e3 := hcc' i hil
        clear a0 a1 b0 b1 hcc hcc'
        have a0 := d0.cell 0; have a1 := d0.cell 1; have b1 := d1.cell 1; have z0 := d2.cell 0; have z1 := d2.cell 1; have f0 := d2.frozen 0; have f1 := d2.frozen 1
        have hsz := d2.lt
        have D2 := Lib.hid d2; have D0 := Lib.hid d0; have D1 := Lib.hid d1
        clear hb1 d0 d1 d2
        go_wp2_with fail
        go_quiet (fail)
        have d0 := D0.out.drewN nq; have d1 := D1.out.drewN nq; have d2 := D2.out.drewN nq
        have HRV := HRR.out; have HV := below_drewN HW1.out nq
        replace HRV : RefS (w1.drewN nq) (some ⟨bb, off, none⟩) n (some ⟨bb', off', none⟩) l := HRV
        have e3v : (w1.drewN nq).cell? ⟨bb', off' + i, none⟩ = some (.int .i64 l[i].2) := e3
        have hsv : w.heap.size + 1 + 1 < (w1.drewN nq).heap.size := hsz
        clear e2 e3 a0 a1 b1 z0 z1 f0 f1 hsz D0 D1 D2 HRR
        clear HW1
        generalize w1.drewN nq = v at *
        have KS : ∀ {w'}, Below (w.heap.size + 1 + 1) v w' → (w'.cell? ⟨w.heap.size, 0, none⟩ = some (.slice (some ⟨bb, off, none⟩) n c) ∧ w'.cell? ⟨w.heap.size, 1, none⟩ = some (.slice (some ⟨bb', off', none⟩) n c') ∧ w'.cell? ⟨w.heap.size + 1, 1, none⟩ = some (.int .i64 t) ∧ w'.cell? ⟨bb', off' + i, none⟩ = some (.int .i64 l[i].2)) := fun h =>
          ⟨(d0.below h (by omega)).cell 0, (d0.below h (by omega)).cell 1, (d1.below h (by omega)).cell 1, (h.cell (by show bb' < _; omega)).trans e3v⟩
        have kk := Below.refl (w.heap.size + 1 + 1) v
        have k0 := kk
        obtain ⟨t0, t1', t2', t3⟩ := KS kk
        have hd2 := Lib.hid d2
        have z0 := d2.cell 0; have z1 := d2.cell 1; have f0 := d2.frozen 0; have f1 := d2.frozen 1
        have HKV := Lib.hid HV
        have HRv := Lib.hid HRV
        have HD2 := Lib.hid d2
        clear d0 d1 d2 hd2 HV HRV e3v
        go_upto_region 8 with fail
        go_region_held3 (fun w' => w'.cell? ⟨w.heap.size, 0, none⟩ = some (.slice (some ⟨bb, off, none⟩) n c) ∧ w'.cell? ⟨w.heap.size, 1, none⟩ = some (.slice (some ⟨bb', off', none⟩) n c') ∧ w'.cell? ⟨w.heap.size + 1, 1, none⟩ = some (.int .i64 t) ∧ w'.cell? ⟨bb', off' + i, none⟩ = some (.int .i64 l[i].2))
          (first | exact KS kk | exact KS (below_drew_ kk) | exact KS (set2_below _ _ kk (Nat.le_refl _)) | go_keep)
          (first
            | (go_at_call 38; refine (rwith_any _ _ n c c' i l _ _ _ (HRv.out.below (below_drewN (Below.refl _ _) _)) hil hn HML.out).mono ?_; rintro e w2 ⟨b2, c2, rfl, hr2, hbb2, hb2⟩; have kk := (below_drewN (Below.refl (w.heap.size + 1 + 1) v) _).trans (hb2.mono (Nat.le_of_lt hsv)); have x2 := (HD2.out.drewN _).below hb2 hsv; have z0 := x2.cell 0; have z1 := x2.cell 1; have f0 := x2.frozen 0; have f1 := x2.frozen 1; have hsz2 := x2.lt))
        obtain ⟨r0, r1⟩ := set2_facts x2 (.slice (some ⟨bb, off, none⟩) n c) (.slice (some ⟨b2, 0, none⟩) n c2)
        have R0 := Lib.hid r0; have R1 := Lib.hid r1
        clear r0 r1
        go_wp2_with fail
        have hbv : v.heap.size ≤ b2 := hbb2
        have hk0 := HKV.out
        exact bodyPost_ret (v := .tuple #[.agg #[.slice (some ⟨bb, off, none⟩) n c, .slice (some ⟨b2, 0, none⟩) n c2], .int .i64 0]) (by simp [results, Try.results33, go_sem, R0.out, R1.out]) rfl ⟨_, _, _, _, _, rfl, hr2.far2 (Apart.some_ (by omega)) (Apart.some_ (by omega)) _ _, From.same _ _, From.some_ (by omega), set2_below _ _ (hk0.trans (kk.mono (by omega))) (by omega), .inl (by omega)⟩
end Go.Proofs.Ythbmofijdhfeeaa
