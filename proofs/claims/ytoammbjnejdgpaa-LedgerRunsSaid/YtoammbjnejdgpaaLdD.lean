/- The walks of find, of both slices.Clone, of clone, New and Balance. -/
import Derived.Test.YtoammbjnejdgpaaLdC
namespace Go.Proofs.Ytoammbjnejdgpaa
open Go.RowKit
theorem box2 (w : World) (s t : TypeId) (A B : Array Value) : Blk ((w.alloc (.cells A s)).alloc (.cells B t)) w.heap.size s A ∧ Blk ((w.alloc (.cells A s)).alloc (.cells B t)) (w.heap.size + 1) t B ∧ Below w.heap.size w ((w.alloc (.cells A s)).alloc (.cells B t)) :=
  ⟨(Blk.new w s A).alloc _, by simpa using Blk.new (w.alloc (.cells A s)) t B, ((Below.refl _ _).alloc (Nat.le_refl _) _).alloc (by simp) _⟩
theorem mf_ (fn : Fn) (first cap : Array Value) (w : World) : (Instr.makeFunc fn first cap).run Try.prog w = .ok (.func fn first cap) w := rfl
/-- Entries in memory, wherever. -/
def EnR (w : World) (A : Option Addr) (n : Nat) (l : List En) : Prop := Reads w w.heap.size 4 A n (cellsEn l) ∧ l.length = n
theorem EnR.below {w w' : World} {A : Option Addr} {n : Nat} {l : List En} (h : EnR w A n l) (hb : Below w.heap.size w w') : EnR w' A n l := ⟨(h.1.below hb).more hb.size, h.2⟩
theorem EnR.cells {w : World} {A : Option Addr} {n : Nat} {l : List En} (h : EnR w A n l) (hn : 0 < n) : ∃ b off, A = some ⟨b, off, none⟩ ∧ b < w.heap.size ∧ ∀ k (hk : k < l.length), w.cell? ⟨b, off + k * 4, none⟩ = some (.int .i64 l[k].id) ∧ w.cell? ⟨b, off + k * 4 + 1, none⟩ = some (.int .i64 l[k].tm) ∧ w.cell? ⟨b, off + k * 4 + 2, none⟩ = some (.slice l[k].A l[k].n l[k].c) ∧ w.cell? ⟨b, off + k * 4 + 3, none⟩ = some (.bool l[k].used) := by
  obtain ⟨b, off, e, hb, hc⟩ := h.1.recs encEn_len (by omega) hn
  exact ⟨b, off, e, hb, fun k hk => ⟨hc k hk 0 _ rfl, hc k hk 1 _ rfl, hc k hk 2 _ rfl, hc k hk 3 _ rfl⟩⟩
theorem LdB.enr {w : World} {F R : Nat → Prop} {g n c : Nat} {acc : Int} {l : List En} {A : Option Addr} (h : LdB w F R g acc l A n c) : EnR w A n l := ⟨Reads.of_own h.own, h.len⟩
set_option maxHeartbeats 1000000 in
theorem findclos_any (f : En) (r : Int) (g1 : Nat) (x : Bool) (w : World) (h1 : Blk w g1 3 #[.int .i64 r]) (hx : decide (f.id = r) = x) : Calls Try.prog 38 #[aggEn f, .pointer (some ⟨g1, 0, none⟩)] w (RetB w x) := by
  obtain ⟨kk, hK⟩ := box1K w 64 #[.int .i64 f.id, .int .i64 f.tm, .slice f.A f.n f.c, .bool f.used]
  have HK := Lib.hid hK
  clear hK
  obtain ⟨B0, hbb⟩ := HK.out _ kk
  have c00 := B0.cell 0
  have c01 := B0.cell 1
  have c02 := B0.cell 2
  have c03 := B0.cell 3
  have HB := Lib.hid hbb
  clear B0 hbb
  have b1 := ofB h1 HB.out
  have e0 := (b1.cell 0).trans rfl
  clear b1 h1
  by_cases hk : f.id = r
  · have hk2 : (f.id == r) = true := by simp [hk]
    have HA : Hid (true = x) := Lib.hid (by rw [← hx]; simp [hk])
    clear hk hx
    go_enter Try.func38, Try.ntmps38
    go_wp2_with fail
    go_ret
    exact ⟨ret_bool HA.out, HB.out⟩
  · have hk2 : (f.id == r) = false := by simp [hk]
    have HA : Hid (false = x) := Lib.hid (by rw [← hx]; simp [hk])
    clear hk hx
    go_enter Try.func38, Try.ntmps38
    go_wp2_with fail
    go_ret
    exact ⟨ret_bool HA.out, HB.out⟩
set_option maxHeartbeats 2000000 in
theorem indexEn_any (A : Option Addr) (n c : Nat) (l : List En) (g1 : Nat) (r x : Int) (w : World) (h : EnR w A n l) (hn : n ≤ 9223372036854775807) (h1 : Blk w g1 3 #[.int .i64 r]) (hx : idxI (l.map En.dt) r = x) : Calls Try.prog 37 #[.slice A n c, .func (.func 38) #[] #[.pointer (some ⟨g1, 0, none⟩)]] w (RetI w x) := by
  have HL := Lib.hid h.2
  have HZ := Lib.hid h; have HG := Lib.hid h1; have HX := Lib.hid hx
  clear h h1 hx
  go_enter Try.func37, Try.ntmps37
  go_wp2_with fail
  go_loopw [5, 8] (fun _ s wr => ∃ k : Nat, k ≤ n ∧ s = .int .i64 k ∧ Hid (∀ j (hj : j < l.length), j < k → l[j].id ≠ r) ∧ Below w.heap.size w wr) (fun _ s _ => n - (intOf s).toNat)
  case atStart => exact ⟨0, Nat.zero_le _, rfl, Lib.hid (fun _ _ h => absurd h (Nat.not_lt_zero _)), Below.refl _ _⟩
  case round =>
    obtain ⟨k, hk, rfl, HA, hbw⟩ := hrel
    have HBW := Lib.hid hbw
    have HZr := Lib.hid (HZ.out.below hbw)
    clear hbw
    by_cases hlt : k < n
    · have hkl : k < l.length := by have := HL.out; omega
      obtain ⟨b, off, rfl, hb, hc⟩ := HZr.out.cells (by omega)
      obtain ⟨d0, d1, d2, d3⟩ := hc k hkl
      have hk0 : (0 : Int) ≤ k := by omega
      have hk1 : (k : Int) < n := by omega
      obtain ⟨y, hy⟩ : ∃ y, decide (l[k].id = r) = y := ⟨_, rfl⟩
      have HC := Lib.hid (findclos_any l[k] r g1 y wr (ofB HG.out HBW.out) hy)
      clear hc
      rcases y with _ | _
      · have HY : Hid (l[k].id ≠ r) := Lib.hid (of_decide_eq_false hy)
        clear hy
        go_wp2_with fail
        refine HC.out.mono ?_
        rintro e w1 ⟨rfl, hb1⟩
        have HB1 := Lib.hid (below_next HBW.out (Nat.le_refl _) hb1)
        clear hb1
        go_wp2_with fail
        go_roundw
        case rel => exact ⟨k + 1, by omega, by go_num, Lib.hid (fun j hj hjk => by
          rcases Nat.lt_or_eq_of_le (Nat.lt_succ_iff.1 hjk) with h' | rfl
          · exact HA.out j hj h'
          · exact HY.out), HB1.out⟩
        case measure => simp [intOf]; omega
      · have HX2 : Hid ((k : Int) = x) := Lib.hid (by
          rw [← HX.out, idxI_some (idx_at (l := l.map En.dt) (k := k) (by simpa using hkl) (by simpa [En.dt] using of_decide_eq_true hy) fun j hj hjk => by simpa [En.dt] using HA.out j (by simpa using hj) hjk)])
        clear hy
        go_wp2_with fail
        refine HC.out.mono ?_
        rintro e w1 ⟨rfl, hb1⟩
        have HB1 := Lib.hid (below_next HBW.out (Nat.le_refl _) hb1)
        clear hb1
        go_wp2_with fail
        go_ret
        exact ⟨ret_int HX2.out, HB1.out⟩
    · have HX2 : Hid (-1 = x) := Lib.hid (by
        rw [← HX.out, idxI_none (idx_no fun j hj => by simpa [En.dt] using HA.out j (by simpa using hj) (by have := HL.out; simp at hj; omega))])
      go_wp2_with fail
      go_ret
      exact ⟨ret_int HX2.out, HBW.out⟩
set_option maxHeartbeats 1000000 in
theorem find_any (F R : Nat → Prop) (g : Nat) (acc : Int) (l : List En) (A : Option Addr) (n c : Nat) (r x : Int) (w : World) (h : LdB w F R g acc l A n c) (hn : n ≤ 9223372036854775807) (hx : idxI (l.map En.dt) r = x) : Calls Try.prog 30 #[.pointer (some ⟨g, 0, none⟩), .int .i64 r] w (RetI w x) := by
  obtain ⟨B0, hb⟩ := box1 w 3 #[.int .i64 r]
  have c1 := ((ofB h.blk hb).cell 1).trans rfl
  have hg := h.blk.lt
  have HC := Lib.hid (indexEn_any A n c l _ r x _ (h.enr.below hb) hn B0 hx)
  have HB := Lib.hid hb
  have hmf := mf_
  clear h hx B0 hb
  go_enter Try.func30, Try.ntmps30
  go_wp2_with fail
  refine HC.out.mono ?_
  rintro e w1 ⟨rfl, hb1⟩
  go_wp2_with fail
  go_ret
  exact ⟨rfl, below_next HB.out (Nat.le_refl _) hb1⟩
theorem one_cellsLn (l : List Ln) : ∀ u ∈ cellsLn l, u.oneCell' = true := by
  intro u hu
  obtain ⟨p, _, hp⟩ := List.mem_flatMap.1 hu
  simp only [encLn, List.mem_cons, List.not_mem_nil, or_false] at hp
  rcases hp with rfl | rfl <;> rfl
theorem one_cellsEn (l : List En) : ∀ u ∈ cellsEn l, u.oneCell' = true := by
  intro u hu
  obtain ⟨p, _, hp⟩ := List.mem_flatMap.1 hu
  simp only [encEn, List.mem_cons, List.not_mem_nil, or_false] at hp
  rcases hp with rfl | rfl | rfl | rfl <;> rfl
theorem own_zero (w : World) (base g : Nat) (t size : Nat) (hg : w.heap.size = g) (hb : base ≤ g) : (w.alloc (.cells #[] t)).ownsRow base t size (.slice (some ⟨g, 0, none⟩) 0 0) 0 [] := by
  subst hg
  have := own_fresh (base := base) w t #[] 0 size (by simp) hb (by unfold maxLen; omega)
  simpa using this
theorem eqIn_nilL (d : Nat) (A : Option Addr) (n c : Nat) (w : World) : (Op.equalIn (d + 1) 43 (.slice A n c) (.slice none 0 0)).run Try.prog w = .ok A.isNone w := by
  cases A <;> simp [Op.equalIn, run_underlying Try.underlying43]
theorem eql_nilL (A : Option Addr) (n c : Nat) (w : World) : (binOp .eql 43 (.slice A n c) (.slice none 0 0)).run Try.prog w = .ok (.bool A.isNone) w := by
  simp only [binOp]
  simp [show Op.equal 43 (.slice A n c) (.slice none 0 0) = Op.equalIn (9999 + 1) 43 (.slice A n c) (.slice none 0 0) from rfl, eqIn_nilL 9999 A n c w]
theorem eqIn_nilE (d : Nat) (A : Option Addr) (n c : Nat) (w : World) : (Op.equalIn (d + 1) 60 (.slice A n c) (.slice none 0 0)).run Try.prog w = .ok A.isNone w := by
  cases A <;> simp [Op.equalIn, run_underlying Try.underlying60]
theorem eql_nilE (A : Option Addr) (n c : Nat) (w : World) : (binOp .eql 60 (.slice A n c) (.slice none 0 0)).run Try.prog w = .ok (.bool A.isNone) w := by
  simp only [binOp]
  simp [show Op.equal 60 (.slice A n c) (.slice none 0 0) = Op.equalIn (9999 + 1) 60 (.slice A n c) (.slice none 0 0) from rfl, eqIn_nilE 9999 A n c w]
set_option maxHeartbeats 2000000 in
theorem cloneL_any (A : Option Addr) (n c : Nat) (l : List Ln) (w : World) (h : Reads w w.heap.size 2 A n (cellsLn l)) (hn : n ≤ 1000) :
    Calls Try.prog 34 #[.slice A n c] w fun e w' => ∃ A2 c2, e = .returned (.slice A2 n c2) ∧ w'.ownsRow w.heap.size 54 2 (.slice A2 n c2) n (cellsLn l) ∧ Below w.heap.size w w' := by
  have hl := recs_len h encLn_len (by omega)
  obtain ⟨i0, hi0, hz0, hz1, hz2⟩ := info_parts infoLn
  rcases A with _ | ad
  · have h0 : n = 0 := by
      rcases Nat.eq_zero_or_pos n with h0 | h0
      · exact h0
      · obtain ⟨ad, e, _⟩ := h.2 h0; cases e
    subst h0
    obtain rfl : l = [] := List.eq_nil_of_length_eq_zero hl
    clear h hl
    have hq := fun w => eql_nilL none 0 c w
    go_enter Try.func34, Try.ntmps34
    go_wp2_with fail
    go_ret
    exact ⟨none, 0, rfl, World.ownsRow_nil _ _ _ _, Below.refl _ _⟩
  · have HR := Lib.hid h
    clear h hl
    have hq := fun w => eql_nilL (some ad) n c w
    go_enter Try.func34, Try.ntmps34
    go_wp2_with (at_builtin; go_loud (refine wpList_append_any _ rfl (.tmp 5) (.tmp 6) _ rfl w.heap.size 54 i0 _ 2 16 Try.underlying43 hi0 hz0 hz1 hz2 rfl (by omega) (.slice (some ⟨w.heap.size, 0, none⟩) 0 0) 0 [] rfl (own_zero w _ _ _ _ rfl (Nat.le_refl _)) w.heap.size (some ad) n c (cellsLn l) rfl (HR.out.alloc (Nat.le_refl _) _) (one_cellsLn _) (by simp only [maxLen]; omega) (by omega) (by simp) ?_; intro v3 w3 hown3 hg3 hat3))
    obtain ⟨A3, c3, rfl, hr3⟩ := own_reads hown3
    have HO : Hid (w3.ownsRow w.heap.size 54 2 (.slice A3 (0 + n) c3) (0 + n) (cellsLn l)) := Lib.hid hown3
    have HB : Hid (Below w.heap.size w w3) := Lib.hid (below_own ((Below.refl w.heap.size w).alloc (Nat.le_refl _) _) (own_zero w _ _ 54 2 rfl (Nat.le_refl _)) hg3 (by simp) (Nat.le_refl _))
    rw [Nat.zero_add] at HO ⊢
    clear hown3 hg3 hat3 hr3
    go_wp2_with fail
    go_ret
    exact ⟨A3, c3, rfl, HO.out, HB.out⟩
set_option maxHeartbeats 2000000 in
theorem cloneE_any (A : Option Addr) (n c : Nat) (l : List En) (w : World) (h : Reads w w.heap.size 4 A n (cellsEn l)) (hn : n ≤ 1000) :
    Calls Try.prog 32 #[.slice A n c] w fun e w' => ∃ A2 c2, e = .returned (.slice A2 n c2) ∧ w'.ownsRow w.heap.size 64 4 (.slice A2 n c2) n (cellsEn l) ∧ Below w.heap.size w w' := by
  have hl := recs_len h encEn_len (by omega)
  obtain ⟨i0, hi0, hz0, hz1, hz2⟩ := info_parts infoEn
  rcases A with _ | ad
  · have h0 : n = 0 := by
      rcases Nat.eq_zero_or_pos n with h0 | h0
      · exact h0
      · obtain ⟨ad, e, _⟩ := h.2 h0; cases e
    subst h0
    obtain rfl : l = [] := List.eq_nil_of_length_eq_zero hl
    clear h hl
    have hq := fun w => eql_nilE none 0 c w
    go_enter Try.func32, Try.ntmps32
    go_wp2_with fail
    go_ret
    exact ⟨none, 0, rfl, World.ownsRow_nil _ _ _ _, Below.refl _ _⟩
  · have HR := Lib.hid h
    clear h hl
    have hq := fun w => eql_nilE (some ad) n c w
    go_enter Try.func32, Try.ntmps32
    go_wp2_with (at_builtin; go_loud (refine wpList_append_any _ rfl (.tmp 5) (.tmp 6) _ rfl w.heap.size 64 i0 _ 4 48 Try.underlying60 hi0 hz0 hz1 hz2 rfl (by omega) (.slice (some ⟨w.heap.size, 0, none⟩) 0 0) 0 [] rfl (own_zero w _ _ _ _ rfl (Nat.le_refl _)) w.heap.size (some ad) n c (cellsEn l) rfl (HR.out.alloc (Nat.le_refl _) _) (one_cellsEn _) (by simp only [maxLen]; omega) (by omega) (by simp) ?_; intro v3 w3 hown3 hg3 hat3))
    obtain ⟨A3, c3, rfl, hr3⟩ := own_reads hown3
    have HO : Hid (w3.ownsRow w.heap.size 64 4 (.slice A3 (0 + n) c3) (0 + n) (cellsEn l)) := Lib.hid hown3
    have HB : Hid (Below w.heap.size w w3) := Lib.hid (below_own ((Below.refl w.heap.size w).alloc (Nat.le_refl _) _) (own_zero w _ _ 64 4 rfl (Nat.le_refl _)) hg3 (by simp) (Nat.le_refl _))
    rw [Nat.zero_add] at HO ⊢
    clear hown3 hg3 hat3 hr3
    go_wp2_with fail
    go_ret
    exact ⟨A3, c3, rfl, HO.out, HB.out⟩
/-- A posting comes back, its lines new. -/
def RetPg (w : World) (id tm : Int) (n : Nat) (l : List Ln) (e : Ending) (w' : World) : Prop := ∃ A c, e = .returned (.agg #[.int .i64 id, .int .i64 tm, .slice A n c]) ∧ w'.ownsRow w.heap.size 54 2 (.slice A n c) n (cellsLn l) ∧ Below w.heap.size w w'
set_option maxHeartbeats 2000000 in
theorem clone_any (id tm : Int) (A : Option Addr) (n c : Nat) (l : List Ln) (w : World) (h : Reads w w.heap.size 2 A n (cellsLn l)) (hn : n ≤ 1000) : Calls Try.prog 25 #[.agg #[.int .i64 id, .int .i64 tm, .slice A n c]] w (RetPg w id tm n l) := by
  have H2 := box2 w 45 45 #[.int .i64 id, .int .i64 tm, .slice A n c] #[.int .i64 0, .int .i64 0, .slice none 0 0]
  obtain ⟨v0, hv0⟩ : ∃ v, ((w.alloc (.cells #[.int .i64 id, .int .i64 tm, .slice A n c] 45)).alloc (.cells #[.int .i64 0, .int .i64 0, .slice none 0 0] 45)) = v := ⟨_, rfl⟩
  rw [hv0] at H2
  obtain ⟨B0, B1, hb⟩ := H2
  have hsz : v0.heap.size = w.heap.size + 1 + 1 := by rw [← hv0]; simp
  have d0 := (B0.cell 0).trans rfl; have d1 := (B0.cell 1).trans rfl; have d2 := (B0.cell 2).trans rfl
  have HB0 := Lib.hid B0; have HB1 := Lib.hid B1; have HB := Lib.hid hb; have HSZ := Lib.hid hsz
  have HR := Lib.hid ((h.below hb).more hb.size)
  clear B0 B1 hb hsz h
  go_enter Try.func25, Try.ntmps25
  go_wp2_with fail
  refine (cloneL_any A n c l _ HR.out hn).mono ?_
  rintro e w1 ⟨A2, c2, rfl, ho, hb1⟩
  have B0 := ofB HB0.out hb1; have B1 := ofB HB1.out hb1
  have e0 := (B0.cell 0).trans rfl; have e1 := (B0.cell 1).trans rfl; have e2 := (B0.cell 2).trans rfl
  have q0 := (B1.cell 0).trans rfl; have q1 := (B1.cell 1).trans rfl; have q2 := (B1.cell 2).trans rfl
  have z2 := B0.frozen 2; have y0 := B1.frozen 0; have y1 := B1.frozen 1; have y2 := B1.frozen 2
  have HO := Lib.hid ho; have HBW := Lib.hid (below_next HB.out (Nat.le_refl _) hb1)
  have HC1 := Lib.hid B1; have HC0 := Lib.hid B0
  clear B0 B1 hb1 ho d0 d1 d2 hv0
  go_wp2_with fail
  have HOn : Hid (Only (fun k => k = w.heap.size ∨ k = w.heap.size + 1) w1 ((((w1.setCell ⟨w.heap.size, 2, none⟩ (.slice A2 n c2)).setCell ⟨w.heap.size + 1, 0, none⟩ (.int .i64 id)).setCell ⟨w.heap.size + 1, 1, none⟩ (.int .i64 tm)).setCell ⟨w.heap.size + 1, 2, none⟩ (.slice A2 n c2))) := Lib.hid (((((Only.refl (fun k => k = w.heap.size ∨ k = w.heap.size + 1) w1).setCell (p := ⟨w.heap.size, 2, none⟩) (fun _ => .inl rfl) _).setCell (p := ⟨w.heap.size + 1, 0, none⟩) (fun _ => .inr rfl) _).setCell (p := ⟨w.heap.size + 1, 1, none⟩) (fun _ => .inr rfl) _).setCell (p := ⟨w.heap.size + 1, 2, none⟩) (fun _ => .inr rfl) _)
  exact bodyPost_ret (v := .agg #[.int .i64 id, .int .i64 tm, .slice A2 n c2]) (by simp [results, Try.results25, go_sem, q0, q1, q2]) rfl ⟨A2, c2, rfl, own_mono (HOn.out.own HO.out fun k hk e => by
    have h1 := (HO.out.lt k hk).1
    have h2 := HSZ.out
    omega) (by have := HSZ.out; omega), HBW.out.trans (HOn.out.below (fun k _ e => by omega) HBW.out.size)⟩
/-- A ledger comes back. -/
def RetNew (w : World) (acc : Int) (e : Ending) (w' : World) : Prop := if acc < 2 ∨ 64 < acc then e = .returned (.tuple #[.pointer none, .int .i64 1]) ∧ w = w' else e = .returned (.tuple #[.pointer (some ⟨w.heap.size, 0, none⟩), .int .i64 0]) ∧ w' = w.alloc (.cells #[.int .i64 acc, .slice none 0 0] 62)
theorem new_any (acc : Int) (w : World) : Calls Try.prog 11 #[.int .i64 acc] w (RetNew w acc) := by
  have hcs : acc < 2 ∨ (2 ≤ acc ∧ 64 < acc) ∨ (2 ≤ acc ∧ acc ≤ 64) := by omega
  rcases hcs with g0 | ⟨g0, g1⟩ | ⟨g0, g1⟩
  · go_enter Try.func11, Try.ntmps11
    go_wp2_with fail
    go_ret2
    unfold RetNew; rw [if_pos (.inl g0)]; exact ⟨rfl, rfl⟩
  · go_enter Try.func11, Try.ntmps11
    go_wp2_with fail
    go_ret2
    unfold RetNew; rw [if_pos (.inr g1)]; exact ⟨rfl, rfl⟩
  · go_enter Try.func11, Try.ntmps11
    go_wp2_with fail
    go_ret2
    unfold RetNew; rw [if_neg (by omega)]; exact ⟨rfl, rfl⟩
theorem new_ld (acc : Int) (w : World) : LdF (w.alloc (.cells #[.int .i64 acc, .slice none 0 0] 62)) (fun k => k = w.heap.size) (fun _ => False) w.heap.size acc [] :=
  ⟨[], none, 0, 0, rfl, rfl, fun k hk => by rw [hk]; simp, fun k hk => hk.elim, Blk.new w _ _, World.ownsRow_nil _ _ _ _, fun k hk => by simp [Value.ownBlock] at hk, fun e he => by cases he⟩
end Go.Proofs.Ytoammbjnejdgpaa
