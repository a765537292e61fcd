/- Ledgers in memory; the walks of has and of num.Sum. -/
import Derived.Test.YtoammbjnejdgpaaLdPure
import Derived.Test.YtoammbjnejdgpaaFam
import Derived.Test.YtoammbjnejdgpaaMix
import Derived.Test.YtoammbjnejdgpaaTwo
import Derived.Test.YtoammbjnejdgpaaFrame
import Derived.Laws.Externs
namespace Go.Proofs.Ytoammbjnejdgpaa
open Go.RowKit
abbrev RetSame (w : World) (x : Bool) (e : Ending) (w' : World) : Prop := e = .returned (.bool x) ∧ w = w'
def encLn (x : Ln) : List Value := [.int .i64 x.1, .int .i64 x.2]
def cellsLn (l : List Ln) : List Value := l.flatMap encLn
theorem encLn_len (x : Ln) : (encLn x).length = 2 := rfl
/-- An entry: its data, and where its lines lie. -/
structure En where
  id : Int
  tm : Int
  A : Option Addr
  n : Nat
  c : Nat
  ls : List Ln
  used : Bool
def En.dt (e : En) : Dt := ⟨e.id, e.tm, e.ls, e.used⟩
def encEn (e : En) : List Value := [.int .i64 e.id, .int .i64 e.tm, .slice e.A e.n e.c, .bool e.used]
def cellsEn (l : List En) : List Value := l.flatMap encEn
theorem encEn_len (e : En) : (encEn e).length = 4 := rfl
abbrev aggEn (e : En) : Value := .agg #[.int .i64 e.id, .int .i64 e.tm, .slice e.A e.n e.c, .bool e.used]
/-- Block g is a ledger with the entries l at A; what its methods change lies in F, the lines of its postings in R. -/
def LdB (w : World) (F R : Nat → Prop) (g : Nat) (acc : Int) (l : List En) (A : Option Addr) (n c : Nat) : Prop :=
  F g ∧ (∀ k, F k → k < w.heap.size) ∧ (∀ k, R k → k < w.heap.size ∧ ¬ F k) ∧ Blk w g 62 #[.int .i64 acc, .slice A n c] ∧ w.ownsRow 0 64 4 (.slice A n c) n (cellsEn l) ∧ (∀ k, (Value.slice A n c).ownBlock = some k → F k ∧ k ≠ g) ∧ ∀ e ∈ l, RIn w R 2 e.A e.n (cellsLn e.ls) ∧ e.n ≤ 16
def LdF (w : World) (F R : Nat → Prop) (g : Nat) (acc : Int) (d : List Dt) : Prop := ∃ l A n c, l.map En.dt = d ∧ LdB w F R g acc l A n c
section
variable {w w' : World} {F F0 R : Nat → Prop} {g n c : Nat} {acc : Int} {l : List En} {d : List Dt} {A : Option Addr}
theorem LdB.keep (h : LdB w F R g acc l A n c) (ho : Only F0 w w') (hd : ∀ k, F k ∨ R k → ¬ F0 k) : LdB w' F R g acc l A n c := by
  obtain ⟨h1, h2, h3, h4, h5, h6, h7⟩ := h
  exact ⟨h1, fun k hk => Nat.lt_of_lt_of_le (h2 k hk) ho.size, fun k hk => ⟨Nat.lt_of_lt_of_le (h3 k hk).1 ho.size, (h3 k hk).2⟩, ho.blk h4 (hd g (.inl h1)), ho.own h5 (fun k hk => hd k (.inl (h6 k hk).1)), h6, fun e he => ⟨(h7 e he).1.keep ho fun k _ hk => hd k (.inr hk), (h7 e he).2⟩⟩
theorem LdB.below (h : LdB w F R g acc l A n c) (hb : Below w.heap.size w w') : LdB w' F R g acc l A n c := h.keep (Only.of_new hb fun _ => False) fun _ _ e => e
theorem LdF.keep (h : LdF w F R g acc d) (ho : Only F0 w w') (hd : ∀ k, F k ∨ R k → ¬ F0 k) : LdF w' F R g acc d := by
  obtain ⟨l, A, n, c, e, h⟩ := h
  exact ⟨l, A, n, c, e, h.keep ho hd⟩
theorem LdF.below (h : LdF w F R g acc d) (hb : Below w.heap.size w w') : LdF w' F R g acc d := h.keep (Only.of_new hb fun _ => False) fun _ _ e => e
theorem LdB.blk (h : LdB w F R g acc l A n c) : Blk w g 62 #[.int .i64 acc, .slice A n c] := h.2.2.2.1
theorem LdB.own (h : LdB w F R g acc l A n c) : w.ownsRow 0 64 4 (.slice A n c) n (cellsEn l) := h.2.2.2.2.1
theorem LdB.len (h : LdB w F R g acc l A n c) : l.length = n := recs_len (Reads.of_own h.own) encEn_len (by omega)
theorem LdB.lines (h : LdB w F R g acc l A n c) : ∀ e ∈ l, RIn w R 2 e.A e.n (cellsLn e.ls) ∧ e.n ≤ 16 := h.2.2.2.2.2.2
theorem LdB.cells (h : LdB w F R g acc l A n c) (hn : 0 < n) : ∃ b, A = some ⟨b, 0, none⟩ ∧ b < w.heap.size ∧ F b ∧ b ≠ g ∧ ∀ k (hk : k < l.length), w.cell? ⟨b, k * 4, none⟩ = some (.int .i64 l[k].id) ∧ w.cell? ⟨b, k * 4 + 1, none⟩ = some (.int .i64 l[k].tm) ∧ w.cell? ⟨b, k * 4 + 2, none⟩ = some (.slice l[k].A l[k].n l[k].c) ∧ w.cell? ⟨b, k * 4 + 3, none⟩ = some (.bool l[k].used) := by
  obtain ⟨b, off, e, hb, hc⟩ := (Reads.of_own h.own).recs encEn_len (by omega) hn
  obtain ⟨g', cap, hv, _, hlt⟩ := h.own.form hn
  have e2 : some (Addr.mk b off none) = some (Addr.mk g' 0 none) := by rw [← e]; injection hv
  injection e2 with e2
  injection e2 with e3 e4
  subst e3 e4
  obtain ⟨k1, k2⟩ := h.2.2.2.2.2.1 b (by rw [hv]; rfl)
  refine ⟨b, e, hb, k1, k2, fun k hk => ?_⟩
  have r0 := hc k hk 0 _ rfl; have r1 := hc k hk 1 _ rfl; have r2 := hc k hk 2 _ rfl; have r3 := hc k hk 3 _ rfl
  simp only [Nat.zero_add, Nat.add_zero] at r0 r1 r2 r3
  exact ⟨r0, r1, r2, r3⟩
end
def hasA (acc a : Int) : Bool := decide (0 ≤ a ∧ a < acc)
set_option maxHeartbeats 1000000 in
theorem has_any (g : Nat) (acc a : Int) (A : Option Addr) (n c : Nat) (x : Bool) (w : World) (hb : Blk w g 62 #[.int .i64 acc, .slice A n c]) (hx : hasA acc a = x) : Calls Try.prog 26 #[.pointer (some ⟨g, 0, none⟩), .int .i64 a] w (RetSame w x) := by
  have c0 := (hb.cell 0).trans rfl
  have hg := hb.lt
  clear hb
  have hcs : a < 0 ∨ (0 ≤ a ∧ acc ≤ a) ∨ (0 ≤ a ∧ a < acc) := by omega
  rcases hcs with g0 | ⟨g0, g1⟩ | ⟨g0, g1⟩
  · obtain rfl : x = false := by rw [← hx]; exact decide_eq_false (by omega)
    clear hx
    go_enter Try.func26, Try.ntmps26
    go_wp2_with fail
    go_ret
    exact ⟨ret_bool (by simp; try omega), rfl⟩
  · obtain rfl : x = false := by rw [← hx]; exact decide_eq_false (by omega)
    clear hx
    go_enter Try.func26, Try.ntmps26
    go_wp2_with fail
    go_ret
    exact ⟨ret_bool (by simp; try omega), rfl⟩
  · obtain rfl : x = true := by rw [← hx]; exact decide_eq_true (by omega)
    clear hx
    go_enter Try.func26, Try.ntmps26
    go_wp2_with fail
    go_ret
    exact ⟨ret_bool (by simp; try omega), rfl⟩
theorem valid_any (n : Int) (w : World) (h : -1125899906842624 ≤ n) (h2 : n ≤ 1125899906842624) : Calls Try.prog 41 #[.int .i64 n] w (RetSame w true) := by
  go_enter Try.func41, Try.ntmps41
  go_wp2_with fail
  go_ret
  exact ⟨ret_bool (by simp; try omega), rfl⟩
theorem checked_any (n : Int) (w : World) (h : -1125899906842624 ≤ n) (h2 : n ≤ 1125899906842624) : Calls Try.prog 43 #[.int .i64 n] w fun e w' => e = .returned (.tuple #[.int .i64 n, .int .i64 0]) ∧ w = w' := by
  go_enter Try.func43, Try.ntmps43
  go_wp2_with fail
  refine (valid_any n _ h h2).mono ?_
  rintro e w1 ⟨rfl, rfl⟩
  go_wp2_with fail
  go_ret2
  exact ⟨rfl, rfl⟩
theorem add64 (x y c : Int) (hx : 0 ≤ x) (hy : 0 ≤ y) (hc0 : 0 ≤ c) (hc : c ≤ 1) (w : World) : (callFunc 42 #[.int .u64 x, .int .u64 y, .int .u64 c]).run Try.prog w =
    .ok (.value (.tuple #[.int .u64 ((x + y + c) % 18446744073709551616), .int .u64 ((x + y + c) / 18446744073709551616)])) w := by
  rw [run_callFunc_extern Try.func42 (by kernel_rfl) (by kernel_rfl) (by kernel_rfl) (e := add64Entry) (by kernel_rfl), run_add64 x y c hx hy hc0 hc]
  rfl
def sumI : List Int → Int
  | [] => 0
  | x :: l => x + sumI l
theorem sumI_app : ∀ l m : List Int, sumI (l ++ m) = sumI l + sumI m
  | [], m => by simp [sumI]
  | x :: l, m => by rw [List.cons_append]; simp only [sumI]; rw [sumI_app l m]; omega
theorem sumI_take {l : List Int} {k : Nat} (h : k < l.length) : sumI (l.take (k + 1)) = sumI (l.take k) + l[k] := by
  rw [List.take_succ_eq_append_getElem h, sumI_app]; simp [sumI]
theorem sumI_bd : ∀ {l : List Int}, (∀ x ∈ l, -1000000000000 ≤ x ∧ x ≤ 1000000000000) → -1000000000000 * (l.length : Int) ≤ sumI l ∧ sumI l ≤ 1000000000000 * (l.length : Int)
  | [], _ => by simp [sumI]
  | x :: l, h => by
    have h1 := h x (List.mem_cons_self ..)
    have h2 := sumI_bd (l := l) fun y hy => h y (List.mem_cons_of_mem _ hy)
    simp only [sumI, List.length_cons, Int.natCast_add]
    omega
def encI (x : Int) : List Value := [.int .i64 x]
def cellsI (l : List Int) : List Value := l.flatMap encI
theorem encI_len (x : Int) : (encI x).length = 1 := rfl
set_option maxHeartbeats 4000000 in
set_option maxRecDepth 10000 in
theorem sum_any (A : Option Addr) (n c : Nat) (l : List Int) (x : Int) (w : World) (h : Reads w w.heap.size 1 A n (cellsI l)) (hn : n ≤ 100) (hb : ∀ x ∈ l, -1000000000000 ≤ x ∧ x ≤ 1000000000000) (hx : sumI l = x) : Calls Try.prog 39 #[.slice A n c] w fun e w' => e = .returned (.tuple #[.int .i64 x, .int .i64 0]) ∧ w = w' := by
  have HR := Lib.hid h; have HB := Lib.hid hb; have HX := Lib.hid hx; have HL := Lib.hid (recs_len h encI_len (by omega))
  clear h hb hx
  go_enter Try.func39, Try.ntmps39
  go_wp2_with fail
  go_loopw [4, 5, 12] (fun s4 s5 s wr => ∃ (k : Nat) (S H L : Int), k ≤ n ∧ s4 = .int .u64 H ∧ s5 = .int .u64 L ∧ s = .int .i64 k ∧ Hid (sumI (l.take k) = S ∧ L = S % 18446744073709551616 ∧ H = (S / 18446744073709551616) % 18446744073709551616) ∧ wr = w) (fun _ _ s _ => n - (intOf s).toNat)
  case atStart => exact ⟨0, 0, 0, 0, Nat.zero_le _, rfl, rfl, rfl, Lib.hid ⟨rfl, by decide, by decide⟩, rfl⟩
  case round =>
    obtain ⟨k, S, H, L, hk, rfl, rfl, rfl, HS, rfl⟩ := hrel
    have hSb : -100000000000000 ≤ S ∧ S ≤ 100000000000000 := by
      have := sumI_bd (l := l.take k) fun x hx => HB.out x (List.mem_of_mem_take hx)
      rw [HS.out.1, List.length_take] at this
      have h3 : min k l.length ≤ 100 := by omega
      omega
    by_cases hlt : k < n
    · have hkl : k < l.length := by have := HL.out; omega
      obtain ⟨b, off, rfl, hb, hc⟩ := HR.out.recs encI_len (by omega) (by omega)
      have d0 := hc k hkl 0 _ rfl
      simp only [Nat.mul_one, Nat.add_zero] at d0
      have hk0 : (0 : Int) ≤ k := by omega
      have hk1 : (k : Int) < n := by omega
      have HST := Lib.hid (sumI_take hkl)
      obtain ⟨v, hv⟩ : ∃ v, l[k] = v := ⟨_, rfl⟩
      have hvb := HB.out l[k] (List.getElem_mem hkl)
      rw [hv] at d0 HST hvb
      clear hc hv
      have hL : 0 ≤ L := by have := HS.out.2.1; omega
      have hL9 : L < 18446744073709551616 := by have := HS.out.2.1; omega
      have hH : 0 ≤ H := by have := HS.out.2.2; omega
      obtain ⟨U, hU⟩ : ∃ U, v % 18446744073709551616 = U := ⟨_, rfl⟩
      have hU2 : IntKind.u64.wrap v = U := by rw [IntKind.wrap_u64]; exact hU
      obtain ⟨L2, hL2⟩ : ∃ x, (L + U + 0) % 18446744073709551616 = x := ⟨_, rfl⟩
      obtain ⟨C2, hC2⟩ : ∃ x, (L + U + 0) / 18446744073709551616 = x := ⟨_, rfl⟩
      have hA1 := add64 L U 0 hL (by omega) (by decide) (by decide) wr
      rw [hL2, hC2] at hA1
      have hC : 0 ≤ C2 ∧ C2 ≤ 1 := by omega
      obtain ⟨V, hV⟩ : ∃ U, (v / 9223372036854775808) % 18446744073709551616 = U := ⟨_, rfl⟩
      have hV2 : IntKind.u64.wrap (v / 9223372036854775808) = V := by rw [IntKind.wrap_u64]; exact hV
      obtain ⟨H2, hH2⟩ : ∃ x, (H + V + C2) % 18446744073709551616 = x := ⟨_, rfl⟩
      have hA2 := add64 H V C2 hH (by omega) hC.1 hC.2 wr
      rw [hH2] at hA2
      have HN : Hid (sumI (l.take (k + 1)) = S + v ∧ L2 = (S + v) % 18446744073709551616 ∧ H2 = ((S + v) / 18446744073709551616) % 18446744073709551616) := Lib.hid (by
        obtain ⟨h1, h2, h3⟩ := HS.out
        refine ⟨by rw [HST.out, h1], ?_, ?_⟩ <;> omega)
      clear hU hL2 hC2 hV hH2
      go_wp2_with fail
      refine (valid_any v _ (by omega) (by omega)).mono ?_
      rintro e w1 ⟨rfl, rfl⟩
      go_wp2_with fail
      go_roundw
      case rel => exact ⟨k + 1, S + v, H2, L2, by omega, rfl, rfl, by go_num, HN, (by first | rfl | trivial)⟩
      case measure => simp [intOf]; omega
    · have hle : l.take k = l := List.take_of_length_le (by have := HL.out; omega)
      have HXS : Hid (S = x) := Lib.hid (by rw [← HS.out.1, hle, HX.out])
      have f1 : IntKind.i64.wrap L = S := by
        obtain ⟨_, h2, _⟩ := HS.out
        simp only [IntKind.wrap, IntKind.bits, IntKind.signed]
        simp
        omega
      have f2 : IntKind.u64.wrap (S / 9223372036854775808) = H := by
        obtain ⟨_, _, h3⟩ := HS.out
        rw [IntKind.wrap_u64]
        omega
      clear hle
      go_wp2_with fail
      refine (checked_any S _ (by omega) (by omega)).mono ?_
      rintro e w2 ⟨rfl, rfl⟩
      go_wp2_with fail
      go_ret2
      exact ⟨ret_ii HXS.out rfl, rfl⟩
end Go.Proofs.Ytoammbjnejdgpaa
