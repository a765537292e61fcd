/- The walk of Postings. -/
import Derived.Test.YtoammbjnejdgpaaLdK
namespace Go.Proofs.Ytoammbjnejdgpaa
open Go.RowKit
/-- A posting that came back: its data, and where its lines lie. -/
structure Pg where
  id : Int
  tm : Int
  A : Option Addr
  n : Nat
  c : Nat
  ls : List Ln
def encPg (p : Pg) : List Value := [.int .i64 p.id, .int .i64 p.tm, .slice p.A p.n p.c]
def cellsPg (l : List Pg) : List Value := l.flatMap encPg
theorem encPg_len (p : Pg) : (encPg p).length = 3 := rfl
theorem snocPg (l : List Pg) (x : Pg) : cellsPg (l ++ [x]) = cellsPg l ++ encPg x := by simp [cellsPg]
theorem onePg (x : Pg) : ∀ u ∈ encPg x, u.oneCell' = true := by
  intro u hu
  simp only [encPg, List.mem_cons, List.not_mem_nil, or_false] at hu
  rcases hu with rfl | rfl | rfl <;> rfl
theorem frPg (u : World) (x : Pg) : Reads (u.alloc (.cells #[.int .i64 x.id, .int .i64 x.tm, .slice x.A x.n x.c] 45)) (u.heap.size + 1) 3 (some ⟨u.heap.size, 0, none⟩) 1 (encPg x) := by simpa [encPg] using Reads.fresh1 u 45 #[.int .i64 x.id, .int .i64 x.tm, .slice x.A x.n x.c] 3 rfl
def Pg.of (p : Pg) : Int × Int × List Ln := (p.id, p.tm, p.ls)
def Dt.of (p : Dt) : Int × Int × List Ln := (p.id, p.tm, p.ls)
/-- A list of postings of one's own, made behind base. -/
def PsW (base : Nat) (w : World) (A : Option Addr) (k c : Nat) (ps : List Pg) (d : List Dt) : Prop :=
  ps.map Pg.of = d.map Dt.of ∧ w.ownsRow base 45 3 (.slice A k c) k (cellsPg ps) ∧ ∀ p ∈ ps, RIn w (fun j => base ≤ j ∧ (Value.slice A k c).ownBlock ≠ some j) 2 p.A p.n (cellsLn p.ls) ∧ p.n ≤ 16
theorem ps_step {base k c c7 n2 c2 B2 : Nat} {w u1 w7 : World} {A A7 A2 : Option Addr} {ps : List Pg} {d : List Dt} {id tm : Int} {ls : List Ln} {o : Obj} {x : Dt} (h : PsW base w A k c ps d) (hb : Below w.heap.size w u1) (hx : x.of = (id, tm, ls))
    (ho : u1.ownsRow B2 54 2 (.slice A2 n2 c2) n2 (cellsLn ls)) (hB2 : w.heap.size ≤ B2) (hbw : base ≤ w.heap.size) (h7 : w7.ownsRow base 45 3 (.slice A7 (k + 1) c7) (k + 1) (cellsPg (ps ++ [⟨id, tm, A2, n2, c2, ls⟩])))
    (hg : (u1.alloc o).grownBy w7 (Value.slice A k c).ownBlock) (hat : (Value.slice A7 (k + 1) c7).ownBlock = (Value.slice A k c).ownBlock ∨ (Value.slice A7 (k + 1) c7).ownBlock = some (u1.alloc o).heap.size) (hn : n2 ≤ 16) : PsW base w7 A7 (k + 1) c7 (ps ++ [⟨id, tm, A2, n2, c2, ls⟩]) (d ++ [x]) := by
  obtain ⟨h1, h2, h3⟩ := h
  have hsz : w.heap.size ≤ u1.heap.size := hb.size
  have key : ∀ {A' : Option Addr} {n' : Nat} {xs : List Value} {G : Nat → Prop}, RIn (u1.alloc o) G 2 A' n' xs → (∀ j, j < (u1.alloc o).heap.size → G j → base ≤ j ∧ (Value.slice A k c).ownBlock ≠ some j) → RIn w7 (fun j => base ≤ j ∧ (Value.slice A7 (k + 1) c7).ownBlock ≠ some j) 2 A' n' xs := by
    intro A' n' xs G hr hG
    have r1 := hr.mono (G' := fun j => base ≤ j ∧ (Value.slice A k c).ownBlock ≠ some j ∧ (Value.slice A7 (k + 1) c7).ownBlock ≠ some j) fun j hj hg' => by
      obtain ⟨q1, q2⟩ := hG j hj hg'
      refine ⟨q1, q2, fun e => ?_⟩
      rcases hat with e2 | e2
      · exact q2 (by rw [← e2]; exact e)
      · rw [e2] at e; injection e with e; omega
    exact (r1.keep (Only.grown (Only.refl (fun j => (Value.slice A k c).ownBlock = some j) (u1.alloc o)) hg fun j hj _ => hj) fun j _ hj e => hj.2.1 e).mono fun j _ hj => ⟨hj.1, hj.2.2⟩
  refine ⟨by rw [List.map_append, List.map_append, h1]; simp [Pg.of, hx], h7, fun p hp => ?_⟩
  rcases List.mem_append.1 hp with hp | hp
  · exact ⟨key (((h3 p hp).1.below hb).alloc o) fun j _ hj => hj, (h3 p hp).2⟩
  · obtain rfl := List.mem_singleton.1 hp
    refine ⟨key ((RIn.of_own_ ho).alloc o) fun j _ hj => ?_, hn⟩
    have q1 := (ho.lt j hj).1
    refine ⟨by omega, fun e => ?_⟩
    have q2 := (h2.lt j e).2
    omega
def RetPs (w : World) (d : List Dt) (e : Ending) (w' : World) : Prop := ∃ A n c ps, e = .returned (.slice A n c) ∧ n = d.length ∧ PsW w.heap.size w' A n c ps d ∧ Below w.heap.size w w'
theorem postings_nil (w : World) : Calls Try.prog 13 #[.pointer none] w fun e w' => e = .returned (.slice none 0 0) ∧ w = w' := by
  go_enter Try.func13, Try.ntmps13
  go_wp2_with fail
  go_ret
  exact ⟨rfl, rfl⟩
set_option maxHeartbeats 4000000 in
set_option maxRecDepth 10000 in
theorem postings_any (F R : Nat → Prop) (g : Nat) (acc : Int) (d : List Dt) (w : World) (h : LdF w F R g acc d) (hf : Fine acc d) : Calls Try.prog 13 #[.pointer (some ⟨g, 0, none⟩)] w (RetPs w d) := by
  obtain ⟨i1, hi1, hy0, hy1, hy2⟩ := info_parts infoPg
  obtain ⟨l, A, n, c, hd, hB⟩ := h
  have HB := Lib.hid hB; have HD := Lib.hid hd; have HL := Lib.hid hB.len
  have HDL : Hid (d.length = n) := Lib.hid (by rw [← hd, List.length_map]; exact hB.len)
  have hn512 : n ≤ 512 := by have := hf.len; have := HDL.out; omega
  have c1 := (hB.blk.cell 1).trans rfl
  have hg := hB.blk.lt
  clear hB hd hf
  go_enter Try.func13, Try.ntmps13
  go_wp2_with fail
  go_loopw [3, 13] (fun s1 s2 wr => ∃ (k : Nat) (A1 : Option Addr) (c1 : Nat) (ps : List Pg), k ≤ n ∧ s1 = .slice A1 k c1 ∧ s2 = .int .i64 k ∧ Hid (PsW w.heap.size wr A1 k c1 ps (d.take k)) ∧ Below w.heap.size w wr) (fun _ s _ => n - (intOf s).toNat)
  case atStart => exact ⟨0, none, 0, [], Nat.zero_le _, rfl, rfl, Lib.hid ⟨by simp, World.ownsRow_nil _ _ _ _, fun _ hp => nomatch hp⟩, Below.refl _ _⟩
  case round =>
    obtain ⟨k, A1, c1', ps, hk, rfl, rfl, HPS, hbw⟩ := hrel
    have HBW := Lib.hid hbw
    have HBr := Lib.hid (HB.out.below hbw)
    clear hbw
    by_cases hlt : k < n
    · have hkl : k < l.length := by have := HL.out; omega
      have hkd : k < d.length := by have := HDL.out; omega
      obtain ⟨b, rfl, hb, hFb, hne, hc⟩ := HBr.out.cells (by omega)
      obtain ⟨d0, d1, d2, d3⟩ := hc k hkl
      have hLR := HBr.out.lines l[k] (List.getElem_mem _)
      have HTK : Hid (d.take (k + 1) = d.take k ++ [l[k].dt]) := Lib.hid (by rw [List.take_succ_eq_append_getElem hkd, dt_at HD.out hkl])
      obtain ⟨y, hz⟩ : ∃ y, l[k] = y := ⟨_, rfl⟩
      rw [hz] at d0 d1 d2 d3 hLR HTK
      have hk1 : (k : Int) < n := by omega
      have hk0 : (0 : Int) ≤ k := by omega
      have hn16 := hLR.2
      clear hc hz
      obtain ⟨B0, hbb⟩ := box1 wr 64 #[.int .i64 y.id, .int .i64 y.tm, .slice y.A y.n y.c, .bool y.used]
      have e0 := (B0.cell 0).trans rfl; have e1 := (B0.cell 1).trans rfl; have e2 := (B0.cell 2).trans rfl
      have HLR := Lib.hid (hLR.1.below hbb).reads
      have HBB := Lib.hid hbb
      have HWS : Hid (w.heap.size ≤ wr.heap.size) := Lib.hid HBW.out.size
      clear B0 hbb hLR
      go_wp2_with fail
      refine (clone_any y.id y.tm y.A y.n y.c y.ls _ HLR.out (by omega)).mono ?_
      rintro e u1 ⟨A2, k2, rfl, ho, hb⟩
      have HO := Lib.hid ho
      have HU := Lib.hid (below_next HBB.out (Nat.le_refl _) hb)
      have HU1 : Hid (Below w.heap.size w u1) := Lib.hid (below_next HBW.out (Nat.le_refl _) HU.out)
      have HOP := Lib.hid ((Only.of_new HU.out fun _ => False).own HPS.out.2.1 fun _ _ e => e)
      have HUS : Hid (w.heap.size ≤ u1.heap.size) := Lib.hid HU1.out.size
      clear ho hb
      go_wp2_with (at_builtin; refine wpList_append_any _ rfl (.tmp 17) (.tmp 21) _ rfl _ 45 i1 _ 3 40 Try.underlying26 hi1 hy0 hy1 hy2 rfl (by omega) (.slice A1 k c1') k _ rfl (((Only.refl (fun _ => False) _).alloc (.cells #[.int .i64 y.id, .int .i64 y.tm, .slice A2 y.n k2] 45)).own HOP.out fun _ _ e => e) _ _ 1 1 (encPg ⟨y.id, y.tm, A2, y.n, k2, y.ls⟩) (by rfl) (frPg _ ⟨y.id, y.tm, A2, y.n, k2, y.ls⟩) (onePg _) (by simp only [maxLen]; omega) (by omega) (Nat.le_trans HUS.out (by simp)) ?_; intro v7 w7 hown7 hg7 hat7; obtain ⟨A7, c7, rfl, hr7⟩ := own_reads hown7; rw [← snocPg] at hown7; have HPN := Lib.hid (ps_step (x := y.dt) HPS.out HU.out rfl HO.out (by simp) HWS.out hown7 hg7 hat7 hn16); have HBN := Lib.hid ((Only.grown (Only.of_new (HU1.out.alloc HUS.out (.cells #[.int .i64 y.id, .int .i64 y.tm, .slice A2 y.n k2] 45)) fun _ => False) hg7 fun j hj hlt => absurd ((HPS.out.2.1.lt j hj).1) (Nat.not_le_of_lt hlt)).below (fun _ _ e => e.elim) (Nat.le_refl _)); clear hown7 hg7 hat7 hr7)
      go_roundw
      case rel => exact ⟨k + 1, A7, c7, _, by omega, rfl, by go_num, Lib.hid (by rw [HTK.out]; exact HPN.out), HBN.out⟩
      case measure => simp [intOf]; omega
    · have hkn : k = n := by omega
      subst hkn
      have HDT : Hid (d.take k = d) := Lib.hid (List.take_of_length_le (by have := HDL.out; omega))
      rw [HDT.out] at HPS
      go_wp2_with fail
      go_ret
      exact ⟨A1, k, c1', ps, rfl, HDL.out.symm, HPS.out, HBW.out⟩
end Go.Proofs.Ytoammbjnejdgpaa
