/- Postings once more: its own list and lines can be written to. -/
import Derived.Test.YtoammbjnejdgpaaLdZ
namespace Go.Proofs.Ytoammbjnejdgpaa
open Go.RowKit
/-- A block's first cells are there and can be written to. -/
def Wr (w : World) (b m : Nat) : Prop := b < w.heap.size ∧ (∀ j, w.frozen? ⟨b, j, none⟩ = false) ∧ ∀ j, j < m → ∃ v, w.cell? ⟨b, j, none⟩ = some v
theorem Wr.of_heap {w w' : World} {b m : Nat} (h : Wr w b m) (hs : b < w'.heap.size) (e : w'.heap[b]? = w.heap[b]?) : Wr w' b m :=
  ⟨hs, fun j => (World.frozen?_of_block (a := ⟨b, j, none⟩) e).trans (h.2.1 j), fun j hj => by
    obtain ⟨v, hv⟩ := h.2.2 j hj
    exact ⟨v, (World.cell?_of_block (a := ⟨b, j, none⟩) e).trans hv⟩⟩
theorem Wr.set_ {w : World} {b m : Nat} (h : Wr w b m) (p : Addr) (x : Value) : Wr (w.setCell p x) b m :=
  ⟨by simpa [World.setCell] using h.1, fun j => by rw [World.frozen?_setCell]; exact h.2.1 j, fun j hj => by
    obtain ⟨v, hv⟩ := h.2.2 j hj
    exact cell?_setCell_some hv⟩
theorem Wr.of_own {w : World} {base b n c size : Nat} {e : TypeId} {xs : List Value} (h : w.ownsRow base e size (.slice (some ⟨b, 0, none⟩) n c) n xs) : Wr w b (n * size) := by
  obtain ⟨_, _, cur, hB, hs, hc, _, _⟩ := own_blk h
  refine ⟨hB.lt, fun j => hB.frozen j, fun j hj => ?_⟩
  have : j < cur.size := by rw [hs]; exact Nat.lt_of_lt_of_le hj (Nat.mul_le_mul_right _ hc)
  exact ⟨cur[j], (hB.cell j).trans (Array.getElem?_eq_getElem this)⟩
/-- A list of postings of one's own; its lines can be written to. -/
def PsU (base : Nat) (w : World) (A : Option Addr) (k c : Nat) (ps : List Pg) (d : List Dt) : Prop :=
  PsW base w A k c ps d ∧ ∀ p ∈ ps, 0 < p.n → ∃ b, p.A = some ⟨b, 0, none⟩ ∧ base ≤ b ∧ (Value.slice A k c).ownBlock ≠ some b ∧ Wr w b (p.n * 2)
theorem ps_stepU {base k c c7 n2 c2 B2 : Nat} {w u1 w7 : World} {A A7 A2 : Option Addr} {ps : List Pg} {d : List Dt} {id tm : Int} {ls : List Ln} {o : Obj} {x : Dt} (h : PsU base w A k c ps d) (hb : Below w.heap.size w u1) (hx : x.of = (id, tm, ls))
    (ho : u1.ownsRow B2 54 2 (.slice A2 n2 c2) n2 (cellsLn ls)) (hB2 : w.heap.size ≤ B2) (hbw : base ≤ w.heap.size) (h7 : w7.ownsRow base 45 3 (.slice A7 (k + 1) c7) (k + 1) (cellsPg (ps ++ [⟨id, tm, A2, n2, c2, ls⟩])))
    (hg : (u1.alloc o).grownBy w7 (Value.slice A k c).ownBlock) (hat : (Value.slice A7 (k + 1) c7).ownBlock = (Value.slice A k c).ownBlock ∨ (Value.slice A7 (k + 1) c7).ownBlock = some (u1.alloc o).heap.size) (hn : n2 ≤ 16) : PsU base w7 A7 (k + 1) c7 (ps ++ [⟨id, tm, A2, n2, c2, ls⟩]) (d ++ [x]) := by
  refine ⟨ps_step h.1 hb hx ho hB2 hbw h7 hg hat hn, fun p hp h0 => ?_⟩
  have hsz : w.heap.size ≤ u1.heap.size := hb.size
  have hsa : (u1.alloc o).heap.size = u1.heap.size + 1 := by simp
  have key : ∀ b, b < u1.heap.size → (Value.slice A k c).ownBlock ≠ some b → (Value.slice A7 (k + 1) c7).ownBlock ≠ some b ∧ ∀ m, Wr u1 b m → Wr w7 b m := fun b hbu hne => by
    refine ⟨fun e => ?_, fun m hw => ?_⟩
    · rcases hat with e2 | e2
      · exact hne (by rw [← e2]; exact e)
      · rw [e2] at e; injection e with e; omega
    · have h1 : Wr (u1.alloc o) b m := hw.of_heap (by omega) (Below.heap_alloc u1 o b hbu)
      exact h1.of_heap (Nat.lt_of_lt_of_le h1.1 hg.size) (hg.block b h1.1 (fun e => hne e.symm))
  rcases List.mem_append.1 hp with hp | hp
  · obtain ⟨b, e1, e2, e3, e4⟩ := h.2 p hp h0
    have hbu : b < u1.heap.size := Nat.lt_of_lt_of_le e4.1 hsz
    obtain ⟨q1, q2⟩ := key b hbu e3
    exact ⟨b, e1, e2, q1, q2 _ (e4.of_heap hbu (hb.block b e4.1))⟩
  · obtain rfl := List.mem_singleton.1 hp
    obtain ⟨g', cap, hv, hb1, hb2⟩ := ho.form h0
    injection hv with hv1 hv2 hv3
    have hown : (Value.slice A k c).ownBlock ≠ some g' := fun e => by
      have := (h.1.2.1.lt g' e).2; omega
    obtain ⟨q1, q2⟩ := key g' hb2 hown
    refine ⟨g', hv1, by omega, q1, q2 _ ?_⟩
    have := ho
    rw [hv1] at this
    exact Wr.of_own this
def RetPu (w : World) (d : List Dt) (e : Ending) (w' : World) : Prop := ∃ A n c ps, e = .returned (.slice A n c) ∧ n = d.length ∧ PsU w.heap.size w' A n c ps d ∧ Below w.heap.size w w'
set_option maxHeartbeats 4000000 in
set_option maxRecDepth 10000 in
theorem postings_u (F R : Nat → Prop) (g : Nat) (acc : Int) (d : List Dt) (w : World) (h : LdF w F R g acc d) (hf : Fine acc d) : Calls Try.prog 13 #[.pointer (some ⟨g, 0, none⟩)] w (RetPu w d) := by
  obtain ⟨i1, hi1, hy0, hy1, hy2⟩ := info_parts infoPg
  obtain ⟨l, A, n, c, hd, hB⟩ := h
  have HB := Lib.hid hB; have HD := Lib.hid hd; have HL := Lib.hid hB.len
  have HDL : Hid (d.length = n) := Lib.hid (by rw [← hd, List.length_map]; exact hB.len)
  have hn512 : n ≤ 512 := by have := hf.len; have := HDL.out; omega
  have c1 := (hB.blk.cell 1).trans rfl
  have hg := hB.blk.lt
  clear hB hd hf
  go_enter Try.func13, Try.ntmps13
  go_wp2_with fail
  go_loopw [3, 13] (fun s1 s2 wr => ∃ (k : Nat) (A1 : Option Addr) (c1 : Nat) (ps : List Pg), k ≤ n ∧ s1 = .slice A1 k c1 ∧ s2 = .int .i64 k ∧ Hid (PsU w.heap.size wr A1 k c1 ps (d.take k)) ∧ Below w.heap.size w wr) (fun _ s _ => n - (intOf s).toNat)
  case atStart => exact ⟨0, none, 0, [], Nat.zero_le _, rfl, rfl, Lib.hid ⟨⟨by simp, World.ownsRow_nil _ _ _ _, fun _ hp => nomatch hp⟩, fun _ hp => nomatch hp⟩, Below.refl _ _⟩
  case round =>
    obtain ⟨k, A1, c1', ps, hk, rfl, rfl, HPS, hbw⟩ := hrel
    have HBW := Lib.hid hbw
    have HBr := Lib.hid (HB.out.below hbw)
    clear hbw
    by_cases hlt : k < n
    · have hkl : k < l.length := by have := HL.out; omega
      have hkd : k < d.length := by have := HDL.out; omega
      obtain ⟨b, rfl, hb, hFb, hne, hc⟩ := HBr.out.cells (by omega)
      obtain ⟨d0, d1, d2, d3⟩ := hc k hkl
      have hLR := HBr.out.lines l[k] (List.getElem_mem _)
      have HTK : Hid (d.take (k + 1) = d.take k ++ [l[k].dt]) := Lib.hid (by rw [List.take_succ_eq_append_getElem hkd, dt_at HD.out hkl])
      obtain ⟨y, hz⟩ : ∃ y, l[k] = y := ⟨_, rfl⟩
      rw [hz] at d0 d1 d2 d3 hLR HTK
      have hk1 : (k : Int) < n := by omega
      have hk0 : (0 : Int) ≤ k := by omega
      have hn16 := hLR.2
      clear hc hz
      obtain ⟨B0, hbb⟩ := box1 wr 64 #[.int .i64 y.id, .int .i64 y.tm, .slice y.A y.n y.c, .bool y.used]
      have e0 := (B0.cell 0).trans rfl; have e1 := (B0.cell 1).trans rfl; have e2 := (B0.cell 2).trans rfl
      have HLR := Lib.hid (hLR.1.below hbb).reads
      have HBB := Lib.hid hbb
      have HWS : Hid (w.heap.size ≤ wr.heap.size) := Lib.hid HBW.out.size
      clear B0 hbb hLR
      go_wp2_with fail
      refine (clone_any y.id y.tm y.A y.n y.c y.ls _ HLR.out (by omega)).mono ?_
      rintro e u1 ⟨A2, k2, rfl, ho, hb⟩
      have HO := Lib.hid ho
      have HU := Lib.hid (below_next HBB.out (Nat.le_refl _) hb)
      have HU1 : Hid (Below w.heap.size w u1) := Lib.hid (below_next HBW.out (Nat.le_refl _) HU.out)
      have HOP := Lib.hid ((Only.of_new HU.out fun _ => False).own HPS.out.1.2.1 fun _ _ e => e)
      have HUS : Hid (w.heap.size ≤ u1.heap.size) := Lib.hid HU1.out.size
      clear ho hb
      go_wp2_with (at_builtin; refine wpList_append_any _ rfl (.tmp 17) (.tmp 21) _ rfl _ 45 i1 _ 3 40 Try.underlying26 hi1 hy0 hy1 hy2 rfl (by omega) (.slice A1 k c1') k _ rfl (((Only.refl (fun _ => False) _).alloc (.cells #[.int .i64 y.id, .int .i64 y.tm, .slice A2 y.n k2] 45)).own HOP.out fun _ _ e => e) _ _ 1 1 (encPg ⟨y.id, y.tm, A2, y.n, k2, y.ls⟩) (by rfl) (frPg _ ⟨y.id, y.tm, A2, y.n, k2, y.ls⟩) (onePg _) (by simp only [maxLen]; omega) (by omega) (Nat.le_trans HUS.out (by simp)) ?_; intro v7 w7 hown7 hg7 hat7; obtain ⟨A7, c7, rfl, hr7⟩ := own_reads hown7; rw [← snocPg] at hown7; have HPN := Lib.hid (ps_stepU (x := y.dt) HPS.out HU.out rfl HO.out (by simp) HWS.out hown7 hg7 hat7 hn16); have HBN := Lib.hid ((Only.grown (Only.of_new (HU1.out.alloc HUS.out (.cells #[.int .i64 y.id, .int .i64 y.tm, .slice A2 y.n k2] 45)) fun _ => False) hg7 fun j hj hlt => absurd ((HPS.out.1.2.1.lt j hj).1) (Nat.not_le_of_lt hlt)).below (fun _ _ e => e.elim) (Nat.le_refl _)); clear hown7 hg7 hat7 hr7)
      go_roundw
      case rel => exact ⟨k + 1, A7, c7, _, by omega, rfl, by go_num, Lib.hid (by rw [HTK.out]; exact HPN.out), HBN.out⟩
      case measure => simp [intOf]; omega
    · have hkn : k = n := by omega
      subst hkn
      have HDT : Hid (d.take k = d) := Lib.hid (List.take_of_length_le (by have := HDL.out; omega))
      rw [HDT.out] at HPS
      go_wp2_with fail
      go_ret
      exact ⟨A1, k, c1', ps, rfl, HDL.out.symm, HPS.out, HBW.out⟩
end Go.Proofs.Ytoammbjnejdgpaa
