/- The walks of do and played, and of the statements PartsNil and PartsBack. -/
import Derived.Test.YthbmofijdhfeeaaAwake
import Derived.Test.YthbmofijdhfeeaaOpen
namespace Go.Proofs.Ythbmofijdhfeeaa
open Go.RowKit Go.Maps Go.WideMaps
theorem copy_nil (w : World) : Calls Try.prog 27 #[.pointer none] w fun e w' => e = .returned (.pointer none) ∧ w = w' := by
  go_enter Try.func27, Try.ntmps27
  go_wp2_with fail
  go_ret
  exact ⟨rfl, rfl⟩
set_option maxHeartbeats 2000000 in
set_option maxRecDepth 10000 in
theorem partsNil_walk (a b c d t u : Int) (w : World) : Calls Try.prog 9 #[.agg #[.int .i64 a, .int .i64 b, .int .i64 c, .int .i64 d], .agg #[.int .i64 t, .int .i64 u]] w (AwakePost w) := by
  have HAL := Lib.hid (show Below w.heap.size w ((w.alloc (.cells #[.int .i64 a, .int .i64 b, .int .i64 c, .int .i64 d] 47)).alloc (.cells #[.int .i64 t, .int .i64 u] 58)) from ((Below.refl _ _).alloc (Nat.le_refl _) _).alloc (by simp) _)
  have hb0 := (Blk.new w 47 #[.int .i64 a, .int .i64 b, .int .i64 c, .int .i64 d]).alloc (.cells #[.int .i64 t, .int .i64 u] 58)
  have hb1 : Blk ((w.alloc (.cells #[.int .i64 a, .int .i64 b, .int .i64 c, .int .i64 d] 47)).alloc (.cells #[.int .i64 t, .int .i64 u] 58)) (w.heap.size + 1) 58 #[.int .i64 t, .int .i64 u] := by simpa using Blk.new (w.alloc (.cells #[.int .i64 a, .int .i64 b, .int .i64 c, .int .i64 d] 47)) 58 #[.int .i64 t, .int .i64 u]
  have a0 := hb0.cell 0; have a1 := hb0.cell 1; have a2 := hb0.cell 2; have a3 := hb0.cell 3
  have b0 := hb1.cell 0; have b1 := hb1.cell 1
  go_enter Try.func9, Try.ntmps9
  go_wp2_with fail
  refine (take_nil _ _ _).mono ?_
  rintro e w1 ⟨rfl, rfl⟩
  go_wp2_with fail
  refine (left_nil _ _).mono ?_
  rintro e w1 ⟨rfl, rfl⟩
  go_wp2_with fail
  refine (add_nil _ _ _ _ _).mono ?_
  rintro e w1 ⟨rfl, hq1⟩
  have HB1 := Lib.hid (HAL.out.trans (hq1.mono HAL.out.size))
  have B0 := hb0.below hq1 hb0.lt
  have B1 := hb1.below hq1 hb1.lt
  clear a0 a1 a2 a3 b0 b1 hb0 hb1 hq1
  have a1 := B0.cell 1
  have b0 := B1.cell 0; have b1 := B1.cell 1
  go_wp2_with fail
  refine (back_nil _ _ _).mono ?_
  rintro e w2 ⟨rfl, hq2⟩
  have HB2 := Lib.hid (HB1.out.trans (hq2.mono HB1.out.size))
  have B0' := B0.below hq2 B0.lt
  clear a1 b0 b1 B0 B1 hq2
  have a1 := B0'.cell 1
  go_wp2_with fail
  refine (count_nil _ _).mono ?_
  rintro e w3 ⟨rfl, rfl⟩
  go_wp2_with fail
  refine (lots_nil _).mono ?_
  rintro e w3 ⟨rfl, rfl⟩
  go_wp2_with fail
  refine (copy_nil _).mono ?_
  rintro e w3 ⟨rfl, rfl⟩
  go_wp2_with fail
  refine (awake_any _).mono ?_
  rintro e w3 ⟨rfl, hq3⟩
  go_wp2_with fail
  go_ret
  exact ⟨rfl, HB2.out.trans (hq3.mono HB2.out.size)⟩

/-! A call, and several. -/
def doE (l : List Lt) (k : Int) (x : L4) : Int := if k = 0 then addE l x else if k = 1 then takeE l x.2.1 x.2.2.1 else backE l x.1 x.2.2.1
def doL (l : List Lt) (k : Int) (x : L4) : List Lt := if k = 0 then addL l x else if k = 1 then tookX l x.2.1 x.2.2.1 else backL l x.1 x.2.2.1
def doO (l : List Lt) (k : Int) (x : L4) : List T2 := if k = 1 then tookO l x.2.1 x.2.2.1 else []
theorem fine_do {l : List Lt} {k : Int} {x : L4} (h : fine l) : fine (doL l k x) := by
  unfold doL; split
  · exact fine_add h
  · split
    · exact fine_take h
    · exact fine_back h
theorem dist_do {l : List Lt} {k : Int} {x : L4} (h : dist l) : dist (doL l k x) := by
  unfold doL; split
  · exact dist_add h
  · split
    · exact dist_take h
    · exact dist_back h
def RetDo (w : World) (F : Nat → Prop) (g : Nat) (x : Int) (o : List T2) (l' : List Lt) (e : Ending) (w' : World) : Prop :=
  ∃ A n c F', e = .returned (.tuple #[.slice A n c, .int .i64 x]) ∧ w'.ownsRow w.heap.size 58 2 (.slice A n c) n (cellsT o) ∧ StoreF w' F' g l' ∧ (∀ k, F' k → With F w w' k) ∧ (∀ k, (Value.slice A n c).ownBlock = some k → ¬ F' k) ∧ Only F w w'
theorem with_new {F : Nat → Prop} {w w0 w' : World} (hb : w.heap.size ≤ w0.heap.size) : ∀ k, With F w0 w' k → With F w w' k := fun _ hk => hk.elim .inl fun e => .inr ⟨Nat.le_trans hb e.1, e.2⟩
theorem do_any (F : Nat → Prop) (g : Nat) (l m' : List Lt) (k a b c d x : Int) (o : List T2) (w : World) (h : StoreF w F g l) (hw : (Lit.int .i64 a).wf = true) (hf : fine l) (hx : doE l k (a, b, c, d) = x) (hm : doL l k (a, b, c, d) = m') (ho : doO l k (a, b, c, d) = o) :
    Calls Try.prog 21 #[.pointer (some ⟨g, 0, none⟩), .agg #[.int .u8 k, .int .i64 a, .int .i64 b, .int .i64 c, .int .i64 d]] w (RetDo w F g x o m') := by
  have hal := below_alloc (Below.refl w.heap.size w) (Nat.le_refl _) (.cells #[.int .u8 k, .int .i64 a, .int .i64 b, .int .i64 c, .int .i64 d] 49)
  have HS := Lib.hid (h.below hal)
  have HAL := Lib.hid hal
  have HFI := Lib.hid hf
  clear hal h hf
  by_cases h0 : k = 0
  · subst h0
    have HX : Hid (addE l (a, b, c, d) = x) := Lib.hid hx
    have HM : Hid (addL l (a, b, c, d) = m') := Lib.hid hm
    obtain rfl : o = [] := ho.symm.trans (by unfold doO; rw [if_neg (by decide)])
    clear hx hm ho
    go_enter Try.func21, Try.ntmps21
    go_wp2_with fail
    refine (add_any F g l m' a b c d x _ HS.out HX.out HM.out HFI.out.1).mono ?_
    rintro e w1 ⟨rfl, hs1, ho1⟩
    go_wp2_with fail
    go_ret2
    exact ⟨none, 0, 0, _, rfl, World.ownsRow_nil _ _ _ _, hs1, with_new HAL.out.size, fun k hk => by simp [Value.ownBlock] at hk, (Only.of_new HAL.out F).trans ho1 fun k _ e => e⟩
  · have t0 : (k == 0) = false := eq0_f h0
    by_cases h1 : k = 1
    · subst h1
      have HX : Hid (takeE l b c = x) := Lib.hid hx
      have HM : Hid (tookX l b c = m') := Lib.hid hm
      have HO : Hid (tookO l b c = o) := Lib.hid ho
      clear hx hm ho h0 t0
      go_enter Try.func21, Try.ntmps21
      go_wp2_with fail
      refine (take_any F g l m' b c x o _ HS.out HFI.out HX.out HM.out HO.out).mono ?_
      rintro e w1 ⟨A1, n1, c1, rfl, hown1, hs1, hx1, ho1⟩
      go_wp2_with fail
      go_ret2
      exact ⟨A1, n1, c1, F, rfl, own_mono hown1 HAL.out.size, hs1, fun k hk => .inl hk, hx1, (Only.of_new HAL.out F).trans ho1 fun k _ e => e⟩
    · have t1 : (k == 1) = false := beq_eq_false_iff_ne.2 h1
      have HX : Hid (backE l a c = x) := Lib.hid (by unfold doE at hx; rwa [if_neg h0, if_neg h1] at hx)
      have HM : Hid (backL l a c = m') := Lib.hid (by unfold doL at hm; rwa [if_neg h0, if_neg h1] at hm)
      obtain rfl : o = [] := ho.symm.trans (by unfold doO; rw [if_neg h1])
      clear hx hm ho h0 h1
      go_enter Try.func21, Try.ntmps21
      go_wp2_with fail
      refine (back_any F g l m' a c x _ HS.out hw HFI.out HX.out HM.out).mono ?_
      rintro e w1 ⟨rfl, hs1, ho1⟩
      go_wp2_with fail
      go_ret2
      exact ⟨none, 0, 0, _, rfl, World.ownsRow_nil _ _ _ _, hs1, with_new HAL.out.size, fun k hk => by simp [Value.ownBlock] at hk, (Only.of_new HAL.out F).trans ho1 fun k _ e => e⟩
def playL (ops : List Op5) : List Lt := ops.foldl (fun l o => doL l o.1 o.2) []
theorem playL_snoc {ops : List Op5} {k : Nat} (hk : k < ops.length) : playL (ops.take (k + 1)) = doL (playL (ops.take k)) ops[k].1 ops[k].2 := by
  unfold playL
  rw [List.take_succ_eq_append_getElem hk, List.foldl_append]
  rfl
theorem play_fine : ∀ (ops : List Op5) (l : List Lt), fine l → dist l → fine (ops.foldl (fun l o => doL l o.1 o.2) l) ∧ dist (ops.foldl (fun l o => doL l o.1 o.2) l)
  | [], _, h, h2 => ⟨h, h2⟩
  | _ :: ops, _, h, h2 => play_fine ops _ (fine_do h) (dist_do h2)
theorem playL_fine (ops : List Op5) : fine (playL ops) ∧ dist (playL ops) := play_fine ops [] fine_nil dist_nil
def RetStore (w : World) (l : List Lt) (e : Ending) (w' : World) : Prop :=
  ∃ F g, e = .returned (.pointer (some ⟨g, 0, none⟩)) ∧ StoreF w' F g l ∧ (∀ k, F k → w.heap.size ≤ k) ∧ Below w.heap.size w w'
set_option maxHeartbeats 1000000 in
set_option maxRecDepth 10000 in
theorem played_any (A : Option Addr) (n c : Nat) (ops : List Op5) (w : World) (hr : Reads w w.heap.size 5 A n (cellsO ops)) (hn : n ≤ 100000) (hwl : ∀ o ∈ ops, (Lit.int .i64 o.2.1).wf = true) :
    Calls Try.prog 24 #[.slice A n c] w (RetStore w (playL ops)) := by
  have HL := Lib.hid (recs_len hr encO_len (by omega))
  have HW := Lib.hid hwl
  have HR := Lib.hid hr
  clear hwl hr
  go_enter Try.func24, Try.ntmps24
  go_wp2_with fail
  refine (new_any none 0 0 [] 0 [] _ Reads.none_ (by decide) rfl).mono ?_
  rintro e w1 ⟨hb1, ⟨_, F1, g, rfl, hs1, hF1⟩ | ⟨h, _⟩⟩
  case inr => exact absurd rfl h
  have HB1 := Lib.hid hb1; have HS1 := Lib.hid hs1; have HF1 := Lib.hid hF1
  clear hb1 hs1 hF1
  go_wp2_with fail
  go_loopw [5] (fun i wr => ∃ (k : Nat) (F : Nat → Prop), k ≤ n ∧ i = .int .i64 k ∧ StoreF wr F g (playL (ops.take k)) ∧ (∀ j, F j → w.heap.size ≤ j) ∧ Below w.heap.size w wr) (fun i _ => n - (intOf i).toNat)
  case atStart => exact ⟨0, F1, Nat.zero_le _, rfl, HS1.out, HF1.out, HB1.out⟩
  case round =>
    obtain ⟨k, F, hk, rfl, hst, hF, hbw⟩ := hrel
    have HS := Lib.hid hst; have HF := Lib.hid hF; have HBW := Lib.hid hbw
    clear hst hF hbw
    by_cases hlt : k < n
    · have hkl : k < ops.length := by have := HL.out; omega
      obtain ⟨b, off, rfl, hb2, hcc⟩ := (HR.out.below HBW.out).recs encO_len (by omega) (by omega)
      have d0 : wr.cell? ⟨b, off + k * 5, none⟩ = some (.int .u8 ops[k].1) := hcc k hkl 0 _ rfl
      have d1 : wr.cell? ⟨b, off + k * 5 + 1, none⟩ = some (.int .i64 ops[k].2.1) := hcc k hkl 1 _ rfl
      have d2 : wr.cell? ⟨b, off + k * 5 + 2, none⟩ = some (.int .i64 ops[k].2.2.1) := hcc k hkl 2 _ rfl
      have d3 : wr.cell? ⟨b, off + k * 5 + 3, none⟩ = some (.int .i64 ops[k].2.2.2.1) := hcc k hkl 3 _ rfl
      have d4 : wr.cell? ⟨b, off + k * 5 + 4, none⟩ = some (.int .i64 ops[k].2.2.2.2) := hcc k hkl 4 _ rfl
      have hk0 : (0 : Int) ≤ k := by omega
      have hk1 : (k : Int) < n := by omega
      have HP := Lib.hid (playL_snoc hkl)
      have HWK := Lib.hid (HW.out _ (List.getElem_mem hkl))
      clear hcc
      go_wp2_with fail
      refine (do_any F g _ _ ops[k].1 ops[k].2.1 ops[k].2.2.1 ops[k].2.2.2.1 ops[k].2.2.2.2 _ _ _ HS.out HWK.out (playL_fine _).1 rfl rfl rfl).mono ?_
      rintro e w2 ⟨A2, n2, c2, F2, rfl, _, hs2, hF2, _, ho2⟩
      have HB2 := Lib.hid (HBW.out.trans (ho2.below (fun j _ hj => HF.out j hj) HBW.out.size))
      have HF2 : Hid (∀ j, F2 j → w.heap.size ≤ j) := Lib.hid fun j hj => With.ge HF.out HBW.out.size j (hF2 j hj)
      have HS2 : Hid (StoreF w2 F2 g (playL (ops.take (k + 1)))) := Lib.hid (by rw [HP.out]; exact hs2)
      clear hs2 hF2 ho2
      go_wp2_with fail
      go_roundw
      case rel => exact ⟨k + 1, F2, by omega, by go_num, HS2.out, HF2.out, HB2.out⟩
      case measure => simp [intOf]; omega
    · have HE : Hid (ops.take k = ops) := Lib.hid (List.take_of_length_le (by have := HL.out; omega))
      go_wp2_with fail
      go_ret
      exact ⟨F, g, rfl, by rw [← HE.out]; exact HS.out, HF.out, HBW.out⟩
end Go.Proofs.Ythbmofijdhfeeaa
