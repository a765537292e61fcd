/- The law's few and played. -/
import Derived.Test.YtoammbjnejdgpaaLdS
namespace Go.Proofs.Ytoammbjnejdgpaa
open Go.RowKit
/-- A script's calls in memory, wherever. -/
def OsR (w : World) (A : Option Addr) (n : Nat) (l : List Oc) : Prop := Reads w w.heap.size 4 A n (cellsOc l) ∧ ∀ o ∈ l, Reads w w.heap.size 2 o.A o.n (cellsLn o.ls)
theorem OsR.below {w w' : World} {A : Option Addr} {n : Nat} {l : List Oc} (h : OsR w A n l) (hb : Below w.heap.size w w') : OsR w' A n l := ⟨(h.1.below hb).more hb.size, fun p hp => ((h.2 p hp).below hb).more hb.size⟩
theorem OsR.cells {w : World} {A : Option Addr} {n : Nat} {l : List Oc} (h : OsR w A n l) (hn : 0 < n) : ∃ b off, A = some ⟨b, off, none⟩ ∧ b < w.heap.size ∧ ∀ k (hk : k < l.length), w.cell? ⟨b, off + k * 4, none⟩ = some (.int .i64 l[k].id) ∧ w.cell? ⟨b, off + k * 4 + 1, none⟩ = some (.int .i64 l[k].tm) ∧ w.cell? ⟨b, off + k * 4 + 2, none⟩ = some (.slice l[k].A l[k].n l[k].c) ∧ w.cell? ⟨b, off + k * 4 + 3, none⟩ = some (.int .i64 l[k].of_) := by
  obtain ⟨b, off, e, hb, hc⟩ := h.1.recs encOc_len (by omega) hn
  exact ⟨b, off, e, hb, fun k hk => ⟨hc k hk 0 _ rfl, hc k hk 1 _ rfl, hc k hk 2 _ rfl, hc k hk 3 _ rfl⟩⟩
/-- The postings after the calls. -/
def playD (acc : Int) (l : List Oc) : List Dt := l.foldl (doD acc) []
theorem playD_snoc (acc : Int) (l : List Oc) (o : Oc) : playD acc (l ++ [o]) = doD acc (playD acc l) o := by simp [playD]
theorem playD_take (acc : Int) (l : List Oc) (k : Nat) (h : k < l.length) : playD acc (l.take (k + 1)) = doD acc (playD acc (l.take k)) l[k] := by rw [List.take_succ_eq_append_getElem h, playD_snoc]
theorem fine_fold (acc : Int) : ∀ (l : List Oc) (d : List Dt), Fine acc d → Fine acc (l.foldl (doD acc) d)
  | [], _, h => h
  | o :: l, _, h => fine_fold acc l _ (h.doD o)
theorem fine_play (acc : Int) (l : List Oc) : Fine acc (playD acc l) := fine_fold acc l [] (fine_nil acc)
def RetPl (w : World) (acc : Int) (l : List Oc) (e : Ending) (w' : World) : Prop := if acc < 2 ∨ 64 < acc then e = .returned (.pointer none) ∧ Below w.heap.size w w' else ∃ (g : Nat) (F R : Nat → Prop), e = .returned (.pointer (some ⟨g, 0, none⟩)) ∧ LdW w w' F R g acc (playD acc l)
theorem LdW.from_ {w0 w1 w : World} {F R : Nat → Prop} {g : Nat} {acc : Int} {d : List Dt} (hb : Below w0.heap.size w0 w1) (h : LdW w1 w F R g acc d) : LdW w0 w F R g acc d := ⟨h.ld, fun k hk => Nat.le_trans hb.size (h.new_ k hk), below_next hb (Nat.le_refl _) h.bel, h.fine⟩
set_option maxHeartbeats 2000000 in
set_option maxRecDepth 10000 in
theorem played_any (acc : Int) (A : Option Addr) (n c : Nat) (l : List Oc) (w : World) (hr : OsR w A n l) (hn : n ≤ 100000) : Calls Try.prog 21 #[.agg #[.int .i64 acc, .slice A n c]] w (RetPl w acc l) := by
  obtain ⟨B0, hbx⟩ := box1 w 40 #[.int .i64 acc, .slice A n c]
  obtain ⟨w1, hw1⟩ : ∃ u, w.alloc (.cells #[.int .i64 acc, .slice A n c] 40) = u := ⟨_, rfl⟩
  have HLEN := Lib.hid (recs_len hr.1 encOc_len (by omega))
  rw [hw1] at B0 hbx
  have HB0 := Lib.hid B0; have HBX := Lib.hid hbx; have HR := Lib.hid (hr.below hbx)
  have HW1 := Lib.hid hw1
  have c0 := (B0.cell 0).trans rfl; have c1 := (B0.cell 1).trans rfl
  clear B0 hbx hr hw1
  go_enter Try.func21, Try.ntmps21
  go_upto_region 1 with fail
  rw [HW1.out]
  go_wp2_with fail
  refine (new_any acc _).mono ?_
  intro e w2 hh
  unfold RetNew at hh
  by_cases h0 : acc < 2 ∨ 64 < acc
  · rw [if_pos h0] at hh
    obtain ⟨rfl, rfl⟩ := hh
    have HI := Lib.hid h0
    clear h0
    go_wp2_with fail
    go_ret
    unfold RetPl
    rw [if_pos HI.out]
    exact ⟨rfl, HBX.out⟩
  · rw [if_neg h0] at hh
    obtain ⟨rfl, rfl⟩ := hh
    have HI := Lib.hid h0
    have L1 : LdW w1 (w1.alloc (.cells #[.int .i64 acc, .slice none 0 0] 62)) (fun k => k = w1.heap.size) (fun _ => False) w1.heap.size acc (playD acc (l.take 0)) := ⟨new_ld acc w1, fun k hk => by omega, (Below.refl _ _).alloc (Nat.le_refl _) _, fine_nil acc⟩
    obtain ⟨w2, hw2⟩ : ∃ u, w1.alloc (.cells #[.int .i64 acc, .slice none 0 0] 62) = u := ⟨_, rfl⟩
    rw [hw2] at L1 ⊢
    have H1 := Lib.hid L1
    clear hw2 L1 h0 c0 c1
    go_wp2_with fail
    go_loopw [5] (fun s wr => ∃ (k : Nat) (F R : Nat → Prop), k ≤ n ∧ s = .int .i64 k ∧ Hid (LdW w1 wr F R w1.heap.size acc (playD acc (l.take k)))) (fun s _ => n - (intOf s).toNat)
    case atStart => exact ⟨0, _, _, Nat.zero_le _, rfl, H1⟩
    case round =>
      obtain ⟨k, F, R, hk, rfl, HL⟩ := hrel
      have c1 := ((ofB HB0.out HL.out.bel).cell 1).trans rfl
      have HRr := Lib.hid (HR.out.below HL.out.bel)
      by_cases hlt : k < n
      · have hkl : k < l.length := by have := HLEN.out; omega
        obtain ⟨b, off, rfl, hb, hc⟩ := HRr.out.cells (by omega)
        obtain ⟨d0, d1, d2, d3⟩ := hc k hkl
        have HLR := Lib.hid (HRr.out.2 l[k] (List.getElem_mem _))
        have HPT := Lib.hid (playD_take acc l k hkl)
        obtain ⟨o, ho⟩ : ∃ o, l[k] = o := ⟨_, rfl⟩
        rw [ho] at d0 d1 d2 d3 HLR HPT
        have hk1 : (k : Int) < n := by omega
        have hk0 : (0 : Int) ≤ k := by omega
        clear hc ho
        go_wp2_with fail
        refine (do_any F R w1.heap.size acc _ o _ HL.out.ld HL.out.fine HLR.out).mono ?_
        intro e w3 hp
        obtain ⟨rfl, F', R', L3⟩ := HL.out.next (HL.out.fine.doD o) hp
        have H3 := Lib.hid L3
        clear hp L3
        go_wp2_with fail
        go_roundw
        case rel => exact ⟨k + 1, F', R', by omega, by go_num, Lib.hid (by rw [HPT.out]; exact H3.out)⟩
        case measure => simp [intOf]; omega
      · have hkn : k = n := by omega
        subst hkn
        have HDT : Hid (l.take k = l) := Lib.hid (List.take_of_length_le (by have := HLEN.out; omega))
        rw [HDT.out] at HL
        go_wp2_with fail
        go_ret
        unfold RetPl
        rw [if_neg HI.out]
        exact ⟨_, F, R, rfl, HL.out.from_ HBX.out⟩
end Go.Proofs.Ytoammbjnejdgpaa
