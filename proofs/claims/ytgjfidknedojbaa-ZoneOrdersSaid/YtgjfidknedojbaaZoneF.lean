/- The walks of both above: is a zone of a greater rank marked? -/
import Derived.Test.YtgjfidknedojbaaZoneE
namespace Go.Proofs.Ytgjfidknedojbaa
open Go.RowKit
def mAt (m : List Bool) (k : Nat) : Bool := m.getD k false
theorem mAt_get {m : List Bool} {k : Nat} (h : k < m.length) : mAt m k = m[k] := by unfold mAt; rw [List.getD_eq_getElem?_getD, List.getElem?_eq_getElem h]; rfl
theorem marks_cells {w : World} {B n : Nat} {A : Option Addr} {m : List Bool} (h : Reads w B 1 A n (cellsB m)) (hn : 0 < n) : ∃ b off, A = some ⟨b, off, none⟩ ∧ b < B ∧ ∀ k, k < n → w.cell? ⟨b, off + k, none⟩ = some (.bool (mAt m k)) := by
  obtain ⟨b, off, e, hb, hc⟩ := h.open_ hn (by omega)
  have hl : m.length = n := by have := h.1; simpa [cellsB] using this
  refine ⟨b, off, e, hb, fun k hk => hc k _ ?_⟩
  rw [mAt_get (by omega)]
  simp [cellsB, hl, hk]
/-- A zone of a greater rank than that of zone i is marked. -/
def aboveB (l : List Zn) (m : List Bool) (i : Nat) : Bool := (List.range l.length).any fun k => mAt m k && decide ((zAt l i).r < (zAt l k).r)
theorem above_yes {l : List Zn} {m : List Bool} {i k : Nat} (hk : k < l.length) (h1 : mAt m k = true) (h2 : (zAt l i).r < (zAt l k).r) : aboveB l m i = true := by
  unfold aboveB
  rw [List.any_eq_true]
  exact ⟨k, by simpa using hk, by rw [h1, decide_eq_true h2]; rfl⟩
theorem above_no {l : List Zn} {m : List Bool} {i : Nat} (h : ∀ k, k < l.length → mAt m k = true → (zAt l k).r ≤ (zAt l i).r) : aboveB l m i = false := by
  unfold aboveB
  rw [List.any_eq_false]
  intro k hk
  rcases h1 : mAt m k with _ | _
  · simp
  · simp only [Bool.true_and, decide_eq_true_eq]
    have := h k (by simpa using hk) h1
    omega
set_option maxHeartbeats 4000000 in
set_option maxRecDepth 10000 in
theorem above_any (A Am : Option Addr) (n c cm i : Nat) (l : List Zn) (m : List Bool) (x : Bool) (w : World) (h : ZR w A n l) (hm : Reads w w.heap.size 1 Am n (cellsB m)) (hn : n ≤ 1000) (hi : i < n) (hx : aboveB l m i = x) : Calls Try.prog 34 #[.slice A n c, .int .i64 i, .slice Am n cm] w (RetB w x) := by
  have HZ := Lib.hid h; have HM := Lib.hid hm; have HX := Lib.hid hx; have HL := Lib.hid h.2.2
  clear h hm hx
  go_enter Try.func34, Try.ntmps34
  go_wp2_with fail
  go_loopw [11] (fun s wr => ∃ k : Nat, k ≤ n ∧ s = .int .i64 k ∧ Hid (∀ j, j < k → mAt m j = true → (zAt l j).r ≤ (zAt l i).r) ∧ Below w.heap.size w wr) (fun s _ => n - (intOf s).toNat)
  case atStart => exact ⟨0, Nat.zero_le _, rfl, Lib.hid (fun _ h => absurd h (Nat.not_lt_zero _)), Below.refl _ _⟩
  case round =>
    obtain ⟨k, hk, rfl, HA, hbw⟩ := hrel
    have HBW := Lib.hid hbw
    have HZr := Lib.hid (HZ.out.below hbw); have HMr := Lib.hid ((HM.out.below hbw).more hbw.size)
    clear hbw
    by_cases hlt : k < n
    · have hkl : k < l.length := by have := HL.out; omega
      have hil : i < l.length := by have := HL.out; omega
      obtain ⟨b, off, rfl, hb, hc⟩ := HZr.out.cells (by omega)
      obtain ⟨bm, om, rfl, hbm, hcm⟩ := marks_cells HMr.out (by omega)
      obtain ⟨d0, d1, d2⟩ := hc k hkl
      obtain ⟨_, _, q2⟩ := hc i hil
      have e0 := hcm k hlt
      have hk0 : (0 : Int) ≤ k := by omega
      have hk1 : (k : Int) < n := by omega
      have hi0 : (0 : Int) ≤ i := by omega
      have hi1 : (i : Int) < n := by omega
      have HAK := Lib.hid (zAt_get hkl); have HAI := Lib.hid (zAt_get hil)
      have HBJ := Lib.hid (HBW.out.alloc HBW.out.size (.cells #[.string l[k].s, .slice l[k].A l[k].n l[k].c, .int .i64 l[k].r] 45))
      obtain ⟨B1, _⟩ := box1 wr 45 #[.string l[k].s, .slice l[k].A l[k].n l[k].c, .int .i64 l[k].r]
      have f2 := (B1.cell 2).trans rfl
      have q2' : (wr.alloc (.cells #[.string l[k].s, .slice l[k].A l[k].n l[k].c, .int .i64 l[k].r] 45)).cell? ⟨b, off + i * 3 + 2, none⟩ = some (.int .i64 l[i].r) := (World.cell?_alloc_lt wr _ _ hb).trans q2
      have e0' : (wr.alloc (.cells #[.string l[k].s, .slice l[k].A l[k].n l[k].c, .int .i64 l[k].r] 45)).cell? ⟨bm, om + k, none⟩ = some (.bool (mAt m k)) := (World.cell?_alloc_lt wr _ _ hbm).trans e0
      clear hc hcm B1
      obtain ⟨t, ht⟩ : ∃ t, mAt m k = t := ⟨_, rfl⟩
      rw [ht] at e0 e0'
      have HT := Lib.hid ht
      clear ht
      by_cases hg : t = true ∧ l[i].r < l[k].r
      · obtain ⟨rfl, hgt⟩ := hg
        have HX2 : Hid (true = x) := Lib.hid (by rw [← HX.out, above_yes hkl HT.out (by rw [HAK.out, HAI.out]; exact hgt)])
        have hd := decide_eq_true hgt
        go_wp2_with fail
        go_quiet (fail)
        go_wp2_with fail
        go_ret
        exact ⟨ret_bool HX2.out, below_drewN HBJ.out _⟩
      · have HA2 : Hid (∀ j, j < k + 1 → mAt m j = true → (zAt l j).r ≤ (zAt l i).r) := Lib.hid fun j hj h1 => by
          rcases Nat.lt_or_ge j k with h2 | h2
          · exact HA.out j h2 h1
          · obtain rfl : j = k := by omega
            rw [HAK.out, HAI.out]
            exact Int.not_lt.mp fun h3 => hg ⟨by rw [← HT.out]; exact h1, h3⟩
        rcases t with _ | _
        · clear hg
          go_wp2_with fail
          go_quiet (fail)
          go_wp2_with fail
          go_roundw
          case rel => exact ⟨k + 1, by omega, by go_num, HA2, below_drewN HBJ.out _⟩
          case measure => simp [intOf]; omega
        · have hle : ¬ l[i].r < l[k].r := fun e => hg ⟨rfl, e⟩
          have hd := decide_eq_false hle
          have hle2 : l[k].r ≤ l[i].r := by omega
          clear hg hle
          go_wp2_with fail
          go_quiet (fail)
          go_wp2_with fail
          go_roundw
          case rel => exact ⟨k + 1, by omega, by go_num, HA2, below_drewN HBJ.out _⟩
          case measure => simp [intOf]; omega
    · have HX2 : Hid (false = x) := Lib.hid (by rw [← HX.out, above_no fun j hj => HA.out j (by have := HL.out; omega)])
      go_wp2_with fail
      go_ret
      exact ⟨ret_bool HX2.out, HBW.out⟩
set_option maxHeartbeats 4000000 in
set_option maxRecDepth 10000 in
theorem rabove_any (A Am : Option Addr) (n c cm i : Nat) (l : List Zn) (m : List Bool) (x : Bool) (w : World) (h : ZR w A n l) (hm : Reads w w.heap.size 1 Am n (cellsB m)) (hn : n ≤ 1000) (hi : i < n) (hx : aboveB l m i = x) : Calls Try.prog 33 #[.slice A n c, .slice Am n cm, .int .i64 i] w (RetB w x) := by
  have HZ := Lib.hid h; have HM := Lib.hid hm; have HX := Lib.hid hx; have HL := Lib.hid h.2.2
  clear h hm hx
  go_enter Try.func33, Try.ntmps33
  go_wp2_with fail
  go_loopw [7] (fun s wr => ∃ k : Nat, k ≤ n ∧ s = .int .i64 k ∧ Hid (∀ j, j < k → mAt m j = true → (zAt l j).r ≤ (zAt l i).r) ∧ Below w.heap.size w wr) (fun s _ => n - (intOf s).toNat)
  case atStart => exact ⟨0, Nat.zero_le _, rfl, Lib.hid (fun _ h => absurd h (Nat.not_lt_zero _)), Below.refl _ _⟩
  case round =>
    obtain ⟨k, hk, rfl, HA, hbw⟩ := hrel
    have HBW := Lib.hid hbw
    have HZr := Lib.hid (HZ.out.below hbw); have HMr := Lib.hid ((HM.out.below hbw).more hbw.size)
    clear hbw
    by_cases hlt : k < n
    · have hkl : k < l.length := by have := HL.out; omega
      have hil : i < l.length := by have := HL.out; omega
      obtain ⟨b, off, rfl, hb, hc⟩ := HZr.out.cells (by omega)
      obtain ⟨bm, om, rfl, hbm, hcm⟩ := marks_cells HMr.out (by omega)
      obtain ⟨_, _, d2⟩ := hc k hkl
      obtain ⟨_, _, q2⟩ := hc i hil
      have e0 := hcm k hlt
      have hk0 : (0 : Int) ≤ k := by omega
      have hk1 : (k : Int) < n := by omega
      have hi0 : (0 : Int) ≤ i := by omega
      have hi1 : (i : Int) < n := by omega
      have HAK := Lib.hid (zAt_get hkl); have HAI := Lib.hid (zAt_get hil)
      clear hc hcm
      obtain ⟨t, ht⟩ : ∃ t, mAt m k = t := ⟨_, rfl⟩
      rw [ht] at e0
      have HT := Lib.hid ht
      clear ht
      by_cases hg : l[i].r < l[k].r
      · rcases t with _ | _
        · have HA2 : Hid (∀ j, j < k + 1 → mAt m j = true → (zAt l j).r ≤ (zAt l i).r) := Lib.hid fun j hj h1 => by
            rcases Nat.lt_or_ge j k with h2 | h2
            · exact HA.out j h2 h1
            · obtain rfl : j = k := by omega
              rw [HT.out] at h1; exact absurd h1 (by decide)
          have hd := decide_eq_true hg
          go_wp2_with fail
          go_quiet (fail)
          go_wp2_with fail
          go_roundw
          case rel => exact ⟨k + 1, by omega, by go_num, HA2, below_drewN HBW.out _⟩
          case measure => simp [intOf]; omega
        · have HX2 : Hid (true = x) := Lib.hid (by rw [← HX.out, above_yes hkl HT.out (by rw [HAK.out, HAI.out]; exact hg)])
          have hd := decide_eq_true hg
          go_wp2_with fail
          go_quiet (fail)
          go_wp2_with fail
          go_ret
          exact ⟨ret_bool HX2.out, below_drewN HBW.out _⟩
      · have HA2 : Hid (∀ j, j < k + 1 → mAt m j = true → (zAt l j).r ≤ (zAt l i).r) := Lib.hid fun j hj h1 => by
          rcases Nat.lt_or_ge j k with h2 | h2
          · exact HA.out j h2 h1
          · obtain rfl : j = k := by omega
            rw [HAK.out, HAI.out]; exact Int.not_lt.mp hg
        have hd := decide_eq_false hg
        have hle2 : l[k].r ≤ l[i].r := by omega
        clear hg
        go_wp2_with fail
        go_quiet (fail)
        go_wp2_with fail
        go_roundw
        case rel => exact ⟨k + 1, by omega, by go_num, HA2, below_drewN HBW.out _⟩
        case measure => simp [intOf]; omega
    · have HX2 : Hid (false = x) := Lib.hid (by rw [← HX.out, above_no fun j hj => HA.out j (by have := HL.out; omega)])
      go_wp2_with fail
      go_ret
      exact ⟨ret_bool HX2.out, HBW.out⟩
end Go.Proofs.Ytgjfidknedojbaa
