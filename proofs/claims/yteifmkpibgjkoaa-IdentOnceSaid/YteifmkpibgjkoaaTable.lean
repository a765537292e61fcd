/- The walks of ident.Table's methods: what a table holds, and what Add, Find, Name, Len and New make of it. -/
import Derived.Test.YteifmkpibgjkoaaLists
namespace Go.Proofs.Yteifmkpibgjkoaa
open Go.RowKit Go.Maps Go.WideMaps

theorem strLaw : Keyed Try.prog 9 := string_keyed Try.underlying9
theorem zero3 (w : World) : (zeroValue 3).run Try.prog w = .ok (.int .i64 0) w := by kernel_rfl
def placeL (l : List ByteArray) : Lit → Option Int
  | .string bs => (posOf l ⟨bs.toArray⟩).map fun i => (i : Int)
  | _ => none
theorem placeL_str (l : List ByteArray) (s : ByteArray) : placeL l (.string s.data.toList) = (posOf l s).map fun i => (i : Int) := by
  unfold placeL
  simp only [Array.toArray_toList]

/-- Block g is a table of the identifiers l, all its memory in the blocks of F. -/
def TabF (w : World) (F : Nat → Prop) (g : Nat) (l : List ByteArray) : Prop :=
  F g ∧ (∀ k, F k → k < w.heap.size) ∧ ∃ A n c m, Blk w g 47 #[.slice A n c, .map (some m)] ∧ F m ∧ w.ownsRow 0 9 1 (.slice A n c) n (strs l) ∧ MapI Try.prog 9 3 w m n (placeL l) ∧ ∀ k, (Value.slice A n c).ownBlock = some k → F k
theorem TabF.keep {w w' : World} {F F0 : Nat → Prop} {g : Nat} {l : List ByteArray} (h : TabF w F g l) (ho : Only F0 w w') (hd : ∀ k, F k → ¬ F0 k) : TabF w' F g l := by
  obtain ⟨h1, h0, A, n, c, m, h2, h3, h4, h5, h6⟩ := h
  exact ⟨h1, fun k hk => Nat.lt_of_lt_of_le (h0 k hk) ho.size, A, n, c, m, ho.blk h2 (hd g h1), h3, ho.own h4 (fun k hk => hd k (h6 k hk)), ho.mapI h5 (hd m h3), h6⟩
/-- .. all its memory from block base on. -/
def Tab (w : World) (base g : Nat) (l : List ByteArray) : Prop := ∃ F, (∀ k, F k → base ≤ k) ∧ TabF w F g l
theorem Tab.below {w w' : World} {base g : Nat} {l : List ByteArray} (h : Tab w base g l) (hb : Below w.heap.size w w') : Tab w' base g l := by
  obtain ⟨F, hF, h⟩ := h
  exact ⟨F, hF, h.keep (Only.of_new hb fun _ => False) fun _ _ e => e⟩
theorem Tab.drewN {w : World} {base g : Nat} {l : List ByteArray} (h : Tab w base g l) (k : Nat) : Tab (w.drewN k) base g l := h

set_option maxHeartbeats 400000 in
theorem lenF_any (F : Nat → Prop) (g : Nat) (l : List ByteArray) (w : World) (h : TabF w F g l) :
    Calls Try.prog 19 #[.pointer (some ⟨g, 0, none⟩)] w fun e w' => e = .returned (.int .i64 l.length) ∧ w = w' := by
  obtain ⟨h1, h0, A, n, c, m, h2, h3, h4, h5, h6⟩ := h
  have HL : Hid ((n : Int) = l.length) := by have := h4.1; simp at this; unfold Hid; omega
  have c0 := h2.cell 0
  have c1 := h2.cell 1
  clear h4 h5 h6
  go_enter Try.func19, Try.ntmps19
  go_wp2_with fail
  go_ret
  exact ⟨ret_int HL.out, rfl⟩
theorem len_any (base g : Nat) (l : List ByteArray) (w : World) (h : Tab w base g l) :
    Calls Try.prog 19 #[.pointer (some ⟨g, 0, none⟩)] w fun e w' => e = .returned (.int .i64 l.length) ∧ w = w' :=
  let ⟨F, _, h⟩ := h; lenF_any F g l w h
theorem len_nil (w : World) : Calls Try.prog 19 #[.pointer none] w fun e w' => e = .returned (.int .i64 0) ∧ w = w' := by
  go_enter Try.func19, Try.ntmps19
  go_wp2_with fail
  go_ret
  exact ⟨rfl, rfl⟩

/-- Name. -/
def nameS (l : List ByteArray) (i : Int) : ByteArray := if 0 ≤ i then l.getD i.toNat ByteArray.empty else ByteArray.empty
def nameE (l : List ByteArray) (i : Int) : Int := if i < 0 ∨ (l.length : Int) ≤ i then 7 else 0
theorem ret_si {a b : ByteArray} {c d : Int} (h : a = b) (h' : c = d) : Ending.returned (.tuple #[.string a, .int .i64 c]) = .returned (.tuple #[.string b, .int .i64 d]) := by rw [h, h']
set_option maxHeartbeats 400000 in
theorem nameF_any (F : Nat → Prop) (g : Nat) (l : List ByteArray) (i : Int) (w : World) (h : TabF w F g l) :
    Calls Try.prog 20 #[.pointer (some ⟨g, 0, none⟩), .int .i64 i] w fun e w' => e = .returned (.tuple #[.string (nameS l i), .int .i64 (nameE l i)]) ∧ w = w' := by
  obtain ⟨h1, h0, A, n, c, m, h2, h3, h4, h5, h6⟩ := h
  have HL : Hid (l.length = n) := Lib.hid (by have := h4.1; simpa using this)
  have c0 := h2.cell 0
  by_cases n1 : i < 0
  · have H1 : Hid (nameS l i = ByteArray.empty) := by unfold nameS Hid; rw [if_neg (by omega)]
    have H2 : Hid (nameE l i = 7) := by unfold nameE Hid; rw [if_pos (.inl n1)]
    clear h4 h5 h6
    go_enter Try.func20, Try.ntmps20
    go_wp2_with fail
    go_ret2
    exact ⟨ret_si H1.out.symm H2.out.symm, rfl⟩
  obtain ⟨k, rfl⟩ := Int.eq_ofNat_of_zero_le (by omega : 0 ≤ i)
  by_cases n2 : n ≤ k
  · have H1 : Hid (nameS l k = ByteArray.empty) := by unfold nameS Hid; rw [if_pos (by omega)]; simp only [Int.toNat_natCast]; rw [List.getD_eq_getElem?_getD, List.getElem?_eq_none (by rw [HL.out]; exact n2)]; rfl
    have H2 : Hid (nameE l k = 7) := by unfold nameE Hid; rw [if_pos (.inr (by have := HL.out; omega))]
    clear h4 h5 h6
    go_enter Try.func20, Try.ntmps20
    go_wp2_with fail
    go_ret2
    exact ⟨ret_si H1.out.symm H2.out.symm, rfl⟩
  · have hk : k < n := by omega
    have hkl : k < l.length := by have := HL.out; omega
    have H1 : Hid (nameS l k = l[k]) := by unfold nameS Hid; rw [if_pos (by omega)]; simp only [Int.toNat_natCast]; rw [List.getD_eq_getElem?_getD, List.getElem?_eq_getElem hkl]; rfl
    have H2 : Hid (nameE l k = 0) := by unfold nameE Hid; rw [if_neg (by have := HL.out; omega)]
    obtain ⟨ad, u, rfl, hb, hx, hc⟩ := (Reads.of_own h4).at_ hk
    obtain rfl := strs_at hx hkl
    clear h4 h5 h6 hx
    go_enter Try.func20, Try.ntmps20
    go_wp2_with fail
    go_ret2
    exact ⟨ret_si H1.out.symm H2.out.symm, rfl⟩
theorem name_any (base g : Nat) (l : List ByteArray) (i : Int) (w : World) (h : Tab w base g l) :
    Calls Try.prog 20 #[.pointer (some ⟨g, 0, none⟩), .int .i64 i] w fun e w' => e = .returned (.tuple #[.string (nameS l i), .int .i64 (nameE l i)]) ∧ w = w' :=
  let ⟨F, _, h⟩ := h; nameF_any F g l i w h
theorem name_nil (i : Int) (w : World) : Calls Try.prog 20 #[.pointer none, .int .i64 i] w fun e w' => e = .returned (.tuple #[.string ByteArray.empty, .int .i64 11]) ∧ w = w' := by
  go_enter Try.func20, Try.ntmps20
  go_wp2_with fail
  go_ret2
  exact ⟨rfl, rfl⟩

/-- Find. -/
def placeN (l : List ByteArray) (s : ByteArray) : Int := ((posOf l s).map fun i => (i : Int)).getD 0
set_option maxHeartbeats 400000 in
theorem tfindF_any (F : Nat → Prop) (g : Nat) (l : List ByteArray) (s : ByteArray) (hs : s.size ≤ maxLen) (w : World) (h : TabF w F g l) :
    Calls Try.prog 21 #[.pointer (some ⟨g, 0, none⟩), .string s] w fun e w' => e = .returned (.tuple #[.int .i64 (placeN l s), .bool (posOf l s).isSome]) ∧ w = w' := by
  obtain ⟨h1, h0, A, n, c, m, h2, h3, h4, h5, h6⟩ := h
  have c0 := h2.cell 0
  have c1 := h2.cell 1
  have hrun := h5.look strLaw Try.underlying45 Try.underlying3 (zero3 w) (keyOf_string_mk Try.underlying9 hs)
  rw [placeL_str] at hrun
  have H1 : Hid (((posOf l s).map fun i => (i : Int)).getD 0 = placeN l s) := rfl
  have H2 : Hid (((posOf l s).map fun i => (i : Int)).isSome = (posOf l s).isSome) := by unfold Hid; cases posOf l s <;> rfl
  rw [H1.out, H2.out] at hrun
  clear h4 h5 h6
  go_enter Try.func21, Try.ntmps21
  go_wp2_with fail
  go_ret2
  exact ⟨rfl, rfl⟩
theorem tfind_any (base g : Nat) (l : List ByteArray) (s : ByteArray) (hs : s.size ≤ maxLen) (w : World) (h : Tab w base g l) :
    Calls Try.prog 21 #[.pointer (some ⟨g, 0, none⟩), .string s] w fun e w' => e = .returned (.tuple #[.int .i64 (placeN l s), .bool (posOf l s).isSome]) ∧ w = w' :=
  let ⟨F, _, h⟩ := h; tfindF_any F g l s hs w h
theorem tfind_nil (s : ByteArray) (w : World) : Calls Try.prog 21 #[.pointer none, .string s] w fun e w' => e = .returned (.tuple #[.int .i64 0, .bool false]) ∧ w = w' := by
  go_enter Try.func21, Try.ntmps21
  go_wp2_with fail
  go_ret2
  exact ⟨rfl, rfl⟩

/-- Add. -/
def addN (l : List ByteArray) (s : ByteArray) : Int := if addE l s = 0 then (l.length : Int) else 0
theorem addN_ok {l : List ByteArray} {s : ByteArray} (h : addE l s = 0) : addN l s = l.length := if_pos h
theorem addN_no {l : List ByteArray} {s : ByteArray} (h : addE l s ≠ 0) : addN l s = 0 := if_neg h
/-- The blocks of F, and those that have come since. -/
def With (F : Nat → Prop) (w w' : World) (k : Nat) : Prop := F k ∨ (w.heap.size ≤ k ∧ k < w'.heap.size)
def AddPost (w : World) (F : Nat → Prop) (g : Nat) (l : List ByteArray) (s : ByteArray) (e : Ending) (w' : World) : Prop :=
  e = .returned (.tuple #[.int .i64 (addN l s), .int .i64 (addE l s)]) ∧ TabF w' (With F w w') g (addL l s) ∧ Only F w w'
theorem TabF.more {w : World} {F F' : Nat → Prop} {g : Nat} {l : List ByteArray} (h : TabF w F g l) (hF : ∀ k, F k → F' k) (hlt : ∀ k, F' k → k < w.heap.size) : TabF w F' g l := by
  obtain ⟨h1, h0, A, n, c, m, h2, h3, h4, h5, h6⟩ := h
  exact ⟨hF _ h1, hlt, A, n, c, m, h2, hF _ h3, h4, h5, fun k hk => hF k (h6 k hk)⟩
theorem addPost_no {w w' : World} {F : Nat → Prop} {g : Nat} {l : List ByteArray} {s : ByteArray} {x : Int} (h : addE l s = x) (hx : x ≠ 0) (ht : TabF w F g l) (hw : w = w') : AddPost w F g l s (.returned (.tuple #[.int .i64 0, .int .i64 x])) w' := by
  subst hw
  refine ⟨ret_ii (addN_no (by rw [h]; exact hx)).symm h.symm, ?_, Only.refl _ _⟩
  rw [addL_no (by rw [h]; exact hx)]
  exact ht.more (fun k hk => .inl hk) fun k hk => hk.elim (ht.2.1 k) fun e => e.2
/-- The map after an identifier more. -/
theorem placeL_snoc {l : List ByteArray} {s : ByteArray} (h : posOf l s = none) : updL (placeL l) (.string s.data.toList) (l.length : Int) = placeL (l ++ [s]) := by
  funext kl
  by_cases e : kl = .string s.data.toList
  · subst e
    rw [updL_same, placeL_str, posOf_snoc s h, if_pos (eqS_refl s)]
    rfl
  · rw [updL_other _ e]
    unfold placeL
    split
    · rename_i bs
      rw [posOf_snoc _ h, if_neg]
      intro h2
      rw [eqS_iff] at h2
      exact e (by rw [h2])
    · rfl

set_option maxHeartbeats 400000 in
set_option maxRecDepth 10000 in
theorem addF_any (F : Nat → Prop) (g : Nat) (l : List ByteArray) (s : ByteArray) (hs : s.size ≤ maxLen) (w : World) (h : TabF w F g l) :
    Calls Try.prog 17 #[.pointer (some ⟨g, 0, none⟩), .string s] w (AddPost w F g l s) := by
  have HT := Lib.hid h
  obtain ⟨h1, h0, A, n, c, m, h2, h3, h4, h5, h6⟩ := h
  have HL : Hid (l.length = n) := Lib.hid (by have := h4.1; simpa using this)
  have c0 := h2.cell 0
  have c1 := h2.cell 1
  have hrun := h5.look strLaw Try.underlying45 Try.underlying3 (zero3 w) (keyOf_string_mk Try.underlying9 hs)
  rw [placeL_str] at hrun
  obtain ⟨i0, hi, hz0, hz1, hz2⟩ := info_parts Try.info9
  rcases hv : validS s with _ | _
  · have H1 := Lib.hid (addE_name (l := l) hv)
    clear h4 h5 h6 hrun
    go_enter Try.func17, Try.ntmps17
    go_wp2_with (go_at_call 11; refine (valid_any _ hs _).mono ?_; rintro e w' ⟨rfl, rfl⟩)
    go_ret2
    exact addPost_no H1.out (by decide) HT.out rfl
  rcases hp : posOf l s with _ | i
  · rw [hp] at hrun
    by_cases hf : 512 ≤ n
    · have H1 : Hid (addE l s = 8) := Lib.hid (addE_full hv hp (by rw [HL.out]; exact hf))
      clear h4 h5 h6 hp
      go_enter Try.func17, Try.ntmps17
      go_wp2_with (go_at_call 11; refine (valid_any _ hs _).mono ?_; rintro e w' ⟨rfl, rfl⟩)
      go_ret2
      exact addPost_no H1.out (by decide) HT.out rfl
    · have H1 : Hid (addE l s = 0) := Lib.hid (addE_ok hv hp (by rw [HL.out]; omega))
      have H2 : Hid (addL l s = l ++ [s]) := Lib.hid (addL_ok H1.out)
      have H3 := Lib.hid (placeL_snoc hp)
      have hgb : some g ≠ (Value.slice A n c).ownBlock := fun e => own_blk_ne h4 h2 (by decide) e.symm
      have hmg := h5.blk_ne h2
      have hmv := h5.row_ne h4
      clear hp
      go_enter Try.func17, Try.ntmps17
      go_wp2_with (first
        | (go_at_call 11; refine (valid_any _ hs _).mono ?_; rintro e w' ⟨rfl, rfl⟩)
        | (at_builtin
           refine wpList_append_any _ rfl (.tmp 39) (.tmp 41) _ rfl 0 9 i0 _ 1 16 Try.underlying24 hi hz0 hz1 hz2 rfl (by omega) (.slice A n c) n (strs l) rfl (h4.alloc _) (w.heap.size + 1) (some ⟨w.heap.size, 0, none⟩) 1 1 (strs [s]) rfl (Reads.fresh w 9 #[.string s] 1 1 rfl) (one_strs [s]) (by simp only [maxLen]; omega) (by omega) (Nat.zero_le _) ?_
           intro v1 w1 hown1 hg1 hat1
           obtain ⟨A1, cc1, rfl, hr1⟩ := own_reads hown1
           have hB1 : Blk w1 g 47 #[.slice A n c, .map (some m)] := (h2.alloc _).grown hg1 hgb
           have c0' := hB1.cell 0
           have c1' := hB1.cell 1
           have f0' := hB1.frozen 0
           have hM1 : MapI Try.prog 9 3 w1 m n (placeL l) := (h5.alloc _).kept hg1 hmv)
        | (at_mapUpdate
           refine wpList_putI _ rfl _ _ _ 45 rfl 9 3 strLaw Try.underlying45 Try.underlying3 m n (placeL l) rfl (hM1.setCell (a := ⟨g, 0, none⟩) hmg (.slice A1 (n + 1) cc1)) (by unfold maxLen; omega) _ _ (n : Int) rfl rfl (keyOf_string_mk Try.underlying9 hs) trivial (WalkArith.wf_i64 (by omega)) ?_
           intro w2 hM2 hg2))
      go_ret2
      have o1 : Only F w w1 := ((Only.refl F w).alloc _).grown hg1 fun k hk _ => h6 k hk
      have hB2 := hB1.set_ 0 (.slice A1 (n + 1) cc1)
      have o2 : Only F w w2 := (o1.setCell (p := ⟨g, 0, none⟩) (fun _ => h1) (.slice A1 (n + 1) cc1)).grown hg2 fun k hk _ => by cases hk; exact h3
      refine ⟨ret_ii (by rw [addN_ok H1.out]; have := HL.out; omega) H1.out.symm, ⟨.inl h1, fun k hk => hk.elim (fun e => Nat.lt_of_lt_of_le (h0 k e) o2.size) fun e => e.2, A1, n + 1, cc1, m, hB2.grown hg2 (by intro e; injection e with e; exact hmg e.symm), .inl h3, ?_, ?_, ?_⟩, o2⟩
      · rw [H2.out]
        have hgb1 : (Value.slice A1 (n + 1) cc1).ownBlock ≠ some g := own_blk_ne hown1 hB1 (by decide)
        have hmv1 : some m ≠ (Value.slice A1 (n + 1) cc1).ownBlock := hM1.row_ne hown1
        have := (ownsRow_setCell_other hown1 (a := ⟨g, 0, none⟩) hgb1 (.slice A1 (n + 1) cc1)).kept hg2 (.inr fun e => hmv1 e.symm)
        simpa using this
      · rw [H2.out, ← H3.out]
        have := HL.out
        rw [this]
        exact hM2
      · intro k hk
        rcases hat1 with e | e
        · rw [e] at hk; exact .inl (h6 k hk)
        · rw [e] at hk
          injection hk with hk
          have h7 := o2.size
          have h8 := (hown1.lt k (by rw [e, hk])).2
          have h9 : w1.heap.size ≤ w2.heap.size := by have := hg2.size; simpa [World.setCell] using this
          simp at hk
          exact .inr ⟨by omega, by omega⟩
  · have H1 : Hid (addE l s = 6) := Lib.hid (addE_twice hv (by rw [hp]; rfl))
    rw [hp] at hrun
    clear h4 h5 h6 hp
    go_enter Try.func17, Try.ntmps17
    go_wp2_with (go_at_call 11; refine (valid_any _ hs _).mono ?_; rintro e w' ⟨rfl, rfl⟩)
    go_ret2
    exact addPost_no H1.out (by decide) HT.out rfl

def AddPostB (w : World) (base g : Nat) (l : List ByteArray) (s : ByteArray) (e : Ending) (w' : World) : Prop :=
  e = .returned (.tuple #[.int .i64 (addN l s), .int .i64 (addE l s)]) ∧ Tab w' base g (addL l s) ∧ Below base w w'
theorem add_any (base g : Nat) (l : List ByteArray) (s : ByteArray) (hs : s.size ≤ maxLen) (w : World) (h : Tab w base g l) (_hl : l.length ≤ 100000) :
    Calls Try.prog 17 #[.pointer (some ⟨g, 0, none⟩), .string s] w (AddPostB w base g l s) := by
  obtain ⟨F, hF, h⟩ := h
  have hbw : base ≤ w.heap.size := Nat.le_trans (hF g h.1) (Nat.le_of_lt (h.2.1 g h.1))
  exact (addF_any F g l s hs w h).mono fun _ _ ⟨he, ht, ho⟩ => ⟨he, ⟨_, fun k hk => hk.elim (hF k) fun e => Nat.le_trans hbw e.1, ht⟩, ho.below (fun k _ hk => hF k hk) hbw⟩

/-! New. -/
def NewPost (w : World) (l : List ByteArray) (e : Ending) (w' : World) : Prop :=
  Below w.heap.size w w' ∧ ((newE [] l = 0 ∧ ∃ g, e = .returned (.tuple #[.pointer (some ⟨g, 0, none⟩), .int .i64 0]) ∧ Tab w' w.heap.size g l) ∨ (newE [] l ≠ 0 ∧ e = .returned (.tuple #[.pointer none, .int .i64 (newE [] l)])))

set_option maxHeartbeats 400000 in
set_option maxRecDepth 10000 in
theorem new_any (A : Option Addr) (n c : Nat) (l : List ByteArray) (w : World) (hr : Reads w w.heap.size 1 A n (strs l)) (hn : n ≤ 90000) (hs : ∀ s ∈ l, s.size ≤ maxLen) :
    Calls Try.prog 14 #[.slice A n c] w (NewPost w l) := by
  have HL := Lib.hid (reads_len hr)
  have HS := Lib.hid hs
  have hmm := @run_makeMap Try.prog
  clear hs
  go_enter Try.func14, Try.ntmps14
  go_wp2_with fail
  have ht0 : Tab ((w.alloc (.map #[] 0)).alloc (.cells #[.slice none 0 0, .map (some w.heap.size)] 47)) w.heap.size (w.heap.size + 1) [] := by
    refine ⟨fun k => w.heap.size ≤ k ∧ k < w.heap.size + 2, fun k hk => hk.1, ⟨by omega, by omega⟩, fun k hk => by simp; omega, none, 0, 0, w.heap.size, ?_, ⟨Nat.le_refl _, by omega⟩, World.ownsRow_nil _ _ _ _, ?_, fun k hk => by simp [Value.ownBlock] at hk⟩
    · have := Blk.new (w.alloc (.map #[] 0)) 47 #[.slice none 0 0, .map (some w.heap.size)]
      simpa using this
    · have : placeL [] = fun _ => none := by funext kl; unfold placeL; split <;> rfl
      rw [this]
      exact (MapI.made w Try.prog 9 3).alloc _
  have HT := Lib.hid ht0
  clear ht0
  go_loopw [14] (fun i wr => ∃ k : Nat, k ≤ n ∧ i = .int .i64 k ∧ Tab wr w.heap.size (w.heap.size + 1) (l.take k) ∧ fits l k ∧ Below w.heap.size w wr) (fun i _ => n - (intOf i).toNat)
  case atStart => exact ⟨0, Nat.zero_le _, rfl, HT.out, fits_zero l, ((Below.refl _ _).alloc (Nat.le_refl _) _).alloc (by simp) _⟩
  case round =>
    obtain ⟨k, hk, rfl, ht, hf, hbw⟩ := hrel
    have HT := Lib.hid ht
    have HF := Lib.hid hf
    clear ht hf
    by_cases hlt : k < n
    · obtain ⟨ad, u, rfl, hb, hx, hc⟩ := (hr.below hbw).at_ hlt
      have hkl : k < l.length := by have := HL.out; omega
      obtain rfl := strs_at hx hkl
      clear hx
      have HSZ : Hid (l[k].size ≤ maxLen) := HS.out _ (List.getElem_mem hkl)
      have hlen : (l.take k).length ≤ 100000 := by rw [List.length_take]; omega
      have HLe := Lib.hid hlen
      clear hlen
      by_cases he : addE (l.take k) l[k] = 0
      · have HE := Lib.hid he
        have HA := Lib.hid (addL_ok he)
        have he' := ne0_f he
        clear he
        go_wp2_with fail
        refine (add_any w.heap.size (w.heap.size + 1) (l.take k) l[k] HSZ.out wr HT.out HLe.out).mono ?_
        rintro e w1 ⟨rfl, ht2, hb2⟩
        have HT2 := Lib.hid ht2
        clear ht2
        go_wp2_with fail
        go_roundw
        case rel => exact ⟨k + 1, by omega, by go_num, by rw [List.take_succ_eq_append_getElem hkl, ← HA.out]; exact HT2.out, fits_succ hkl HF.out HE.out, hbw.trans hb2⟩
        case measure => simp [intOf]; omega
      · have HE := Lib.hid (newE_bad hkl HF.out he)
        have HN : Hid (newE [] l ≠ 0) := by unfold Hid; rw [HE.out]; exact he
        have he' := ne0_t he
        clear he
        go_wp2_with fail
        refine (add_any w.heap.size (w.heap.size + 1) (l.take k) l[k] HSZ.out wr HT.out HLe.out).mono ?_
        rintro e w1 ⟨rfl, ht2, hb2⟩
        clear ht2
        go_wp2_with fail
        go_ret2
        exact ⟨hbw.trans hb2, .inr ⟨HN.out, by rw [HE.out]; rfl⟩⟩
    · have HK : Hid (k = l.length) := Lib.hid (by have := HL.out; omega)
      have HE := Lib.hid (newE_ok (HK.out ▸ HF.out))
      go_wp2_with fail
      go_ret2
      refine ⟨hbw, .inl ⟨HE.out, _, rfl, ?_⟩⟩
      have := HT.out
      rw [HK.out, List.take_length] at this
      exact this
end Go.Proofs.Yteifmkpibgjkoaa
