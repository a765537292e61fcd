/- The law's do. -/
import Derived.Test.YtoammbjnejdgpaaLdR
namespace Go.Proofs.Ytoammbjnejdgpaa
open Go.RowKit
/-- A call of a script: a posting, or the taking back of one. -/
structure Oc where
  id : Int
  tm : Int
  A : Option Addr
  n : Nat
  c : Nat
  ls : List Ln
  of_ : Int
abbrev aggOc (o : Oc) : Value := .agg #[.int .i64 o.id, .int .i64 o.tm, .slice o.A o.n o.c, .int .i64 o.of_]
def encOc (o : Oc) : List Value := [.int .i64 o.id, .int .i64 o.tm, .slice o.A o.n o.c, .int .i64 o.of_]
def cellsOc (l : List Oc) : List Value := l.flatMap encOc
theorem encOc_len (o : Oc) : (encOc o).length = 4 := rfl
def doE (acc : Int) (d : List Dt) (o : Oc) : Int := if o.of_ = 0 then postE acc d o.id o.tm o.ls else revE acc d o.of_ o.id o.tm
def doD (acc : Int) (d : List Dt) (o : Oc) : List Dt := if o.of_ = 0 then postD acc d o.id o.tm o.ls false else revD acc d o.of_ o.id o.tm
theorem Fine.doD {acc : Int} {d : List Dt} (h : Fine acc d) (o : Oc) : Fine acc (doD acc d o) := by
  unfold Go.Proofs.Ytoammbjnejdgpaa.doD; split
  · exact h.post
  · exact h.rev
theorem PostL.from_ {w w2 w' : World} {F R : Nat → Prop} {g : Nat} {acc x : Int} {d : List Dt} {e : Ending} (hb : Below w.heap.size w w2) (h : PostL w2 F R g acc x d e w') : PostL w F R g acc x d e w' := by
  obtain ⟨he, ho, F', R', h1, h2, h3⟩ := h
  have hs := hb.size
  exact ⟨he, (Only.of_new hb F).trans ho fun _ _ hk => hk, F', R', fun k hk => (h1 k hk).imp (fun e => e) (fun e => by omega), fun k hk => (h2 k hk).imp (fun e => e) (fun e => by omega), h3⟩
set_option maxHeartbeats 1000000 in
set_option maxRecDepth 10000 in
theorem do_any (F R : Nat → Prop) (g : Nat) (acc : Int) (d : List Dt) (o : Oc) (w : World) (h : LdF w F R g acc d) (hf : Fine acc d) (hr : Reads w w.heap.size 2 o.A o.n (cellsLn o.ls)) : Calls Try.prog 19 #[.pointer (some ⟨g, 0, none⟩), .agg #[.int .i64 o.id, .int .i64 o.tm, .slice o.A o.n o.c, .int .i64 o.of_]] w (PostL w F R g acc (doE acc d o) (doD acc d o)) := by
  obtain ⟨B0, hbx⟩ := box1 w 47 #[.int .i64 o.id, .int .i64 o.tm, .slice o.A o.n o.c, .int .i64 o.of_]
  have HB0 := Lib.hid B0; have HBX := Lib.hid hbx
  have HL := Lib.hid (h.below hbx); have HR := Lib.hid ((hr.below hbx).more hbx.size); have HF := Lib.hid hf
  have c0 := (B0.cell 0).trans rfl; have c1 := (B0.cell 1).trans rfl; have c2 := (B0.cell 2).trans rfl; have c3 := (B0.cell 3).trans rfl
  clear B0 hbx h hr hf
  by_cases h0 : o.of_ = 0
  · have HE : Hid (doE acc d o = postE acc d o.id o.tm o.ls) := Lib.hid (if_pos h0)
    have HD : Hid (postD acc d o.id o.tm o.ls false = doD acc d o) := Lib.hid (if_pos h0).symm
    have t0 : (o.of_ == 0) = true := by simp [h0]
    clear h0
    go_enter Try.func19, Try.ntmps19
    go_wp2_with fail
    refine (post_any F R g acc d _ o.id o.tm o.A o.n o.c o.ls _ _ HL.out HF.out HR.out HE.out.symm HD.out).mono ?_
    intro e w2 hp
    obtain rfl := hp.1
    have HP := Lib.hid (PostL.from_ HBX.out hp)
    clear hp
    go_wp2_with fail
    go_ret
    exact HP.out
  · have HE : Hid (doE acc d o = revE acc d o.of_ o.id o.tm) := Lib.hid (if_neg h0)
    have HD : Hid (revD acc d o.of_ o.id o.tm = doD acc d o) := Lib.hid (if_neg h0).symm
    have t0 : (o.of_ == 0) = false := by simp [h0]
    clear h0
    go_enter Try.func19, Try.ntmps19
    go_wp2_with fail
    refine (reverse_any F R g acc d _ o.of_ o.id o.tm _ _ HL.out HF.out HE.out.symm HD.out).mono ?_
    intro e w2 hp
    obtain rfl := hp.1
    have HP := Lib.hid (PostL.from_ HBX.out hp)
    clear hp
    go_wp2_with fail
    go_ret
    exact HP.out
end Go.Proofs.Ytoammbjnejdgpaa
