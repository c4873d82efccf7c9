/- What the claim stands on, part 1. -/
import Derived.WalkKit
import Derived.OwnWalk
import Derived.Deep.Quiet
import Derived.Deep.LoopGhost
import Derived.OrdersHeld
import Derived.Below
import Derived.Laws.AppendOwn
import Derived.Laws.MakeOwn
import Derived.Sort.Grow
import Derived.Laws.Slices
import Derived.Laws.StructEq
import Derived.ChangeKeysEq
import Derived.Lib.AppendZerosOnto
import Derived.Lib.Overlaps
import Derived.KernelRfl
import GoSem.ClaimJoined
import Derived.Lib.LaidTab
import Derived.Test.YtmgnagpgnoikfaaGreatDoorProg
import Derived.Shelf.Sort.Plain
import Derived.Shelf.Slices.CompactI
import Derived.Laws.Externs
set_option linter.unusedVariables false
set_option linter.unusedSimpArgs false
namespace Go.Ph
open Go.RowKit
theorem beq_ne {k t : Nat} (h : k ≠ t) : Nat.beq k t = false := by
  cases e : Nat.beq k t with
  | false => rfl
  | true => exact absurd (Nat.eq_of_beq_eq_true e) h
abbrev Env := List (Nat × Value)
def look : Env → Nat → Option Value
  | [], _ => none
  | (k, v) :: l, t => bif Nat.beq k t then some v else look l t
def ev (l : Env) : Operand → Option Value
  | .tmp t => look l t
  | .const v => some v
  | .global g => some (.pointer (some ⟨g, 0, none⟩))
  | .func f => some (.func (.func f) #[] #[])
structure Fr (sz : Nat) (l : Env) (a : Act) : Prop where
  size : a.tmps.size = sz
  defers : a.defers = []
  get : ∀ t v, look l t = some v → a.tmps.getD t undef = v
theorem Fr.ev {sz : Nat} {l : Env} {a : Act} (h : Fr sz l a) {x : Operand} {v : Value} (hx : Ph.ev l x = some v) : a.eval x = v := by
  cases x with
  | tmp t => exact h.get t v hx
  | const u => exact Option.some.inj hx
  | global g => exact Option.some.inj hx
  | func f => exact Option.some.inj hx
theorem look_cons (k : Nat) (v : Value) (l : Env) (t : Nat) : look ((k, v) :: l) t = if k = t then some v else look l t := by
  by_cases h : k = t
  · subst h; simp [look]
  have : Nat.beq k t = false := beq_ne h
  simp [look, this, h]
theorem Fr.put {sz : Nat} {l : Env} {a : Act} (h : Fr sz l a) {d : Nat} (hd : d < sz) (v : Value) : Fr sz ((d, v) :: l) (a.put (some d) v) := by
  refine ⟨by simp [Act.put, h.size], h.defers, fun t u hu => ?_⟩
  rw [look_cons] at hu
  by_cases e : d = t
  · subst e
    rw [if_pos rfl] at hu
    have := Option.some.inj hu
    subst this
    have hlt : d < a.tmps.size := by rw [h.size]; exact hd
    simp [Act.put, Array.getD, hlt]
  rw [if_neg e] at hu
  have := h.get t u hu
  simp only [Act.put]
  rw [← this]
  simp [Array.getD_eq_getD_getElem?, Array.getElem?_setIfInBounds_ne e]
inductive Sub (l : Env) : Env → Prop where
  | n : Sub l []
  | c {t : Nat} {v : Value} {l' : Env} (h : look l t = some v) (s : Sub l l') : Sub l ((t, v) :: l')
theorem Sub.spec {l l' : Env} (h : Sub l l') : ∀ t v, look l' t = some v → look l t = some v := by
  induction h with
  | n => intro t v h; simp [look] at h
  | c h s ih =>
    intro t v hv
    rw [look_cons] at hv
    split at hv
    · rename_i e; subst e; rw [← hv]; exact h
    exact ih t v hv
theorem Fr.sub {sz : Nat} {l l' : Env} {a : Act} (h : Fr sz l a) (s : Sub l l') : Fr sz l' a :=
  ⟨h.size, h.defers, fun t v hv => h.get t v (s.spec t v hv)⟩
abbrev HM := Nat → Option Obj
abbrev OL := List (Nat × Obj)
structure Fits (B : World) (H : HM) (O : OL) (w : World) : Prop where
  os : w.os = B.os
  tape : w.tape = B.tape
  out : w.output = B.output
  bsz : B.heap.size ≤ w.heap.size
  base : ∀ b o, B.heap[b]? = some o → H b = some o
  imm : ∀ b o, H b = some o → w.heap[b]? = some o
  own : ∀ b o, (b, o) ∈ O → w.heap[b]? = some o ∧ H b = none
  nd : (O.map (·.1)).Nodup
theorem Fits.start (B : World) : Fits B (fun b => B.heap[b]?) [] B :=
  ⟨rfl, rfl, rfl, Nat.le_refl _, fun _ _ h => h, fun _ _ h => h, fun _ _ h => by simp at h, by simp⟩
theorem Fits.below {B : World} {H : HM} {O : OL} {w : World} (h : Fits B H O w) : Below B.heap.size B w := by
  refine ⟨h.os, h.tape, h.out, h.bsz, fun k hk => ?_⟩
  have : B.heap[k]? = some B.heap[k] := Array.getElem?_eq_getElem hk
  rw [this]
  exact h.imm _ _ (h.base _ _ this)
structure Has (H : HM) (O : OL) (w : World) : Prop where
  imm : ∀ b o, H b = some o → w.heap[b]? = some o
  own : ∀ b o, (b, o) ∈ O → w.heap[b]? = some o
theorem Fits.has {B : World} {H : HM} {O : OL} {w : World} (h : Fits B H O w) : Has H O w := ⟨h.imm, fun b o hm => (h.own b o hm).1⟩
theorem Fits.drew {B : World} {H : HM} {O : OL} {w : World} (h : Fits B H O w) : Fits B H O { w with drawn := w.drawn + 1 } := ⟨h.os, h.tape, h.out, h.bsz, h.base, h.imm, h.own, h.nd⟩
theorem Fits.pick {B : World} {H : HM} {O O' : OL} {w : World} (h : Fits B H O w) (hs : ∀ p ∈ O', p ∈ O) (hn : (O'.map (·.1)).Nodup) : Fits B H O' w :=
  ⟨h.os, h.tape, h.out, h.bsz, h.base, h.imm, fun b o hm => h.own b o (hs _ hm), hn⟩
theorem Fits.drop {B : World} {H : HM} {O : OL} {w : World} (h : Fits B H O w) (n : Nat) : Fits B H (O.drop n) w :=
  h.pick (fun _ hp => List.mem_of_mem_drop hp) (by
    have := h.nd
    rw [List.map_drop]
    exact List.Nodup.sublist (List.drop_sublist _ _) this)
theorem Fits.perm {B : World} {H : HM} {O O' : OL} {w : World} (h : Fits B H O w) (hp : O.Perm O') : Fits B H O' w :=
  h.pick (fun p hm => hp.mem_iff.2 hm) ((hp.map _).nodup_iff.1 h.nd)
theorem Fits.alloc {B : World} {H : HM} {O : OL} {w : World} (h : Fits B H O w) (o : Obj) : Fits B H ((w.heap.size, o) :: O) { w with heap := w.heap.push o } := by
  have old : ∀ b x, w.heap[b]? = some x → (w.heap.push o)[b]? = some x := fun b x hx => by
    obtain ⟨hlt, _⟩ := Array.getElem?_eq_some_iff.1 hx
    rw [Array.getElem?_push_lt hlt]; exact (Array.getElem?_eq_getElem hlt) ▸ hx
  refine ⟨h.os, h.tape, h.out, ?_, h.base, fun b x hx => old b x (h.imm b x hx), fun b x hm => ?_, ?_⟩
  · simp; have := h.bsz; omega
  · rcases List.mem_cons.1 hm with e | hm
    · injection e with e1 e2
      subst e1; subst e2
      refine ⟨by simp, ?_⟩
      cases hb : H w.heap.size with
      | none => rfl
      | some y =>
        obtain ⟨hlt, _⟩ := Array.getElem?_eq_some_iff.1 (h.imm _ _ hb)
        omega
    exact ⟨old b x (h.own b x hm).1, (h.own b x hm).2⟩
  simp only [List.map_cons, List.nodup_cons]
  refine ⟨fun hm => ?_, h.nd⟩
  obtain ⟨⟨b, x⟩, hm, e⟩ := List.mem_map.1 hm
  simp only at e
  subst e
  obtain ⟨hlt, _⟩ := Array.getElem?_eq_some_iff.1 (h.own _ _ hm).1
  omega
theorem Fits.turn {B : World} {H : HM} {O1 O2 : OL} {b : Nat} {o : Obj} {w : World} (h : Fits B H (O1 ++ (b, o) :: O2) w) (o' : Obj) :
    Fits B H (O1 ++ (b, o') :: O2) { w with heap := w.heap.setIfInBounds b o' } := by
  have hb := h.own b o (by simp)
  have hlt : b < w.heap.size := (Array.getElem?_eq_some_iff.1 hb.1).1
  have hnd := h.nd
  simp only [List.map_append, List.map_cons] at hnd
  have hne : ∀ c x, (c, x) ∈ O1 ++ O2 → c ≠ b := by
    intro c x hm e
    subst e
    rw [List.nodup_append] at hnd
    obtain ⟨_, h2, h3⟩ := hnd
    rcases List.mem_append.1 hm with hm | hm
    · exact h3 c (List.mem_map.2 ⟨_, hm, rfl⟩) c (by simp) rfl
    exact (List.nodup_cons.1 h2).1 (List.mem_map.2 ⟨_, hm, rfl⟩)
  refine ⟨h.os, h.tape, h.out, by simpa using h.bsz, h.base, fun c x hx => ?_, fun c x hm => ?_, by simpa using h.nd⟩
  · have : c ≠ b := fun e => by subst e; rw [hb.2] at hx; cases hx
    simp [Array.getElem?_setIfInBounds_ne (Ne.symm this), h.imm c x hx]
  have hm' : (c, x) = (b, o') ∨ (c, x) ∈ O1 ++ O2 := by
    rcases List.mem_append.1 hm with hm | hm
    · exact .inr (List.mem_append.2 (.inl hm))
    rcases List.mem_cons.1 hm with hm | hm
    · exact .inl hm
    exact .inr (List.mem_append.2 (.inr hm))
  rcases hm' with e | hm'
  · injection e with e1 e2
    subst e1; subst e2
    exact ⟨by simp [hlt], hb.2⟩
  have hc := h.own c x (by
    rcases List.mem_append.1 hm' with z | z
    · exact List.mem_append.2 (.inl z)
    exact List.mem_append.2 (.inr (List.mem_cons_of_mem _ z)))
  refine ⟨?_, hc.2⟩
  simp [Array.getElem?_setIfInBounds_ne (Ne.symm (hne c x hm')), hc.1]
inductive Upd : OL → Nat → Obj → Obj → OL → Prop where
  | z {b o o' O} : Upd ((b, o) :: O) b o o' ((b, o') :: O)
  | s {p b o o' O O'} (h : Upd O b o o' O') : Upd (p :: O) b o o' (p :: O')
  | a {S b o o' O O'} (h : Upd O b o o' O') : Upd (S ++ O) b o o' (S ++ O')
theorem Upd.split {O : OL} {b : Nat} {o o' : Obj} {O' : OL} (h : Upd O b o o' O') : ∃ O1 O2, O = O1 ++ (b, o) :: O2 ∧ O' = O1 ++ (b, o') :: O2 := by
  induction h with
  | z => exact ⟨[], _, rfl, rfl⟩
  | s _ ih => obtain ⟨O1, O2, rfl, rfl⟩ := ih; exact ⟨_ :: O1, O2, rfl, rfl⟩
  | @a S _ _ _ _ _ _ ih => obtain ⟨O1, O2, rfl, rfl⟩ := ih; exact ⟨S ++ O1, O2, by simp, by simp⟩
theorem Upd.mem {O : OL} {b : Nat} {o o' : Obj} {O' : OL} (h : Upd O b o o' O') : (b, o) ∈ O := by
  obtain ⟨O1, O2, rfl, rfl⟩ := h.split; simp
inductive In : OL → Nat → Obj → Prop where
  | z {b o O} : In ((b, o) :: O) b o
  | s {p b o O} (h : In O b o) : In (p :: O) b o
  | a {S b o O} (h : In O b o) : In (S ++ O) b o
  | m {S b o O} (h : (b, o) ∈ S) : In (S ++ O) b o
theorem In.mem {O : OL} {b : Nat} {o : Obj} (h : In O b o) : (b, o) ∈ O := by
  induction h with
  | z => simp
  | s _ ih => exact List.mem_cons_of_mem _ ih
  | a _ ih => exact List.mem_append.2 (.inr ih)
  | m h => exact List.mem_append.2 (.inl h)
def Ext (H H' : HM) : Prop := ∀ b o, H b = some o → H' b = some o
theorem Ext.refl (H : HM) : Ext H H := fun _ _ h => h
theorem Ext.trans {H1 H2 H3 : HM} (h : Ext H1 H2) (k : Ext H2 H3) : Ext H1 H3 := fun b o x => k b o (h b o x)
def HM.add (H : HM) (S : OL) : HM := fun b => match H b with | some o => some o | none => (S.find? (fun p => Nat.beq p.1 b)).map (·.2)
theorem Ext.add (H : HM) (S : OL) : Ext H (H.add S) := fun b o h => by simp [HM.add, h]
theorem HM.add_mem {H : HM} {S : OL} {b : Nat} {o : Obj} (hn : (S.map (·.1)).Nodup) (hH : H b = none) (hm : (b, o) ∈ S) : H.add S b = some o := by
  simp only [HM.add, hH]
  induction S with
  | nil => simp at hm
  | cons p S ih =>
    obtain ⟨hp, hn⟩ := List.nodup_cons.1 hn
    rcases List.mem_cons.1 hm with e | hm
    · subst e; simp
    have : p.1 ≠ b := fun e => hp (List.mem_map.2 ⟨(b, o), hm, e.symm⟩)
    have h2 : Nat.beq p.1 b = false := beq_ne this
    simp only [List.find?_cons, h2]
    exact ih hn hm
theorem HM.add_inv {H : HM} {S : OL} {b : Nat} {o : Obj} (h : H.add S b = some o) : H b = some o ∨ (H b = none ∧ (b, o) ∈ S) := by
  simp only [HM.add] at h
  cases hH : H b with
  | some x => rw [hH] at h; exact .inl h
  | none =>
    rw [hH] at h
    simp only [Option.map_eq_some_iff] at h
    obtain ⟨p, hf, rfl⟩ := h
    have h1 := List.find?_some hf
    have h2 := List.mem_of_find?_eq_some hf
    have : p.1 = b := by simpa using h1
    subst this
    exact .inr ⟨rfl, h2⟩
theorem Fits.freeze {B : World} {H : HM} {S O : OL} {w : World} (h : Fits B H (S ++ O) w) : Fits B (H.add S) O w := by
  have hnd := h.nd
  rw [List.map_append, List.nodup_append] at hnd
  refine ⟨h.os, h.tape, h.out, h.bsz, fun b o x => Ext.add H S b o (h.base b o x), fun b o x => ?_, fun b o hm => ⟨(h.own b o (by simp [hm])).1, ?_⟩, hnd.2.1⟩
  · rcases HM.add_inv x with x | ⟨_, x⟩
    · exact h.imm b o x
    exact (h.own b o (by simp [x])).1
  cases hb : H.add S b with
  | none => rfl
  | some y =>
    rcases HM.add_inv hb with x | ⟨_, x⟩
    · rw [(h.own b o (by simp [hm])).2] at x; cases x
    exact absurd rfl (hnd.2.2 b (List.mem_map.2 ⟨_, x, rfl⟩) b (List.mem_map.2 ⟨_, hm, rfl⟩))
theorem Fits.back {B : World} {H : HM} {S O O' : OL} {w w' : World} (h : Fits B H (S ++ O) w) (h' : Fits B (H.add S) O' w') : Fits B H (S ++ O') w' := by
  have hnd := h.nd
  rw [List.map_append, List.nodup_append] at hnd
  refine ⟨h'.os, h'.tape, h'.out, h'.bsz, h.base, fun b o x => h'.imm b o (Ext.add H S b o x), fun b o hm => ?_, ?_⟩
  · rcases List.mem_append.1 hm with hm | hm
    · exact ⟨h'.imm b o (HM.add_mem hnd.1 (h.own b o (by simp [hm])).2 hm), (h.own b o (by simp [hm])).2⟩
    refine ⟨(h'.own b o hm).1, ?_⟩
    have := (h'.own b o hm).2
    cases hb : H b with
    | none => rfl
    | some y => rw [Ext.add H S b y hb] at this; cases this
  rw [List.map_append, List.nodup_append]
  refine ⟨hnd.1, h'.nd, fun x hx y hy e => ?_⟩
  subst e
  obtain ⟨⟨b, o⟩, hm, rfl⟩ := List.mem_map.1 hx
  obtain ⟨⟨c, u⟩, hm', e⟩ := List.mem_map.1 hy
  simp only at e
  subst e
  have h1 := (h'.own _ _ hm').2
  rw [HM.add_mem hnd.1 (h.own _ _ (by simp [hm] : (_, o) ∈ S ++ O)).2 hm] at h1
  cases h1
abbrev EQ := Exit → Env → HM → OL → Prop
def Lift (sz : Nat) (B : World) (Q : EQ) : Exit → Act → World → Prop := fun e a w => ∃ l H O, Fr sz l a ∧ Fits B H O w ∧ Q e l H O
def ExC (P : Program) (sz : Nat) (B : World) (c : Code) (Q : EQ) (l : Env) (H : HM) (O : OL) : Prop :=
  ∀ a w, Fr sz l a → Fits B H O w → c.wp P (Lift sz B Q) a w
def dstOk (sz : Nat) (o : Oper) : Bool := match o.dst with | some d => Nat.blt d sz | none => true
def ExO (P : Program) (sz : Nat) (B : World) (ops : Array Oper) (Q : EQ) (rest : List Oper) (l : Env) (H : HM) (O : OL) : Prop :=
  rest.all (dstOk sz) = true → ∀ a w, Fr sz l a → Fits B H O w → wpList P ops (Lift sz B Q) rest a w
def thenQ (next : Env → HM → OL → Prop) (Q : EQ) : EQ
  | .normal, l, H, O => next l H O
  | e, l, H, O => Q e l H O
def blockQ (id : Nat) (Q : EQ) : EQ
  | .exit i, l, H, O => bif Nat.beq i id then Q .normal l H O else Q (.exit i) l H O
  | e, l, H, O => Q e l H O
def CallsM (P : Program) (f : FuncId) (args : Array Value) (B : World) (H : HM) (O : OL) (R : Value → HM → OL → Prop) : Prop :=
  ∀ w, Fits B H O w → Calls P f args w fun e w' => ∃ v H' O', e = .returned v ∧ Fits B H' O' w' ∧ R v H' O'
section rules
variable {P : Program} {sz : Nat} {B : World} {Q : EQ} {l : Env} {H : HM} {O : OL} {ops : Array Oper} {rest : List Oper}
theorem ExC.mono {c : Code} {Q' : EQ} (h : ExC P sz B c Q l H O) (hq : ∀ e l H O, Q e l H O → Q' e l H O) : ExC P sz B c Q' l H O :=
  fun a w ha hw => wp_mono (h a w ha hw) fun _ _ _ ⟨l, H, O, h1, h2, h3⟩ => ⟨l, H, O, h1, h2, hq _ _ _ _ h3⟩
theorem x_skip (h : Q .normal l H O) : ExC P sz B .skip Q l H O := fun a w ha hw => wp_skip ⟨l, H, O, ha, hw, h⟩
theorem x_ret (h : Q .ret l H O) : ExC P sz B .ret Q l H O := fun a w ha hw => wp_ret ⟨l, H, O, ha, hw, h⟩
theorem x_exit {id : Nat} (h : Q (.exit id) l H O) : ExC P sz B (.exit id) Q l H O := fun a w ha hw => wp_exit ⟨l, H, O, ha, hw, h⟩
theorem x_seq {x y : Code} (h : ExC P sz B x (thenQ (ExC P sz B y Q) Q) l H O) : ExC P sz B (.seq x y) Q l H O := fun a w ha hw =>
  wp_seq (wp_mono (h a w ha hw) fun e a' w' ⟨l', H', O', h1, h2, h3⟩ => by
    cases e with
    | normal => exact h3 a' w' h1 h2
    | _ => exact ⟨l', H', O', h1, h2, h3⟩)
theorem x_block {id : Nat} {c : Code} (h : ExC P sz B c (blockQ id Q) l H O) : ExC P sz B (.block id c) Q l H O := fun a w ha hw =>
  wp_block (wp_mono (h a w ha hw) fun e a' w' ⟨l', H', O', h1, h2, h3⟩ => by
    cases e with
    | exit i =>
      simp only [Exit.inBlock]
      simp only [blockQ] at h3
      by_cases hi : i = id
      · subst hi; simp at h3; rw [if_pos rfl]; exact ⟨l', H', O', h1, h2, h3⟩
      have : Nat.beq i id = false := beq_ne hi
      rw [this] at h3; rw [if_neg hi]; exact ⟨l', H', O', h1, h2, h3⟩
    | _ => exact ⟨l', H', O', h1, h2, h3⟩)
theorem x_cond {c : Operand} {x y : Code} {b : Bool} (hc : ev l c = some (.bool b)) (ht : b = true → ExC P sz B x Q l H O) (hf : b = false → ExC P sz B y Q l H O) :
    ExC P sz B (.cond c x y) Q l H O := fun a w ha hw => wp_cond_split (ha.ev hc) (fun e => ht e a w ha hw) (fun e => hf e a w ha hw)
theorem x_condT {c : Operand} {x y : Code} (hc : ev l c = some (.bool true)) (ht : ExC P sz B x Q l H O) : ExC P sz B (.cond c x y) Q l H O := fun a w ha hw => wp_cond_true (ha.ev hc) (ht a w ha hw)
theorem x_condF {c : Operand} {x y : Code} (hc : ev l c = some (.bool false)) (hf : ExC P sz B y Q l H O) : ExC P sz B (.cond c x y) Q l H O := fun a w ha hw => wp_cond_false (ha.ev hc) (hf a w ha hw)
theorem x_region {id : Nat} {os : List Oper} (hd : os.all (dstOk sz) = true) (h : ExO P sz B os.toArray Q os l H O) : ExC P sz B (.region id os.toArray false) Q l H O :=
  fun a w ha hw => wp_region_lit (h hd a w ha hw)
theorem o_nil (h : Q .normal l H O) : ExO P sz B ops Q [] l H O := fun _ a w ha hw => wpList_nil ⟨l, H, O, ha, hw, h⟩
theorem x_loopf {σ : Type} {c : Code} (L : σ → Env) (M : σ → OL) (I : σ → Prop) (μ : σ → Nat) (s0 : σ) (hI : I s0) (hl : Sub l (L s0)) (hO : O = M s0)
    (round : ∀ s, I s → ExC P sz B c (thenQ (fun l' H' O' => ∃ s' n, H' = H ∧ Sub l' (L s') ∧ O'.drop n = M s' ∧ I s' ∧ μ s' < μ s) Q) (L s) H (M s)) : ExC P sz B (.loop c) Q l H O := by
  intro a w ha hw
  subst hO
  refine wp_loop_ghost (fun n a w => ∃ s, μ s = n ∧ I s ∧ Fr sz (L s) a ∧ Fits B H (M s) w) (μ s0) ⟨s0, rfl, hI, ha.sub hl, hw⟩ ?_
  rintro n a w ⟨s, rfl, hs, ha, hw⟩
  refine wp_mono (round s hs a w ha hw) ?_
  rintro e a' w' ⟨l', H', O', h1, h2, h3⟩
  cases e with
  | normal =>
    obtain ⟨s', k, rfl, hs1, hs2, hs3, hs4⟩ := h3
    exact ⟨μ s', hs4, s', rfl, hs3, h1.sub hs1, hs2 ▸ h2.drop k⟩
  | _ => exact ⟨l', H', O', h1, h2, h3⟩
end rules
def RetV (P : Program) (fn : Func) (l : Env) (H : HM) (O : OL) (v : Value) : Prop := ∀ a w sz, Fr sz l a → Has H O w → (results fn a.tmps).run P w = .ok v w
def FnPost (P : Program) (fn : Func) (R : Value → HM → OL → Prop) : EQ := fun e l H O => (e = .ret ∨ e = .normal) ∧ ∃ v n, RetV P fn l H O v ∧ R v H (O.drop n)
theorem callsM {P : Program} {f : FuncId} {fn : Func} {c : Code} {args : Array Value} {B : World} {H : HM} {O : OL} {R : Value → HM → OL → Prop} {l : Env}
    (hf : P.funcs[f]? = some fn) (hb : fn.body = some c) (hl : ∀ t v, look l t = some v → (args ++ Array.replicate (fn.ntmps - args.size) undef).getD t undef = v) (hz : args.size ≤ fn.ntmps)
    (h : ExC P fn.ntmps B c (FnPost P fn R) l H O) : CallsM P f args B H O R := by
  intro w hw
  refine calls_of_wp hf hb (wp_mono (h _ w ⟨by simp; omega, rfl, hl⟩ hw) ?_)
  rintro e a w' ⟨l', H', O', h1, h2, he, v, n, hv, hR⟩
  have : a.defers = [] ∧ ∃ v, (results fn a.tmps).run P w' = .ok v w' ∧ ∃ v' H' O', Ending.returned v = .returned v' ∧ Fits B H' O' w' ∧ R v' H' O' :=
    ⟨h1.defers, v, hv a w' _ h1 h2.has, v, H', _, rfl, h2.drop n, hR⟩
  rcases he with rfl | rfl <;> exact this
theorem CallsM.mono {P : Program} {f : FuncId} {args : Array Value} {B : World} {H : HM} {O : OL} {R R' : Value → HM → OL → Prop} (h : CallsM P f args B H O R)
    (hr : ∀ v H O, R v H O → R' v H O) : CallsM P f args B H O R' := fun w hw => (h w hw).mono fun _ _ ⟨v, H', O', h1, h2, h3⟩ => ⟨v, H', O', h1, h2, hr _ _ _ h3⟩
theorem ret1 {P : Program} {fn : Func} {l : Env} {H : HM} {O : OL} {t : Nat} {v : Value} (h : fn.results = #[.tmp t]) (hv : look l t = some v) : RetV P fn l H O v :=
  fun a w sz ha _ => by rw [results_tmp h, ha.get t v hv]
theorem ret2 {P : Program} {fn : Func} {l : Env} {H : HM} {O : OL} {t t2 : Nat} {v v2 : Value} (h : fn.results = #[.tmp t, .tmp t2]) (hv : look l t = some v) (hv2 : look l t2 = some v2) : RetV P fn l H O (.tuple #[v, v2]) :=
  fun a w sz ha _ => by rw [results_tmp2 h, ha.get t v hv, ha.get t2 v2 hv2]
theorem ret0 {P : Program} {fn : Func} {l : Env} {H : HM} {O : OL} (h : fn.results = #[]) : RetV P fn l H O (.tuple #[]) := fun a w sz ha _ => by rw [results_none h]
theorem x_fin {P : Program} {fn : Func} {R : Value → HM → OL → Prop} {l : Env} {H : HM} {O : OL} {v : Value} (n : Nat) (hv : RetV P fn l H O v) (hR : R v H (O.drop n)) : FnPost P fn R .ret l H O := ⟨.inl rfl, v, n, hv, hR⟩
theorem x_finN {P : Program} {fn : Func} {R : Value → HM → OL → Prop} {l : Env} {H : HM} {O : OL} {v : Value} (n : Nat) (hv : RetV P fn l H O v) (hR : R v H (O.drop n)) : FnPost P fn R .normal l H O := ⟨.inr rfl, v, n, hv, hR⟩
end Go.Ph
set_option linter.unusedVariables false
set_option linter.unusedSimpArgs false
namespace Go.Ph
open Go.RowKit
def Yl (P : Program) (op : Op) (ty : TypeId) (l : Env) (H : HM) (O : OL) (v : Value) : Prop :=
  ∀ (ρ : Operand → Value) w d pos aft g, (∀ x v, ev l x = some v → ρ x = v) → Has H O w → (execOp ρ ⟨d, op, ty, pos, aft, g⟩).run P w = .ok (.value v) w
section
variable {P : Program} {sz : Nat} {B : World} {Q : EQ} {l : Env} {H : HM} {O : OL} {ops : Array Oper} {rest : List Oper} {ty : TypeId} {pos : String} {aft : Array Edge} {d : Nat}
theorem yielded_of {a : Act} (ha : Fr sz l a) {j t : Nat} {b : Bool} (hj : (ops[j]?).bind (·.dst) = some t) (hb : look l t = some (.bool b)) : yielded ops a.tmps j = some b := by
  have hv := ha.get t _ hb
  simp only [yielded, hj, Option.bind_some]
  rw [Array.getD_eq_getD_getElem?] at hv
  cases hx : a.tmps[t]? with
  | none => rw [hx] at hv; simp [undef] at hv
  | some y => rw [hx] at hv; simp at hv; subst hv; rfl
theorem dst_lt {o : Oper} {rest : List Oper} {d : Nat} (hd : (o :: rest).all (dstOk sz) = true) (e : o.dst = some d) : d < sz ∧ rest.all (dstOk sz) = true := by
  simp only [List.all_cons, Bool.and_eq_true] at hd
  refine ⟨?_, hd.2⟩
  have := hd.1
  simp only [dstOk, e, Nat.blt_eq] at this
  exact this
theorem o_y {op : Op} {v : Value} (h : Yl P op ty l H O v) (k : ExO P sz B ops Q rest ((d, v) :: l) H O) : ExO P sz B ops Q (⟨some d, op, ty, pos, aft, none⟩ :: rest) l H O := by
  intro hd a w ha hw
  obtain ⟨hlt, hr⟩ := dst_lt hd rfl
  refine wpList_plain rfl fun K hK => ?_
  simp only [Oper.wp, h a.eval w (some d) pos aft none (fun _ _ => ha.ev) hw.has, Oper.upon]
  exact hK _ _ (k hr _ _ (ha.put hlt v) hw)
theorem o_gy {op : Op} {v : Value} {j : Nat} (t : Nat) {b : Bool} (hj : (ops[j]?).bind (·.dst) = some t) (hb : look l t = some (.bool b)) (h : Yl P op ty l H O v) (k : ExO P sz B ops Q rest ((d, v) :: l) H O) :
    ExO P sz B ops Q (⟨some d, op, ty, pos, aft, some (j, b)⟩ :: rest) l H O := by
  intro hd a w ha hw
  obtain ⟨hlt, hr⟩ := dst_lt hd rfl
  unfold wpList
  rw [if_pos (by simp [Region.wanted, yielded_of ha hj hb])]
  refine .inl ?_
  simp only [Oper.wp, h a.eval w (some d) pos aft _ (fun _ _ => ha.ev) hw.has, Oper.upon]
  exact k hr _ _ (ha.put hlt v) hw
theorem o_gn {op : Op} {j : Nat} (t : Nat) {b c : Bool} (hj : (ops[j]?).bind (·.dst) = some t) (hb : look l t = some (.bool b)) (hne : b = !c) (k : ExO P sz B ops Q rest ((d, undef) :: l) H O) :
    ExO P sz B ops Q (⟨some d, op, ty, pos, aft, some (j, c)⟩ :: rest) l H O := by
  intro hd a w ha hw
  obtain ⟨hlt, hr⟩ := dst_lt hd rfl
  unfold wpList
  rw [if_neg (by subst hne; cases c <;> simp [Region.wanted, yielded_of ha hj hb])]
  exact k hr _ _ (ha.put hlt undef) hw
theorem map_ev {ρ : Operand → Value} (ha : ∀ x v, ev l x = some v → ρ x = v) : ∀ {xs : List Operand} {vs : List Value}, xs.mapM (ev l) = some vs → xs.map ρ = vs
  | [], vs, h => by simp at h; subst h; rfl
  | x :: xs, vs, h => by
    simp only [List.mapM_cons, bind, Option.bind_eq_some_iff, pure] at h
    obtain ⟨v, hv, us, hu, e⟩ := h
    have := Option.some.inj e
    subst this
    rw [List.map_cons, ha x v hv, map_ev ha hu]
theorem y_move {x : Operand} {v : Value} (h : ev l x = some v) : Yl P (.move x) ty l H O v := fun ρ w d pos aft g ha hw => by
  simp only [execOp, ha _ _ h]; rfl
theorem y_assign {x : Operand} {v : Value} (h : ev l x = some v) : Yl P (.assign x) ty l H O v := fun ρ w d pos aft g ha hw => by
  simp only [execOp, ha _ _ h]; rfl
theorem y_pick {c x y : Operand} {b : Bool} {v : Value} (hc : ev l c = some (.bool b)) (h : (bif b then ev l x else ev l y) = some v) : Yl P (.pick c x y) ty l H O v := fun ρ w d pos aft g ha hw => by
  cases b
  · simp only [execOp, ha _ _ hc, ha _ _ (show ev l y = some v from h)]; rfl
  simp only [execOp, ha _ _ hc, ha _ _ (show ev l x = some v from h)]; rfl
theorem y_not {x : Operand} {t : TypeId} {b : Bool} (h : ev l x = some (.bool b)) : Yl P (.unOp .not t x) ty l H O (.bool (!b)) := fun ρ w d pos aft g ha hw => by
  simp only [execOp, ha _ _ h]; rfl
theorem y_extract {x : Operand} {i : Nat} {vs : Array Value} {v : Value} (h : ev l x = some (.tuple vs)) (hv : vs[i]? = some v) : Yl P (.extract x i) ty l H O v := fun ρ w d pos aft g ha hw => by
  simp only [execOp, ha _ _ h, Instr.extract, hv]; rfl
theorem y_func {f : Fn} {xs ys : List Operand} {vs us : List Value} (h : xs.mapM (ev l) = some vs) (h' : ys.mapM (ev l) = some us) : Yl P (.makeFunc f xs.toArray ys.toArray) ty l H O (.func f vs.toArray us.toArray) := fun ρ w d pos aft g ha hw => by
  have e1 := map_ev ha h
  have e2 := map_ev ha h'
  simp only [execOp, List.map_toArray, e1, e2]; rfl
section ints
variable {op : BinOp} {t t' : TypeId} {x y : Operand} {k : IntKind} {m n : Int}
theorem y_add (hx : ev l x = some (.int k m)) (hy : ev l y = some (.int k n)) : Yl P (.binOp .add t x y t') ty l H O (.int k (k.wrap (m + n))) := fun ρ w d pos aft g ha hw => by
  simp only [execOp, ha _ _ hx, ha _ _ hy, binOp, ne_eq, not_true_eq_false, if_false]; rfl
theorem y_sub (hx : ev l x = some (.int k m)) (hy : ev l y = some (.int k n)) : Yl P (.binOp .sub t x y t') ty l H O (.int k (k.wrap (m - n))) := fun ρ w d pos aft g ha hw => by
  simp only [execOp, ha _ _ hx, ha _ _ hy, binOp, ne_eq, not_true_eq_false, if_false]; rfl
theorem y_mul (hx : ev l x = some (.int k m)) (hy : ev l y = some (.int k n)) : Yl P (.binOp .mul t x y t') ty l H O (.int k (k.wrap (m * n))) := fun ρ w d pos aft g ha hw => by
  simp only [execOp, ha _ _ hx, ha _ _ hy, binOp, ne_eq, not_true_eq_false, if_false]; rfl
theorem y_quo (hx : ev l x = some (.int k m)) (hy : ev l y = some (.int k n)) (h0 : n ≠ 0) : Yl P (.binOp .quo t x y t') ty l H O (.int k (k.wrap (m.tdiv n))) := fun ρ w d pos aft g ha hw => by
  simp only [execOp, ha _ _ hx, ha _ _ hy, binOp, Op.intDiv, ne_eq, not_true_eq_false, if_false, h0]; rfl
theorem y_rem (hx : ev l x = some (.int k m)) (hy : ev l y = some (.int k n)) (h0 : n ≠ 0) : Yl P (.binOp .rem t x y t') ty l H O (.int k (m.tmod n)) := fun ρ w d pos aft g ha hw => by
  simp only [execOp, ha _ _ hx, ha _ _ hy, binOp, Op.intDiv, ne_eq, not_true_eq_false, if_false, h0]; rfl
theorem y_eql (hx : ev l x = some (.int k m)) (hy : ev l y = some (.int k n)) : Yl P (.binOp .eql t x y t') ty l H O (.bool (decide (m = n))) := fun ρ w d pos aft g ha hw => by
  simp only [execOp, ha _ _ hx, ha _ _ hy, binOp, ne_eq, not_true_eq_false, if_false]; rfl
theorem y_neq (hx : ev l x = some (.int k m)) (hy : ev l y = some (.int k n)) : Yl P (.binOp .neq t x y t') ty l H O (.bool (!decide (m = n))) := fun ρ w d pos aft g ha hw => by
  simp only [execOp, ha _ _ hx, ha _ _ hy, binOp, ne_eq, not_true_eq_false, if_false]; rfl
theorem y_lss (hx : ev l x = some (.int k m)) (hy : ev l y = some (.int k n)) : Yl P (.binOp .lss t x y t') ty l H O (.bool (decide (m < n))) := fun ρ w d pos aft g ha hw => by
  simp only [execOp, ha _ _ hx, ha _ _ hy, binOp, ne_eq, not_true_eq_false, if_false]; rfl
theorem y_leq (hx : ev l x = some (.int k m)) (hy : ev l y = some (.int k n)) : Yl P (.binOp .leq t x y t') ty l H O (.bool (decide (m ≤ n))) := fun ρ w d pos aft g ha hw => by
  simp only [execOp, ha _ _ hx, ha _ _ hy, binOp, ne_eq, not_true_eq_false, if_false]; rfl
theorem y_gtr (hx : ev l x = some (.int k m)) (hy : ev l y = some (.int k n)) : Yl P (.binOp .gtr t x y t') ty l H O (.bool (decide (n < m))) := fun ρ w d pos aft g ha hw => by
  simp only [execOp, ha _ _ hx, ha _ _ hy, binOp, ne_eq, not_true_eq_false, if_false]; rfl
theorem y_geq (hx : ev l x = some (.int k m)) (hy : ev l y = some (.int k n)) : Yl P (.binOp .geq t x y t') ty l H O (.bool (decide (n ≤ m))) := fun ρ w d pos aft g ha hw => by
  simp only [execOp, ha _ _ hx, ha _ _ hy, binOp, ne_eq, not_true_eq_false, if_false]; rfl
end ints
theorem run_underlying {P : Program} {t : TypeId} {D : TypeDesc} (h : P.underlying t = some D) (w : World) : (underlying t).run P w = .ok D w := by
  show (Sem.bind program _).run P w = _
  simp only [program, Sem.bind, Sem.run, h]
  rfl
theorem run_bind {α β : Type} {P : Program} {e : Sem α} {f : α → Sem β} {w w' : World} {x : α} (h : e.run P w = .ok x w') : (e >>= f).run P w = (f x).run P w' := by
  simp [h, go_sem]
theorem run_beq {P : Program} {t : TypeId} {b c : Bool} (hT : P.underlying t = some .bool) (w : World) : (Op.equal t (.bool b) (.bool c)).run P w = .ok (b == c) w := by
  show (Op.equalIn (9999 + 1) t (.bool b) (.bool c)).run P w = _
  unfold Op.equalIn
  rw [run_bind (run_underlying hT w)]
  rfl
theorem y_beql {t t' : TypeId} {x y : Operand} {b c : Bool} (hT : P.underlying t = some .bool) (hx : ev l x = some (.bool b)) (hy : ev l y = some (.bool c)) : Yl P (.binOp .eql t x y t') ty l H O (.bool (b == c)) := fun ρ w d pos aft g ha hw => by
  simp only [execOp, ha _ _ hx, ha _ _ hy]
  show ((do let v ← (do let r ← Op.equal t (.bool b) (.bool c); pure (Value.bool r)); pure (Next.value v)) : Sem Next).run P w = _
  rw [run_bind (x := .bool (b == c)) (w' := w)]
  · rfl
  rw [run_bind (run_beq hT w)]; rfl
theorem y_bneq {t t' : TypeId} {x y : Operand} {b c : Bool} (hT : P.underlying t = some .bool) (hx : ev l x = some (.bool b)) (hy : ev l y = some (.bool c)) : Yl P (.binOp .neq t x y t') ty l H O (.bool (!(b == c))) := fun ρ w d pos aft g ha hw => by
  simp only [execOp, ha _ _ hx, ha _ _ hy]
  show ((do let v ← (do let r ← Op.equal t (.bool b) (.bool c); pure (Value.bool !r)); pure (Next.value v)) : Sem Next).run P w = _
  rw [run_bind (x := .bool (!(b == c))) (w' := w)]
  · rfl
  rw [run_bind (run_beq hT w)]; rfl
theorem wrap_id {z : Int} (h1 : -9223372036854775808 ≤ z) (h2 : z ≤ 9223372036854775807) : IntKind.i64.wrap z = z := by
  have : IntKind.i64.wrap z = (if z % 18446744073709551616 ≥ 9223372036854775808 then z % 18446744073709551616 - 18446744073709551616 else z % 18446744073709551616) := by
    simp [IntKind.wrap, IntKind.signed, IntKind.bits]
  rw [this]
  split <;> omega
section ints2
variable {t t' : TypeId} {x y : Operand} {m n : Int}
theorem y_addN (hx : ev l x = some (.int .i64 m)) (hy : ev l y = some (.int .i64 n)) (h1 : -9223372036854775808 ≤ m + n) (h2 : m + n ≤ 9223372036854775807) : Yl P (.binOp .add t x y t') ty l H O (.int .i64 (m + n)) := by
  have := y_add (P := P) (t := t) (t' := t') (ty := ty) (H := H) (O := O) hx hy
  rwa [wrap_id h1 h2] at this
theorem y_subN (hx : ev l x = some (.int .i64 m)) (hy : ev l y = some (.int .i64 n)) (h1 : -9223372036854775808 ≤ m - n) (h2 : m - n ≤ 9223372036854775807) : Yl P (.binOp .sub t x y t') ty l H O (.int .i64 (m - n)) := by
  have := y_sub (P := P) (t := t) (t' := t') (ty := ty) (H := H) (O := O) hx hy
  rwa [wrap_id h1 h2] at this
theorem y_mulN (hx : ev l x = some (.int .i64 m)) (hy : ev l y = some (.int .i64 n)) (h1 : -9223372036854775808 ≤ m * n) (h2 : m * n ≤ 9223372036854775807) : Yl P (.binOp .mul t x y t') ty l H O (.int .i64 (m * n)) := by
  have := y_mul (P := P) (t := t) (t' := t') (ty := ty) (H := H) (O := O) hx hy
  rwa [wrap_id h1 h2] at this
theorem y_quoN (hx : ev l x = some (.int .i64 m)) (hy : ev l y = some (.int .i64 n)) (h0 : 0 ≤ m) (h1 : 0 < n) (h2 : m ≤ 9223372036854775807) : Yl P (.binOp .quo t x y t') ty l H O (.int .i64 (m / n)) := by
  have := y_quo (P := P) (t := t) (t' := t') (ty := ty) (H := H) (O := O) hx hy (by omega)
  have e : m.tdiv n = m / n := Int.tdiv_eq_ediv_of_nonneg h0
  have hd : m / n ≤ m := Int.ediv_le_self n h0
  have hp : 0 ≤ m / n := Int.ediv_nonneg h0 (by omega)
  rwa [e, wrap_id (by omega) (by omega)] at this
theorem y_remN (hx : ev l x = some (.int .i64 m)) (hy : ev l y = some (.int .i64 n)) (h0 : 0 ≤ m) (h1 : 0 < n) : Yl P (.binOp .rem t x y t') ty l H O (.int .i64 (m % n)) := by
  have := y_rem (P := P) (t := t) (t' := t') (ty := ty) (H := H) (O := O) hx hy (by omega)
  rwa [Int.tmod_eq_emod_of_nonneg h0] at this
end ints2
end
structure TI (P : Program) (t : TypeId) (agg : Bool) (sz bytes : Nat) (z : Value) : Prop where
  info : (P.info? t).map (fun i => (i.zero, i.size, i.bytes)) = some (some z, sz, bytes)
  agg : (P.underlying t).map (fun d => match d with | .struct _ | .array _ _ => true | _ => false) = some agg
def Fld (P : Program) (s k off ft : Nat) : Prop := ∃ fs f, P.underlying s = some (.struct fs) ∧ fs[k]? = some f ∧ f.offset = off ∧ f.type = ft
def ofCells : Bool → List Value → Value
  | true, cs => .agg cs.toArray
  | false, [v] => v
  | false, _ => undef
end Go.Ph
set_option linter.unusedVariables false
set_option linter.unusedSimpArgs false
namespace Go.Ph
open Go.RowKit
def cl (cs : List Value) (T : TypeId) : Obj := .cells cs.toArray T (0, 0)
def ones (cs : List Value) : Bool := cs.all Value.oneCell'
def ptrAt (v : Value) (k : Nat) : Value := match v with | .slice (some a) _ _ => .pointer (some ⟨a.block, a.off + k, none⟩) | _ => .pointer none
def isSl (v : Value) : Prop := ∃ b o n c, v = .slice (some ⟨b, o, none⟩) n c
theorem add_pl (b o j : Nat) : (⟨b, o, none⟩ : Addr).add j = ⟨b, o + j, none⟩ := by unfold Addr.add; split <;> simp_all
def At (H : HM) (O : OL) (b o : Nat) (cs : List Value) : Prop := ∀ w, Has H O w → ∀ j u, cs[j]? = some u → w.cell? ⟨b, o + j, none⟩ = some u
theorem At.ofO {H : HM} {O : OL} {b o : Nat} {C cs : List Value} {T : TypeId} (h : In O b (cl C T)) (hc : ∀ j u, cs[j]? = some u → C[o + j]? = some u) : At H O b o cs := fun w hw j u hu => by
  have := hw.own _ _ h.mem
  simp [World.cell?, this, cl, hc j u hu]
theorem At.ofH {H : HM} {O : OL} {b o : Nat} {C : Array Value} {cs : List Value} {T : TypeId} {fr : Nat × Nat} (h : H b = some (.cells C T fr)) (hc : ∀ j u, cs[j]? = some u → C[o + j]? = some u) : At H O b o cs := fun w hw j u hu => by
  have := hw.imm _ _ h
  simp [World.cell?, this, hc j u hu]
theorem Has.mono {H H' : HM} {O O' : OL} {w : World} (h : Has H' O' w) (e : Ext H H') (s : ∀ p ∈ O, p ∈ O') : Has H O w := ⟨fun b o x => h.imm b o (e b o x), fun b o x => h.own b o (s _ x)⟩
theorem At.mono {H H' : HM} {O O' : OL} {b o : Nat} {cs : List Value} (h : At H O b o cs) (e : Ext H H') (s : ∀ p ∈ O, p ∈ O') : At H' O' b o cs := fun w hw => h w (hw.mono e s)
section
variable {P : Program} {sz : Nat} {B : World} {Q : EQ} {l : Env} {H : HM} {O : OL} {ops : Array Oper} {rest : List Oper} {ty : TypeId} {pos : String} {aft : Array Edge} {d : Nat}
theorem TI.info' {t : TypeId} {agg : Bool} {n bytes : Nat} {z : Value} (h : TI P t agg n bytes z) : ∃ i, P.info? t = some i ∧ i.zero = some z ∧ i.size = n ∧ i.bytes = bytes := by
  have := h.info
  cases hi : P.info? t with
  | none => rw [hi] at this; simp at this
  | some i =>
    rw [hi] at this
    simp only [Option.map_some, Option.some.injEq, Prod.mk.injEq] at this
    exact ⟨i, rfl, this.1, this.2.1, this.2.2⟩
theorem run_isAgg {t : TypeId} {agg : Bool} {n bytes : Nat} {z : Value} (h : TI P t agg n bytes z) (w : World) : (isAgg t).run P w = .ok agg w := by
  have := h.agg
  cases hu : P.underlying t with
  | none => rw [hu] at this; simp at this
  | some D =>
    rw [hu] at this
    simp only [Option.map_some, Option.some.injEq] at this
    unfold isAgg
    simp only [Sem.run_bind, Go.run_underlying (P := P) hu, Result.andThen_ok]
    subst this
    cases D <;> rfl
theorem run_sizeOf {t : TypeId} {agg : Bool} {n bytes : Nat} {z : Value} (h : TI P t agg n bytes z) (w : World) : (sizeOf t).run P w = .ok n w := by
  obtain ⟨i, h1, _, h3, _⟩ := h.info'
  simp [sizeOf, typeInfo, h1, h3]
theorem run_zero {t : TypeId} {agg : Bool} {n bytes : Nat} {z : Value} (h : TI P t agg n bytes z) (w : World) : (zeroValue t).run P w = .ok z w := by
  obtain ⟨i, h1, h2, h3, _⟩ := h.info'
  simp [zeroValue, typeInfo, h1, h2]
theorem run_fieldAt {s k off ft : Nat} {agg : Bool} {n bytes : Nat} {z : Value} (hf : Fld P s k off ft) (ti : TI P ft agg n bytes z) (hn : n ≠ 0) (b o : Nat) (w : World) :
    (Instr.fieldAt s (.pointer (some ⟨b, o, none⟩)) k).run P w = .ok (.pointer (some ⟨b, o + off, none⟩)) w := by
  obtain ⟨fs, f, h1, h2, rfl, rfl⟩ := hf
  simp [Instr.fieldAt, Go.run_underlying (P := P) h1, h2, Instr.sureAddr, fieldPlace, run_sizeOf ti, hn, add_pl]
theorem y_fieldAddr {s k off ft : Nat} {x : Operand} {agg : Bool} {n bytes : Nat} {z : Value} {b o : Nat} (hf : Fld P s k off ft) (ti : TI P ft agg n bytes z) (hn : n ≠ 0) (hx : ev l x = some (.pointer (some ⟨b, o, none⟩))) :
    Yl P (.fieldAddr s x k) ty l H O (.pointer (some ⟨b, o + off, none⟩)) := fun ρ w d pos aft g ha hw => by
  simp only [execOp, ha _ _ hx, Sem.run_bind, run_fieldAt hf ti hn, Result.andThen_ok, Sem.run_pure]
theorem y_fieldAddrP {s k off ft m : Nat} {x : Operand} {agg : Bool} {n bytes : Nat} {z v : Value} (hf : Fld P s k off ft) (ti : TI P ft agg n bytes z) (hn : n ≠ 0) (hs : isSl v) (hx : ev l x = some (ptrAt v m)) :
    Yl P (.fieldAddr s x k) ty l H O (ptrAt v (m + off)) := by
  obtain ⟨b, o, n', c, rfl⟩ := hs
  have := y_fieldAddr (ty := ty) (H := H) (O := O) hf ti hn (b := b) (o := o + m) hx
  simpa [ptrAt, Nat.add_assoc] using this
theorem run_indexAt {t e : Nat} {agg : Bool} {es bytes : Nat} {z : Value} (ht : P.underlying t = some (.slice e)) (ti : TI P e agg es bytes z) {k : IntKind} {i : Int} {b o n c : Nat} (h0 : 0 ≤ i) (h1 : i < n) (w : World) :
    (Instr.indexAt t (.slice (some ⟨b, o, none⟩) n c) (.int k i)).run P w = .ok (.pointer (some ⟨b, o + i.toNat * es, none⟩)) w := by
  simp [Instr.indexAt, asIntOf, Go.run_underlying (P := P) ht, run_sizeOf ti, h0, h1, add_pl]
theorem y_indexAddr {t e : Nat} {x y : Operand} {agg : Bool} {es bytes : Nat} {z v : Value} {i : Int} {k : IntKind} (ht : P.underlying t = some (.slice e)) (ti : TI P e agg es bytes z) (hs : isSl v) {n c : Nat} {p : Option Addr} (hv : v = .slice p n c)
    (hx : ev l x = some v) (hy : ev l y = some (.int k i)) (h0 : 0 ≤ i) (h1 : i < n) : Yl P (.indexAddr t x y) ty l H O (ptrAt v (i.toNat * es)) := fun ρ w d pos aft g ha hw => by
  obtain ⟨b, o, n', c', rfl⟩ := hs
  injection hv with e1 e2 e3
  subst e2
  simp only [execOp, ha _ _ hx, ha _ _ hy, Sem.run_bind, run_indexAt ht ti h0 h1, Result.andThen_ok, Sem.run_pure, ptrAt]
theorem y_nilCheck {x : Operand} {a : Addr} (hx : ev l x = some (.pointer (some a))) : Yl P (.nilCheck x) ty l H O (.pointer (some a)) := fun ρ w d pos aft g ha hw => by
  simp only [execOp, ha _ _ hx]; rfl
theorem y_nilCheckP {x : Operand} {v : Value} {m : Nat} (hs : isSl v) (hx : ev l x = some (ptrAt v m)) : Yl P (.nilCheck x) ty l H O (ptrAt v m) := by
  obtain ⟨b, o, n', c, rfl⟩ := hs
  exact y_nilCheck hx
theorem run_loadVar {t : TypeId} {agg : Bool} {n bytes : Nat} {z : Value} {b o : Nat} {cs : List Value} {w : World} (ti : TI P t agg n bytes z) (hc : ∀ j u, cs[j]? = some u → w.cell? ⟨b, o + j, none⟩ = some u) (hl : cs.length = n) (h1 : agg = false → n = 1) :
    (loadVar t ⟨b, o, none⟩).run P w = .ok (ofCells agg cs) w := by
  unfold loadVar
  simp only [Sem.run_bind, run_isAgg ti, Result.andThen_ok]
  cases agg with
  | true =>
    simp only [if_true, Sem.run_bind, run_sizeOf ti, Result.andThen_ok]
    have := run_loadCells_list (P := P) w ⟨b, o, none⟩ cs (fun j u hu => by rw [add_pl]; exact hc j u hu)
    rw [hl] at this
    simp only [this, Result.andThen_ok, Sem.run_pure, ofCells]
  | false =>
    have hn := h1 rfl
    subst hn
    match cs, hl with
    | [u], _ =>
      have := hc 0 u rfl
      simp only [Bool.false_eq_true, if_false, Nat.add_zero] at this ⊢
      simp [run_load, this, ofCells]
theorem y_load {t : TypeId} {x : Operand} {agg : Bool} {n bytes : Nat} {z : Value} {b o : Nat} {cs : List Value} (ti : TI P t agg n bytes z) (hx : ev l x = some (.pointer (some ⟨b, o, none⟩))) (hc : At H O b o cs) (hl : cs.length = n) (h1 : agg = false → n = 1) :
    Yl P (.load t x) ty l H O (ofCells agg cs) := fun ρ w d pos aft g ha hw => by
  simp only [execOp, ha _ _ hx, Instr.loadAt, Instr.sureAddr, Sem.run_bind, Sem.run_pure, Result.andThen_ok, run_loadVar ti (hc w hw) hl h1]
theorem y_loadO {t : TypeId} {x : Operand} {bytes : Nat} {z : Value} {b o : Nat} {C : List Value} {T : TypeId} {u : Value} (ti : TI P t false 1 bytes z) (hx : ev l x = some (.pointer (some ⟨b, o, none⟩))) (hi : In O b (cl C T)) (hu : C[o]? = some u) :
    Yl P (.load t x) ty l H O u :=
  y_load (cs := [u]) ti hx (At.ofO hi fun j v hv => by
    match j, hv with
    | 0, hv => simp at hv; subst hv; simpa using hu
    | j + 1, hv => simp at hv) rfl (fun _ => rfl)
theorem y_loadA {t : TypeId} {x : Operand} {n bytes : Nat} {z : Value} {b : Nat} {C : List Value} {T : TypeId} (ti : TI P t true n bytes z) (hx : ev l x = some (.pointer (some ⟨b, 0, none⟩))) (hi : In O b (cl C T)) (hl : C.length = n) :
    Yl P (.load t x) ty l H O (.agg C.toArray) :=
  y_load (cs := C) ti hx (At.ofO hi fun j v hv => by simpa using hv) hl (fun e => by cases e)
theorem y_loadP {t : TypeId} {x : Operand} {n bytes : Nat} {z : Value} {b o : Nat} {C cs : List Value} {T : TypeId} (ti : TI P t true n bytes z) (hx : ev l x = some (.pointer (some ⟨b, o, none⟩))) (hi : In O b (cl C T)) (hc : (C.drop o).take n = cs) (hl : cs.length = n) :
    Yl P (.load t x) ty l H O (.agg cs.toArray) :=
  y_load (cs := cs) ti hx (At.ofO hi fun j v hv => by
    subst hc
    rw [List.getElem?_take] at hv
    split at hv
    · rw [List.getElem?_drop] at hv; exact hv
    cases hv) hl (fun e => by cases e)
def AtS (H : HM) (O : OL) (v : Value) (k : Nat) (cs : List Value) : Prop := ∃ b o n c, v = .slice (some ⟨b, o, none⟩) n c ∧ At H O b (o + k) cs
theorem AtS.isSl {v : Value} {k : Nat} {cs : List Value} (h : AtS H O v k cs) : isSl v := by obtain ⟨b, o, n, c, rfl, _⟩ := h; exact ⟨b, o, n, c, rfl⟩
theorem AtS.mono {H' : HM} {O' : OL} {v : Value} {k : Nat} {cs : List Value} (h : AtS H O v k cs) (e : Ext H H') (s : ∀ p ∈ O, p ∈ O') : AtS H' O' v k cs := by
  obtain ⟨b, o, n, c, rfl, h⟩ := h; exact ⟨b, o, n, c, rfl, h.mono e s⟩
theorem y_loadS {t : TypeId} {x : Operand} {agg : Bool} {n bytes k : Nat} {z v : Value} {cs : List Value} (ti : TI P t agg n bytes z) (hx : ev l x = some (ptrAt v k)) (hc : AtS H O v k cs) (hl : cs.length = n) (h1 : agg = false → n = 1) :
    Yl P (.load t x) ty l H O (ofCells agg cs) := by
  obtain ⟨b, o, n', c, rfl, hc⟩ := hc
  exact y_load ti hx hc hl h1
theorem y_loadS1 {t : TypeId} {x : Operand} {bytes k j : Nat} {z v u : Value} {cs : List Value} (ti : TI P t false 1 bytes z) (hx : ev l x = some (ptrAt v (k + j))) (hc : AtS H O v k cs) (hu : cs[j]? = some u) :
    Yl P (.load t x) ty l H O u := by
  obtain ⟨b, o, n', c, rfl, hc⟩ := hc
  refine y_load (cs := [u]) (b := b) (o := o + (k + j)) ti hx (fun w hw i v hv => ?_) rfl (fun _ => rfl)
  match i, hv with
  | 0, hv =>
    simp at hv
    subst hv
    have := hc w hw j _ hu
    rwa [show o + k + j = o + (k + j) + 0 by omega] at this
  | i + 1, hv => simp at hv
theorem run_len {t : TypeId} {e n c : Nat} {p : Option Addr} (ht : P.underlying t = some (.slice e)) (ts : Array TypeId) (w : World) : (Builtin.len_ #[t] ty #[.slice p n c]).run P w = .ok (.int .i64 n) w := by
  simp [Builtin.len_, Go.run_underlying (P := P) ht, goInt]
theorem y_len {t : TypeId} {x : Operand} {e n c : Nat} {p : Option Addr} (ht : P.underlying t = some (.slice e)) (hx : ev l x = some (.slice p n c)) : Yl P (.call ⟨.builtin .len, #[x], #[t]⟩) ty l H O (.int .i64 n) := fun ρ w d pos aft g ha hw => by
  simp only [execOp, resolve, Sem.run_bind, Sem.run_pure, Result.andThen_ok, invoke, builtin, List.map_toArray, List.map_cons, List.map_nil, ha _ _ hx, run_len ht #[]]
theorem Fits.turn' {O1 O2 : OL} {b : Nat} {o o' : Obj} {w w' : World} (h : Fits B H (O1 ++ (b, o) :: O2) w) (h1 : w'.os = w.os) (h2 : w'.tape = w.tape) (h3 : w'.output = w.output) (h4 : w.heap.size ≤ w'.heap.size)
    (hn : ∀ k, k < w.heap.size → k ≠ b → w'.heap[k]? = w.heap[k]?) (hb : w'.heap[b]? = some o') : Fits B H (O1 ++ (b, o') :: O2) w' := by
  have hbo := h.own b o (by simp)
  have hnd := h.nd
  simp only [List.map_append, List.map_cons] at hnd
  have lt : ∀ {k : Nat} {x : Obj}, w.heap[k]? = some x → k < w.heap.size := fun hx => (Array.getElem?_eq_some_iff.1 hx).1
  have hne : ∀ c x, (c, x) ∈ O1 ++ O2 → c ≠ b := by
    intro c x hm e
    subst e
    rw [List.nodup_append] at hnd
    obtain ⟨_, h2, h3⟩ := hnd
    rcases List.mem_append.1 hm with hm | hm
    · exact h3 c (List.mem_map.2 ⟨_, hm, rfl⟩) c (by simp) rfl
    exact (List.nodup_cons.1 h2).1 (List.mem_map.2 ⟨_, hm, rfl⟩)
  refine ⟨h1.trans h.os, h2.trans h.tape, h3.trans h.out, Nat.le_trans h.bsz h4, h.base, fun c x hx => ?_, fun c x hm => ?_, by simpa using h.nd⟩
  · have hx' := h.imm c x hx
    rw [hn c (lt hx') (fun e => by subst e; rw [hbo.2] at hx; cases hx)]
    exact hx'
  have hm' : (c, x) = (b, o') ∨ (c, x) ∈ O1 ++ O2 := by
    rcases List.mem_append.1 hm with hm | hm
    · exact .inr (List.mem_append.2 (.inl hm))
    rcases List.mem_cons.1 hm with hm | hm
    · exact .inl hm
    exact .inr (List.mem_append.2 (.inr hm))
  rcases hm' with e | hm'
  · injection e with e1 e2
    subst e1; subst e2
    exact ⟨hb, hbo.2⟩
  have hc := h.own c x (by
    rcases List.mem_append.1 hm' with z | z
    · exact List.mem_append.2 (.inl z)
    exact List.mem_append.2 (.inr (List.mem_cons_of_mem _ z)))
  exact ⟨by rw [hn c (lt hc.1) (hne c x hm')]; exact hc.1, hc.2⟩
def putC (C : List Value) (o : Nat) (u : List Value) : List Value := C.take o ++ u ++ C.drop (o + u.length)
theorem run_storeVar {t : TypeId} {agg : Bool} {n bytes : Nat} {z v : Value} {b o : Nat} {C : List Value} {T : TypeId} {w : World} (ti : TI P t agg n bytes z) (hv : v.cells.toList.length = n) (h1 : ones v.cells.toList = true)
    (hb : w.heap[b]? = some (cl C T)) (hl : o + n ≤ C.length) : (storeVar t ⟨b, o, none⟩ v).run P w = .ok () (w.setRow b (putC C o v.cells.toList).toArray) := by
  unfold storeVar
  have hs : v.cells.size = n := by rw [← Array.length_toList]; exact hv
  have := run_storeCells_at P b o T v.cells.toList 0 C.toArray w hb (by simp at hv ⊢; omega) (fun x hx => List.all_eq_true.1 h1 x hx)
  simp only [Nat.add_zero] at this
  simp only [Sem.run_bind, run_sizeOf ti, Result.andThen_ok, hs, ne_eq, not_true_eq_false, if_false, this]
  rfl
theorem Fits.setRow {O O' : OL} {b : Nat} {C C' : List Value} {T : TypeId} {w : World} (h : Fits B H O w) (hu : Upd O b (cl C T) (cl C' T) O') : Fits B H O' (w.setRow b C'.toArray) := by
  obtain ⟨O1, O2, rfl, rfl⟩ := hu.split
  have hb := (h.own b (cl C T) (by simp)).1
  refine h.turn' rfl rfl rfl (by simp [World.setRow]) (fun k hk hn => setRow_other w b k _ hn) ?_
  exact setRow_heap w b _ _ _ _ hb
theorem o_store {t : TypeId} {x y : Operand} {agg : Bool} {n bytes : Nat} {z v : Value} {b o : Nat} {C C' : List Value} {T : TypeId} {O' : OL} {u : List Value} (ti : TI P t agg n bytes z) (hx : ev l x = some (.pointer (some ⟨b, o, none⟩))) (hy : ev l y = some v)
    (hv : v.cells.toList = u) (hn : u.length = n) (h1 : ones u = true) (hu : Upd O b (cl C T) (cl C' T) O') (hl : o + n ≤ C.length) (hC : putC C o u = C') (k : ExO P sz B ops Q rest l H O') :
    ExO P sz B ops Q (⟨none, .store t x y, ty, pos, aft, none⟩ :: rest) l H O := by
  intro hd a w ha hw
  simp only [List.all_cons, Bool.and_eq_true] at hd
  refine wpList_plain rfl fun K hK => ?_
  subst hv
  subst hC
  have hb := (hw.own b _ hu.mem).1
  simp only [Oper.wp, execOp, ha.ev hx, ha.ev hy, Instr.storeAt, Instr.sureAddr, Sem.run_bind, Sem.run_pure, Result.andThen_ok, run_storeVar ti hn h1 hb hl, Oper.upon]
  exact hK _ _ (k hd.2 _ _ ha (hw.setRow hu))
theorem o_box {t : TypeId} {x : Operand} {v : Value} {cs : List Value} (hx : ev l x = some v) (hc : v.cells.toList = cs) (k : ∀ b, ExO P sz B ops Q rest ((d, .pointer (some ⟨b, 0, none⟩)) :: l) H ((b, cl cs t) :: O)) :
    ExO P sz B ops Q (⟨some d, .box t x, ty, pos, aft, none⟩ :: rest) l H O := by
  intro hd a w ha hw
  obtain ⟨hlt, hr⟩ := dst_lt hd rfl
  refine wpList_plain rfl fun K hK => ?_
  subst hc
  simp only [Oper.wp, execOp, ha.ev hx, Instr.box, newVar, newRow, Sem.run_bind, run_newObj, Sem.run_pure, Result.andThen_ok, Oper.upon]
  refine hK _ _ (k _ hr _ _ (ha.put hlt _) ?_)
  have := hw.alloc (cl v.cells.toList t)
  simpa [cl] using this
theorem o_alloc {t : TypeId} {agg : Bool} {n bytes : Nat} {z : Value} {cs : List Value} (ti : TI P t agg n bytes z) (hc : z.cells.toList = cs) (k : ∀ b, ExO P sz B ops Q rest ((d, .pointer (some ⟨b, 0, none⟩)) :: l) H ((b, cl cs t) :: O)) :
    ExO P sz B ops Q (⟨some d, .alloc t, ty, pos, aft, none⟩ :: rest) l H O := by
  intro hd a w ha hw
  obtain ⟨hlt, hr⟩ := dst_lt hd rfl
  refine wpList_plain rfl fun K hK => ?_
  subst hc
  simp only [Oper.wp, execOp, Instr.alloc, run_zero ti, newVar, newRow, Sem.run_bind, run_newObj, Sem.run_pure, Result.andThen_ok, Oper.upon]
  refine hK _ _ (k _ hr _ _ (ha.put hlt _) ?_)
  have := hw.alloc (cl z.cells.toList t)
  simpa [cl] using this
structure FnOk (P : Program) (f : FuncId) : Prop where
  h : ∃ fn, P.funcs[f]? = some fn ∧ (fn.name == "runtime.NumGoroutine") = false ∧ fn.body.isNone = false
theorem run_callFunc {f : FuncId} (h : FnOk P f) (args : Array Value) (w : World) : (callFunc f args).run P w = .ok (.enter f args) w := by
  obtain ⟨fn, h1, h2, h3⟩ := h
  simp only [callFunc, Sem.run_bind, run_program, Result.andThen_ok, h1, h2, h3, Bool.false_eq_true, if_false]
  rfl
theorem o_call {f : FuncId} {xs : List Operand} {vs : List Value} {ts : Array TypeId} {R : Value → HM → OL → Prop} (hf : FnOk P f) (hx : xs.mapM (ev l) = some vs) (hc : CallsM P f vs.toArray B H O R)
    (k : ∀ v H' O', R v H' O' → ExO P sz B ops Q rest ((d, v) :: l) H' O') : ExO P sz B ops Q (⟨some d, .call ⟨.value (.func f), xs.toArray, ts⟩, ty, pos, aft, none⟩ :: rest) l H O := by
  intro hd a w ha hw
  obtain ⟨hlt, hr⟩ := dst_lt hd rfl
  refine wpList_plain rfl fun K hK => ?_
  have e := map_ev (fun _ _ => ha.ev) hx
  have e2 : (execOp a.eval ⟨some d, .call ⟨.value (.func f), xs.toArray, ts⟩, ty, pos, aft, none⟩).run P w = .ok (.enter f vs.toArray) w := by
    simp only [execOp, resolve, List.map_toArray, e, Act.eval, Deferred.ofValue, Sem.run_bind, Sem.run_pure, Result.andThen_ok, invoke, Array.empty_append, Array.append_empty, run_callFunc hf]
  simp only [Oper.wp, e2, Oper.upon]
  refine (hc w hw).mono ?_
  rintro e w' ⟨v, H', O', rfl, h1, h2⟩
  exact hK _ _ (k v H' O' h2 hr _ _ (ha.put hlt v) h1)
end
end Go.Ph
set_option linter.unusedVariables false
set_option linter.unusedSimpArgs false
namespace Go.Ph
open Go.RowKit
structure Row (v : Value) (n : Nat) (xs : List Value) (e es : Nat) (R : OL) : Prop where
  len : xs.length = n * es
  form : (v = .slice none 0 0 ∧ n = 0 ∧ R = []) ∨
    ∃ b cap sp, v = .slice (some ⟨b, 0, none⟩) n cap ∧ n ≤ cap ∧ sp.length = (cap - n) * es ∧ R = [(b, cl (xs ++ sp) e)]
theorem Row.nil (e es : Nat) : Row (.slice none 0 0) 0 [] e es [] := ⟨by simp, .inl ⟨rfl, rfl, rfl⟩⟩
theorem Row.shape {v : Value} {n : Nat} {xs : List Value} {e es : Nat} {R : OL} (h : Row v n xs e es R) : ∃ p c, v = .slice p n c := by
  rcases h.form with ⟨rfl, rfl, _⟩ | ⟨b, cap, sp, rfl, _⟩
  · exact ⟨_, _, rfl⟩
  exact ⟨_, _, rfl⟩
inductive Hole : OL → OL → (OL → OL) → Prop where
  | z {R O} : Hole (R ++ O) R (fun R' => R' ++ O)
  | e {R} : Hole R R (fun R' => R')
  | o {p O} : Hole (p :: O) [p] (fun R' => R' ++ O)
  | s {p O R F} (h : Hole O R F) : Hole (p :: O) R (fun R' => p :: F R')
  | g {S O R F} (h : Hole O R F) : Hole (S ++ O) R (fun R' => S ++ F R')
theorem Hole.split {O R : OL} {F : OL → OL} (h : Hole O R F) : ∃ A C, O = A ++ (R ++ C) ∧ ∀ R', F R' = A ++ (R' ++ C) := by
  induction h with
  | z => exact ⟨[], _, rfl, fun _ => rfl⟩
  | e => exact ⟨[], [], by simp, fun _ => by simp⟩
  | o => exact ⟨[], _, rfl, fun _ => rfl⟩
  | s _ ih => obtain ⟨A, C, rfl, h⟩ := ih; exact ⟨_ :: A, C, rfl, fun R' => congrArg (List.cons _) (h R')⟩
  | @g S _ _ _ _ ih => obtain ⟨A, C, rfl, h⟩ := ih; exact ⟨S ++ A, C, by simp, fun R' => (congrArg (S ++ ·) (h R')).trans (by simp)⟩
section
variable {P : Program} {sz : Nat} {B : World} {Q : EQ} {l : Env} {H : HM} {O : OL} {ops : Array Oper} {rest : List Oper} {ty : TypeId} {pos : String} {aft : Array Edge} {d : Nat}
theorem Fits.swap {A C R R' : OL} {w w' : World} (h : Fits B H (A ++ (R ++ C)) w) (h1 : w'.os = w.os) (h2 : w'.tape = w.tape) (h3 : w'.output = w.output) (h4 : w.heap.size ≤ w'.heap.size)
    (hn : ∀ k, k < w.heap.size → (∀ p ∈ R, p.1 ≠ k) → w'.heap[k]? = w.heap[k]?) (hR : ∀ b o, (b, o) ∈ R' → w'.heap[b]? = some o ∧ ((∃ p ∈ R, p.1 = b) ∨ w.heap.size ≤ b)) (hd : (R'.map (·.1)).Nodup) :
    Fits B H (A ++ (R' ++ C)) w' := by
  have lt : ∀ {k : Nat} {x : Obj}, w.heap[k]? = some x → k < w.heap.size := fun hx => (Array.getElem?_eq_some_iff.1 hx).1
  have hnd := h.nd
  simp only [List.map_append] at hnd
  rw [List.nodup_append, List.nodup_append] at hnd
  obtain ⟨hA, ⟨hR0, hC, hRC⟩, hAR⟩ := hnd
  have mk : ∀ {S : OL} {b o}, (b, o) ∈ S → b ∈ S.map (·.1) := fun hm => List.mem_map.2 ⟨_, hm, rfl⟩
  have notR : ∀ b o, (b, o) ∈ A ∨ (b, o) ∈ C → ∀ p ∈ R, p.1 ≠ b := by
    rintro b o (hm | hm) p hp e
    · exact hAR b (mk hm) p.1 (List.mem_append.2 (.inl (mk hp))) e.symm
    exact hRC p.1 (mk hp) b (mk hm) e
  have old : ∀ b o, (b, o) ∈ A ∨ (b, o) ∈ C → w'.heap[b]? = some o ∧ H b = none := fun b o hm => by
    have hb := h.own b o (by rcases hm with hm | hm <;> simp [hm])
    exact ⟨by rw [hn b (lt hb.1) (notR b o hm)]; exact hb.1, hb.2⟩
  have new : ∀ b o, (b, o) ∈ R' → H b = none := fun b o hm => by
    rcases (hR b o hm).2 with ⟨p, hp, rfl⟩ | hge
    · exact (h.own p.1 p.2 (by simp [hp])).2
    cases hb : H b with
    | none => rfl
    | some y => have := lt (h.imm b y hb); omega
  have apart : ∀ b o c u, (b, o) ∈ R' → (c, u) ∈ A ∨ (c, u) ∈ C → b ≠ c := fun b o c u hm hc e => by
    subst e
    rcases (hR b o hm).2 with ⟨p, hp, e⟩ | hge
    · exact notR b u hc p hp e
    have := lt (h.own b u (by rcases hc with hc | hc <;> simp [hc])).1
    omega
  refine ⟨h1.trans h.os, h2.trans h.tape, h3.trans h.out, Nat.le_trans h.bsz h4, h.base, fun c x hx => ?_, fun b o hm => ?_, ?_⟩
  · have hx' := h.imm c x hx
    rw [hn c (lt hx') (fun p hp e => by have := (h.own p.1 p.2 (by simp [hp])).2; rw [e, hx] at this; cases this)]
    exact hx'
  · rcases List.mem_append.1 hm with hm | hm
    · exact old b o (.inl hm)
    rcases List.mem_append.1 hm with hm | hm
    · exact ⟨(hR b o hm).1, new b o hm⟩
    exact old b o (.inr hm)
  simp only [List.map_append]
  rw [List.nodup_append, List.nodup_append]
  refine ⟨hA, ⟨hd, hC, fun x hx y hy e => ?_⟩, fun x hx y hy e => ?_⟩
  · obtain ⟨⟨b, o⟩, hm, rfl⟩ := List.mem_map.1 hx
    obtain ⟨⟨c, u⟩, hm', rfl⟩ := List.mem_map.1 hy
    exact apart b o c u hm (.inr hm') e
  obtain ⟨⟨b, o⟩, hm, rfl⟩ := List.mem_map.1 hx
  rcases List.mem_append.1 hy with hy | hy
  · obtain ⟨⟨c, u⟩, hm', rfl⟩ := List.mem_map.1 hy
    exact apart c u b o hm' (.inl hm) e.symm
  obtain ⟨⟨c, u⟩, hm', rfl⟩ := List.mem_map.1 hy
  exact hAR b (mk hm) c (List.mem_append.2 (.inr (mk hm'))) e
theorem run_append {t e es bytes n m c : Nat} {agg : Bool} {z v : Value} {xs news : List Value} {A C R : OL} {a : Addr} {w : World} (ht : P.underlying t = some (.slice e)) (ti : TI P e agg es bytes z) (hz : z.cells.size = es) (he : 0 < es)
    (hw : Fits B H (A ++ (R ++ C)) w) (hr : Row v n xs e es R) (hl : news.length = m * es) (hc' : ∀ j u, news[j]? = some u → w.cell? (a.add j) = some u) (h1 : ones news = true) (hb : (n + m) * bytes ≤ 140737488355328) (hm : n + m ≤ 9223372036854775807) :
    ∃ v' R' w', (Builtin.append_ #[t, t] ty #[v, .slice (some a) m c]).run P w = .ok v' w' ∧ Row v' (n + m) (xs ++ news) e es R' ∧ Fits B H (A ++ (R' ++ C)) w' := by
  obtain ⟨i, i1, i2, rfl, rfl⟩ := ti.info'
  have h1' : ∀ u ∈ news, u.oneCell' = true := fun u hu => List.all_eq_true.1 h1 u hu
  have hlen : (xs ++ news).length = (n + m) * i.size := by rw [List.length_append, hr.len, hl, Nat.add_mul]
  have newrow : ∀ (cap : Nat) (sp : Array Value), n + m ≤ cap → sp.size = (cap - (n + m)) * i.size →
      Row (.slice (some ⟨w.heap.size, 0, none⟩) (n + m) cap) (n + m) (xs ++ news) e i.size [(w.heap.size, cl (xs ++ news ++ sp.toList) e)] := fun cap sp h2 h3 =>
    ⟨hlen, .inr ⟨_, _, sp.toList, rfl, h2, by simpa using h3, rfl⟩⟩
  have newfit : ∀ (sp : Array Value), Fits B H (A ++ ([(w.heap.size, cl (xs ++ news ++ sp.toList) e)] ++ C)) (w.drew.alloc (cl (xs ++ news ++ sp.toList) e)) := fun sp => by
    refine hw.swap rfl rfl rfl (by simp) (fun k hk _ => heap_alloc_old w.drew _ hk) (fun b o hm => ?_) (by simp)
    simp only [List.mem_singleton, Prod.mk.injEq] at hm
    obtain ⟨rfl, rfl⟩ := hm
    exact ⟨heap_alloc_new w.drew _, .inr (Nat.le_refl _)⟩
  rcases hr.form with ⟨rfl, rfl, rfl⟩ | ⟨g, cap, sp, rfl, hnc, hsp, rfl⟩
  · have hx : xs = [] := List.eq_nil_of_length_eq_zero (by simpa using hr.len)
    subst hx
    by_cases h0 : m = 0
    · subst h0
      have hn : news = [] := List.eq_nil_of_length_eq_zero (by simpa using hl)
      subst hn
      refine ⟨.slice none 0 0, [], w, ?_, Row.nil _ _, hw⟩
      simp [Builtin.append_, Go.run_underlying (P := P) ht, sizeOf, typeInfo, i1, Builtin.lenOf, Builtin.firstCells, loadCells, loadCellsFrom]
    have hrun := run_append_nil (P := P) w t ty e i z ht i1 i2 a m c news hl hc' (by omega) (by omega) (by simp only [Nat.zero_add] at hb; omega)
    have hge := grownCap_ge w m 0 e
    have hs := size_zeroCells z.cells (grownCap w m 0 e - m)
    rw [hz] at hs
    have a1 := newrow (grownCap w m 0 e) (Builtin.zeroCells z.cells (grownCap w m 0 e - m)) (by omega) (by simpa using hs)
    have a2 := newfit (Builtin.zeroCells z.cells (grownCap w m 0 e - m))
    simp only [Nat.zero_add, List.nil_append] at a1 a2 ⊢
    refine ⟨_, _, _, hrun, a1, ?_⟩
    have e2 : (news.toArray ++ Builtin.zeroCells z.cells (grownCap w m 0 e - m)) = (news ++ (Builtin.zeroCells z.cells (grownCap w m 0 e - m)).toList).toArray := by apply Array.ext'; simp
    rw [e2]
    exact a2
  have hg := (hw.own g (cl (xs ++ sp) e) (by simp)).1
  by_cases hroom : n + m ≤ cap
  · have hfit : n * i.size + news.length ≤ (xs ++ sp).toArray.size := by
      simp only [List.size_toArray, List.length_append, hr.len, hsp, hl]
      have : m * i.size ≤ (cap - n) * i.size := Nat.mul_le_mul_right _ (by omega)
      omega
    have hrun := run_append_room (P := P) w t ty e i ht i1 g n cap (xs ++ sp).toArray hg a m c news hl hc' h1' hroom hfit
    have hlx : n * i.size = xs.length := hr.len.symm
    have e1 : (xs ++ sp).toArray.toList.take (n * i.size) ++ news ++ (xs ++ sp).toArray.toList.drop (n * i.size + news.length) = xs ++ news ++ sp.drop news.length := by
      rw [hlx]; simp [List.drop_append]
    rw [e1] at hrun
    refine ⟨_, [(g, cl (xs ++ news ++ sp.drop news.length) e)], _, hrun, ⟨hlen, .inr ⟨g, cap, sp.drop news.length, rfl, hroom, ?_, rfl⟩⟩, ?_⟩
    · rw [List.length_drop, hsp, hl, ← Nat.mul_sub_right_distrib]; congr 1; omega
    refine hw.swap rfl rfl rfl (by simp [World.setRow]) (fun k _ hk => setRow_other w g k _ (fun e' => hk (g, cl (xs ++ sp) e) (by simp) e'.symm)) (fun b o hm => ?_) (by simp)
    simp only [List.mem_singleton, Prod.mk.injEq] at hm
    obtain ⟨rfl, rfl⟩ := hm
    exact ⟨setRow_heap w b _ _ _ _ hg, .inl ⟨(b, cl (xs ++ sp) e), by simp, rfl⟩⟩
  have hold : ∀ j u, xs[j]? = some u → w.cell? ((⟨g, 0, none⟩ : Addr).add j) = some u := fun j u hu => by
    have hj : j < xs.length := (List.getElem?_eq_some_iff.1 hu).1
    rw [add_pl]
    simp [World.cell?, hg, cl, List.getElem?_append_left hj, hu]
  have hrun := run_append_grow (P := P) w t ty e i z ht i1 i2 ⟨g, 0, none⟩ n cap xs hr.len hold a m c news hl hc' (by omega) (by omega) (growslice_fits (by omega) hb)
  have hge := grownCap_ge w (n + m) cap e
  have hs := size_zeroCells z.cells (grownCap w (n + m) cap e - (n + m))
  rw [hz] at hs
  have a1 := newrow (grownCap w (n + m) cap e) (Builtin.zeroCells z.cells (grownCap w (n + m) cap e - (n + m))) (by omega) hs
  have a2 := newfit (Builtin.zeroCells z.cells (grownCap w (n + m) cap e - (n + m)))
  refine ⟨_, _, _, hrun, a1, ?_⟩
  have e2 : (xs.toArray ++ news.toArray ++ Builtin.zeroCells z.cells (grownCap w (n + m) cap e - (n + m))) = (xs ++ news ++ (Builtin.zeroCells z.cells (grownCap w (n + m) cap e - (n + m))).toList).toArray := by apply Array.ext'; simp
  rw [e2]
  exact a2
theorem o_appendA {t e es bytes n m c : Nat} {agg : Bool} {z v : Value} {x y : Operand} {xs news : List Value} {R : OL} {a' : Addr} {F : OL → OL} (ht : P.underlying t = some (.slice e)) (ti : TI P e agg es bytes z) (hz : z.cells.size = es) (he : 0 < es)
    (hx : ev l x = some v) (hr : Row v n xs e es R) (hy : ev l y = some (.slice (some a') m c)) (hc : ∀ w, Has H O w → ∀ j u, news[j]? = some u → w.cell? (a'.add j) = some u) (hl : news.length = m * es) (h1 : ones news = true) (hb : (n + m) * bytes ≤ 140737488355328) (hm : n + m ≤ 9223372036854775807)
    (hF : Hole O R F) (k : ∀ v' R', Row v' (n + m) (xs ++ news) e es R' → ExO P sz B ops Q rest ((d, v') :: l) H (F R')) :
    ExO P sz B ops Q (⟨some d, .call ⟨.builtin .append, #[x, y], #[t, t]⟩, ty, pos, aft, none⟩ :: rest) l H O := by
  intro hd a w ha hw
  obtain ⟨hlt, hr'⟩ := dst_lt hd rfl
  refine wpList_plain rfl fun K hK => ?_
  obtain ⟨A, C, rfl, hF'⟩ := hF.split
  obtain ⟨v', R', w', h2, h3, h4⟩ := run_append (ty := ty) (c := c) ht ti hz he hw hr hl (hc w hw.has) h1 hb hm
  simp only [Oper.wp, execOp, resolve, Sem.run_bind, Sem.run_pure, Result.andThen_ok, invoke, builtin, List.map_toArray, List.map_cons, List.map_nil, ha.ev hx, ha.ev hy, h2, Oper.upon]
  refine hK _ _ (k v' R' h3 hr' _ _ (ha.put hlt v') ?_)
  rw [hF']
  exact h4
theorem o_append {t e es bytes n m c : Nat} {agg : Bool} {z v : Value} {x y : Operand} {xs news : List Value} {R : OL} {b o : Nat} {F : OL → OL} (ht : P.underlying t = some (.slice e)) (ti : TI P e agg es bytes z) (hz : z.cells.size = es) (he : 0 < es)
    (hx : ev l x = some v) (hr : Row v n xs e es R) (hy : ev l y = some (.slice (some ⟨b, o, none⟩) m c)) (hc : At H O b o news) (hl : news.length = m * es) (h1 : ones news = true) (hb : (n + m) * bytes ≤ 140737488355328) (hm : n + m ≤ 9223372036854775807)
    (hF : Hole O R F) (k : ∀ v' R', Row v' (n + m) (xs ++ news) e es R' → ExO P sz B ops Q rest ((d, v') :: l) H (F R')) :
    ExO P sz B ops Q (⟨some d, .call ⟨.builtin .append, #[x, y], #[t, t]⟩, ty, pos, aft, none⟩ :: rest) l H O :=
   o_appendA ht ti hz he hx hr hy (fun w hw j u hu => by rw [add_pl]; exact hc w hw j u hu) hl h1 hb hm hF k
theorem o_buildSlice {t e es bytes n : Nat} {agg : Bool} {z : Value} {ps : List (Nat × Operand)} {qs : List (Nat × Value)} {C : List Value} (ht : P.underlying t = some (.slice e)) (ti : TI P e agg es bytes z) (hn : n * es ≤ 16777216) (h0 : n * es ≠ 0)
    (hp : ∀ ρ : Operand → Value, (∀ x v, ev l x = some v → ρ x = v) → ps.map (fun p => (p.1, ρ p.2)) = qs) (hC : Instr.fill (fun i => some (i * es, es)) ((Array.range (n * es)).map (z.cells[· % z.cells.size]!)) qs = some C.toArray)
    (k : ∀ b, ExO P sz B ops Q rest ((d, .slice (some ⟨b, 0, none⟩) n n) :: l) H ((b, cl C e) :: O)) :
    ExO P sz B ops Q (⟨some d, .buildSlice t n ps.toArray, ty, pos, aft, none⟩ :: rest) l H O := by
  intro hd a w ha hw
  obtain ⟨hlt, hr⟩ := dst_lt hd rfl
  refine wpList_plain rfl fun K hK => ?_
  have e1 := hp a.eval (fun _ _ => ha.ev)
  have e2 : ¬ (n * es > 2 ^ 24) := by omega
  simp only [Oper.wp, execOp, Instr.buildSlice, List.map_toArray, Sem.run_bind, Go.run_underlying (P := P) ht, Result.andThen_ok, run_sizeOf ti, e2, if_false, h0, run_zero ti, Sem.run_pure, e1, hC, newRow, run_newObj, Oper.upon]
  refine hK _ _ (k _ hr _ _ (ha.put hlt _) ?_)
  exact hw.alloc (cl C e)
theorem fill_one {v : Value} {es : Nat} {C0 : Array Value} (h0 : C0.size = es) (hv : v.cells.size = es) : Instr.fill (fun i => some (i * es, es)) C0 [(0, v)] = some v.cells := by
  have key : ∀ (u : List Value) (k : Nat) (C : Array Value), k + u.length = C.size → (u.zipIdx k).foldl (fun (cs : Array Value) (p : Value × Nat) => cs.setIfInBounds p.2 p.1) C = (C.toList.take k ++ u).toArray := by
    intro u
    induction u with
    | nil => intro k C h; simp at h; subst h; apply Array.ext'; simp [← Array.length_toList]
    | cons x u ih =>
      intro k C h
      simp only [List.zipIdx_cons, List.foldl_cons]
      rw [ih (k + 1) _ (by simp at h ⊢; omega)]
      apply Array.ext'
      simp only [List.length_cons] at h
      simp only [Array.toList_setIfInBounds]
      rw [List.take_succ_eq_append_getElem (by simp; omega)]
      simp [List.take_set_of_le]
  simp only [Instr.fill, Nat.zero_mul, hv, ne_eq, not_true_eq_false, Nat.zero_add, h0, gt_iff_lt, Nat.lt_irrefl, decide_false, Bool.or_self, Bool.false_eq_true, if_false]
  have := key v.cells.toList 0 C0 (by simp; omega)
  rw [← Array.foldl_toList, Array.toList_zipIdx]
  rw [this]; simp
theorem o_slice1 {t e es bytes : Nat} {agg : Bool} {z v : Value} {x : Operand} {C : List Value} (ht : P.underlying t = some (.slice e)) (ti : TI P e agg es bytes z) (hn : es ≤ 16777216) (h0 : es ≠ 0) (hz : z.cells.size = es)
    (hx : ev l x = some v) (hC : v.cells.toList = C) (hl : C.length = es) (k : ∀ b, ExO P sz B ops Q rest ((d, .slice (some ⟨b, 0, none⟩) 1 1) :: l) H ((b, cl C e) :: O)) :
    ExO P sz B ops Q (⟨some d, .buildSlice t 1 #[(0, x)], ty, pos, aft, none⟩ :: rest) l H O := by
  refine o_buildSlice (ps := [(0, x)]) (qs := [(0, v)]) ht ti (by omega) (by omega) (fun ρ ha => by simp [ha _ _ hx]) ?_ k
  subst hC
  rw [fill_one (by simp) (by rw [← Array.length_toList]; exact hl)]
end
end Go.Ph
set_option linter.unusedVariables false
set_option linter.unusedSimpArgs false
namespace Go.Ph
open Go.RowKit
def InR (n : Int) : Prop := -9223372036854775808 ≤ n ∧ n ≤ 9223372036854775807
class Rep (α : Type) where
  sz : Nat
  bytes : Nat
  bpos : 0 < bytes
  rd : HM → List Value → α → Prop
  len : ∀ {H : HM} {cs : List Value} {x : α}, rd H cs x → cs.length = sz
  one : ∀ {H : HM} {cs : List Value} {x : α}, rd H cs x → ones cs = true
  mono : ∀ {H H' : HM} {cs : List Value} {x : α}, Ext H H' → rd H cs x → rd H' cs x
instance : Rep Int where
  sz := 1
  bytes := 8
  bpos := by decide
  rd := fun _ cs n => cs = [.int .i64 n] ∧ InR n
  len := fun h => by rw [h.1]; rfl
  one := fun h => by rw [h.1]; rfl
  mono := fun _ h => h
instance : Rep Bool where
  sz := 1
  bytes := 1
  bpos := by decide
  rd := fun _ cs b => cs = [.bool b]
  len := fun h => by rw [h]; rfl
  one := fun h => by rw [h]; rfl
  mono := fun _ h => h
structure RdL {α : Type} [Rep α] (H : HM) (v : Value) (xs : List α) : Prop where
  h : ∃ p c, v = .slice p xs.length c ∧ xs.length * Rep.bytes α ≤ 140737488351232 ∧ ∀ j x, xs[j]? = some x → ∃ cs, AtS H [] v (j * Rep.sz α) cs ∧ Rep.rd H cs x
theorem AtS.ext {H H' : HM} {O : OL} {v : Value} {k : Nat} {cs : List Value} (h : AtS H [] v k cs) (e : Ext H H') : AtS H' O v k cs := h.mono e (fun _ hm => by simp at hm)
theorem RdL.mono {α : Type} [Rep α] {H H' : HM} {v : Value} {xs : List α} (e : Ext H H') (h : RdL H v xs) : RdL H' v xs := by
  obtain ⟨p, c, h1, h2, h3⟩ := h.h
  refine ⟨p, c, h1, h2, fun j x hx => ?_⟩
  obtain ⟨cs, h4, h5⟩ := h3 j x hx
  exact ⟨cs, h4.ext e, Rep.mono e h5⟩
theorem RdL.shape {α : Type} [Rep α] {H : HM} {v : Value} {xs : List α} (h : RdL H v xs) : ∃ p c, v = .slice p xs.length c := by
  obtain ⟨p, c, h1, _⟩ := h.h; exact ⟨p, c, h1⟩
theorem RdL.small {α : Type} [Rep α] {H : HM} {v : Value} {xs : List α} (h : RdL H v xs) : xs.length * Rep.bytes α ≤ 140737488351232 := by
  obtain ⟨p, c, h1, h2, _⟩ := h.h; exact h2
theorem RdL.lenle {α : Type} [Rep α] {H : HM} {v : Value} {xs : List α} (h : RdL H v xs) : xs.length ≤ 140737488351232 :=
  Nat.le_trans (Nat.le_mul_of_pos_right _ (Rep.bpos (α := α))) h.small
theorem RdL.at {α : Type} [Rep α] {H : HM} {v : Value} {xs : List α} (h : RdL H v xs) (O : OL) (j : Nat) (hj : j < xs.length) : ∃ cs, AtS H O v (j * Rep.sz α) cs ∧ Rep.rd H cs (xs[j]'hj) := by
  obtain ⟨p, c, h1, _, h3⟩ := h.h
  obtain ⟨cs, h4, h5⟩ := h3 j _ (List.getElem?_eq_getElem hj)
  exact ⟨cs, h4.ext (Ext.refl H), h5⟩
theorem RdL.nil {α : Type} [Rep α] (H : HM) : RdL H (.slice none 0 0) ([] : List α) := ⟨none, 0, rfl, by simp, fun j x h => by simp at h⟩
theorem RdL.one {α : Type} [Rep α] {H : HM} {v : Value} {xs : List α} (h : RdL H v xs) : ones [v] = true := by
  obtain ⟨p, c, h1⟩ := h.shape; rw [h1]; rfl
theorem RdL.cells {α : Type} [Rep α] {H : HM} {v : Value} {xs : List α} (h : RdL H v xs) : v.cells.toList = [v] := by
  obtain ⟨p, c, h1⟩ := h.shape; rw [h1]; rfl
instance {α : Type} [Rep α] : Rep (List α) where
  sz := 1
  bytes := 24
  bpos := by decide
  rd := fun H cs xs => ∃ v, cs = [v] ∧ RdL H v xs
  len := fun ⟨v, h, _⟩ => by rw [h]; rfl
  one := fun ⟨v, h, h'⟩ => by rw [h]; exact h'.one
  mono := fun e ⟨v, h, h'⟩ => ⟨v, h, h'.mono e⟩
inductive El {α : Type} [Rep α] (H : HM) : List Value → List α → Prop where
  | n : El H [] []
  | c {cs : List Value} {x : α} {css : List Value} {xs : List α} (h : Rep.rd H cs x) (t : El H css xs) : El H (cs ++ css) (x :: xs)
theorem El.len {α : Type} [Rep α] {H : HM} {cs : List Value} {xs : List α} (h : El H cs xs) : cs.length = xs.length * Rep.sz α := by
  induction h with
  | n => simp
  | c h _ ih => rw [List.length_append, Rep.len h, ih, List.length_cons, Nat.succ_mul, Nat.add_comm]
theorem El.one {α : Type} [Rep α] {H : HM} {cs : List Value} {xs : List α} (h : El H cs xs) : ones cs = true := by
  induction h with
  | n => rfl
  | c h _ ih => simp only [ones, List.all_append] at ih ⊢; rw [ih, Bool.and_true]; exact Rep.one h
theorem El.mono {α : Type} [Rep α] {H H' : HM} {cs : List Value} {xs : List α} (e : Ext H H') (h : El H cs xs) : El H' cs xs := by
  induction h with
  | n => exact .n
  | c h _ ih => exact .c (Rep.mono e h) ih
theorem El.append {α : Type} [Rep α] {H : HM} {cs ds : List Value} {xs ys : List α} (h : El H cs xs) (k : El H ds ys) : El H (cs ++ ds) (xs ++ ys) := by
  induction h with
  | n => exact k
  | c h _ ih => rw [List.append_assoc, List.cons_append]; exact .c h ih
theorem El.one1 {α : Type} [Rep α] {H : HM} {cs : List Value} {x : α} (h : Rep.rd H cs x) : El H cs [x] := by
  have := El.c h El.n; simpa using this
theorem El.snoc {α : Type} [Rep α] {H : HM} {cs ds : List Value} {xs : List α} {x : α} (h : El H cs xs) (k : Rep.rd H ds x) : El H (cs ++ ds) (xs ++ [x]) := h.append (El.one1 k)
theorem El.get {α : Type} [Rep α] {H : HM} {cs : List Value} {xs : List α} (h : El H cs xs) : ∀ j x, xs[j]? = some x → ∃ ds, Rep.rd H ds x ∧ ∀ i u, ds[i]? = some u → cs[j * Rep.sz α + i]? = some u := by
  induction h with
  | n => intro j x h; simp at h
  | @c cs y css xs h t ih =>
    intro j x hj
    cases j with
    | zero =>
      simp only [List.getElem?_cons_zero, Option.some.injEq] at hj
      subst hj
      refine ⟨cs, h, fun i u hu => ?_⟩
      rw [Nat.zero_mul, Nat.zero_add, List.getElem?_append_left (List.getElem?_eq_some_iff.1 hu).1]; exact hu
    | succ j =>
      rw [List.getElem?_cons_succ] at hj
      obtain ⟨ds, h1, h2⟩ := ih j x hj
      refine ⟨ds, h1, fun i u hu => ?_⟩
      have e : (j + 1) * Rep.sz α + i = cs.length + (j * Rep.sz α + i) := by rw [Rep.len h, Nat.succ_mul]; omega
      rw [e, List.getElem?_append_right (by omega), Nat.add_sub_cancel_left]
      exact h2 i u hu
theorem Row.freeze {α : Type} [Rep α] {v : Value} {n : Nat} {cs : List Value} {e : Nat} {R : OL} {H : HM} {xs : List α} (h : Row v n cs e (Rep.sz α) R) (hn : n = xs.length) (he : El H cs xs) (hs : xs.length * Rep.bytes α ≤ 140737488351232)
    (hH : ∀ b o, (b, o) ∈ R → H b = none) : RdL (H.add R) v xs := by
  subst hn
  rcases h.form with ⟨rfl, h0, rfl⟩ | ⟨b, cap, sp, rfl, hc, hsp, rfl⟩
  · have : xs = [] := List.eq_nil_of_length_eq_zero h0
    subst this
    exact RdL.nil _
  refine ⟨_, _, rfl, hs, fun j x hx => ?_⟩
  obtain ⟨ds, h1, h2⟩ := he.get j x hx
  refine ⟨ds, ⟨b, 0, _, _, rfl, ?_⟩, Rep.mono (Ext.add _ _) h1⟩
  refine At.ofH (C := (cs ++ sp).toArray) (T := e) (fr := (0, 0)) (HM.add_mem (by simp) (hH b _ (List.mem_singleton.2 rfl)) (List.mem_singleton.2 rfl)) (fun i u hu => ?_)
  have := h2 i u hu
  simp only [Nat.zero_add, List.getElem?_toArray]
  rw [List.getElem?_append_left (List.getElem?_eq_some_iff.1 this).1]
  exact this
section
variable {P : Program} {sz : Nat} {B : World} {Q : EQ} {l : Env} {H : HM} {O : OL} {ops : Array Oper} {rest : List Oper} {ty : TypeId} {pos : String} {aft : Array Edge} {d : Nat}
theorem x_freeze {c : Code} {S O' : OL} (hO : ∃ A, O = A ++ (S ++ O')) (h : (∀ b o, (b, o) ∈ S → H b = none) → Ext H (H.add S) → ExC P sz B c Q l (H.add S) O') : ExC P sz B c Q l H O := by
  intro a w ha hw
  obtain ⟨A, rfl⟩ := hO
  have h1 : Fits B H (S ++ O') w := by
    have := hw.drop A.length
    simpa using this
  exact h (fun b o hm => (hw.own b o (by simp [hm])).2) (Ext.add H S) a w ha h1.freeze
theorem y_lenL {α : Type} [Rep α] {t e : Nat} {x : Operand} {v : Value} {xs : List α} (hr : RdL H v xs) (ht : P.underlying t = some (.slice e)) (hx : ev l x = some v) : Yl P (.call ⟨.builtin .len, #[x], #[t]⟩) ty l H O (.int .i64 xs.length) := by
  obtain ⟨p, c, rfl⟩ := hr.shape
  exact y_len ht hx
theorem y_lenR {t e n es e' : Nat} {x : Operand} {v : Value} {cs : List Value} {R : OL} (hr : Row v n cs e' es R) (ht : P.underlying t = some (.slice e)) (hx : ev l x = some v) : Yl P (.call ⟨.builtin .len, #[x], #[t]⟩) ty l H O (.int .i64 n) := by
  obtain ⟨p, c, rfl⟩ := hr.shape
  exact y_len ht hx
theorem y_idxL {α : Type} [Rep α] {t e : Nat} {x y : Operand} {agg : Bool} {es bytes : Nat} {z v : Value} {i : Int} {k : IntKind} {xs : List α} (hr : RdL H v xs) (j : Nat) (hj : j < xs.length) (ht : P.underlying t = some (.slice e)) (ti : TI P e agg es bytes z)
    (hx : ev l x = some v) (hy : ev l y = some (.int k i)) (hi : i = (j : Int)) : Yl P (.indexAddr t x y) ty l H O (ptrAt v (j * es)) := by
  obtain ⟨p, c, hv⟩ := hr.shape
  obtain ⟨cs, hs, _⟩ := hr.at O j hj
  have := y_indexAddr (ty := ty) (H := H) (O := O) ht ti hs.isSl hv hx hy (by omega) (by omega)
  rwa [show i.toNat = j by omega] at this
end
end Go.Ph
set_option linter.unusedVariables false
set_option linter.unusedSimpArgs false
namespace Go.Ph
open Go.RowKit
def ExQ (P : Program) (sz : Nat) (B : World) (ops : Array Oper) (K : Env → Prop) (rest : List Oper) (l : Env) (H : HM) (O : OL) : Prop :=
  rest.all (dstOk sz) = true → ∀ a, Fr sz l a → wpQuiet P ops (Fits B H O) (fun a' => ∃ l', Fr sz l' a' ∧ K l') rest a
section
variable {P : Program} {sz : Nat} {B : World} {Q : EQ} {K : Env → Prop} {l : Env} {H : HM} {O : OL} {ops : Array Oper} {rest : List Oper} {ty : TypeId} {pos : String} {aft : Array Edge} {d : Nat}
theorem x_regionQ {id : Nat} {os : List Oper} (hm : P.follows .mixedOrders = true) (hB : Region.lexB .any os.toArray = true) (hd : os.all (dstOk sz) = true) (h : ExQ P sz B os.toArray (fun l' => Q .normal l' H O) os l H O) :
    ExC P sz B (.region id os.toArray true) Q l H O := fun a w ha hw => by
  refine wp_region_quiet (C := Fits B H O) hm hB hw.drew ?_
  have := h hd a ha
  have mono : ∀ (l0 : List Oper) (a : Act) (K K' : Act → Prop), (∀ a, K a → K' a) → wpQuiet P os.toArray (Fits B H O) K l0 a → wpQuiet P os.toArray (Fits B H O) K' l0 a := by
    intro l0
    induction l0 with
    | nil => intro a K K' hk h; exact hk a h
    | cons o l0 ih =>
      intro a K K' hk h
      simp only [wpQuiet] at h ⊢
      split
      · rename_i hw; rw [if_pos hw] at h; exact Oper.quiet_mono (fun a => ih a K K' hk) h
      rename_i hw; rw [if_neg hw] at h; exact ih _ K K' hk h
  exact mono _ _ (fun a' => ∃ l', Fr sz l' a' ∧ Q .normal l' H O) _ (fun a' ⟨l', h1, h2⟩ w' hw' => ⟨l', H, O, h1, hw', h2⟩) (by simpa using this)
theorem q_nil (h : K l) : ExQ P sz B ops K [] l H O := fun _ a ha => ⟨l, ha, h⟩
theorem q_y {op : Op} {v : Value} (h : Yl P op ty l H O v) (k : ExQ P sz B ops K rest ((d, v) :: l) H O) : ExQ P sz B ops K (⟨some d, op, ty, pos, aft, none⟩ :: rest) l H O := by
  intro hd a ha
  obtain ⟨hlt, hr⟩ := dst_lt hd rfl
  simp only [wpQuiet, Region.wanted, if_true]
  refine ⟨v, fun w hw => ?_, k hr _ (ha.put hlt v)⟩
  simp only [Oper.quietAt, h a.eval w (some d) pos aft none (fun _ _ => ha.ev) hw.has, Oper.quietUpon]
  exact ⟨trivial, trivial⟩
theorem q_gy {op : Op} {v : Value} {j : Nat} (t : Nat) {b : Bool} (hj : (ops[j]?).bind (·.dst) = some t) (hb : look l t = some (.bool b)) (h : Yl P op ty l H O v) (k : ExQ P sz B ops K rest ((d, v) :: l) H O) :
    ExQ P sz B ops K (⟨some d, op, ty, pos, aft, some (j, b)⟩ :: rest) l H O := by
  intro hd a ha
  obtain ⟨hlt, hr⟩ := dst_lt hd rfl
  simp only [wpQuiet]
  rw [if_pos (by simp [Region.wanted, yielded_of ha hj hb])]
  refine ⟨v, fun w hw => ?_, k hr _ (ha.put hlt v)⟩
  simp only [Oper.quietAt, h a.eval w (some d) pos aft _ (fun _ _ => ha.ev) hw.has, Oper.quietUpon]
  exact ⟨trivial, trivial⟩
theorem q_gn {op : Op} {j : Nat} (t : Nat) {b c : Bool} (hj : (ops[j]?).bind (·.dst) = some t) (hb : look l t = some (.bool b)) (hne : b = !c) (k : ExQ P sz B ops K rest ((d, undef) :: l) H O) :
    ExQ P sz B ops K (⟨some d, op, ty, pos, aft, some (j, c)⟩ :: rest) l H O := by
  intro hd a ha
  obtain ⟨hlt, hr⟩ := dst_lt hd rfl
  simp only [wpQuiet]
  rw [if_neg (by subst hne; cases c <;> simp [Region.wanted, yielded_of ha hj hb])]
  exact k hr _ (ha.put hlt undef)
theorem o_split (t : Nat) {b : Bool} (h : look l t = some (.bool b)) (kt : b = true → ExO P sz B ops Q rest ((t, .bool true) :: l) H O) (kf : b = false → ExO P sz B ops Q rest ((t, .bool false) :: l) H O) : ExO P sz B ops Q rest l H O := by
  intro hd a w ha hw
  have up : ∀ c, b = c → Fr sz ((t, .bool c) :: l) a := fun c e => ⟨ha.size, ha.defers, fun s v hv => by
    rw [look_cons] at hv
    split at hv
    · rename_i e2; subst e2; rw [← Option.some.inj hv, ← e]; exact ha.get t _ h
    exact ha.get s v hv⟩
  cases b with
  | true => exact kt rfl hd a w (up true rfl) hw
  | false => exact kf rfl hd a w (up false rfl) hw
theorem q_split (t : Nat) {b : Bool} (h : look l t = some (.bool b)) (kt : b = true → ExQ P sz B ops K rest ((t, .bool true) :: l) H O) (kf : b = false → ExQ P sz B ops K rest ((t, .bool false) :: l) H O) : ExQ P sz B ops K rest l H O := by
  intro hd a ha
  have up : ∀ c, b = c → Fr sz ((t, .bool c) :: l) a := fun c e => ⟨ha.size, ha.defers, fun s v hv => by
    rw [look_cons] at hv
    split at hv
    · rename_i e2; subst e2; rw [← Option.some.inj hv, ← e]; exact ha.get t _ h
    exact ha.get s v hv⟩
  cases b with
  | true => exact kt rfl hd a (up true rfl)
  | false => exact kf rfl hd a (up false rfl)
theorem exec_call {f : FuncId} {xs : List Operand} {vs : List Value} {ts : Array TypeId} (hf : FnOk P f) {ρ : Operand → Value} (hρ : ∀ x v, ev l x = some v → ρ x = v) (hfn : ρ (.func f) = .func (.func f) #[] #[]) (hx : xs.mapM (ev l) = some vs) (w : World) (d : Option Tmp) (g : Option (Nat × Bool)) :
    (execOp ρ ⟨d, .call ⟨.value (.func f), xs.toArray, ts⟩, ty, pos, aft, g⟩).run P w = .ok (.enter f vs.toArray) w := by
  have e := map_ev hρ hx
  simp only [execOp, resolve, List.map_toArray, e, hfn, Deferred.ofValue, Sem.run_bind, Sem.run_pure, Result.andThen_ok, invoke, Array.empty_append, Array.append_empty, run_callFunc hf]
abbrev Same (X : Value) (H : HM) (O : OL) : Value → HM → OL → Prop := fun v H' O' => v = X ∧ H = H' ∧ O = O'
theorem q_call {f : FuncId} {xs : List Operand} {vs : List Value} {ts : Array TypeId} {X : Value} (hf : FnOk P f) (hx : xs.mapM (ev l) = some vs) (hc : CallsM P f vs.toArray B H O (Same X H O))
    (k : ExQ P sz B ops K rest ((d, X) :: l) H O) : ExQ P sz B ops K (⟨some d, .call ⟨.value (.func f), xs.toArray, ts⟩, ty, pos, aft, none⟩ :: rest) l H O := by
  intro hd a ha
  obtain ⟨hlt, hr⟩ := dst_lt hd rfl
  simp only [wpQuiet, Region.wanted, if_true]
  refine ⟨X, fun w hw => ?_, k hr _ (ha.put hlt X)⟩
  simp only [Oper.quietAt, exec_call hf (fun _ _ => ha.ev) rfl hx, Oper.quietUpon]
  exact ⟨trivial, (hc w hw).mono fun e w' ⟨v, H', O', h1, h2, h3, h4, h5⟩ => ⟨by rw [h1, h3], by subst h4; subst h5; exact h2⟩⟩
theorem q_gcall {f : FuncId} {xs : List Operand} {vs : List Value} {ts : Array TypeId} {X : Value} {j : Nat} (t : Nat) {b : Bool} (hj : (ops[j]?).bind (·.dst) = some t) (hb : look l t = some (.bool b)) (hf : FnOk P f) (hx : xs.mapM (ev l) = some vs) (hc : CallsM P f vs.toArray B H O (Same X H O))
    (k : ExQ P sz B ops K rest ((d, X) :: l) H O) : ExQ P sz B ops K (⟨some d, .call ⟨.value (.func f), xs.toArray, ts⟩, ty, pos, aft, some (j, b)⟩ :: rest) l H O := by
  intro hd a ha
  obtain ⟨hlt, hr⟩ := dst_lt hd rfl
  simp only [wpQuiet]
  rw [if_pos (by simp [Region.wanted, yielded_of ha hj hb])]
  refine ⟨X, fun w hw => ?_, k hr _ (ha.put hlt X)⟩
  simp only [Oper.quietAt, exec_call hf (fun _ _ => ha.ev) rfl hx, Oper.quietUpon]
  exact ⟨trivial, (hc w hw).mono fun e w' ⟨v, H', O', h1, h2, h3, h4, h5⟩ => ⟨by rw [h1, h3], by subst h4; subst h5; exact h2⟩⟩
theorem o_gcall {f : FuncId} {xs : List Operand} {vs : List Value} {ts : Array TypeId} {R : Value → HM → OL → Prop} {j : Nat} (t : Nat) {b : Bool} (hj : (ops[j]?).bind (·.dst) = some t) (hb : look l t = some (.bool b)) (hf : FnOk P f) (hx : xs.mapM (ev l) = some vs) (hc : CallsM P f vs.toArray B H O R)
    (k : ∀ v H' O', R v H' O' → ExO P sz B ops Q rest ((d, v) :: l) H' O') : ExO P sz B ops Q (⟨some d, .call ⟨.value (.func f), xs.toArray, ts⟩, ty, pos, aft, some (j, b)⟩ :: rest) l H O := by
  intro hd a w ha hw
  obtain ⟨hlt, hr⟩ := dst_lt hd rfl
  unfold wpList
  rw [if_pos (by simp [Region.wanted, yielded_of ha hj hb])]
  refine .inl ?_
  simp only [Oper.wp, exec_call hf (fun _ _ => ha.ev) rfl hx, Oper.upon]
  refine (hc w hw).mono ?_
  rintro e w' ⟨v, H', O', rfl, h1, h2⟩
  exact k v H' O' h2 hr _ _ (ha.put hlt v) h1
theorem exec_callV {f : FuncId} {x : Operand} {xs : List Operand} {vs : List Value} {ts : Array TypeId} {us cs : Array Value} (hf : FnOk P f) {ρ : Operand → Value} (hρ : ∀ x v, ev l x = some v → ρ x = v) (hfn : ev l x = some (.func (.func f) us cs)) (hx : xs.mapM (ev l) = some vs) (w : World) (d : Option Tmp) (g : Option (Nat × Bool)) :
    (execOp ρ ⟨d, .call ⟨.value x, xs.toArray, ts⟩, ty, pos, aft, g⟩).run P w = .ok (.enter f (us ++ vs.toArray ++ cs)) w := by
  have e := map_ev hρ hx
  simp only [execOp, resolve, List.map_toArray, e, hρ _ _ hfn, Deferred.ofValue, Sem.run_bind, Sem.run_pure, Result.andThen_ok, invoke, run_callFunc hf]
theorem o_callV {f : FuncId} {x : Operand} {xs : List Operand} {vs : List Value} {ts : Array TypeId} {us cs : Array Value} {R : Value → HM → OL → Prop} (hf : FnOk P f) (hfn : ev l x = some (.func (.func f) us cs)) (hx : xs.mapM (ev l) = some vs) (hc : CallsM P f (us ++ vs.toArray ++ cs) B H O R)
    (k : ∀ v H' O', R v H' O' → ExO P sz B ops Q rest ((d, v) :: l) H' O') : ExO P sz B ops Q (⟨some d, .call ⟨.value x, xs.toArray, ts⟩, ty, pos, aft, none⟩ :: rest) l H O := by
  intro hd a w ha hw
  obtain ⟨hlt, hr⟩ := dst_lt hd rfl
  refine wpList_plain rfl fun K hK => ?_
  simp only [Oper.wp, exec_callV hf (fun _ _ => ha.ev) hfn hx, Oper.upon]
  refine (hc w hw).mono ?_
  rintro e w' ⟨v, H', O', rfl, h1, h2⟩
  exact hK _ _ (k v H' O' h2 hr _ _ (ha.put hlt v) h1)
end
def argsEnv : List Value → Nat → Env
  | [], _ => []
  | v :: vs, k => (k, v) :: argsEnv vs (k + 1)
theorem argsEnv_look : ∀ (vs : List Value) (k t : Nat) (v : Value), look (argsEnv vs k) t = some v → k ≤ t ∧ vs[t - k]? = some v
  | [], k, t, v, h => by simp [argsEnv, look] at h
  | u :: vs, k, t, v, h => by
    rw [argsEnv, look_cons] at h
    split at h
    · rename_i e; subst e; exact ⟨Nat.le_refl _, by simpa using h⟩
    obtain ⟨h1, h2⟩ := argsEnv_look vs (k + 1) t v h
    refine ⟨by omega, ?_⟩
    rw [show t - k = (t - (k + 1)) + 1 by omega]; simpa using h2
theorem enter {P : Program} {f : FuncId} {fn : Func} {c : Code} {vs : List Value} {B : World} {H : HM} {O : OL} {R : Value → HM → OL → Prop} {l : Env} {sz : Nat}
    (hf : P.funcs[f]? = some fn) (hb : fn.body = some c) (hn : fn.ntmps = sz) (hl : argsEnv vs 0 = l) (hz : Nat.ble vs.length sz = true)
    (h : ExC P sz B c (FnPost P fn R) l H O) : CallsM P f vs.toArray B H O R := by
  subst hn
  subst hl
  refine callsM hf hb (fun t v hv => ?_) (by simpa using hz) h
  obtain ⟨_, h2⟩ := argsEnv_look vs 0 t v hv
  simp only [Nat.sub_zero] at h2
  have hlt := (List.getElem?_eq_some_iff.1 h2).1
  rw [Array.getD_eq_getD_getElem?, Array.getElem?_append_left (by simpa using hlt)]
  simp [h2]
end Go.Ph
set_option linter.unusedVariables false
set_option linter.unusedSimpArgs false
namespace Go.Ph
open Go.RowKit
structure ST (P : Program) (t : TypeId) (pl : List (Nat × Nat)) (z : List Value) : Prop where
  h : ∃ fs, P.underlying t = some (.struct fs) ∧ ∀ w, (fs.mapM (fun (f : Field) => do pure (f.offset, ← sizeOf f.type))).run P w = .ok pl.toArray w
  zero : ∃ n b, (P.info? t).map (fun i => (i.zero, i.size, i.bytes)) = some (some (.agg z.toArray), n, b)
section
variable {P : Program} {sz : Nat} {B : World} {Q : EQ} {l : Env} {H : HM} {O : OL} {ops : Array Oper} {rest : List Oper} {ty : TypeId} {pos : String} {aft : Array Edge} {d : Nat}
theorem x_loopg {σ : Type} {c : Code} (L : σ → Env) (Hs : σ → HM) (M : σ → OL) (I : σ → Prop) (μ : σ → Nat) (s0 : σ) (hI : I s0) (hl : Sub l (L s0)) (hH : H = Hs s0) (hO : O = M s0)
    (round : ∀ s, I s → ExC P sz B c (thenQ (fun l' H' O' => ∃ s' n, H' = Hs s' ∧ Sub l' (L s') ∧ O'.drop n = M s' ∧ I s' ∧ μ s' < μ s) Q) (L s) (Hs s) (M s)) : ExC P sz B (.loop c) Q l H O := by
  intro a w ha hw
  subst hO
  subst hH
  refine wp_loop_ghost (fun n a w => ∃ s, μ s = n ∧ I s ∧ Fr sz (L s) a ∧ Fits B (Hs s) (M s) w) (μ s0) ⟨s0, rfl, hI, ha.sub hl, hw⟩ ?_
  rintro n a w ⟨s, rfl, hs, ha, hw⟩
  refine wp_mono (round s hs a w ha hw) ?_
  rintro e a' w' ⟨l', H', O', h1, h2, h3⟩
  cases e with
  | normal =>
    obtain ⟨s', k, rfl, hs1, hs2, hs3, hs4⟩ := h3
    exact ⟨μ s', hs4, s', rfl, hs3, h1.sub hs1, hs2 ▸ h2.drop k⟩
  | _ => exact ⟨l', H', O', h1, h2, h3⟩
end
end Go.Ph
set_option linter.unusedVariables false
set_option linter.unusedSimpArgs false
namespace Go.Ph
open Go.RowKit
theorem k1 {p : Prop} [Decidable p] : (decide p = true) = p := decide_eq_true_eq
theorem k2 {p : Prop} [Decidable p] : (decide p = false) = ¬p := by simp
theorem k3 {b : Bool} : ((!b) = true) = (b = false) := by simp
theorem k4 {b : Bool} : ((!b) = false) = (b = true) := by simp
theorem k5 {a b : Bool} : ((a || b) = true) = (a = true ∨ b = true) := by simp
theorem k6 {a b : Bool} : ((a && b) = true) = (a = true ∧ b = true) := by simp
theorem k7 {a b : Bool} : ((a || b) = false) = (a = false ∧ b = false) := by simp
theorem k8 {a b : Int} : (¬ a < b) = (b ≤ a) := by simp
theorem k9 {a b : Int} : (¬ a ≤ b) = (b < a) := by simp
section
variable {P : Program} {sz : Nat} {B : World} {Q : EQ} {l : Env} {H : HM} {O : OL} {ops : Array Oper} {rest : List Oper} {ty : TypeId} {pos : String} {aft : Array Edge} {d : Nat}
def ibit (op : BinOp) (k : IntKind) (m n : Int) : Int := k.wrap (match op with
  | .and => (BitVec.ofInt k.bits m &&& BitVec.ofInt k.bits n).toNat
  | .or => (BitVec.ofInt k.bits m ||| BitVec.ofInt k.bits n).toNat
  | .xor => (BitVec.ofInt k.bits m ^^^ BitVec.ofInt k.bits n).toNat
  | _ => (BitVec.ofInt k.bits m &&& ~~~ BitVec.ofInt k.bits n).toNat)
def ishl (k : IntKind) (m n : Int) : Int := k.wrap (m * 2 ^ (min n.toNat k.bits))
def ishr (k : IntKind) (m n : Int) : Int := m.fdiv (2 ^ (min n.toNat k.bits))
section ints
variable {t t' : TypeId} {x y : Operand} {k k' : IntKind} {m n : Int}
theorem y_and (hx : ev l x = some (.int k m)) (hy : ev l y = some (.int k n)) : Yl P (.binOp .and t x y t') ty l H O (.int k (ibit .and k m n)) := fun ρ w d pos aft g ha hw => by
  simp only [execOp, ha _ _ hx, ha _ _ hy, binOp, ne_eq, not_true_eq_false, if_false]; rfl
theorem y_xor (hx : ev l x = some (.int k m)) : Yl P (.unOp .xor t x) ty l H O (.int k (ibit .xor k (if k.signed then -1 else k.max) m)) := fun ρ w d pos aft g ha hw => by
  simp only [execOp, ha _ _ hx]; rfl
theorem y_neg (hx : ev l x = some (.int k m)) : Yl P (.unOp .neg t x) ty l H O (.int k (k.wrap (0 - m))) := fun ρ w d pos aft g ha hw => by
  simp only [execOp, ha _ _ hx]; rfl
theorem y_shl (hx : ev l x = some (.int k m)) (hy : ev l y = some (.int k' n)) (h0 : 0 ≤ n) : Yl P (.binOp .shl t x y t') ty l H O (.int k (ishl k m n)) := fun ρ w d pos aft g ha hw => by
  have : ¬ n < 0 := by omega
  simp only [execOp, ha _ _ hx, ha _ _ hy, binOp, Op.shift, this, if_false]; rfl
theorem y_shr (hx : ev l x = some (.int k m)) (hy : ev l y = some (.int k' n)) (h0 : 0 ≤ n) : Yl P (.binOp .shr t x y t') ty l H O (.int k (ishr k m n)) := fun ρ w d pos aft g ha hw => by
  have : ¬ n < 0 := by omega
  simp only [execOp, ha _ _ hx, ha _ _ hy, binOp, Op.shift, this, if_false]; rfl
theorem y_conv {t1 t2 : TypeId} {k1 : IntKind} (h1 : P.underlying t1 = some (.int k1)) (h2 : P.underlying t2 = some (.int k')) (hx : ev l x = some (.int k m)) : Yl P (.convert t1 t2 x) ty l H O (.int k' (k'.wrap m)) := fun ρ w d pos aft g ha hw => by
  simp only [execOp, ha _ _ hx, convert, Sem.run_bind, Go.run_underlying (P := P) h1, Go.run_underlying (P := P) h2, Result.andThen_ok]
  rfl
end ints
theorem y_idxArr {t e N : Nat} {x y : Operand} {agg : Bool} {es bytes b o : Nat} {z : Value} {i : Int} {k : IntKind} (ht : P.underlying t = some (.array N e)) (ti : TI P e agg es bytes z)
    (hx : ev l x = some (.pointer (some ⟨b, o, none⟩))) (hy : ev l y = some (.int k i)) (h0 : 0 ≤ i) (h1 : i < N) : Yl P (.indexAddr t x y) ty l H O (.pointer (some ⟨b, o + i.toNat * es, none⟩)) := fun ρ w d pos aft g ha hw => by
  simp [execOp, ha _ _ hx, ha _ _ hy, Instr.indexAt, asIntOf, Go.run_underlying (P := P) ht, run_sizeOf ti, h0, h1, add_pl, Instr.sureAddr]
theorem y_loadH {t : TypeId} {x : Operand} {bytes : Nat} {z : Value} {b o : Nat} {C : Array Value} {T : TypeId} {fr : Nat × Nat} {u : Value} (ti : TI P t false 1 bytes z) (hx : ev l x = some (.pointer (some ⟨b, o, none⟩))) (hH : H b = some (.cells C T fr)) (hu : C[o]? = some u) :
    Yl P (.load t x) ty l H O u :=
  y_load (cs := [u]) ti hx (At.ofH hH fun j v hv => by
    match j, hv with
    | 0, hv => simp at hv; subst hv; simpa using hu
    | j + 1, hv => simp at hv) rfl (fun _ => rfl)
def MapF (o : Obj) (f : Int → Int) : Prop := ∃ es clock, o = .map es clock ∧ (∀ e ∈ es.toList, ∃ k v, e.key = .int .i64 k ∧ e.val = .int .i64 v) ∧
  ∀ k, ∃ r, Instr.findNow (.int .i64) (.int .i64 k) es.toList 0 = some r ∧ (r.map (·.2)).getD (.int .i64 0) = .int .i64 (f k)
theorem MapF.empty : MapF (.map #[] 0) (fun _ => 0) := ⟨#[], 0, rfl, by simp, fun k => ⟨none, rfl, rfl⟩⟩
theorem run_checkKey {t : TypeId} (h : P.underlying t = some (.int .i64)) (b : Bool) (k : Int) (w : World) : (Instr.checkKey b 10000 t (.int .i64 k)).run P w = .ok () w := by
  show (Instr.checkKey b (9999 + 1) t (.int .i64 k)).run P w = _
  unfold Instr.checkKey
  simp only [Sem.run_bind, Go.run_underlying (P := P) h, Result.andThen_ok]
  rfl
theorem run_findKey {t : TypeId} (h : P.underlying t = some (.int .i64)) {k : Int} {es : List MapEntry} {r : Option (Nat × Value)} (hr : Instr.findNow (.int .i64) (.int .i64 k) es 0 = some r) (w : World) : (Instr.findKey t (.int .i64 k) es).run P w = .ok r w := by
  unfold Instr.findKey
  simp only [Sem.run_bind, Go.run_underlying (P := P) h, Result.andThen_ok, hr]
  rfl
theorem y_lookup {t kt et : TypeId} {x y : Operand} {bytes r : Nat} {o : Obj} {f : Int → Int} {k : Int} (ht : P.underlying t = some (.map kt et)) (hk : P.underlying kt = some (.int .i64)) (ti : TI P et false 1 bytes (.int .i64 0)) (hm : MapF o f)
    (hx : ev l x = some (.map (some r))) (hy : ev l y = some (.int .i64 k)) (hi : In O r o) : Yl P (.lookup t x y false) ty l H O (.int .i64 (f k)) := fun ρ w d pos aft g ha hw => by
  obtain ⟨es, clock, rfl, _, hf⟩ := hm
  have hg := hw.own _ _ hi.mem
  have e1 : (getObj r).run P w = .ok (.map es clock) w := by simp [getObj, Sem.run, hg]
  obtain ⟨q, h1, h2⟩ := hf k
  simp only [execOp, ha _ _ hx, ha _ _ hy, Instr.lookup, Sem.run_bind, Go.run_underlying (P := P) ht, Result.andThen_ok, e1, Sem.run_pure, run_checkKey hk, run_findKey hk h1]
  cases q with
  | none => simp [run_zero ti] at h2 ⊢; rw [← h2]
  | some p => simp at h2 ⊢; exact h2
theorem o_makeMap {t : TypeId} (k : ∀ r, ExO P sz B ops Q rest ((d, .map (some r)) :: l) H ((r, .map #[] 0) :: O)) : ExO P sz B ops Q (⟨some d, .makeMap t none, ty, pos, aft, none⟩ :: rest) l H O := by
  intro hd a w ha hw
  obtain ⟨hlt, hr⟩ := dst_lt hd rfl
  refine wpList_plain rfl fun K hK => ?_
  simp only [Oper.wp, execOp, Option.map_none, Instr.makeMap, Sem.run_bind, run_newObj, Sem.run_pure, Result.andThen_ok, Oper.upon]
  exact hK _ _ (k _ hr _ _ (ha.put hlt _) (hw.alloc _))
theorem findNow_cons {k kx : Int} {x : MapEntry} (hx : x.key = .int .i64 kx) (es : List MapEntry) (i : Nat) :
    Instr.findNow (.int .i64) (.int .i64 k) (x :: es) i = if k = kx then some (some (i, x.val)) else Instr.findNow (.int .i64) (.int .i64 k) es (i + 1) := by
  simp only [Instr.findNow, hx, Instr.sameNow, if_true]
  by_cases h : k = kx
  · subst h; simp
  have : (k == kx) = false := by simpa using h
  rw [if_neg h, this]
theorem findNow_push (k j : Int) (v : Value) (e : MapEntry) (hk : e.key = .int .i64 j) : ∀ (es : List MapEntry), (∀ e ∈ es, ∃ k v, e.key = .int .i64 k ∧ e.val = .int .i64 v) → ∀ (i : Nat) (r : Option (Nat × Value)), Instr.findNow (.int .i64) (.int .i64 k) es i = some r →
    Instr.findNow (.int .i64) (.int .i64 k) (es ++ [e]) i = some (match r with | some p => some p | none => if k = j then some (i + es.length, e.val) else none)
  | [], _, i, r, h => by
    simp [Instr.findNow] at h
    subst h
    rw [List.nil_append, findNow_cons hk]
    by_cases hkj : k = j <;> simp [hkj, Instr.findNow]
  | x :: es, hall, i, r, h => by
    obtain ⟨kx, vx, hkx, hvx⟩ := hall x (by simp)
    rw [List.cons_append, findNow_cons hkx]
    rw [findNow_cons hkx] at h
    by_cases hkk : k = kx
    · rw [if_pos hkk] at h ⊢; rw [← Option.some.inj h]
    rw [if_neg hkk] at h ⊢
    rw [findNow_push k j v e hk es (fun e he => hall e (by simp [he])) (i + 1) r h]
    cases r with
    | some p => rfl
    | none => simp [Nat.add_comm 1, Nat.add_assoc]
theorem findNow_at {k : Int} : ∀ (es : List MapEntry) (i q : Nat) (u : Value), (∀ e ∈ es, ∃ k v, e.key = .int .i64 k ∧ e.val = .int .i64 v) → Instr.findNow (.int .i64) (.int .i64 k) es i = some (some (q, u)) → ∃ m e, q = i + m ∧ es[m]? = some e ∧ e.key = .int .i64 k ∧
    (∀ j v, Instr.findNow (.int .i64) (.int .i64 j) (es.modify m fun e => { e with val := v }) i = (if j = k then some (some (q, v)) else Instr.findNow (.int .i64) (.int .i64 j) es i))
  | [], i, q, u, _, h => by simp [Instr.findNow] at h
  | x :: es, i, q, u, hall, h => by
    obtain ⟨kx, vx, hkx, hvx⟩ := hall x (by simp)
    rw [findNow_cons hkx] at h
    by_cases hk : k = kx
    · subst hk
      simp at h
      obtain ⟨rfl, _⟩ := h
      refine ⟨0, x, rfl, rfl, hkx, fun j v => ?_⟩
      rw [List.modify_zero_cons, findNow_cons (x := { x with val := v }) (kx := k) hkx, findNow_cons hkx]
      by_cases hj : j = k <;> simp [hj]
    rw [if_neg hk] at h
    obtain ⟨m, e, rfl, h2, h3, h4⟩ := findNow_at es (i + 1) q u (fun e he => hall e (by simp [he])) h
    refine ⟨m + 1, e, by omega, by simpa using h2, h3, fun j v => ?_⟩
    rw [List.modify_succ_cons, findNow_cons hkx, findNow_cons hkx, h4]
    by_cases hj : j = kx
    · have : ¬ j = k := fun e => hk (e ▸ hj)
      simp [hj]
      intro e; exact absurd e.symm hk
    simp [hj]
theorem o_mapUpdate {t kt et : TypeId} {x y z : Operand} {r : Nat} {o : Obj} {f : Int → Int} {k v : Int} {F : OL → OL} (ht : P.underlying t = some (.map kt et)) (hk : P.underlying kt = some (.int .i64)) (hm : MapF o f)
    (hx : ev l x = some (.map (some r))) (hy : ev l y = some (.int .i64 k)) (hz : ev l z = some (.int .i64 v)) (hF : Hole O [(r, o)] F)
    (kk : ∀ o', MapF o' (fun j => if j = k then v else f j) → ExO P sz B ops Q rest l H (F [(r, o')])) : ExO P sz B ops Q (⟨none, .mapUpdate t x y z, ty, pos, aft, none⟩ :: rest) l H O := by
  intro hd a w ha hw
  simp only [List.all_cons, Bool.and_eq_true] at hd
  refine wpList_plain rfl fun K hK => ?_
  obtain ⟨A, C, rfl, hF'⟩ := hF.split
  obtain ⟨es, clock, rfl, hall, hf⟩ := hm
  have hg := (hw.own r (.map es clock) (by simp)).1
  have hlt : r < w.heap.size := (Array.getElem?_eq_some_iff.1 hg).1
  have e1 : (getObj r).run P w = .ok (.map es clock) w := by simp [getObj, Sem.run, hg]
  have e2 : ∀ o', (setObj r o').run P w = .ok () { w with heap := w.heap.setIfInBounds r o' } := fun o' => by simp [setObj, Sem.run, hg]
  have fit : ∀ o', Fits B H (F [(r, o')]) { w with heap := w.heap.setIfInBounds r o' } := fun o' => by rw [hF']; exact hw.turn o'
  obtain ⟨q, h1, h2⟩ := hf k
  cases q with
  | none =>
    have hm' : MapF (.map (es.push { key := .int .i64 k, val := .int .i64 v, born := clock }) (clock + 1)) (fun j => if j = k then v else f j) := by
      refine ⟨_, _, rfl, fun e he => ?_, fun j => ?_⟩
      · simp only [Array.toList_push, List.mem_append, List.mem_singleton] at he
        rcases he with he | rfl
        · exact hall e he
        exact ⟨k, v, rfl, rfl⟩
      obtain ⟨qj, h3, h4⟩ := hf j
      rw [Array.toList_push]
      refine ⟨_, findNow_push j k (.int .i64 v) _ rfl es.toList hall 0 qj h3, ?_⟩
      by_cases hj : j = k
      · subst hj
        rw [h3] at h1
        have := Option.some.inj h1
        subst this
        simp
      cases qj with
      | none => simp [hj] at h4 ⊢; exact h4
      | some p => simpa [hj] using h4
    simp only [Oper.wp, execOp, ha.ev hx, ha.ev hy, ha.ev hz, Instr.mapUpdate, Sem.run_bind, Go.run_underlying (P := P) ht, Result.andThen_ok, e1, run_checkKey hk, run_findKey hk h1, e2, Sem.run_pure, Oper.upon]
    exact hK _ _ (kk _ hm' hd.2 _ _ ha (fit _))
  | some p =>
    obtain ⟨q, u⟩ := p
    obtain ⟨m, e, rfl, h5, h6, h7⟩ := findNow_at es.toList 0 q u hall h1
    simp only [Nat.zero_add] at h1 h7
    have e5 : es[m]? = some e := by simpa using h5
    have e6 : (Instr.keyThatStays (((es[m]?).map (·.key)).getD (.int .i64 k)) (.int .i64 k)).run P w = .ok (.int .i64 k) w := by
      simp [e5, h6, Instr.keyThatStays, Instr.sameBits]
    have hes : es.modify m (fun e => { e with key := .int .i64 k, val := .int .i64 v }) = es.modify m (fun e => { e with val := .int .i64 v }) := by
      apply Array.ext'
      simp only [Array.toList_modify]
      apply List.ext_getElem?
      intro i
      rw [List.getElem?_modify, List.getElem?_modify]
      by_cases him : m = i
      · subst him; simp [h5, h6]
      simp [him]
    have hm' : MapF (.map (es.modify m (fun e => { e with val := .int .i64 v })) clock) (fun j => if j = k then v else f j) := by
      refine ⟨_, _, rfl, fun e' he => ?_, fun j => ?_⟩
      · rw [Array.toList_modify] at he
        obtain ⟨i, hi⟩ := List.getElem?_of_mem he
        rw [List.getElem?_modify] at hi
        cases hx2 : es.toList[i]? with
        | none => rw [hx2] at hi; simp at hi
        | some e2 =>
          obtain ⟨k2, v2, h8, h9⟩ := hall e2 (List.mem_of_getElem? hx2)
          rw [hx2] at hi
          by_cases him : m = i
          · simp [him] at hi; subst hi; exact ⟨k2, v, h8, rfl⟩
          simp [him] at hi; subst hi; exact ⟨k2, v2, h8, h9⟩
      rw [Array.toList_modify, h7]
      by_cases hj : j = k
      · simp [hj]
      obtain ⟨qj, h3, h4⟩ := hf j
      simp [hj, h3, h4]
    simp only [Oper.wp, execOp, ha.ev hx, ha.ev hy, ha.ev hz, Instr.mapUpdate, Sem.run_bind, Go.run_underlying (P := P) ht, Result.andThen_ok, e1, run_checkKey hk, run_findKey hk h1, Nat.zero_add, e6, hes, e2, Sem.run_pure, Oper.upon]
    exact hK _ _ (kk _ hm' hd.2 _ _ ha (fit _))
end
end Go.Ph
set_option linter.unusedVariables false
set_option linter.unusedSimpArgs false
namespace Go.Ph
open Go.RowKit
def NoPanic (Q : EQ) : Prop := ∀ c l H O, ¬ Q (.panic c) l H O
theorem np_fn {P : Program} {fn : Func} {R : Value → HM → OL → Prop} : NoPanic (FnPost P fn R) := by rintro c l H O ⟨h | h, _⟩ <;> cases h
theorem np_then {next : Env → HM → OL → Prop} {Q : EQ} (h : NoPanic Q) : NoPanic (thenQ next Q) := fun c l H O => h c l H O
theorem np_block {id : Nat} {Q : EQ} (h : NoPanic Q) : NoPanic (blockQ id Q) := fun c l H O => h c l H O
section
variable {P : Program} {ops : Array Oper}
def waitsAll (ops : Array Oper) (N : List Nat) (j : Nat) : Bool := match ops[j]? with
  | some o => N.all fun i => o.after.any fun e => Region.binds .any e && e.on == i
  | none => true
def anyT (P : Program) (ops : Array Oper) (Q : Exit → Act → World → Prop) (S : World → Prop) (T : List Nat) : Nat → Array Bool → Act → World → Prop
  | 0, listed, a, w => Region.ready .any ops listed = [] ∧ Q .normal a w
  | fuel + 1, listed, a, w => (Region.ready .any ops listed = [] → Q .normal a w) ∧
    ∀ i ∈ Region.ready .any ops listed, wpOp P ops Q i (fun a' w' => (i ∉ T → S w') ∧ anyT P ops Q S T fuel (listed.setIfInBounds i true) a' w') a w
theorem any_of_anyT {Q : Exit → Act → World → Prop} {S : World → Prop} {T : List Nat} : ∀ (fuel : Nat) (listed : Array Bool) (a : Act) (w : World), anyT P ops Q S T fuel listed a w → wpAny P .any ops Q fuel listed a w
  | 0, _, _, _, h => h
  | fuel + 1, _, _, _, h => ⟨h.1, fun i hi => wpOp_mono (fun a' w' h' => any_of_anyT fuel _ a' w' h'.2) (h.2 i hi)⟩
theorem anyT_first {Q : Exit → Act → World → Prop} {S : World → Prop} {N T : List Nat} {i : Nat} {oi : Oper} {v : Value} (hi : ops[i]? = some oi) (hN : i ∈ N) (hT : ∀ j ∈ T, waitsAll ops N j = true) (hsel : ∀ (j : Nat) (o : Oper) cs b, ops[j]? = some o → o.op ≠ .select cs b)
    (hQ : ∀ c a w, ¬ Q (.panic c) a w) : ∀ (fuel : Nat) (listed : Array Bool) (a : Act) (w : World),
      (∀ j oj, ops[j]? = some oj → j ≠ i → listed.getD j true = false → (∀ e ∈ oj.after, Region.binds .any e = true → e.on ≠ i) → oi.apart ops oj = true) →
      i ∈ Region.ready .any ops listed → YieldsIf P ops S oi v a → S w →
      anyT P ops Q S T fuel (listed.setIfInBounds i true) (a.put oi.dst v) w → anyT P ops Q S T (fuel + 1) listed a w := by
  intro fuel
  induction fuel with
  | zero =>
    intro listed a w hfree hr hy hS H
    refine ⟨fun h => absurd hr (by rw [h]; simp), fun j hj => ?_⟩
    by_cases hji : j = i
    · subst hji; exact hy.wpOp hi hS ⟨fun _ => hS, H⟩
    have := ready_mono hj hji
    rw [H.1] at this; cases this
  | succ fuel ih =>
    intro listed a w hfree hr hy hS H
    refine ⟨fun h => absurd hr (by rw [h]; simp), fun j hj => ?_⟩
    by_cases hji : j = i
    · subst hji; exact hy.wpOp hi hS ⟨fun _ => hS, H⟩
    obtain ⟨hjun, oj, hoj, hall⟩ := mem_ready.1 hj
    have hiun := (mem_ready.1 hr).1
    have hnot : ∀ e ∈ oj.after, Region.binds .any e = true → e.on ≠ i := fun e he hb heq => by
      have h1 := hall e he hb
      rw [heq] at h1
      rcases Nat.lt_or_ge i listed.size with h' | h'
      · simp [h'] at hiun h1; rw [hiun] at h1; cases h1
      simp [Array.getElem?_eq_none h'] at h1
    have hjT : j ∉ T := fun hm => by
      have h1 := hT j hm
      simp only [waitsAll, hoj, List.all_eq_true] at h1
      obtain ⟨e, he, hb⟩ := Array.any_eq_true'.1 (h1 i hN)
      simp only [Bool.and_eq_true, beq_iff_eq] at hb
      exact hnot e he hb.1 hb.2
    have h2 := wpOp_putIf (Q := Q) hoj (hfree j oj hoj hji hjun hnot) (fun cs b => hsel i oi cs b hi) (fun cs b => hsel j oj cs b hoj) (fun c a w h => absurd h (hQ c _ w)) hy (H.2 j (ready_mono hj hji))
    have hfree' : ∀ k ok, ops[k]? = some ok → k ≠ i → (listed.setIfInBounds j true).getD k true = false → (∀ e ∈ ok.after, Region.binds .any e = true → e.on ≠ i) → oi.apart ops ok = true := fun k ok hk hki hun hno => by
      refine hfree k ok hk hki ?_ hno
      by_cases hjk : j = k
      · subst hjk; exact hjun
      rw [getD_set_ne true hjk] at hun; exact hun
    refine wpOp_mono (fun a' w' h3 => ?_) h2
    obtain ⟨h4, h5, h6⟩ := h3
    rw [Array.setIfInBounds_comm _ _ (Ne.symm hji)] at h6
    exact ⟨fun _ => h5 hjT, ih _ a' w' hfree' (ready_mono hr (Ne.symm hji)) h4 (h5 hjT) h6⟩
end
def planOk (ops : Array Oper) (N T : List Nat) : List (Nat × Bool) → Array Bool → Bool
  | [], listed => (Region.ready .any ops listed).isEmpty
  | (i, true) :: rest, listed => N.contains i && (Region.ready .any ops listed).contains i && Region.free .any ops listed i && planOk ops N T rest (listed.setIfInBounds i true)
  | (i, false) :: rest, listed => (Region.ready .any ops listed == [i]) && (!T.contains i || rest.all fun p => !p.2) && planOk ops N T rest (listed.setIfInBounds i true)
def planAll (ops : Array Oper) (plan : List (Nat × Bool)) (N T : List Nat) : Bool :=
  Region.noSelect ops && T.all (waitsAll ops N) && (plan.length == ops.size) && planOk ops N T plan (Array.replicate ops.size false)
section
variable {P : Program} {sz : Nat} {B : World} {Q : EQ} {l : Env} {H : HM} {O : OL} {ops : Array Oper} {ty : TypeId} {pos : String} {aft : Array Edge} {d : Nat}
def ExP (P : Program) (sz : Nat) (B : World) (ops : Array Oper) (Q : EQ) (H0 : HM) (O0 : OL) (T : List Nat) : List (Nat × Bool) → Env → HM → OL → Prop
  | [], l, H, O => Q .normal l H O
  | (i, true) :: rest, l, H, O => ∃ o v, ops[i]? = some o ∧ (∀ a, Fr sz l a → YieldsIf P ops (Has H0 O0) o v a) ∧ dstOk sz o = true ∧ o.dst ≠ none ∧ ExP P sz B ops Q H0 O0 T rest ((o.dst.getD 0, v) :: l) H O
  | (i, false) :: rest, l, H, O => ∃ o, ops[i]? = some o ∧ dstOk sz o = true ∧ ExO P sz B ops (thenQ (fun l' H' O' => (T.contains i = true ∨ (Ext H0 H' ∧ ∀ p ∈ O0, p ∈ O')) ∧ ExP P sz B ops Q H0 O0 T rest l' H' O') Q) [o] l H O
theorem wp_exits {o : Oper} {a : Act} {w : World} {K : Act → World → Prop} {Q Q' : Exit → Act → World → Prop} (hq : ∀ e a w, e ≠ .normal → Q e a w → Q' e a w) (h : o.wp P a w K Q) : o.wp P a w K Q' := by
  unfold Oper.wp at *
  generalize (execOp a.eval o).run P w = r at *
  cases r with
  | ok n w' =>
    cases n <;> simp only [Oper.upon] at h ⊢ <;> first | exact h | skip
    case enter f args =>
      refine Calls.mono h fun e w'' he => ?_
      cases e with
      | returned u => exact he
      | panicked c => exact hq _ _ _ (by simp) he
      | outgrown => obtain ⟨a, w, he⟩ := he; exact ⟨a, w, hq _ _ _ (by simp) he⟩
  | halt x w' =>
    cases x <;> simp only [Oper.upon] at h ⊢
    case panic u => exact hq _ _ _ (by simp) h
theorem ExP.sound {H0 : HM} {O0 : OL} {N T : List Nat} (hs : Region.noSelect ops = true) (hT : ∀ j ∈ T, waitsAll ops N j = true) (np : NoPanic Q) : ∀ (plan : List (Nat × Bool)) (listed : Array Bool) (l : Env) (H : HM) (O : OL),
    planOk ops N T plan listed = true → ExP P sz B ops Q H0 O0 T plan l H O → ∀ a w, Fr sz l a → Fits B H O w → ((∃ i, (i, true) ∈ plan) → Has H0 O0 w) → anyT P ops (Lift sz B Q) (Has H0 O0) T plan.length listed a w := by
  intro plan
  induction plan with
  | nil =>
    intro listed l H O hp h a w ha hw _
    exact ⟨by simpa [planOk] using hp, l, H, O, ha, hw, h⟩
  | cons p rest ih =>
    obtain ⟨i, b⟩ := p
    intro listed l H O hp h a w ha hw hS
    cases b with
    | true =>
      simp only [planOk, Bool.and_eq_true] at hp
      obtain ⟨⟨⟨h1, h2⟩, h3⟩, h4⟩ := hp
      obtain ⟨o, v, e1, e2, e3, e4, e5⟩ := h
      have hS0 := hS ⟨i, by simp⟩
      have hfr : Fr sz ((o.dst.getD 0, v) :: l) (a.put o.dst v) := by
        cases hd : o.dst with
        | none => exact absurd hd e4
        | some d =>
          simp only [dstOk, hd, Nat.blt_eq] at e3
          exact ha.put e3 v
      refine anyT_first (N := N) e1 (by simpa using h1) hT (Region.noSelect_spec hs) (fun c a w ⟨l, H, O, _, _, x⟩ => np c l H O x) rest.length listed a w (Region.free_spec e1 h3) (by simpa using h2) (e2 a ha) hS0 ?_
      exact ih _ _ _ _ h4 e5 _ _ hfr hw (fun _ => hS0)
    | false =>
      simp only [planOk, Bool.and_eq_true, beq_iff_eq] at hp
      obtain ⟨⟨h1, h2⟩, h3⟩ := hp
      obtain ⟨o, e1, e2, e3⟩ := h
      refine ⟨fun h => (by rw [h1] at h; cases h), fun j hj => ?_⟩
      rw [h1] at hj
      simp only [List.mem_singleton] at hj
      subst hj
      have h4 := e3 (by simp [e2]) a w ha hw
      have next : ∀ a' w', Lift sz B (thenQ (fun l' H' O' => (T.contains j = true ∨ (Ext H0 H' ∧ ∀ p ∈ O0, p ∈ O')) ∧ ExP P sz B ops Q H0 O0 T rest l' H' O') Q) .normal a' w' →
          (j ∉ T → Has H0 O0 w') ∧ anyT P ops (Lift sz B Q) (Has H0 O0) T rest.length (listed.setIfInBounds j true) a' w' := by
        rintro a' w' ⟨l', H', O', f1, f2, f3, f4⟩
        have keep : j ∉ T → Has H0 O0 w' := fun hj => by
          rcases f3 with f3 | ⟨f3, f5⟩
          · exact absurd (by simpa using f3) hj
          exact f2.has.mono f3 f5
        refine ⟨keep, ih _ _ _ _ h3 f4 a' w' f1 f2 fun ⟨k, hk⟩ => keep fun hj => ?_⟩
        simp only [Bool.or_eq_true, Bool.not_eq_true', List.contains_eq_mem, hj, decide_true, Bool.true_eq_false, false_or, List.all_eq_true] at h2
        have := h2 _ hk
        simp at this
      unfold wpOp
      simp only [e1]
      simp only [wpList] at h4
      split
      · rename_i hw'
        rw [if_pos hw'] at h4
        rcases h4 with h4 | ⟨h5, a1, w1, h6⟩
        · exact .inl (Oper.wp_mono next (wp_exits (fun e a w he ⟨l, H, O, x, y, z⟩ => ⟨l, H, O, x, y, by cases e <;> first | exact absurd rfl he | exact z⟩) h4))
        obtain ⟨l, H, O, x, y, z⟩ := h6
        exact .inr ⟨h5, a1, w1, l, H, O, x, y, z⟩
      rename_i hw'
      rw [if_neg hw'] at h4
      exact next _ _ h4
theorem x_regionP {id : Nat} {os : List Oper} (plan : List (Nat × Bool)) (N T : List Nat) (hm : P.follows .mixedOrders = true) (hp : planAll os.toArray plan N T = true) (np : NoPanic Q) (h : ExP P sz B os.toArray Q H O T plan l H O) :
    ExC P sz B (.region id os.toArray true) Q l H O := fun a w ha hw => by
  simp only [planAll, Bool.and_eq_true, beq_iff_eq, List.all_eq_true] at hp
  obtain ⟨⟨⟨h1, h2⟩, h3⟩, h4⟩ := hp
  refine wp_region_any hm (any_of_anyT (S := Has H O) (T := T) _ _ _ _ ?_)
  have := ExP.sound h1 h2 np plan _ l H O h4 h a _ ha hw.drew (fun _ => hw.drew.has)
  rwa [h3] at this
section
variable {H0 : HM} {O0 : OL} {T : List Nat} {plan : List (Nat × Bool)} {i : Nat}
theorem p_nil (h : Q .normal l H O) : ExP P sz B ops Q H0 O0 T [] l H O := h
theorem p_take {op : Op} {v : Value} (hi : ops[i]? = some ⟨some d, op, ty, pos, aft, none⟩) (hd : Nat.blt d sz = true) (h : Yl P op ty l H0 O0 v) (k : ExP P sz B ops Q H0 O0 T plan ((d, v) :: l) H O) : ExP P sz B ops Q H0 O0 T ((i, true) :: plan) l H O :=
  ⟨_, v, hi, fun a ha => .inl ⟨rfl, fun w hw => h a.eval w _ pos aft none (fun _ _ => ha.ev) hw⟩, hd, by simp, k⟩
theorem p_only {o : Oper} (hi : ops[i]? = some o) (hd : dstOk sz o = true) (h : ExO P sz B ops (thenQ (fun l' H' O' => (T.contains i = true ∨ (Ext H0 H' ∧ ∀ p ∈ O0, p ∈ O')) ∧ ExP P sz B ops Q H0 O0 T plan l' H' O') Q) [o] l H O) : ExP P sz B ops Q H0 O0 T ((i, false) :: plan) l H O :=
  ⟨o, hi, hd, h⟩
end
end
end Go.Ph
set_option linter.unusedVariables false
set_option linter.unusedSimpArgs false
namespace Go.Ph
open Go.RowKit
section
variable {P : Program} {sz : Nat} {B : World} {Q : EQ} {l : Env} {H : HM} {O : OL} {ops : Array Oper} {rest : List Oper} {ty : TypeId} {pos : String} {aft : Array Edge} {d : Nat}
theorem run_eqNil {t e n c : Nat} {p : Option Addr} (ht : P.underlying t = some (.slice e)) (w : World) : (Op.equal t (.slice p n c) (.slice none 0 0)).run P w = .ok p.isNone w := by
  show (Op.equalIn (9999 + 1) t (.slice p n c) (.slice none 0 0)).run P w = _
  unfold Op.equalIn
  simp only [Sem.run_bind, Go.run_underlying (P := P) ht, Result.andThen_ok]
  cases p <;> rfl
theorem y_eqNil {t t' e n c : Nat} {p : Option Addr} {x y : Operand} (ht : P.underlying t = some (.slice e)) (hx : ev l x = some (.slice p n c)) (hy : ev l y = some (.slice none 0 0)) : Yl P (.binOp .eql t x y t') ty l H O (.bool p.isNone) := fun ρ w d pos aft g ha hw => by
  simp only [execOp, ha _ _ hx, ha _ _ hy]
  show ((do let v ← (do let r ← Op.equal t (.slice p n c) (.slice none 0 0); pure (Value.bool r)); pure (Next.value v)) : Sem Next).run P w = _
  simp only [Sem.run_bind, run_eqNil ht, Result.andThen_ok, Sem.run_pure]
theorem o_slice0 {t e es bytes : Nat} {agg : Bool} {z : Value} (ht : P.underlying t = some (.slice e)) (ti : TI P e agg es bytes z) (k : ∀ b, ExO P sz B ops Q rest ((d, .slice (some ⟨b, 0, none⟩) 0 0) :: l) H ((b, cl [] e) :: O)) :
    ExO P sz B ops Q (⟨some d, .buildSlice t 0 #[], ty, pos, aft, none⟩ :: rest) l H O := by
  intro hd a w ha hw
  obtain ⟨hlt, hr⟩ := dst_lt hd rfl
  refine wpList_plain rfl fun K hK => ?_
  have e1 : (execOp a.eval ⟨some d, .buildSlice t 0 #[], ty, pos, aft, none⟩).run P w = .ok (.value (.slice (some ⟨w.heap.size, 0, none⟩) 0 0)) { w with heap := w.heap.push (cl [] e) } := by
    simp [execOp, Instr.buildSlice, Go.run_underlying (P := P) ht, run_sizeOf ti, Instr.fill, newRow, cl, Array.range_zero']
  simp only [Oper.wp, e1, Oper.upon]
  exact hK _ _ (k _ hr _ _ (ha.put hlt _) (hw.alloc (cl [] e)))
theorem Row.made {b e es : Nat} : Row (.slice (some ⟨b, 0, none⟩) 0 0) 0 [] e es [(b, cl [] e)] := ⟨by simp, .inr ⟨b, 0, [], rfl, Nat.le_refl _, by simp, rfl⟩⟩
theorem At.all {b : Nat} {C : List Value} {T : TypeId} (h : In O b (cl C T)) : At H O b 0 C := At.ofO h fun j u hu => by simpa using hu
theorem At.append {b o : Nat} {cs ds : List Value} (h : At H O b o cs) (k : At H O b (o + cs.length) ds) : At H O b o (cs ++ ds) := fun w hw j u hu => by
  by_cases hj : j < cs.length
  · exact h w hw j u (by rwa [List.getElem?_append_left hj] at hu)
  have := k w hw (j - cs.length) u (by rwa [List.getElem?_append_right (by omega)] at hu)
  rwa [show o + cs.length + (j - cs.length) = o + j by omega] at this
theorem RdL.all {α : Type} [Rep α] {v : Value} {xs : List α} (h : RdL H v xs) (O : OL) : ∃ news, El H news xs ∧ (xs ≠ [] → AtS H O v 0 news) := by
  obtain ⟨p, c, h1, h2, h3⟩ := h.h
  have key : ∀ (ys : List α) (k : Nat), xs.drop k = ys → ∃ news, El H news ys ∧ (ys ≠ [] → AtS H O v (k * Rep.sz α) news) := by
    intro ys
    induction ys with
    | nil => exact fun k _ => ⟨[], .n, fun e => absurd rfl e⟩
    | cons y ys ih =>
      intro k hk
      have hlt : k < xs.length := by
        rcases Nat.lt_or_ge k xs.length with h | h
        · exact h
        rw [List.drop_eq_nil_of_le h] at hk; cases hk
      rw [List.drop_eq_getElem_cons hlt] at hk
      injection hk with e1 e2
      obtain ⟨cs, h4, h5⟩ := h3 k y (by rw [List.getElem?_eq_getElem hlt, e1])
      obtain ⟨news, h6, h7⟩ := ih (k + 1) e2
      refine ⟨cs ++ news, .c h5 h6, fun _ => ?_⟩
      have h4' := h4.ext (O := O) (Ext.refl H)
      obtain ⟨b, o, n, c', e3, h8⟩ := h4'
      refine ⟨b, o, n, c', e3, h8.append ?_⟩
      cases ys with
      | nil =>
        cases h6
        exact fun w hw j u hu => by simp at hu
      | cons z zs =>
        obtain ⟨b2, o2, n2, c2, e4, h9⟩ := h7 (by simp)
        rw [e3] at e4
        injection e4 with e5
        injection e5 with e5
        injection e5 with e6 e7
        subst e6; subst e7
        rw [Rep.len h5, show o + k * Rep.sz α + Rep.sz α = o + (k + 1) * Rep.sz α by rw [Nat.succ_mul]; omega]
        exact h9
  obtain ⟨news, h4, h5⟩ := key xs 0 (by simp)
  exact ⟨news, h4, fun e => by simpa using h5 e⟩
theorem El.nil_of {α : Type} [Rep α] {cs : List Value} (h : El H cs ([] : List α)) : cs = [] := by cases h; rfl
theorem o_appendL {α : Type} [Rep α] {t e es bytes n : Nat} {agg : Bool} {z v u : Value} {x y : Operand} {cs : List Value} {ys : List α} {R : OL} {F : OL → OL} (ht : P.underlying t = some (.slice e)) (ti : TI P e agg es bytes z) (hz : z.cells.size = es) (he : 0 < es) (hes : Rep.sz α = es)
    (hx : ev l x = some v) (hr : Row v n cs e es R) (hy : ev l y = some u) (hu : RdL H u ys) (hs : ∃ a n c, u = .slice (some a) n c) (hb : (n + ys.length) * bytes ≤ 140737488355328) (hm : n + ys.length ≤ 9223372036854775807)
    (hF : Hole O R F) (k : ∀ v' R' news, El H news ys → Row v' (n + ys.length) (cs ++ news) e es R' → ExO P sz B ops Q rest ((d, v') :: l) H (F R')) :
    ExO P sz B ops Q (⟨some d, .call ⟨.builtin .append, #[x, y], #[t, t]⟩, ty, pos, aft, none⟩ :: rest) l H O := by
  obtain ⟨news, h1, h2⟩ := hu.all O
  obtain ⟨a, n', c, rfl⟩ := hs
  obtain ⟨p, c', e1⟩ := hu.shape
  injection e1 with e2 e3 e4
  subst e3
  have hat : ∀ w, Has H O w → ∀ j u, news[j]? = some u → w.cell? (a.add j) = some u := by
    by_cases hn : ys = []
    · subst hn; rw [h1.nil_of]; exact fun w hw j u hu => by simp at hu
    obtain ⟨b2, o2, n2, c2, e5, h3⟩ := h2 hn
    injection e5 with e5
    injection e5 with e5
    subst e5
    exact fun w hw j u hu => by rw [add_pl]; simpa using h3 w hw j u hu
  subst hes
  exact o_appendA ht ti hz he hx hr hy hat h1.len h1.one hb hm hF (fun v' R' h => k v' R' news h1 h)
end
end Go.Ph
set_option linter.unusedVariables false
set_option linter.unusedSimpArgs false
namespace Go.Ph
open Go.RowKit
theorem Row.sl {v : Value} {n : Nat} {xs : List Value} {e es : Nat} {R : OL} (h : Row v n xs e es R) (hn : 0 < n) : isSl v := by
  rcases h.form with ⟨_, h0, _⟩ | ⟨b, cap, sp, rfl, _⟩
  · omega
  exact ⟨_, _, _, _, rfl⟩
theorem Row.at {v : Value} {n : Nat} {xs ds : List Value} {e es k : Nat} {R O : OL} {H : HM} (h : Row v n xs e es R) (hO : ∀ p ∈ R, p ∈ O) (hn : 0 < n) (hd : ∀ i u, ds[i]? = some u → xs[k + i]? = some u) : AtS H O v k ds := by
  rcases h.form with ⟨_, h0, _⟩ | ⟨b, cap, sp, rfl, _, _, rfl⟩
  · omega
  refine ⟨b, 0, _, _, rfl, fun w hw i u hu => ?_⟩
  have h1 := hw.own b (cl (xs ++ sp) e) (hO _ (by simp))
  have h2 := hd i u hu
  simp only [World.cell?, h1, cl, Nat.zero_add, List.getElem?_toArray]
  rw [List.getElem?_append_left (List.getElem?_eq_some_iff.1 h2).1, h2]
  rfl
theorem AtS.sub {H : HM} {R O : OL} {v : Value} {k : Nat} {cs : List Value} (h : AtS H R v k cs) (s : ∀ p ∈ R, p ∈ O) : AtS H O v k cs := h.mono (Ext.refl _) s
theorem putC_len {C u : List Value} {o : Nat} (h : o + u.length ≤ C.length) : (putC C o u).length = C.length := by
  simp only [putC, List.length_append, List.length_take, List.length_drop]; omega
theorem putC_append {C sp u : List Value} {o : Nat} (h : o + u.length ≤ C.length) : putC (C ++ sp) o u = putC C o u ++ sp := by
  simp only [putC]
  rw [List.take_append_of_le_length (by omega), List.drop_append_of_le_length h]
  simp
theorem putC_mid {A X D u : List Value} {j o : Nat} (hA : A.length = o) (hj : j + u.length ≤ X.length) : putC (A ++ X ++ D) (o + j) u = A ++ putC X j u ++ D := by
  subst hA
  simp only [putC]
  rw [List.append_assoc A X D, List.take_append, List.drop_append]
  simp only [show A.length + j - A.length = j by omega, show A.length + j + u.length - A.length = j + u.length by omega]
  rw [List.take_of_length_le (show A.length ≤ A.length + j by omega), List.drop_of_length_le (show A.length ≤ A.length + j + u.length by omega)]
  rw [List.take_append_of_le_length (by omega), List.drop_append_of_le_length hj]
  simp
theorem El.split {α : Type} [Rep α] {H : HM} {cs : List Value} {xs : List α} (h : El H cs xs) : ∀ k (hk : k < xs.length), ∃ A ds D, cs = A ++ ds ++ D ∧ A.length = k * Rep.sz α ∧ El H A (xs.take k) ∧ Rep.rd H ds (xs[k]'hk) ∧ El H D (xs.drop (k + 1)) := by
  induction h with
  | n => intro k hk; simp at hk
  | @c cs x css xs h t ih =>
    intro k hk
    cases k with
    | zero => exact ⟨[], cs, css, rfl, by simp, .n, h, t⟩
    | succ k =>
      obtain ⟨A, ds, D, rfl, h1, h2, h3, h4⟩ := ih k (by simpa using hk)
      exact ⟨cs ++ A, ds, D, by simp, by rw [List.length_append, Rep.len h, h1, Nat.succ_mul, Nat.add_comm], .c h h2, h3, h4⟩
theorem El.set {α : Type} [Rep α] {H : HM} {A ds D : List Value} {xs : List α} {k : Nat} {y : α} (hk : k < xs.length) (h1 : El H A (xs.take k)) (h2 : Rep.rd H ds y) (h3 : El H D (xs.drop (k + 1))) : El H (A ++ ds ++ D) (xs.set k y) := by
  have e : xs.set k y = xs.take k ++ [y] ++ xs.drop (k + 1) := by
    rw [List.set_eq_take_append_cons_drop, if_pos hk]; simp
  rw [e]
  exact (h1.append (El.one1 h2)).append h3
theorem El.put {α : Type} [Rep α] {H : HM} {cs u : List Value} {xs : List α} (h : El H cs xs) {k j : Nat} (hk : k < xs.length) {y : α} (hj : j + u.length ≤ Rep.sz α)
    (hy : ∀ ds, Rep.rd H ds (xs[k]'hk) → (∀ i v, ds[i]? = some v → cs[k * Rep.sz α + i]? = some v) → Rep.rd H (putC ds j u) y) : El H (putC cs (k * Rep.sz α + j) u) (xs.set k y) := by
  obtain ⟨A, ds, D, rfl, h1, h2, h3, h4⟩ := h.split k hk
  rw [putC_mid h1 (by rw [Rep.len h3]; exact hj)]
  refine El.set hk h2 (hy ds h3 fun i v hv => ?_) h4
  rw [List.append_assoc, ← h1, List.getElem?_append_right (by omega), Nat.add_sub_cancel_left, List.getElem?_append_left (List.getElem?_eq_some_iff.1 hv).1]
  exact hv
theorem El.len_le {α : Type} [Rep α] {H : HM} {cs : List Value} {xs : List α} (h : El H cs xs) {k j : Nat} (hk : k < xs.length) (hj : j ≤ Rep.sz α) : k * Rep.sz α + j ≤ cs.length := by
  rw [h.len]
  have : (k + 1) * Rep.sz α ≤ xs.length * Rep.sz α := Nat.mul_le_mul_right _ hk
  rw [Nat.succ_mul] at this
  omega
section
variable {P : Program} {sz : Nat} {B : World} {Q : EQ} {l : Env} {H : HM} {O : OL} {ops : Array Oper} {rest : List Oper} {ty : TypeId} {pos : String} {aft : Array Edge} {d : Nat}
theorem y_idxR {t e n e' : Nat} {x y : Operand} {agg : Bool} {es bytes : Nat} {z v : Value} {i : Int} {k : IntKind} {cs : List Value} {R : OL} (hr : Row v n cs e' es R) (j : Nat) (hj : j < n) (ht : P.underlying t = some (.slice e)) (ti : TI P e agg es bytes z)
    (hx : ev l x = some v) (hy : ev l y = some (.int k i)) (hi : i = (j : Int)) : Yl P (.indexAddr t x y) ty l H O (ptrAt v (j * es)) := by
  obtain ⟨p, c, hv⟩ := hr.shape
  have := y_indexAddr (ty := ty) (H := H) (O := O) ht ti (hr.sl (by omega)) hv hx hy (by omega) (by omega)
  rwa [show i.toNat = j by omega] at this
theorem o_storeS {t : TypeId} {x y : Operand} {agg : Bool} {m bytes : Nat} {z v val : Value} {n k e es : Nat} {cs u : List Value} {R : OL} {F : OL → OL} (ti : TI P t agg m bytes z) (hx : ev l x = some (ptrAt v k)) (hy : ev l y = some val) (hr : Row v n cs e es R) (hv : val.cells.toList = u) (hn : u.length = m) (h1 : ones u = true)
    (hl : k + m ≤ cs.length) (h0 : 0 < n) (hF : Hole O R F) (kk : ∀ R', Row v n (putC cs k u) e es R' → ExO P sz B ops Q rest l H (F R')) : ExO P sz B ops Q (⟨none, .store t x y, ty, pos, aft, none⟩ :: rest) l H O := by
  rcases hr.form with ⟨_, h0', _⟩ | ⟨b, cap, sp, rfl, h2, h3, rfl⟩
  · omega
  intro hd a w ha hw
  simp only [List.all_cons, Bool.and_eq_true] at hd
  refine wpList_plain rfl fun K hK => ?_
  obtain ⟨A, C, rfl, hF'⟩ := hF.split
  subst hv
  have hb := (hw.own b (cl (cs ++ sp) e) (by simp)).1
  have e1 : putC (cs ++ sp) k val.cells.toList = putC cs k val.cells.toList ++ sp := putC_append (by omega)
  have hst := run_storeVar (o := 0 + k) ti hn h1 hb (by simp; omega)
  simp only [Nat.zero_add] at hst
  rw [e1] at hst
  simp only [Oper.wp, execOp, ha.ev hx, ha.ev hy, ptrAt, Instr.storeAt, Instr.sureAddr, Sem.run_bind, Sem.run_pure, Result.andThen_ok, Nat.zero_add, hst, Oper.upon]
  refine hK _ _ (kk _ ⟨by rw [putC_len (by omega)]; exact hr.len, .inr ⟨b, cap, sp, rfl, h2, h3, rfl⟩⟩ hd.2 _ _ ha ?_)
  rw [hF']
  refine hw.swap rfl rfl rfl (by simp [World.setRow]) (fun k' _ hk' => setRow_other w b k' _ (fun e' => hk' (b, cl (cs ++ sp) e) (by simp) e'.symm)) (fun c o hm => ?_) (by simp)
  simp only [List.mem_singleton, Prod.mk.injEq] at hm
  obtain ⟨rfl, rfl⟩ := hm
  exact ⟨setRow_heap w c _ _ _ _ hb, .inl ⟨(c, cl (cs ++ sp) e), by simp, rfl⟩⟩
end
end Go.Ph
namespace Go.Ph
open Go.RowKit
theorem Row.elAt {α : Type} [Rep α] {v : Value} {n : Nat} {cs : List Value} {e es : Nat} {R O : OL} {H : HM} {xs : List α} (h : Row v n cs e es R) (he : El H cs xs) (hes : Rep.sz α = es) (k : Nat) (hk : k < xs.length) (hn : 0 < n) (hO : ∀ p ∈ R, p ∈ O) :
    ∃ ds, AtS H O v (k * es) ds ∧ Rep.rd H ds (xs[k]'hk) := by
  subst hes
  obtain ⟨A, ds, D, rfl, h1, h2, h3, h4⟩ := he.split k hk
  refine ⟨ds, h.at hO hn (fun i u hu => ?_), h3⟩
  rw [List.append_assoc, ← h1, List.getElem?_append_right (by omega), Nat.add_sub_cancel_left, List.getElem?_append_left (List.getElem?_eq_some_iff.1 hu).1]
  exact hu
abbrev MadeR {α : Type} [Rep α] (xs : List α) (e : Nat) (H : HM) (O : OL) : Value → HM → OL → Prop := fun v H' O' => H = H' ∧ ∃ R cs, O' = R ++ O ∧ Row v xs.length cs e (Rep.sz α) R ∧ El H cs xs
abbrev Made {α : Type} [Rep α] (xs : List α) (H : HM) (O : OL) : Value → HM → OL → Prop := fun v H' O' => Ext H H' ∧ O = O' ∧ RdL H' v xs
abbrev MadeS {α : Type} [Rep α] (x : α) (H : HM) (O : OL) : Value → HM → OL → Prop := fun v H' O' => Ext H H' ∧ O = O' ∧ ∃ cs, v = .agg cs.toArray ∧ Rep.rd H' cs x
theorem CallsM.freeze {P : Program} {f : FuncId} {args : Array Value} {B : World} {H : HM} {O : OL} {α : Type} [Rep α] {xs : List α} {e : Nat} (hs : xs.length * Rep.bytes α ≤ 140737488351232) (h : CallsM P f args B H O (MadeR xs e H O)) : CallsM P f args B H O (Made xs H O) := by
  intro w hw
  refine (h w hw).mono ?_
  rintro e' w' ⟨v, H', O', h1, h2, rfl, R, cs, rfl, h3, h4⟩
  exact ⟨v, H.add R, O, h1, h2.freeze, Ext.add _ _, rfl, h3.freeze rfl h4 hs (fun b o hm => (h2.own b o (by simp [hm])).2)⟩
theorem run_results_cell {P : Program} {t : TypeId} {n bytes : Nat} {z : Value} {b : Nat} {C : List Value} {T : TypeId} {H : HM} {O : OL} {w : World} (ti : TI P t true n bytes z) (hw : Has H O w) (hi : In O b (cl C T)) (hn : C.length = n) : (loadVar t ⟨b, 0, none⟩).run P w = .ok (.agg C.toArray) w :=
  run_loadVar (cs := C) ti (At.all hi w hw) hn (fun e => by cases e)
theorem retC {P : Program} {fn : Func} {l : Env} {H : HM} {O : OL} {t a b n bytes : Nat} {z : Value} {C : List Value} {T : TypeId} (h : fn.results = #[.cell a t]) (hv : look l a = some (.pointer (some ⟨b, 0, none⟩))) (ti : TI P t true n bytes z) (hi : In O b (cl C T)) (hn : C.length = n) : RetV P fn l H O (.agg C.toArray) :=
  fun a' w sz ha hw => by
    have e := run_results_cell ti hw hi hn
    have e1 := ha.get a _ hv
    rw [Array.getD_eq_getD_getElem?] at e1
    simp [results, h, e1, asAddr, e]
theorem retC2 {P : Program} {fn : Func} {l : Env} {H : HM} {O : OL} {t a b n bytes t2 : Nat} {z v2 : Value} {C : List Value} {T : TypeId} (h : fn.results = #[.cell a t, .tmp t2]) (hv : look l a = some (.pointer (some ⟨b, 0, none⟩))) (hv2 : look l t2 = some v2) (ti : TI P t true n bytes z) (hi : In O b (cl C T)) (hn : C.length = n) : RetV P fn l H O (.tuple #[.agg C.toArray, v2]) :=
  fun a' w sz ha hw => by
    have e := run_results_cell ti hw hi hn
    have e2 := ha.get t2 _ hv2
    have e1 := ha.get a _ hv
    rw [Array.getD_eq_getD_getElem?] at e1 e2
    simp [results, h, e1, asAddr, e, e2]
end Go.Ph
set_option linter.unusedVariables false
set_option linter.unusedSimpArgs false
namespace Go.Ph
open Go Go.RowKit
section
variable {P : Program} {sz : Nat} {B : World} {Q : EQ} {l : Env} {H : HM} {O : OL} {ops : Array Oper} {rest : List Oper} {ty : TypeId} {pos : String} {aft : Array Edge} {d : Nat}
theorem CallsM.lend {f : FuncId} {args : Array Value} {X : Value} (S : OL) {A O' : OL} (hO : O = S ++ O') (h : (∀ b o, (b, o) ∈ S → H b = none) → Ext H (H.add S) → CallsM P f args B (H.add S) O' (Same X (H.add S) O')) : CallsM P f args B H O (Same X H O) := by
  subst hO
  intro w hw
  refine (h (fun b o hm => (hw.own b o (by simp [hm])).2) (Ext.add _ _) w hw.freeze).mono ?_
  rintro e w' ⟨v, H', O'', rfl, h2, rfl, rfl, rfl⟩
  exact ⟨_, H, S ++ O', rfl, hw.back h2, rfl, rfl, rfl⟩
def evs (l : Env) : List (Nat × Operand) → Option (List (Nat × Value))
  | [] => some []
  | (i, x) :: ps => match ev l x, evs l ps with
    | some v, some vs => some ((i, v) :: vs)
    | _, _ => none
theorem evs_ok {ps : List (Nat × Operand)} {vs : List (Nat × Value)} (h : evs l ps = some vs) : ∀ ρ : Operand → Value, (∀ x v, ev l x = some v → ρ x = v) → ps.map (fun p => (p.1, ρ p.2)) = vs := by
  induction ps generalizing vs with
  | nil => intro ρ hρ; cases h; rfl
  | cons p ps ih =>
    obtain ⟨i, x⟩ := p
    intro ρ hρ
    simp only [evs] at h
    split at h
    · rename_i v ws h1 h2
      cases h
      rw [List.map_cons, ih h2 ρ hρ, hρ _ _ h1]
    cases h
theorem y_build {t : TypeId} {ps : List (Nat × Operand)} {C : Array Value} {vs : List (Nat × Value)} (hv : evs l ps = some vs)
    (hb : P.built t vs = some C) : Yl P (.build t ps.toArray) ty l H O (.agg C) := fun ρ w d pos aft g ha hw => by
  have e := evs_ok hv ρ ha
  have := run_build w t (vs.toArray) C hb
  simp only [execOp, List.map_toArray, Sem.run_bind]
  rw [show (ps.map fun x => (x.1, ρ x.2)) = vs from e, this]
  rfl
def BT (P : Program) (t : TypeId) (pl : List (Nat × Nat)) (z : Value) : Prop := ∀ vs, P.built t vs = Instr.fill (pl.toArray[·]?) z.cells vs
theorem y_buildS {t : TypeId} {pl : List (Nat × Nat)} {z : Value} {ps : List (Nat × Operand)} {C : List Value} {vs : List (Nat × Value)} (hb : BT P t pl z) (hv : evs l ps = some vs)
    (hf : Instr.fill (pl.toArray[·]?) z.cells vs = some C.toArray) : Yl P (.build t ps.toArray) ty l H O (.agg C.toArray) := y_build hv ((hb vs).trans hf)
theorem yielded_un {a : Act} (ha : Fr sz l a) {j t : Nat} (hj : (ops[j]?).bind (·.dst) = some t) (hb : look l t = some undef) : yielded ops a.tmps j = none := by
  have hv := ha.get t _ hb
  simp only [yielded, hj, Option.bind_some]
  rw [Array.getD_eq_getD_getElem?] at hv
  cases hx : a.tmps[t]? with
  | none => rfl
  | some y => rw [hx] at hv; simp at hv; subst hv; rfl
theorem o_gu {op : Op} {j : Nat} (t : Nat) {c : Bool} (hj : (ops[j]?).bind (·.dst) = some t) (hb : look l t = some undef) (k : ExO P sz B ops Q rest ((d, undef) :: l) H O) :
    ExO P sz B ops Q (⟨some d, op, ty, pos, aft, some (j, c)⟩ :: rest) l H O := by
  intro hd a w ha hw
  obtain ⟨hlt, hr⟩ := dst_lt hd rfl
  unfold wpList
  rw [if_neg (by simp [Region.wanted, yielded_un ha hj hb])]
  exact k hr _ _ (ha.put hlt undef) hw
theorem q_gu {K : Env → Prop} {op : Op} {j : Nat} (t : Nat) {c : Bool} (hj : (ops[j]?).bind (·.dst) = some t) (hb : look l t = some undef) (k : ExQ P sz B ops K rest ((d, undef) :: l) H O) :
    ExQ P sz B ops K (⟨some d, op, ty, pos, aft, some (j, c)⟩ :: rest) l H O := by
  intro hd a ha
  obtain ⟨hlt, hr⟩ := dst_lt hd rfl
  simp only [wpQuiet]
  rw [if_neg (by simp [Region.wanted, yielded_un ha hj hb])]
  exact k hr _ (ha.put hlt undef)
end
end Go.Ph
set_option linter.unusedVariables false
set_option linter.unusedSimpArgs false
namespace Go.Ph
open Go Go.RowKit Go.Sort
theorem El.ints {H : HM} {cs : List Value} {xs : List Int} (h : El H cs xs) : cs = xs.map (Value.int .i64) ∧ ∀ x ∈ xs, InR x := by
  induction h with
  | n => simp
  | c h1 h2 ih =>
    obtain ⟨rfl, h3⟩ := h1
    exact ⟨by simp [ih.1], by simpa using ⟨h3, ih.2⟩⟩
theorem El.ofInts {H : HM} : ∀ {xs : List Int}, (∀ x ∈ xs, InR x) → El H (xs.map (Value.int .i64)) xs
  | [], _ => .n
  | x :: xs, h => El.c (cs := [.int .i64 x]) ⟨rfl, h x (by simp)⟩ (El.ofInts fun y hy => h y (by simp [hy]))
theorem Row.cut {p : Option Addr} {n c m : Nat} {cs : List Value} {e es : Nat} {R : OL} (h : Row (.slice p n c) n cs e es R) (hm : m ≤ n) : Row (.slice p m c) m (cs.take (m * es)) e es R := by
  have hl := h.len
  have hle : m * es ≤ n * es := Nat.mul_le_mul_right _ hm
  refine ⟨by rw [List.length_take]; omega, ?_⟩
  rcases h.form with ⟨h1, h2, h3⟩ | ⟨b, cap, sp, h1, h2, h3, h4⟩
  · have : m = 0 := by omega
    subst this; subst h2
    exact .inl ⟨h1, rfl, h3⟩
  injection h1 with h5 h6 h7
  subst h7
  refine .inr ⟨b, c, cs.drop (m * es) ++ sp, by rw [h5], by omega, ?_, ?_⟩
  · rw [List.length_append, List.length_drop, h3, hl, Nat.sub_mul, Nat.sub_mul]
    have : n * es ≤ c * es := Nat.mul_le_mul_right _ h2
    omega
  rw [← List.append_assoc, List.take_append_drop]; exact h4
theorem putCells_row {xs' : List Int} {cs sp : List Value} (h : xs'.length = cs.length) : putCells (Value.int .i64) 0 xs'.toArray (cs ++ sp).toArray = (xs'.map (Value.int .i64) ++ sp).toArray := by
  apply Array.ext_getElem?
  intro k
  simp only [putCells, Array.getElem?_mapIdx, List.size_toArray, Nat.zero_le, true_and, Nat.zero_add, Nat.sub_zero, List.getElem?_toArray]
  by_cases hk : k < xs'.length
  · rw [List.getElem?_append_left (by omega), List.getElem?_append_left (by simpa using hk), List.getElem?_eq_getElem (by omega)]
    simp [hk]
  rw [List.getElem?_append_right (by omega), List.getElem?_append_right (by simp; omega)]
  rw [h] at hk
  simp only [hk, if_false, List.length_map, h]
  cases sp[k - cs.length]? <;> rfl
theorem CallsM.put {P : Program} {f : FuncId} {args : Array Value} {B : World} {H : HM} {O R : OL} {F : OL → OL} {p : Option Addr} {c e : Nat} {cs : List Value} {xs xs' : List Int} {r : Value}
    (hr : Row (.slice p xs.length c) xs.length cs e 1 R) (he : El H cs xs) (h0 : 0 < xs.length) (hF : Hole O R F) (hl : xs'.length = xs.length)
    (h : ∀ b w, p = some ⟨b, 0, none⟩ → xs.length ≤ c → Holds (Value.int .i64) w b 0 xs.toArray → b < w.heap.size → Calls P f args w fun ev w' => ev = .returned r ∧ ∃ k os, w' = grow (putRow (Value.int .i64) (Sort.ahead w k) b 0 xs'.toArray) os) :
    CallsM P f args B H O (fun v' H' O' => v' = r ∧ H = H' ∧ ∃ R', O' = F R' ∧ Row (.slice p xs.length c) xs.length (xs'.map (Value.int .i64)) e 1 R') := by
  intro w hw
  obtain ⟨rfl, hin⟩ := he.ints
  rcases hr.form with ⟨_, h2, _⟩ | ⟨b, cap, sp, h1, h2, h3, rfl⟩
  · omega
  injection h1 with h5 _ h7
  subst h5; subst h7
  obtain ⟨A, C, rfl, hF'⟩ := hF.split
  have hw2 : Fits B H (A ++ (b, cl (xs.map (Value.int .i64) ++ sp) e) :: C) w := hw
  have hb := hw2.own b (cl (xs.map (Value.int .i64) ++ sp) e) (by simp)
  have hlt : b < w.heap.size := (Array.getElem?_eq_some_iff.1 hb.1).1
  have hH : Holds (Value.int .i64) w b 0 xs.toArray := by
    intro j hj
    simp only [List.size_toArray] at hj
    simp only [World.cell?, World.frozen?, hb.1, cl, Nat.zero_add]
    refine ⟨?_, by simp⟩
    simp [List.getElem?_append_left, hj]
  refine (h b w rfl h2 hH hlt).mono ?_
  rintro ev w' ⟨rfl, k, os, rfl⟩
  refine ⟨r, H, F [(b, cl (xs'.map (Value.int .i64) ++ sp) e)], rfl, ?_, rfl, rfl, _, rfl, ?_⟩
  · rw [hF']
    refine Fits.turn' hw2 rfl rfl rfl ?_ ?_ ?_
    · simp [grow, putRow, mapBlock, Sort.ahead]
    · intro q hq hne
      simp only [grow, putRow, mapBlock, Sort.ahead]
      rw [Array.getElem?_append_left (by simpa using hq), Array.getElem?_modify, if_neg (Ne.symm hne)]
    simp only [grow, putRow, mapBlock, Sort.ahead]
    rw [Array.getElem?_append_left (by simpa using hlt), Array.getElem?_modify, if_pos rfl, hb.1]
    simp only [Option.map_some, cl, onCells]
    rw [putCells_row (by simpa using hl)]
  exact ⟨by simp [hl], .inr ⟨b, c, sp, rfl, h2, h3, rfl⟩⟩
end Go.Ph
set_option linter.unusedVariables false
set_option linter.unusedSimpArgs false
namespace Go.Ph
open Go Go.RowKit
section
variable {P : Program} {sz : Nat} {B : World} {Q : EQ} {l : Env} {H : HM} {O : OL} {ops : Array Oper} {rest : List Oper} {ty : TypeId} {pos : String} {aft : Array Edge} {d : Nat}
theorem elem_of {t e : TypeId} (ht : P.underlying t = some (.slice e)) : P.underlying t = some (.slice (P.elem t)) := by
  have : P.elem t = e := by simp [Program.elem, ht]
  rw [this]; exact ht
theorem y_sliceL {t e es bytes n c : Nat} {agg : Bool} {z : Value} {a : Option Addr} {x y : Operand} {i : Int} {k : IntKind} (ht : P.underlying t = some (.slice e)) (ti : TI P e agg es bytes z) (hx : ev l x = some (.slice a n c)) (hy : ev l y = some (.int k i)) (j : Nat) (hi : i = (j : Int)) (hj : j ≤ n) :
    Yl P (.slice t x (some y) none none) ty l H O (sliced a j n c es) := fun ρ w d pos aft g ha hw => by
  have he : P.elem t = e := by simp [Program.elem, ht]
  simp only [execOp, Option.map_some, Option.map_none, Sem.run_bind, ha _ _ hx, ha _ _ hy]
  rw [run_sliceAt_slice _ _ _ _ _ _ (elem_of ht), run_slice_l _ _ _ _ _ (elem_of ht) _ _ (by omega) (by omega), he, run_sizeOf ti]
  subst hi
  rfl
theorem y_sliceH {t e es bytes n c : Nat} {agg : Bool} {z : Value} {a : Option Addr} {x y : Operand} {i : Int} {k : IntKind} (ht : P.underlying t = some (.slice e)) (ti : TI P e agg es bytes z) (hx : ev l x = some (.slice a n c)) (hy : ev l y = some (.int k i)) (j : Nat) (hi : i = (j : Int)) (hj : j ≤ c) :
    Yl P (.slice t x none (some y) none) ty l H O (.slice a j c) := fun ρ w d pos aft g ha hw => by
  have he : P.elem t = e := by simp [Program.elem, ht]
  simp only [execOp, Option.map_some, Option.map_none, Sem.run_bind, ha _ _ hx, ha _ _ hy]
  rw [run_sliceAt_slice _ _ _ _ _ _ (elem_of ht), run_slice_h _ _ _ _ _ (elem_of ht) _ _ (by omega) (by omega), he, run_sizeOf ti]
  subst hi
  have : sliced a 0 (j : Int).toNat c es = .slice a j c := by
    unfold sliced
    cases a with
    | none => simp
    | some a => cases a; simp [Addr.add]
  simp only [Result.andThen_ok, this]
  rfl
theorem x_pick {c : Code} {O' : OL} (hs : O'.Sublist O) (h : ExC P sz B c Q l H O') : ExC P sz B c Q l H O := fun a w ha hw =>
  h a w ha (hw.pick (fun p hp => hs.subset hp) (hw.nd.sublist (hs.map _)))
theorem sub_mid (R O : OL) (p : Nat × Obj) : (R ++ O).Sublist (R ++ p :: O) := (List.Sublist.refl R).append (List.sublist_cons_self p O)
theorem x_regionPs {id : Nat} {os : List Oper} (O1 : OL) (hs : ∀ p ∈ O1, p ∈ O) (plan : List (Nat × Bool)) (N T : List Nat) (hm : P.follows .mixedOrders = true) (hp : planAll os.toArray plan N T = true) (np : NoPanic Q) (h : ExP P sz B os.toArray Q H O1 T plan l H O) : ExC P sz B (.region id os.toArray true) Q l H O := fun a w ha hw => by
  simp only [planAll, Bool.and_eq_true, beq_iff_eq, List.all_eq_true] at hp
  obtain ⟨⟨⟨h1, h2⟩, h3⟩, h4⟩ := hp
  refine wp_region_any hm (any_of_anyT (S := Has H O1) (T := T) _ _ _ _ ?_)
  have := ExP.sound h1 h2 np plan _ l H O h4 h a _ ha hw.drew (fun _ => ⟨hw.drew.imm, fun b o hm => hw.drew.has.own b o (hs _ hm)⟩)
  rwa [h3] at this
end
end Go.Ph
set_option linter.unusedVariables false
set_option linter.unusedSimpArgs false
namespace Go.Ph
open Go Go.RowKit
section
variable {P : Program} {sz : Nat} {B : World} {Q : EQ} {l : Env} {H : HM} {O : OL}
theorem x_freezeP {c : Code} {S O' : OL} (hp : O.Perm (S ++ O')) (h : ∀ H', Ext H H' → (∀ b o, (b, o) ∈ S → H' b = some o) → ExC P sz B c Q l H' O') : ExC P sz B c Q l H O := by
  intro a w ha hw
  have h1 : Fits B H (S ++ O') w := hw.perm hp
  have hnd := h1.nd
  rw [List.map_append, List.nodup_append] at hnd
  exact h (H.add S) (Ext.add H S) (fun b o hm => HM.add_mem hnd.1 (h1.own b o (by simp [hm])).2 hm) a w ha h1.freeze
theorem o_gg {ops : Array Oper} {rest : List Oper} {op : Op} {ty : TypeId} {pos : String} {aft : Array Edge} {d : Option Nat} {j : Nat} (t : Nat) {b : Bool} (hj : (ops[j]?).bind (·.dst) = some t) (hb : look l t = some (.bool b)) (h : ExO P sz B ops Q (⟨d, op, ty, pos, aft, none⟩ :: rest) l H O) : ExO P sz B ops Q (⟨d, op, ty, pos, aft, some (j, b)⟩ :: rest) l H O := by
  intro hd a w ha hw
  have h1 := h hd a w ha hw
  unfold wpList at h1 ⊢
  rw [if_pos (by simp [Region.wanted])] at h1
  rw [if_pos (by simp [Region.wanted, yielded_of ha hj hb])]
  exact h1
end
theorem Row.inH {α : Type} [Rep α] {v : Value} {n : Nat} {cs : List Value} {e : Nat} {R : OL} {H' : HM} {xs : List α} (h : Row v n cs e (Rep.sz α) R) (hn : n = xs.length) (he : El H' cs xs) (hs : xs.length * Rep.bytes α ≤ 140737488351232)
    (hH : ∀ b o, (b, o) ∈ R → H' b = some o) : RdL H' v xs := by
  subst hn
  rcases h.form with ⟨rfl, h0, rfl⟩ | ⟨b, cap, sp, rfl, hc, hsp, rfl⟩
  · have : xs = [] := List.eq_nil_of_length_eq_zero h0
    subst this
    exact RdL.nil _
  refine ⟨_, _, rfl, hs, fun j x hx => ?_⟩
  obtain ⟨ds, h1, h2⟩ := he.get j x hx
  refine ⟨ds, ⟨b, 0, _, _, rfl, ?_⟩, h1⟩
  refine At.ofH (C := (cs ++ sp).toArray) (T := e) (fr := (0, 0)) (hH b _ (List.mem_singleton.2 rfl)) (fun i u hu => ?_)
  have := h2 i u hu
  simp only [Nat.zero_add, List.getElem?_toArray]
  rw [List.getElem?_append_left (List.getElem?_eq_some_iff.1 this).1]
  exact this
theorem held_0 {R O2 : OL} : ∀ p ∈ O2, p ∈ R ++ O2 := fun p hp => List.mem_append_right _ hp
theorem held_1 {x : Nat × Obj} {R O2 : OL} : ∀ p ∈ x :: O2, p ∈ x :: (R ++ O2) := fun p hp => by
  rcases List.mem_cons.1 hp with h | h
  · subst h; exact List.mem_cons_self
  exact List.mem_cons_of_mem _ (List.mem_append_right _ h)
theorem held_2 {x y : Nat × Obj} {R O2 : OL} : ∀ p ∈ x :: y :: O2, p ∈ x :: y :: (R ++ O2) := fun p hp => by
  rcases List.mem_cons.1 hp with h | h
  · subst h; exact List.mem_cons_self
  exact List.mem_cons_of_mem _ (held_1 p h)
theorem held_z1 {z x : Nat × Obj} {R O2 : OL} : ∀ p ∈ x :: O2, p ∈ z :: x :: (R ++ O2) := fun p hp => List.mem_cons_of_mem _ (held_1 p hp)
theorem held_z0 {z : Nat × Obj} {R O2 : OL} : ∀ p ∈ O2, p ∈ z :: (R ++ O2) := fun p hp => List.mem_cons_of_mem _ (held_0 p hp)
theorem take_next {α : Type} {xs : List α} {k : Nat} (h : k < xs.length) : xs.take (k + 1) = xs.take k ++ [xs[k]] := by
  rw [List.take_succ_eq_append_getElem h]
end Go.Ph
set_option linter.unusedVariables false
set_option linter.unusedSimpArgs false
namespace Go.Ph
open Go Go.RowKit
def EqI (P : Program) (t : TypeId) (n : Nat) : Prop := ∃ fs : Array Field, P.underlying t = some (.struct fs) ∧ P.stoodInHeld t = false ∧ P.eqGuardType P.depth t = false ∧ fs.toList.length = n ∧ ∀ (j : Nat) (f : Field), fs.toList[j]? = some f → f.name ≠ "_" ∧ P.underlying f.type = some (.int .i64) ∧ P.plainKey f.type = true ∧ f.offset = j
theorem eqF_ints {P : Program} {d : Nat} {xs ys : Array Value} {w : World} : ∀ (fs : List Field) (ps qs : List Int) (k : Nat), (∀ (j : Nat) (f : Field), fs[j]? = some f → f.name ≠ "_" ∧ P.underlying f.type = some (.int .i64) ∧ P.plainKey f.type = true ∧ f.offset = k + j) → ps.length = fs.length → qs.length = fs.length →
    (∀ j a, ps[j]? = some a → xs[k + j]? = some (.int .i64 a)) → (∀ j b, qs[j]? = some b → ys[k + j]? = some (.int .i64 b)) → (Op.eqFields (d + 1) xs ys fs).run P w = .ok (decide (ps = qs)) w
  | [], ps, qs, k, _, h1, h2, _, _ => by
    have e1 : ps = [] := List.eq_nil_of_length_eq_zero h1
    have e2 : qs = [] := List.eq_nil_of_length_eq_zero h2
    subst e1; subst e2
    simp [Op.eqFields]
  | f :: fs, [], qs, k, _, h1, _, _, _ => by simp at h1
  | f :: fs, a :: ps, [], k, _, _, h2, _, _ => by simp at h2
  | f :: fs, a :: ps, b :: qs, k, hf, h1, h2, hx, hy => by
    obtain ⟨n1, n2, n3, n4⟩ := hf 0 f rfl
    have ex := hx 0 a rfl
    have ey := hy 0 b rfl
    have ih := eqF_ints (P := P) (d := d) (xs := xs) (ys := ys) (w := w) fs ps qs (k + 1) (fun j g hj => by have := hf (j + 1) g hj; rw [Nat.add_assoc, Nat.add_comm 1 j]; exact this) (by simpa using h1) (by simpa using h2)
      (fun j a ha => by have := hx (j + 1) a ha; rw [Nat.add_assoc, Nat.add_comm 1 j]; exact this) (fun j b hb => by have := hy (j + 1) b hb; rw [Nat.add_assoc, Nat.add_comm 1 j]; exact this)
    rw [n4.symm] at ex ey
    have p1 := Go.run_part_plain (w := w) n3 ex
    have p2 := Go.run_part_plain (w := w) n3 ey
    simp only [Op.eqFields, if_pos n1, Sem.run_bind, p1, p2, Result.andThen_ok, run_equalIn_int w d f.type .i64 .i64 a b n2]
    by_cases hab : a = b
    · subst hab
      simp [ih]
    have : (a == b) = false := by simpa using hab
    simp [this, hab]
section
variable {P : Program} {sz : Nat} {l : Env} {H : HM} {O : OL} {ty : TypeId}
theorem run_eqS {t : TypeId} {n : Nat} (h : EqI P t n) {ps qs : List Int} (h1 : ps.length = n) (h2 : qs.length = n) (w : World) : (Op.equal t (.agg (ps.map (Value.int .i64)).toArray) (.agg (qs.map (Value.int .i64)).toArray)).run P w = .ok (decide (ps = qs)) w := by
  obtain ⟨fs, hu, hp, hq, hl, hf⟩ := h
  have hfs : P.fieldsOf t = fs := by simp [Program.fieldsOf, hu]
  have key := eqF_ints (P := P) (d := Op.maxDepth - 2) (w := w) (xs := (ps.map (Value.int .i64)).toArray) (ys := (qs.map (Value.int .i64)).toArray) fs.toList ps qs 0 (fun j f hj => by rw [Nat.zero_add]; exact hf j f hj) (by omega) (by omega) (fun j a ha => by simp [ha]) (fun j b hb => by simp [hb])
  have := run_equalIn_struct (P := P) w (Op.maxDepth - 1) t (ps.map (Value.int .i64)).toArray (qs.map (Value.int .i64)).toArray (by rw [hfs]; exact hu) hp
  rw [hfs] at this
  unfold Op.equal
  exact this.trans key
theorem y_neqS {t t' : TypeId} {n : Nat} {x y : Operand} {ps qs : List Int} (h : EqI P t n) (hx : ev l x = some (.agg (ps.map (Value.int .i64)).toArray)) (hy : ev l y = some (.agg (qs.map (Value.int .i64)).toArray)) (h1 : ps.length = n) (h2 : qs.length = n) : Yl P (.binOp .neq t x y t') ty l H O (.bool (!decide (ps = qs))) := fun ρ w d pos aft g ha hw => by
  have hg : P.eqGuardType P.depth t = false := by obtain ⟨fs, _, _, hq, _⟩ := h; exact hq
  have he := run_eqS h h1 h2 w
  simp only [execOp, ha _ _ hx, ha _ _ hy, Sem.run_bind, run_eqGuard_agg (P := P) w .neq t x y _ _ hg, Result.andThen_ok, binOp, he, Sem.run_pure]
end
end Go.Ph
set_option linter.unusedVariables false
set_option linter.unusedSimpArgs false
namespace Go.Ph
open Go Go.RowKit
section
variable {P : Program} {sz : Nat} {B : World} {Q : EQ} {l : Env} {H : HM} {O : OL} {ops : Array Oper} {rest : List Oper} {ty : TypeId} {pos : String} {aft : Array Edge} {d : Nat}
theorem o_copyR {t t' e es bytes n c b o dl dc sl sc m : Nat} {agg : Bool} {z : Value} {x y : Operand} {xs news : List Value} {a' : Addr} {R : OL} {F : OL → OL} (ht : P.underlying t = some (.slice e)) (ti : TI P e agg es bytes z)
    (hr : Row (.slice (some ⟨b, 0, none⟩) n c) n xs e es R) (hx : ev l x = some (.slice (some ⟨b, o, none⟩) dl dc)) (hy : ev l y = some (.slice (some a') sl sc)) (hm : Nat.min sl dl = m)
    (hl : news.length = m * es) (ho : o + m * es ≤ xs.length) (h1 : ones news = true) (hc : ∀ w, Has H O w → ∀ j u, news[j]? = some u → w.cell? (a'.add j) = some u) (hF : Hole O R F)
    (k : ∀ R', Row (.slice (some ⟨b, 0, none⟩) n c) n (putC xs o news) e es R' → ExO P sz B ops Q rest ((d, .int .i64 (m : Int)) :: l) H (F R')) :
    ExO P sz B ops Q (⟨some d, .call ⟨.builtin .copy, #[x, y], #[t, t']⟩, ty, pos, aft, none⟩ :: rest) l H O := by
  intro hd a w ha hw
  obtain ⟨hlt, hr'⟩ := dst_lt hd rfl
  refine wpList_plain rfl fun K hK => ?_
  obtain ⟨A, C, rfl, hF'⟩ := hF.split
  rcases hr.form with ⟨h0, _⟩ | ⟨g, cap, sp, h0, hnc, hsp, rfl⟩
  · cases h0
  injection h0 with h2 _ h3
  injection h2 with h2
  injection h2 with h2
  subst h2; subst h3
  have hb := (hw.own b (cl (xs ++ sp) e) (by simp)).1
  have hld : (loadCells a' (m * es)).run P w = .ok news.toArray w := by rw [← hl]; exact run_loadCells_list w a' news (hc w hw.has)
  have hst := run_storeCells_at P b o e news 0 (xs ++ sp).toArray w hb (by simp; omega) (fun v hv => List.all_eq_true.1 h1 v hv)
  simp only [Nat.add_zero] at hst
  have hrun : (Builtin.copy_ #[t, t'] ty #[.slice (some ⟨b, o, none⟩) dl dc, .slice (some a') sl sc]).run P w = .ok (.int .i64 (m : Int)) (w.setRow b (putC (xs ++ sp) o news).toArray) := by
    simp only [Builtin.copy_]
    simp [Go.run_underlying (P := P) ht, Builtin.lenOf, run_sizeOf ti, Builtin.firstCells, hm, hld, hst, goInt, putC]
  have e1 : putC (xs ++ sp) o news = putC xs o news ++ sp := putC_append (by omega)
  rw [e1] at hrun
  simp only [Oper.wp, execOp, resolve, Sem.run_bind, Sem.run_pure, Result.andThen_ok, invoke, builtin, List.map_toArray, List.map_cons, List.map_nil, ha.ev hx, ha.ev hy, hrun, Oper.upon]
  refine hK _ _ (k [(b, cl (putC xs o news ++ sp) e)] ⟨by rw [putC_len (by omega)]; exact hr.len, .inr ⟨b, c, sp, rfl, hnc, hsp, rfl⟩⟩ hr' _ _ (ha.put hlt _) ?_)
  rw [hF']
  refine hw.swap rfl rfl rfl (by simp [World.setRow]) (fun k' _ hk' => setRow_other w b k' _ (fun e' => hk' (b, cl (xs ++ sp) e) (by simp) e'.symm)) (fun c' o' hm' => ?_) (by simp)
  simp only [List.mem_singleton, Prod.mk.injEq] at hm'
  obtain ⟨rfl, rfl⟩ := hm'
  exact ⟨setRow_heap w c' _ _ _ _ hb, .inl ⟨(c', cl (xs ++ sp) e), by simp, rfl⟩⟩
theorem o_appendZ {t tn e es bytes n c m : Nat} {agg : Bool} {z : Value} {x y : Operand} {olds : List Value} {a' : Addr} (ht : P.underlying t = some (.slice e)) (htn : P.underlying tn = some (.int .i64)) (ti : TI P e agg es bytes z) (hz : z.cells.size = es) (he : 0 < es)
    (hx : ev l x = some (.slice (some a') n c)) {q : Int} (hy : ev l y = some (.int .i64 q)) (hq : q = (m : Int)) (h0 : 0 < m) (hg : c < n + m) (hl : olds.length = n * es) (hc : ∀ w, Has H O w → ∀ j u, olds[j]? = some u → w.cell? (a'.add j) = some u) (hnc : n ≤ c) (hb : (n + m) * bytes ≤ 140737488355328) (hm : n + m ≤ 9223372036854775807)
    (k : ∀ b cap sp zs, zs.length = m * es → Row (.slice (some ⟨b, 0, none⟩) (n + m) cap) (n + m) (olds ++ zs) e es [(b, cl (olds ++ zs ++ sp) e)] → ExO P sz B ops Q rest ((d, .slice (some ⟨b, 0, none⟩) (n + m) cap) :: l) H ((b, cl (olds ++ zs ++ sp) e) :: O)) :
    ExO P sz B ops Q (⟨some d, .call ⟨.builtin .append, #[x, y], #[t, tn]⟩, ty, pos, aft, none⟩ :: rest) l H O := by
  subst hq
  intro hd a w ha hw
  obtain ⟨hlt, hr'⟩ := dst_lt hd rfl
  refine wpList_plain rfl fun K hK => ?_
  obtain ⟨i, i1, i2, rfl, rfl⟩ := ti.info'
  have hfo := run_firstCells_some (P := P) w.drew i.size n a' n c olds hl (by simpa using hc w hw.has)
  have hfo' : (Builtin.firstCells i.size n (.slice (some a') n c)).run P w.drew = .ok olds.toArray w.drew := hfo
  have hrun := Lib.run_append_grow_zeros (P := P) w t tn ty e i z .i64 .i64 ht htn i1 i2 (some a') n c olds hfo' m h0 he hg (by omega) (by have : m * i.bytes ≤ (n + m) * i.bytes := Nat.mul_le_mul_right _ (Nat.le_add_left _ _); omega) (growslice_fits (by omega) hb)
  have hge := grownCap_ge w (n + m) c e
  have hs := size_zeroCells z.cells (grownCap w (n + m) c e - (n + m))
  have hs2 := size_zeroCells z.cells m
  rw [hz] at hs hs2
  simp only [Oper.wp, execOp, resolve, Sem.run_bind, Sem.run_pure, Result.andThen_ok, invoke, builtin, List.map_toArray, List.map_cons, List.map_nil, ha.ev hx, ha.ev hy, hrun, Oper.upon]
  have e2 : (olds.toArray ++ Builtin.zeroCells z.cells m ++ Builtin.zeroCells z.cells (grownCap w (n + m) c e - (n + m))) = (olds ++ (Builtin.zeroCells z.cells m).toList ++ (Builtin.zeroCells z.cells (grownCap w (n + m) c e - (n + m))).toList).toArray := by apply Array.ext'; simp
  rw [e2]
  refine hK _ _ (k w.heap.size (grownCap w (n + m) c e) (Builtin.zeroCells z.cells (grownCap w (n + m) c e - (n + m))).toList (Builtin.zeroCells z.cells m).toList (by simpa using hs2) ⟨by rw [List.length_append, hl, Nat.add_mul]; simp [hs2], .inr ⟨_, _, _, rfl, by omega, by simpa using hs, rfl⟩⟩ hr' _ _ (ha.put hlt _) ?_)
  have := hw.drew.alloc (cl (olds ++ (Builtin.zeroCells z.cells m).toList ++ (Builtin.zeroCells z.cells (grownCap w (n + m) c e - (n + m))).toList) e)
  exact this
theorem o_overlaps {f : FuncId} {tS tR e es bytes b o b2 o2 n c n2 c2 : Nat} {agg : Bool} {z : Value} {x y : Operand} {C C2 : List Value} {T T2 : TypeId} {ts : Array TypeId} (hex : ∀ args w, (callFunc f args).run P w = ((Extern.SlicesOverlaps.overlaps #[tS, tS] #[tR] args).run P w).andThen fun v w' => .ok (.value v) w')
    (ht : P.underlying tS = some (.slice e)) (ti : TI P e agg es bytes z) (hx : ev l x = some (.slice (some ⟨b, o, none⟩) n c)) (hy : ev l y = some (.slice (some ⟨b2, o2, none⟩) n2 c2)) (hne : b ≠ b2) (h1 : In O b (cl C T)) (h2 : In O b2 (cl C2 T2)) (h0 : C2.length ≠ 0)
    (k : ExO P sz B ops Q rest ((d, .bool false) :: l) H O) : ExO P sz B ops Q (⟨some d, .call ⟨.value (.func f), #[x, y], ts⟩, ty, pos, aft, none⟩ :: rest) l H O := by
  intro hd a w ha hw
  obtain ⟨hlt, hr'⟩ := dst_lt hd rfl
  refine wpList_plain rfl fun K hK => ?_
  have hb := (hw.own _ _ h1.mem).1
  have hb2 := (hw.own _ _ h2.mem).1
  have hov := Lib.run_overlaps_apart (P := P) w tS tR e ht es (fun w => run_sizeOf ti w) ⟨b, o, none⟩ ⟨b2, o2, none⟩ n c n2 c2 hne T T2 C.length C2.length (by simp [World.shape?, hb, cl]) (by simp [World.shape?, hb2, cl]) h0 (by simp [World.frozen?, hb, cl]) (by simp [World.frozen?, hb, cl])
  have hfn : a.eval (.func f) = .func (.func f) #[] #[] := rfl
  simp only [Oper.wp, execOp, resolve, List.map_toArray, List.map_cons, List.map_nil, hfn, Deferred.ofValue, Sem.run_bind, Sem.run_pure, Result.andThen_ok, invoke, Array.empty_append, Array.append_empty, ha.ev hx, ha.ev hy, hex, hov, Oper.upon]
  exact hK _ _ (k hr' _ _ (ha.put hlt _) hw)
theorem y_cap {t e n c : Nat} {p : Option Addr} {x : Operand} (ht : P.underlying t = some (.slice e)) (hx : ev l x = some (.slice p n c)) : Yl P (.call ⟨.builtin .cap, #[x], #[t]⟩) ty l H O (.int .i64 (c : Int)) := fun ρ w d pos aft g ha hw => by
  have := run_cap_slice (P := P) w t ty p n c (elem_of ht)
  simp only [execOp, resolve, List.map_toArray, List.map_cons, List.map_nil, ha _ _ hx, Sem.run_bind, Sem.run_pure, Result.andThen_ok, invoke, builtin, this]
  rfl
theorem x_pickP {c : Code} {O'' O' : OL} (hs : O''.Sublist O) (hp : O''.Perm O') (h : ExC P sz B c Q l H O') : ExC P sz B c Q l H O := x_pick hs fun a w ha hw => h a w ha (hw.perm hp)
theorem Hole.mem {O R : OL} {F : OL → OL} (hF : Hole O R F) : ∀ p ∈ R, p ∈ O := by
  obtain ⟨A, C, rfl, _⟩ := hF.split
  intro p hp; simp [hp]
theorem At.rowPart {n c b0 e es o : Nat} {cs ds : List Value} {R : OL} (hr : Row (.slice (some ⟨b0, 0, none⟩) n c) n cs e es R) (hm : ∀ p ∈ R, p ∈ O) (hd : ∀ i u, ds[i]? = some u → cs[o + i]? = some u) : ∀ w, Has H O w → ∀ j u, ds[j]? = some u → w.cell? ((⟨b0, o, none⟩ : Addr).add j) = some u := by
  rcases hr.form with ⟨h0, _⟩ | ⟨g, cap, sp, h0, _, _, rfl⟩
  · cases h0
  injection h0 with h2 _ _
  injection h2 with h2
  injection h2 with h2
  subst h2
  intro w hw j u hu
  have h3 := hw.own b0 (cl (cs ++ sp) e) (hm _ (by simp))
  have h4 := hd j u hu
  rw [add_pl]
  simp only [World.cell?, h3, cl]
  simp [List.getElem?_append_left (List.getElem?_eq_some_iff.1 h4).1, h4]
theorem y_sliceX {t e es bytes n c b o : Nat} {agg : Bool} {z : Value} {x y : Operand} {i : Int} {k : IntKind} (ht : P.underlying t = some (.slice e)) (ti : TI P e agg es bytes z) (hx : ev l x = some (.slice (some ⟨b, o, none⟩) n c)) (hy : ev l y = some (.int k i)) (j : Nat) (hi : i = (j : Int)) (hj : j ≤ n) (hjc : j < c) :
    Yl P (.slice t x (some y) none none) ty l H O (.slice (some ⟨b, o + j * es, none⟩) (n - j) (c - j)) := by
  have h := y_sliceL (ty := ty) (H := H) (O := O) ht ti hx hy j hi hj
  have e : sliced (some ⟨b, o, none⟩) j n c es = .slice (some ⟨b, o + j * es, none⟩) (n - j) (c - j) := by
    unfold sliced
    rw [if_neg (by omega), Option.map_some, add_pl]
  rwa [e] at h
theorem Row.capLe {b0 n c e es : Nat} {cs : List Value} {R : OL} (hr : Row (.slice (some ⟨b0, 0, none⟩) n c) n cs e es R) : n ≤ c := by
  rcases hr.form with ⟨h0, _⟩ | ⟨g, cap, sp, h0, h1, _, rfl⟩
  · cases h0
  injection h0 with _ _ h3; omega
theorem hole_new' {O R : OL} {F : OL → OL} (hF : Hole O R F) (R2 : OL) : ∃ O'' : OL, O''.Sublist (R2 ++ O) ∧ O''.Perm (F R2) := by
  obtain ⟨A, C, rfl, hF'⟩ := hF.split
  refine ⟨R2 ++ (A ++ C), (List.Sublist.refl R2).append ((List.Sublist.refl A).append (List.sublist_append_right R C)), ?_⟩
  rw [hF', ← List.append_assoc, ← List.append_assoc]
  exact (List.perm_append_comm (l₁ := R2) (l₂ := A)).append_right C
theorem ones_drop {cs : List Value} (h : ones cs = true) (k : Nat) : ones (cs.drop k) = true := List.all_eq_true.2 fun u hu => List.all_eq_true.1 h u (List.mem_of_mem_drop hu)
theorem putC_at {A X D u : List Value} {o : Nat} (hA : A.length = o) (hX : X.length = u.length) : putC (A ++ (X ++ D)) o u = A ++ (u ++ D) := by
  unfold putC
  subst hA
  rw [List.take_left, ← hX, List.append_assoc, List.drop_append, List.drop_of_length_le (by omega), List.nil_append, Nat.add_sub_cancel_left, List.drop_left]
theorem x_ne {c : Code} {b b0 : Nat} {o : Obj} {R : OL} {F : OL → OL} (hF : Hole O R F) (hR : ∃ p ∈ R, p.1 = b0) (h : b ≠ b0 → ExC P sz B c Q l H ((b, o) :: O)) : ExC P sz B c Q l H ((b, o) :: O) := fun a w ha hw => by
  refine h (fun e => ?_) a w ha hw
  subst e
  obtain ⟨p, hp, rfl⟩ := hR
  have hnd := hw.nd
  simp only [List.map_cons, List.nodup_cons] at hnd
  exact hnd.1 (List.mem_map.2 ⟨p, hF.mem p hp, rfl⟩)
theorem x_perm {c : Code} {O' : OL} (hp : O.Perm O') (h : ExC P sz B c Q l H O') : ExC P sz B c Q l H O := fun a w ha hw => h a w ha (hw.perm hp)
theorem Row.up {p : Option Addr} {n c e es : Nat} {cs : List Value} {R : OL} (h : Row (.slice p n c) n cs e es R) (hc : n + 1 ≤ c) : ∃ ds : List Value, ds.length = es ∧ Row (.slice p (n + 1) c) (n + 1) (cs ++ ds) e es R := by
  have hl := h.len
  rcases h.form with ⟨h1, h2, h3⟩ | ⟨b, cap, sp, h1, h2, h3, h4⟩
  · injection h1 with _ _ h5; omega
  injection h1 with h5 h6 h7
  subst h5; subst h7; subst h4
  have e1 : (c - n) * es = es + (c - (n + 1)) * es := by rw [show c - n = 1 + (c - (n + 1)) by omega, Nat.add_mul, Nat.one_mul]
  have hd : (sp.take es).length = es := by rw [List.length_take, h3]; omega
  refine ⟨sp.take es, hd, ⟨by rw [List.length_append, hl, hd, Nat.add_mul, Nat.one_mul], .inr ⟨b, c, sp.drop es, rfl, hc, by rw [List.length_drop, h3]; omega, ?_⟩⟩⟩
  rw [List.append_assoc, List.take_append_drop]
theorem Row.some_of {p : Option Addr} {n c e es : Nat} {cs : List Value} {R : OL} (h : Row (.slice p n c) n cs e es R) (hn : 0 < n) : ∃ b0, p = some ⟨b0, 0, none⟩ ∧ ∃ q ∈ R, q.1 = b0 := by
  rcases h.form with ⟨_, h2, _⟩ | ⟨b, cap, sp, h1, h2, h3, h4⟩
  · omega
  injection h1 with h5 h6 h7
  exact ⟨b, h5, _, by rw [h4]; exact List.mem_singleton.2 rfl, rfl⟩
abbrev InsR (n : Nat) (cs : List Value) (e es : Nat) (G : OL → OL) (H : HM) : Value → HM → OL → Prop := fun v' H' O' => H = H' ∧ ∃ R', O' = G R' ∧ Row v' n cs e es R'
theorem Hole.again {O R : OL} {F : OL → OL} (h : Hole O R F) (R' : OL) : Hole (F R') R' F := by
  induction h with
  | z => exact .z
  | e => exact .e
  | o => exact .z
  | s _ ih => exact .s ih
  | g _ ih => exact .g ih
theorem In.ofMem {O : OL} {b : Nat} {o : Obj} (h : (b, o) ∈ O) : In O b o := by
  have := In.m (O := []) h
  rwa [List.append_nil] at this
theorem putC_at' {A X D u : List Value} {o : Nat} (hA : A.length = o) (hX : X.length = u.length) {C : List Value} (hC : C = A ++ (X ++ D)) : putC C o u = A ++ (u ++ D) := by subst hC; exact putC_at hA hX
theorem held_s {x y : Nat × Obj} {O2 : OL} : ∀ p ∈ [y], p ∈ x :: y :: O2 := fun p hp => by rw [List.mem_singleton.1 hp]; exact .tail _ (.head _)
end
end Go.Ph
set_option linter.unusedVariables false
set_option linter.unusedSimpArgs false
namespace Go.Ph
open Go Go.RowKit
def HM.cut (H : HM) (b : Nat) : HM := fun k => bif Nat.beq k b then none else H k
theorem HM.cut_ne {H : HM} {b k : Nat} (h : k ≠ b) : H.cut b k = H k := by simp [HM.cut, beq_ne h]
structure Grew (H H' : HM) (F : List Nat) : Prop where
  ext : Ext H H'
  nd : F.Nodup
  fresh : ∀ b ∈ F, H b = none
  there : ∀ b ∈ F, H' b ≠ none
theorem Grew.refl (H : HM) : Grew H H [] := ⟨Ext.refl H, by simp, by simp, by simp⟩
theorem Grew.ofExt {H H' : HM} (h : Ext H H') : Grew H H' [] := ⟨h, by simp, by simp, by simp⟩
theorem Ext.there {H H' : HM} (h : Ext H H') {b : Nat} (hb : H b ≠ none) : H' b ≠ none := by
  cases e : H b with
  | none => exact absurd e hb
  | some o => rw [h b o e]; simp
theorem Grew.trans {H H1 H2 : HM} {F1 F2 : List Nat} (g : Grew H H1 F1) (k : Grew H1 H2 F2) : Grew H H2 (F1 ++ F2) := by
  refine ⟨g.ext.trans k.ext, ?_, fun b hb => ?_, fun b hb => ?_⟩
  · rw [List.nodup_append]
    refine ⟨g.nd, k.nd, fun x hx y hy e => ?_⟩
    subst e
    exact g.there x hx (k.fresh x hy)
  · rcases List.mem_append.1 hb with hb | hb
    · exact g.fresh b hb
    cases e : H b with
    | none => rfl
    | some o => have := k.fresh b hb; rw [g.ext b o e] at this; cases this
  rcases List.mem_append.1 hb with hb | hb
  · exact k.ext.there (g.there b hb)
  exact k.there b hb
theorem Grew.ext' {H H1 H2 : HM} {F : List Nat} (g : Grew H H1 F) (k : Ext H1 H2) : Grew H H2 F := by
  have := g.trans (Grew.ofExt k)
  rwa [List.append_nil] at this
theorem Grew.after {H H1 H2 : HM} {F : List Nat} (k : Ext H H1) (g : Grew H1 H2 F) : Grew H H2 F := by
  have := (Grew.ofExt k).trans g
  rwa [List.nil_append] at this
theorem Grew.sub {H H' : HM} {F F' : List Nat} (g : Grew H H' F) (s : F'.Sublist F) : Grew H H' F' := ⟨g.ext, g.nd.sublist s, fun b hb => g.fresh b (s.subset hb), fun b hb => g.there b (s.subset hb)⟩
theorem Grew.perm {H H' : HM} {F F' : List Nat} (g : Grew H H' F) (s : F.Perm F') : Grew H H' F' := ⟨g.ext, (s.nodup_iff).1 g.nd, fun b hb => g.fresh b (s.mem_iff.2 hb), fun b hb => g.there b (s.mem_iff.2 hb)⟩
theorem Grew.cut {H H' : HM} {F1 F2 : List Nat} {b : Nat} (g : Grew H H' (F1 ++ b :: F2)) : Grew H (H'.cut b) (F1 ++ F2) := by
  have hp : (F1 ++ b :: F2).Perm (b :: (F1 ++ F2)) := List.perm_middle
  have g2 := g.perm hp
  obtain ⟨n1, n2⟩ := List.nodup_cons.1 g2.nd
  refine ⟨fun k o hk => ?_, n2, fun k hk => g2.fresh k (List.mem_cons_of_mem _ hk), fun k hk => ?_⟩
  · have hne : k ≠ b := fun e => by subst e; have := g2.fresh k List.mem_cons_self; rw [hk] at this; cases this
    rw [HM.cut_ne hne]; exact g.ext k o hk
  have hne : k ≠ b := fun e => by subst e; exact n1 hk
  rw [HM.cut_ne hne]; exact g2.there k (List.mem_cons_of_mem _ hk)
class Own (α : Type) extends Rep α where
  ty : TypeId
  mark : Int → List Value
  ow : Bool → HM → List Value → α → List Nat → Prop
  ow_rd : ∀ {tw : Bool} {H : HM} {cs : List Value} {x : α} {F : List Nat}, ow tw H cs x F → rd H cs x
  ow_any : ∀ {tw : Bool} {H : HM} {cs : List Value} {x : α} {F : List Nat}, ow tw H cs x F → ow false H cs x F
  ow_mono : ∀ {tw : Bool} {H H' : HM} {cs : List Value} {x : α} {F : List Nat}, Ext H H' → ow tw H cs x F → ow tw H' cs x F
  ow_cut : ∀ {tw : Bool} {H : HM} {cs : List Value} {x : α} {F : List Nat} {b : Nat}, b ∉ F → ow tw H cs x F → ow tw (H.cut b) cs x F
inductive ElO {α : Type} [Own α] (tw : Bool) (H : HM) : List Value → List α → List Nat → Prop where
  | n : ElO tw H [] [] []
  | c {cs : List Value} {x : α} {F : List Nat} {css : List Value} {xs : List α} {Fs : List Nat} (h : Own.ow tw H cs x F) (t : ElO tw H css xs Fs) : ElO tw H (cs ++ css) (x :: xs) (F ++ Fs)
section
variable {α : Type} [Own α] {tw : Bool} {H H' : HM}
theorem ElO.el {cs : List Value} {xs : List α} {F : List Nat} (h : ElO tw H cs xs F) : El H cs xs := by
  induction h with
  | n => exact .n
  | c h _ ih => exact .c (Own.ow_rd h) ih
theorem ElO.any {cs : List Value} {xs : List α} {F : List Nat} (h : ElO tw H cs xs F) : ElO false H cs xs F := by
  induction h with
  | n => exact .n
  | c h _ ih => exact .c (Own.ow_any h) ih
theorem ElO.mono {cs : List Value} {xs : List α} {F : List Nat} (e : Ext H H') (h : ElO tw H cs xs F) : ElO tw H' cs xs F := by
  induction h with
  | n => exact .n
  | c h _ ih => exact .c (Own.ow_mono e h) ih
theorem ElO.cut {cs : List Value} {xs : List α} {F : List Nat} {b : Nat} (hb : b ∉ F) (h : ElO tw H cs xs F) : ElO tw (H.cut b) cs xs F := by
  induction h with
  | n => exact .n
  | c h _ ih => exact .c (Own.ow_cut (fun hm => hb (List.mem_append_left _ hm)) h) (ih fun hm => hb (List.mem_append_right _ hm))
theorem ElO.append {cs ds : List Value} {xs ys : List α} {F G : List Nat} (h : ElO tw H cs xs F) (k : ElO tw H ds ys G) : ElO tw H (cs ++ ds) (xs ++ ys) (F ++ G) := by
  induction h with
  | n => exact k
  | c h _ ih => rw [List.append_assoc, List.cons_append, List.append_assoc]; exact .c h ih
theorem ElO.one1 {cs : List Value} {x : α} {F : List Nat} (h : Own.ow tw H cs x F) : ElO tw H cs [x] F := by
  have := ElO.c h (.n (tw := tw) (H := H)); simpa using this
theorem ElO.snoc {cs ds : List Value} {xs : List α} {x : α} {F G : List Nat} (h : ElO tw H cs xs F) (k : Own.ow tw H ds x G) : ElO tw H (cs ++ ds) (xs ++ [x]) (F ++ G) := h.append (ElO.one1 k)
theorem ElO.split {cs : List Value} {xs : List α} {F : List Nat} (h : ElO tw H cs xs F) : ∀ k (hk : k < xs.length), ∃ A ds D FA Fk FD, cs = A ++ ds ++ D ∧ F = FA ++ (Fk ++ FD) ∧ A.length = k * Rep.sz α ∧ ElO tw H A (xs.take k) FA ∧ Own.ow tw H ds (xs[k]'hk) Fk ∧ ElO tw H D (xs.drop (k + 1)) FD := by
  induction h with
  | n => intro k hk; simp at hk
  | @c cs x F css xs Fs h t ih =>
    intro k hk
    cases k with
    | zero => exact ⟨[], cs, css, [], F, Fs, rfl, rfl, by simp, .n, h, t⟩
    | succ k =>
      obtain ⟨A, ds, D, FA, Fk, FD, rfl, rfl, h1, h2, h3, h4⟩ := ih k (by simpa using hk)
      exact ⟨cs ++ A, ds, D, F ++ FA, Fk, FD, by simp, by simp, by rw [List.length_append, Rep.len (Own.ow_rd h), h1, Nat.succ_mul, Nat.add_comm], .c h h2, h3, h4⟩
theorem ElO.parts {cs : List Value} {xs : List α} {F : List Nat} (h : ElO tw H cs xs F) (k : Nat) (hk : k ≤ xs.length) : ∃ FA FD, F = FA ++ FD ∧ ElO tw H (cs.take (k * Rep.sz α)) (xs.take k) FA ∧ ElO tw H (cs.drop (k * Rep.sz α)) (xs.drop k) FD := by
  by_cases hl : k < xs.length
  · obtain ⟨A, ds, D, FA, Fk, FD, rfl, rfl, h1, h2, h3, h4⟩ := h.split k hl
    refine ⟨FA, Fk ++ FD, rfl, ?_, ?_⟩
    · rw [List.append_assoc, ← h1, List.take_left]; exact h2
    rw [List.append_assoc, ← h1, List.drop_left, List.drop_eq_getElem_cons hl]; exact .c h3 h4
  have : k = xs.length := by omega
  subst this
  have hl := h.el.len
  refine ⟨F, [], by simp, ?_, ?_⟩
  · rw [← hl, List.take_length, List.take_length]; exact h
  rw [← hl, List.drop_length, List.drop_length]; exact .n
end
structure OwL {α : Type} [Own α] (tw : Bool) (H : HM) (v : Value) (xs : List α) (F : List Nat) : Prop where
  h : ∃ (R : OL) (cs : List Value) (Fs : List Nat), Row v xs.length cs (Own.ty α) (Rep.sz α) R ∧ (∀ b o, (b, o) ∈ R → H b = some o) ∧ ElO tw H cs xs Fs ∧ F = R.map (·.1) ++ Fs ∧ xs.length * Rep.bytes α ≤ 140737488351232 ∧
    (tw = true → ∃ b, v = .slice (some ⟨b, 0, none⟩) xs.length (xs.length + 2) ∧ R = [(b, cl (cs ++ (Own.mark α xs.length ++ Own.mark α (xs.length + 1))) (Own.ty α))])
section
variable {α : Type} [Own α] {tw : Bool} {H H' : HM}
theorem OwL.rdL {v : Value} {xs : List α} {F : List Nat} (h : OwL tw H v xs F) : RdL H v xs := by
  obtain ⟨R, cs, Fs, h1, h2, h3, _, h5, _⟩ := h.h
  exact h1.inH rfl h3.el h5 h2
theorem OwL.any {v : Value} {xs : List α} {F : List Nat} (h : OwL tw H v xs F) : OwL false H v xs F := by
  obtain ⟨R, cs, Fs, h1, h2, h3, h4, h5, _⟩ := h.h
  exact ⟨R, cs, Fs, h1, h2, h3.any, h4, h5, fun h => by cases h⟩
theorem OwL.nil (H : HM) : OwL false H (.slice none 0 0) ([] : List α) [] := ⟨[], [], [], Row.nil _ _, by simp, .n, rfl, by simp, fun h => by cases h⟩
theorem OwL.mono {v : Value} {xs : List α} {F : List Nat} (e : Ext H H') (h : OwL tw H v xs F) : OwL tw H' v xs F := by
  obtain ⟨R, cs, Fs, h1, h2, h3, h4, h5, h6⟩ := h.h
  exact ⟨R, cs, Fs, h1, fun b o hm => e b o (h2 b o hm), h3.mono e, h4, h5, h6⟩
theorem OwL.cut {v : Value} {xs : List α} {F : List Nat} {b : Nat} (hb : b ∉ F) (h : OwL tw H v xs F) : OwL tw (H.cut b) v xs F := by
  obtain ⟨R, cs, Fs, h1, h2, h3, rfl, h5, h6⟩ := h.h
  refine ⟨R, cs, Fs, h1, fun c o hm => ?_, h3.cut (fun hm => hb (List.mem_append_right _ hm)), rfl, h5, h6⟩
  have hne : c ≠ b := fun e => by subst e; exact hb (List.mem_append_left _ (List.mem_map.2 ⟨_, hm, rfl⟩))
  rw [HM.cut_ne hne]; exact h2 c o hm
theorem OwL.shape {v : Value} {xs : List α} {F : List Nat} (h : OwL tw H v xs F) : ∃ p c, v = .slice p xs.length c := h.rdL.shape
end
instance {α : Type} [Own α] : Own (List α) where
  ty := 0
  mark := fun _ => []
  ow := fun tw H cs xs F => ∃ v, cs = [v] ∧ OwL tw H v xs F
  ow_rd := fun ⟨v, h, k⟩ => ⟨v, h, k.rdL⟩
  ow_any := fun ⟨v, h, k⟩ => ⟨v, h, k.any⟩
  ow_mono := fun e ⟨v, h, k⟩ => ⟨v, h, k.mono e⟩
  ow_cut := fun hb ⟨v, h, k⟩ => ⟨v, h, k.cut hb⟩
def Base (B : World) (H : HM) : Prop := ∀ b o, B.heap[b]? = some o → H b = some o
theorem CallsM.base {P : Program} {f : FuncId} {args : Array Value} {B : World} {H : HM} {O : OL} {R : Value → HM → OL → Prop} (h : Base B H → CallsM P f args B H O R) : CallsM P f args B H O R := fun w hw => h hw.base w hw
section
variable {P : Program} {sz : Nat} {B : World} {Q : EQ} {l : Env} {H H' : HM} {O : OL}
theorem Fits.freezeG {S : OL} {w : World} (hw : Fits B H (S ++ O) w) : Grew H (H.add S) (S.map (·.1)) ∧ (∀ b o, (b, o) ∈ S → H.add S b = some o) := by
  have hnd := hw.nd
  rw [List.map_append, List.nodup_append] at hnd
  have hin : ∀ b o, (b, o) ∈ S → H.add S b = some o := fun b o hm => HM.add_mem hnd.1 (hw.own b o (by simp [hm])).2 hm
  refine ⟨⟨Ext.add H S, hnd.1, fun b hb => ?_, fun b hb => ?_⟩, hin⟩
  · obtain ⟨⟨c, o⟩, hm, rfl⟩ := List.mem_map.1 hb
    exact (hw.own c o (by simp [hm])).2
  obtain ⟨⟨c, o⟩, hm, rfl⟩ := List.mem_map.1 hb
  rw [hin c o hm]; simp
theorem x_freezeG {c : Code} {S O' : OL} (hp : O.Perm (S ++ O')) (h : ∀ H', Grew H H' (S.map (·.1)) → (∀ b o, (b, o) ∈ S → H' b = some o) → ExC P sz B c Q l H' O') : ExC P sz B c Q l H O := by
  intro a w ha hw
  have h1 : Fits B H (S ++ O') w := hw.perm hp
  obtain ⟨h2, h3⟩ := h1.freezeG
  exact h _ h2 h3 a w ha h1.freeze
end
theorem OwL.ofRow {α : Type} [Own α] {H : HM} {v : Value} {n : Nat} {cs : List Value} {xs : List α} {R : OL} {Fs : List Nat} (h : Row v n cs (Own.ty α) (Rep.sz α) R) (hn : n = xs.length) (he : ElO false H cs xs Fs) (hH : ∀ b o, (b, o) ∈ R → H b = some o) (hs : xs.length * Rep.bytes α ≤ 140737488351232) : OwL false H v xs (R.map (·.1) ++ Fs) := by
  subst hn; exact ⟨R, cs, Fs, h, hH, he, rfl, hs, fun h => by cases h⟩
abbrev MadeO {α : Type} [Own α] (x : α) (H : HM) (O : OL) : Value → HM → OL → Prop := fun v H' O' => O = O' ∧ ∃ F cs, Grew H H' F ∧ v = .agg cs.toArray ∧ Own.ow false H' cs x F
abbrev MadeL {α : Type} [Own α] (xs : List α) (H : HM) (O : OL) : Value → HM → OL → Prop := fun v H' O' => O = O' ∧ ∃ F, Grew H H' F ∧ OwL false H' v xs F
abbrev MadeN {α : Type} [Own α] (xs : List α) (H : HM) (O : OL) : Value → HM → OL → Prop := fun v H' O' => ∃ R cs F, O' = R ++ O ∧ Grew H H' F ∧ Row v xs.length cs (Own.ty α) (Rep.sz α) R ∧ ElO false H' cs xs F
abbrev TwinO {α : Type} [Own α] (x : α) (H : HM) (O : OL) : Value → HM → OL → Prop := fun v H' O' => O = O' ∧ ∃ F cs, Grew H H' F ∧ v = .agg cs.toArray ∧ Own.ow true H' cs x F
abbrev TwinL {α : Type} [Own α] (xs : List α) (H : HM) (O : OL) : Value → HM → OL → Prop := fun v H' O' => O = O' ∧ ∃ F, Grew H H' F ∧ OwL true H' v xs F
theorem CallsM.freezeN {P : Program} {f : FuncId} {args : Array Value} {B : World} {H : HM} {O : OL} {α : Type} [Own α] {xs : List α} (hs : xs.length * Rep.bytes α ≤ 140737488351232) (h : CallsM P f args B H O (MadeN xs H O)) : CallsM P f args B H O (MadeL xs H O) := by
  intro w hw
  refine (h w hw).mono ?_
  rintro e' w' ⟨v, H', O', h1, h2, R, cs, F, rfl, g, h3, h4⟩
  obtain ⟨g2, hin⟩ := h2.freezeG
  have hp : (F ++ R.map (·.1)).Perm (R.map (·.1) ++ F) := List.perm_append_comm
  exact ⟨v, _, O, h1, h2.freeze, rfl, _, (g.trans g2).perm hp, OwL.ofRow h3 rfl (h4.mono g2.ext) hin hs⟩
theorem MadeO.made {α : Type} [Own α] {x : α} {H : HM} {O : OL} {v : Value} {H' : HM} {O' : OL} (h : MadeO x H O v H' O') : MadeS x H O v H' O' := by
  obtain ⟨rfl, F, cs, g, rfl, h⟩ := h
  exact ⟨g.ext, rfl, cs, rfl, Own.ow_rd h⟩
theorem MadeL.made {α : Type} [Own α] {xs : List α} {H : HM} {O : OL} {v : Value} {H' : HM} {O' : OL} (h : MadeL xs H O v H' O') : Made xs H O v H' O' := by
  obtain ⟨rfl, F, g, h⟩ := h
  exact ⟨g.ext, rfl, h.rdL⟩
theorem made_flat (z : Array Value) (c : Nat) : (madeCells z (c * z.size)).toList = (List.replicate c z.toList).flatten := by
  induction c with
  | zero => simp [madeCells]
  | succ c ih =>
    have h1 : madeCells z ((c + 1) * z.size) = madeCells z (c * z.size) ++ z := by
      apply Array.ext
      · simp [madeCells, Nat.succ_mul]
      intro i hi1 hi2
      simp only [madeCells] at hi1 ⊢
      rw [Array.getElem_append]
      split
      · simp
      rename_i hlt
      simp at hi1 hlt ⊢
      have e : i % z.size = i - c * z.size := by
        have e1 : i = (i - c * z.size) + z.size * c := by rw [Nat.mul_comm z.size c]; omega
        rw [e1, Nat.add_mul_mod_self_left, Nat.mod_eq_of_lt (by rw [Nat.succ_mul] at hi1; omega)]
        rw [Nat.mul_comm z.size c]; omega
      rw [e, getElem!_pos z _ (by rw [Nat.succ_mul] at hi1; omega)]
    rw [h1, Array.toList_append, ih, List.replicate_succ', List.flatten_append]
    simp
section
variable {P : Program} {sz : Nat} {B : World} {Q : EQ} {l : Env} {H : HM} {O : OL} {ops : Array Oper} {rest : List Oper} {ty : TypeId} {pos : String} {aft : Array Edge} {d : Nat}
theorem o_makeSlice {t e es bytes n c : Nat} {agg : Bool} {z : Value} {x y : Operand} {p q : Int} {kx ky : IntKind} (ht : P.underlying t = some (.slice e)) (ti : TI P e agg es bytes z) (hz : z.cells.size = es) (hx : ev l x = some (.int kx p)) (hy : ev l y = some (.int ky q)) (hp : p = (n : Int)) (hq : q = (c : Int)) (hnc : n ≤ c) (hb : bytes * c ≤ 281474976710656) (hc : c ≤ 9223372036854775807)
    (k : ∀ b, ExO P sz B ops Q rest ((d, .slice (some ⟨b, 0, none⟩) n c) :: l) H ((b, cl (List.replicate c z.cells.toList).flatten e) :: O)) : ExO P sz B ops Q (⟨some d, .makeSlice t x y, ty, pos, aft, none⟩ :: rest) l H O := by
  subst hp; subst hq
  intro hd a w ha hw
  obtain ⟨hlt, hr⟩ := dst_lt hd rfl
  refine wpList_plain rfl fun K hK => ?_
  obtain ⟨i, i1, i2, rfl, rfl⟩ := ti.info'
  have hb' : (i.bytes : Int) * (c : Int) ≤ 281474976710656 := by rw [← Int.natCast_mul]; omega
  have hrun2 := run_make (P := P) w t e i z ht i1 i2 kx ky (n : Int) (c : Int) (by omega) (by omega) hb' (by omega)
  have e2 : madeCells z.cells (c * i.size) = (List.replicate c z.cells.toList).flatten.toArray := by
    apply Array.ext'
    rw [← hz, made_flat]
  simp only [Int.toNat_natCast, e2] at hrun2
  simp only [Oper.wp, execOp, ha.ev hx, ha.ev hy, Sem.run_bind, hrun2, Result.andThen_ok, Sem.run_pure, Oper.upon]
  refine hK _ _ (k _ hr _ _ (ha.put hlt _) ?_)
  exact hw.alloc (cl (List.replicate c z.cells.toList).flatten e)
theorem Row.make {b n c e es : Nat} {zs : List Value} (hl : zs.length = c * es) (hnc : n ≤ c) : Row (.slice (some ⟨b, 0, none⟩) n c) n (zs.take (n * es)) e es [(b, cl zs e)] := by
  have h1 : n * es ≤ c * es := Nat.mul_le_mul_right _ hnc
  refine ⟨by rw [List.length_take]; omega, .inr ⟨b, c, zs.drop (n * es), rfl, hnc, by rw [List.length_drop, hl, Nat.sub_mul], ?_⟩⟩
  rw [List.take_append_drop]
end
end Go.Ph
set_option linter.unusedVariables false
set_option linter.unusedSimpArgs false
namespace Go.Ph
open Go Go.RowKit
structure BK where
  count : Nat
  ls : Nat → List (Value × Nat)
def BK.zero : BK := ⟨0, fun _ => []⟩
def BK.add (s : BK) (k : Nat) (v : Value) : BK := ⟨s.count + 1, fun j => if j = k then s.ls j ++ [(v, s.count)] else s.ls j⟩
def BK.adds (s : BK) (l : List (Nat × Value)) : BK := l.foldl (fun s p => s.add p.1 p.2) s
theorem BK.adds_append (s : BK) (l m : List (Nat × Value)) : s.adds (l ++ m) = (s.adds l).adds m := by simp [BK.adds, List.foldl_append]
theorem BK.adds_count (s : BK) (l : List (Nat × Value)) : (s.adds l).count = s.count + l.length := by
  induction l generalizing s with
  | nil => rfl
  | cons p l ih => rw [show s.adds (p :: l) = (s.add p.1 p.2).adds l from rfl, ih]; simp [BK.add]; omega
def heldCells (l : List (Value × Nat)) : List Value := l.flatMap fun p => [p.1, .int .i64 (p.2 : Int)]
theorem heldCells_append (l m : List (Value × Nat)) : heldCells (l ++ m) = heldCells l ++ heldCells m := by simp [heldCells]
theorem heldCells_len (l : List (Value × Nat)) : (heldCells l).length = l.length * 2 := by
  induction l with
  | nil => rfl
  | cons p l ih => simp only [heldCells, List.flatMap_cons, List.length_append, List.length_cons, List.length_nil] at ih ⊢; omega
structure BkMem (tB : TypeId) (hty : Nat → TypeId) (bk : Nat) (s : BK) (S : OL) : Prop where
  h : ∃ (C : List Value) (Rows : Nat → OL), S = (bk, cl C tB) :: (List.range 33).flatMap Rows ∧ C.length = 35 ∧ C[0]? = some (.int .i64 (s.count : Int)) ∧ C[1]? = some (.slice none 0 0) ∧ (∀ k, (s.ls k).length ≤ s.count) ∧
    ∀ k, k < 33 → ∃ v, C[k + 2]? = some v ∧ Row v (s.ls k).length (heldCells (s.ls k)) (hty k) 2 (Rows k) ∧ (s.ls k = [] → v = .slice none 0 0)
theorem hole_flat (Rows : Nat → OL) (k : Nat) : ∀ l : List Nat, l.Nodup → k ∈ l → ∃ A C, l.flatMap Rows = A ++ (Rows k ++ C) ∧ ∀ R', l.flatMap (fun j => if j = k then R' else Rows j) = A ++ (R' ++ C)
  | [], _, h => by simp at h
  | j :: l, hn, h => by
    obtain ⟨n1, n2⟩ := List.nodup_cons.1 hn
    by_cases e : j = k
    · subst e
      refine ⟨[], l.flatMap Rows, by simp, fun R' => ?_⟩
      have : l.flatMap (fun i => if i = j then R' else Rows i) = l.flatMap Rows := by
        clear hn h n2
        induction l with
        | nil => rfl
        | cons i l ih =>
          have hi : i ≠ j := fun e => n1 (by simp [e])
          rw [List.flatMap_cons, List.flatMap_cons, if_neg hi, ih (fun hm => n1 (by simp [hm]))]
      rw [List.flatMap_cons, if_pos rfl, this]; simp
    obtain ⟨A, C, h1, h2⟩ := hole_flat Rows k l n2 (by
      rcases List.mem_cons.1 h with e2 | h
      · exact absurd e2.symm e
      exact h)
    refine ⟨Rows j ++ A, C, by rw [List.flatMap_cons, h1]; simp, fun R' => ?_⟩
    rw [List.flatMap_cons, if_neg e, h2]; simp
theorem BkMem.zero {tB : TypeId} {hty : Nat → TypeId} {bk : Nat} {C : List Value} (hC : C = .int .i64 0 :: List.replicate 34 (.slice none 0 0)) : BkMem tB hty bk BK.zero [(bk, cl C tB)] := by
  subst hC
  refine ⟨.int .i64 0 :: List.replicate 34 (.slice none 0 0), fun _ => [], ?_, by simp, rfl, rfl, fun k => Nat.le_refl _, fun k hk => ⟨.slice none 0 0, ?_, Row.nil _ _, fun _ => rfl⟩⟩
  · have : ∀ l : List Nat, l.flatMap (fun _ => ([] : OL)) = [] := fun l => by induction l with | nil => rfl | cons a l ih => rw [List.flatMap_cons, ih]; rfl
    rw [this]
  rw [List.getElem?_cons_succ, List.getElem?_replicate, if_pos (by omega)]
theorem BkMem.at {tB : TypeId} {hty : Nat → TypeId} {bk : Nat} {s : BK} {S : OL} (h : BkMem tB hty bk s S) (k : Nat) (hk : k < 33) (O : OL) : ∃ (C : List Value) (v : Value) (R A D : OL), S ++ O = (bk, cl C tB) :: (A ++ (R ++ D)) ∧ C.length = 35 ∧ (s.ls k).length ≤ s.count ∧ C[0]? = some (.int .i64 (s.count : Int)) ∧ C[k + 2]? = some v ∧ Row v (s.ls k).length (heldCells (s.ls k)) (hty k) 2 R ∧
    ∀ (u v' : Value) (R' : OL), Row v' ((s.ls k).length + 1) (heldCells (s.ls k) ++ [u, .int .i64 (s.count : Int)]) (hty k) 2 R' → ∃ S', (bk, cl ((C.set (k + 2) v').set 0 (.int .i64 ((s.count : Int) + 1))) tB) :: (A ++ (R' ++ D)) = S' ++ O ∧ BkMem tB hty bk (s.add k u) S' := by
  obtain ⟨C, Rows, rfl, h1, h2, h3, h0, h4⟩ := h.h
  obtain ⟨v, h5, h6, _⟩ := h4 k hk
  obtain ⟨A, D, h7, h8⟩ := hole_flat Rows k (List.range 33) List.nodup_range (List.mem_range.2 hk)
  refine ⟨C, v, Rows k, A, D ++ O, by rw [h7]; simp, h1, h0 k, h2, h5, h6, fun u v' R' hr => ?_⟩
  refine ⟨(bk, cl ((C.set (k + 2) v').set 0 (.int .i64 ((s.count : Int) + 1))) tB) :: (List.range 33).flatMap (fun j => if j = k then R' else Rows j), by rw [h8]; simp, _, fun j => if j = k then R' else Rows j, rfl, by simp [h1], ?_, ?_, fun j => ?_, fun j hj => ?_⟩
  · rw [List.getElem?_set_self (by simp [h1])]; simp [BK.add]
  · rw [List.getElem?_set_ne (by omega), List.getElem?_set_ne (by omega)]; exact h3
  · have := h0 j
    simp only [BK.add]
    split
    · simp; omega
    omega
  by_cases e : j = k
  · subst e
    refine ⟨v', ?_, ?_, fun e0 => ?_⟩
    · rw [List.getElem?_set_ne (by omega), List.getElem?_set_self (by omega)]
    · have e1 : (s.add j u).ls j = s.ls j ++ [(u, s.count)] := by simp [BK.add]
      rw [e1, List.length_append, heldCells_append]
      simp only [if_true]
      exact hr
    simp [BK.add] at e0
  obtain ⟨v2, h9, h10, h11⟩ := h4 j hj
  refine ⟨v2, ?_, ?_, fun e0 => ?_⟩
  · rw [List.getElem?_set_ne (by omega), List.getElem?_set_ne (by omega)]; exact h9
  · simp only [BK.add, if_neg e]; exact h10
  simp only [BK.add, if_neg e] at e0; exact h11 e0
inductive FlatI (kt ks kb : Nat → Nat) (H : HM) : List (Nat × Value) → OL → Prop where
  | n : FlatI kt ks kb H [] []
  | c {k : Nat} {v : Value} {n : Nat} {cs : List Value} {R : OL} {l : List (Nat × Value)} {Rs : OL} (hr : Row v n cs (kt k) (ks k) R) (hH : ∀ b o, (b, o) ∈ R → H b = some o) (hn : n * kb k ≤ 140737488351232) (hk : (Nat.blt k 33 && !Nat.beq (kt k) 0) = true) (t : FlatI kt ks kb H l Rs) : FlatI kt ks kb H ((k, v) :: l) (R ++ Rs)
def Flat (kt ks kb : Nat → Nat) (H : HM) (l : List (Nat × Value)) (F : List Nat) : Prop := ∃ Rs, FlatI kt ks kb H l Rs ∧ (Rs.map (·.1)).Perm F
section
variable {kt ks kb : Nat → Nat} {H H' : HM}
theorem FlatI.append {l m : List (Nat × Value)} {R S : OL} (h : FlatI kt ks kb H l R) (k : FlatI kt ks kb H m S) : FlatI kt ks kb H (l ++ m) (R ++ S) := by
  induction h with
  | n => exact k
  | c hr hH hn hk t ih => rw [List.cons_append, List.append_assoc]; exact .c hr hH hn hk ih
theorem FlatI.mono {l : List (Nat × Value)} {R : OL} (e : Ext H H') (h : FlatI kt ks kb H l R) : FlatI kt ks kb H' l R := by
  induction h with
  | n => exact .n
  | c hr hH hn hk t ih => exact .c hr (fun b o hm => e b o (hH b o hm)) hn hk ih
theorem FlatI.inH {l : List (Nat × Value)} {R : OL} (h : FlatI kt ks kb H l R) : ∀ b o, (b, o) ∈ R → H b = some o := by
  induction h with
  | n => intro b o hm; simp at hm
  | c hr hH hn hk t ih =>
    intro b o hm
    rcases List.mem_append.1 hm with hm | hm
    · exact hH b o hm
    exact ih b o hm
theorem Flat.nil : Flat kt ks kb H [] [] := ⟨[], .n, by simp⟩
theorem Flat.append {l m : List (Nat × Value)} {F G : List Nat} (h : Flat kt ks kb H l F) (k : Flat kt ks kb H m G) : Flat kt ks kb H (l ++ m) (F ++ G) := by
  obtain ⟨R, h1, h2⟩ := h
  obtain ⟨S, k1, k2⟩ := k
  exact ⟨R ++ S, h1.append k1, by rw [List.map_append]; exact h2.append k2⟩
theorem Flat.mono {l : List (Nat × Value)} {F : List Nat} (e : Ext H H') (h : Flat kt ks kb H l F) : Flat kt ks kb H' l F := by
  obtain ⟨R, h1, h2⟩ := h; exact ⟨R, h1.mono e, h2⟩
theorem Flat.perm {l : List (Nat × Value)} {F G : List Nat} (h : Flat kt ks kb H l F) (p : F.Perm G) : Flat kt ks kb H l G := by
  obtain ⟨R, h1, h2⟩ := h; exact ⟨R, h1, h2.trans p⟩
theorem Flat.one {k : Nat} {v : Value} {n : Nat} {cs : List Value} {R : OL} (hr : Row v n cs (kt k) (ks k) R) (hH : ∀ b o, (b, o) ∈ R → H b = some o) (hn : n * kb k ≤ 140737488351232) (hk : (Nat.blt k 33 && !Nat.beq (kt k) 0) = true) : Flat kt ks kb H [(k, v)] (R.map (·.1)) := by
  refine ⟨R, ?_, List.Perm.refl _⟩
  have := FlatI.c hr hH hn hk (.n (kt := kt) (ks := ks) (kb := kb) (H := H))
  rwa [List.append_nil] at this
end
abbrev Kept (tB : TypeId) (hty kt ks kb : Nat → TypeId) (bk : Nat) (s : BK) (nl : Nat) (F : List Nat) (H : HM) (O : OL) : Value → HM → OL → Prop := fun _ H' O' => H = H' ∧ ∃ (S' : OL) (l : List (Nat × Value)), O' = S' ++ O ∧ l.length = nl ∧ BkMem tB hty bk (s.adds l) S' ∧ Flat kt ks kb H l F
inductive Held (e es bt : Nat) (P : Nat → Nat → List Value → Prop) (K : Nat) : List (Value × Nat) → OL → Prop where
  | n : Held e es bt P K [] []
  | c {s : Value} {n len : Nat} {cs : List Value} {R : OL} {l : List (Value × Nat)} {Rs : OL} (hs : Row s len cs e es R) (hn : n ≤ 1000000000000) (hl : len * bt ≤ K) (hp : P n len cs) (t : Held e es bt P K l Rs) : Held e es bt P K ((s, n) :: l) (R ++ Rs)
theorem Held.append {e es bt : Nat} {P : Nat → Nat → List Value → Prop} {K : Nat} {l m : List (Value × Nat)} {R S : OL} (h : Held e es bt P K l R) (k : Held e es bt P K m S) : Held e es bt P K (l ++ m) (R ++ S) := by
  induction h with
  | n => exact k
  | c hs hn hl hp t ih => rw [List.cons_append, List.append_assoc]; exact .c hs hn hl hp ih
theorem Held.one {e es bt : Nat} {P : Nat → Nat → List Value → Prop} {K : Nat} {s : Value} {n len : Nat} {cs : List Value} {R : OL} (hs : Row s len cs e es R) (hn : n ≤ 1000000000000) (hl : len * bt ≤ K) (hp : P n len cs) : Held e es bt P K [(s, n)] R := by
  have := Held.c hs hn hl hp (.n (e := e) (es := es) (bt := bt) (P := P) (K := K))
  rwa [List.append_nil] at this
theorem Held.snoc {e es bt : Nat} {P : Nat → Nat → List Value → Prop} {K : Nat} {l : List (Value × Nat)} {Rs : OL} {s : Value} {n len : Nat} {cs : List Value} {R : OL} (h : Held e es bt P K l Rs) (hs : Row s len cs e es R) (hn : n ≤ 1000000000000) (hl : len * bt ≤ K) (hp : P n len cs) : Held e es bt P K (l ++ [(s, n)]) (Rs ++ R) := h.append (Held.one hs hn hl hp)
def Marked (mk : Int → List Value) (n len : Nat) (cs : List Value) : Prop := cs = (List.replicate len (mk (n : Int))).flatten
def Any3 (n len : Nat) (cs : List Value) : Prop := True
def ofKind (k : Nat) (l : List (Nat × Value)) : List Value := (l.filter fun p => Nat.beq p.1 k).map (·.2)
theorem adds_ls (s : BK) (l : List (Nat × Value)) (k : Nat) : ∃ ns : List Nat, ns.length = (ofKind k l).length ∧ (s.adds l).ls k = s.ls k ++ (ofKind k l).zip ns ∧ ∀ n ∈ ns, n < s.count + l.length := by
  induction l generalizing s with
  | nil => exact ⟨[], rfl, by simp [ofKind, BK.adds], by simp⟩
  | cons p l ih =>
    obtain ⟨j, v⟩ := p
    obtain ⟨ns, h1, h2, h3⟩ := ih (s.add j v)
    have e1 : s.adds ((j, v) :: l) = (s.add j v).adds l := rfl
    by_cases e : j = k
    · subst e
      have e2 : ofKind j ((j, v) :: l) = v :: ofKind j l := by simp [ofKind]
      refine ⟨s.count :: ns, by rw [e2]; simp [h1], ?_, fun n hn => ?_⟩
      · rw [e1, h2, e2]; simp [BK.add]
      rcases List.mem_cons.1 hn with rfl | hn
      · simp
      have := h3 n hn; simp [BK.add] at this ⊢; omega
    have e2 : ofKind k ((j, v) :: l) = ofKind k l := by simp [ofKind, beq_ne e]
    refine ⟨ns, by rw [e2]; exact h1, ?_, fun n hn => ?_⟩
    · rw [e1, h2, e2]
      have : k ≠ j := fun h => e h.symm
      simp [BK.add, this]
    have := h3 n hn; simp [BK.add] at this ⊢; omega
theorem FlatI.kinds {kt ks kb : Nat → Nat} {H : HM} {l : List (Nat × Value)} {Rs : OL} (h : FlatI kt ks kb H l Rs) : ∃ RK : Nat → OL, Rs.Perm ((List.range 33).flatMap RK) ∧
    ∀ k, k < 33 → ∀ ns : List Nat, ns.length = (ofKind k l).length → (∀ n ∈ ns, n ≤ 1000000000000) → Held (kt k) (ks k) (kb k) Any3 140737488351232 ((ofKind k l).zip ns) (RK k) := by
  induction h with
  | n =>
    refine ⟨fun _ => [], ?_, fun k _ ns _ _ => .n⟩
    have : ∀ l : List Nat, l.flatMap (fun _ => ([] : OL)) = [] := fun l => by induction l with | nil => rfl | cons a l ih => rw [List.flatMap_cons, ih]; rfl
    rw [this]
  | @c j v n cs R l Rs hr hH hn hk t ih =>
    obtain ⟨RK, h1, h2⟩ := ih
    obtain ⟨A, D, h3, h4⟩ := hole_flat RK j (List.range 33) List.nodup_range (List.mem_range.2 (by simp at hk; exact hk.1))
    refine ⟨fun i => if i = j then R ++ RK j else RK i, ?_, fun k hk' ns hl hb => ?_⟩
    · rw [h4]
      refine (List.Perm.append_left R h1).trans ?_
      rw [h3]
      have e : A ++ (R ++ RK j ++ D) = A ++ (R ++ (RK j ++ D)) := by simp
      rw [e]
      have e2 : R ++ (A ++ (RK j ++ D)) = (R ++ A) ++ (RK j ++ D) := by simp
      have e3 : A ++ (R ++ (RK j ++ D)) = (A ++ R) ++ (RK j ++ D) := by simp
      rw [e2, e3]
      exact List.perm_append_comm.append_right _
    by_cases e : k = j
    · subst e
      have e2 : ofKind k ((k, v) :: l) = v :: ofKind k l := by simp [ofKind]
      rw [e2] at hl ⊢
      cases ns with
      | nil => simp at hl
      | cons m ns =>
        rw [List.zip_cons_cons]
        simp only [if_pos rfl]
        exact Held.c hr (hb m (by simp)) hn trivial (h2 k hk' ns (by simpa using hl) (fun n hn => hb n (by simp [hn])))
    have e2 : ofKind k ((j, v) :: l) = ofKind k l := by simp [ofKind, beq_ne (fun h => e h.symm)]
    rw [e2] at hl ⊢
    simp only [if_neg e]
    exact h2 k hk' ns hl hb
theorem FlatI.absent {kt ks kb : Nat → Nat} {H : HM} {l : List (Nat × Value)} {Rs : OL} (h : FlatI kt ks kb H l Rs) {k : Nat} (h0 : kt k = 0) : ofKind k l = [] := by
  induction h with
  | n => rfl
  | @c j v n cs R l Rs hr hH hn hk t ih =>
    have e : j ≠ k := fun e => by subst e; rw [h0] at hk; simp at hk
    have e2 : ofKind k ((j, v) :: l) = ofKind k l := by simp [ofKind, beq_ne e]
    rw [e2, ih]
def HM.cuts (H : HM) (F : List Nat) : HM := fun k => if k ∈ F then none else H k
section
variable {P : Program} {sz : Nat} {B : World} {Q : EQ} {l : Env} {H H' : HM} {O : OL}
theorem Fits.thaws {Rs : OL} {F : List Nat} {w : World} (hw : Fits B H' O w) (hB : Base B H) (g : Grew H H' F) (hp : (Rs.map (·.1)).Perm F) (ho : ∀ b o, (b, o) ∈ Rs → H' b = some o) : Fits B (H'.cuts F) (Rs ++ O) w := by
  have hin : ∀ b o, (b, o) ∈ Rs → b ∈ F := fun b o hm => hp.mem_iff.1 (List.mem_map.2 ⟨_, hm, rfl⟩)
  refine ⟨hw.os, hw.tape, hw.out, hw.bsz, fun c u hc => ?_, fun c u hc => ?_, fun c u hm => ?_, ?_⟩
  · have h1 := hB c u hc
    have hne : c ∉ F := fun hm => by have := g.fresh c hm; rw [h1] at this; cases this
    simp only [HM.cuts, if_neg hne]; exact hw.base c u hc
  · simp only [HM.cuts] at hc
    split at hc
    · cases hc
    exact hw.imm c u hc
  · rcases List.mem_append.1 hm with hm | hm
    · exact ⟨hw.imm c u (ho c u hm), by simp [HM.cuts, hin c u hm]⟩
    have := hw.own c u hm
    refine ⟨this.1, ?_⟩
    simp only [HM.cuts]
    split
    · rfl
    exact this.2
  rw [List.map_append, List.nodup_append]
  refine ⟨(hp.nodup_iff).2 g.nd, hw.nd, fun x hx y hy e => ?_⟩
  subst e
  obtain ⟨⟨b, o⟩, hm, rfl⟩ := List.mem_map.1 hx
  obtain ⟨⟨c, u⟩, hm2, e⟩ := List.mem_map.1 hy
  simp only at e
  subst e
  have h1 := (hw.own _ _ hm2).2
  rw [ho _ _ hm] at h1; cases h1
end
theorem Ext.cuts {H H' : HM} {F : List Nat} (g : Grew H H' F) : Ext H (H'.cuts F) := fun b o h => by
  have hne : b ∉ F := fun hm => by have := g.fresh b hm; rw [h] at this; cases this
  simp only [HM.cuts, if_neg hne]; exact g.ext b o h
end Go.Ph
namespace Go.Ph
open Go Go.RowKit
section
variable {P : Program} {sz : Nat} {l : Env} {H : HM} {O : OL} {ty : TypeId}
theorem y_eqlS {t t' : TypeId} {n : Nat} {x y : Operand} {ps qs : List Int} (h : EqI P t n) (hx : ev l x = some (.agg (ps.map (Value.int .i64)).toArray)) (hy : ev l y = some (.agg (qs.map (Value.int .i64)).toArray)) (h1 : ps.length = n) (h2 : qs.length = n) : Yl P (.binOp .eql t x y t') ty l H O (.bool (decide (ps = qs))) := fun ρ w d pos aft g ha hw => by
  have hg : P.eqGuardType P.depth t = false := by obtain ⟨fs, _, _, hq, _⟩ := h; exact hq
  have he := run_eqS h h1 h2 w
  simp only [execOp, ha _ _ hx, ha _ _ hy, Sem.run_bind, run_eqGuard_agg (P := P) w .eql t x y _ _ hg, Result.andThen_ok, binOp, he, Sem.run_pure]
end
theorem Held.head {e es bt : Nat} {P : Nat → Nat → List Value → Prop} {K : Nat} {p : Value × Nat} {l : List (Value × Nat)} {Rs : OL} (h : Held e es bt P K (p :: l) Rs) : ∃ (len : Nat) (cs : List Value) (R Rs' : OL), Rs = R ++ Rs' ∧ Row p.1 len cs e es R ∧ p.2 ≤ 1000000000000 ∧ len * bt ≤ K ∧ P p.2 len cs ∧ Held e es bt P K l Rs' := by
  cases h with
  | c hs hn hl hp t => exact ⟨_, _, _, _, rfl, hs, hn, hl, hp, t⟩
theorem Held.none {e es bt : Nat} {P : Nat → Nat → List Value → Prop} {K : Nat} {Rs : OL} (h : Held e es bt P K [] Rs) : Rs = [] := by cases h; rfl
theorem heldCells_get {l : List (Value × Nat)} : ∀ {i : Nat} (hi : i < l.length), ∀ j u, [l[i].1, Value.int .i64 (l[i].2 : Int)][j]? = some u → (heldCells l)[i * 2 + j]? = some u := by
  induction l with
  | nil => intro i hi; simp at hi
  | cons p l ih =>
    intro i hi j u hu
    have e : heldCells (p :: l) = p.1 :: .int .i64 (p.2 : Int) :: heldCells l := rfl
    cases i with
    | zero =>
      rw [e]
      match j, hu with
      | 0, hu => simpa using hu
      | 1, hu => simpa using hu
      | j + 2, hu => simp at hu
    | succ i =>
      have := ih (i := i) (by simpa using hi) j u (by simpa using hu)
      rw [e, show (i + 1) * 2 + j = (i * 2 + j) + 2 by omega]
      simpa using this
theorem put_mark {mk cs : List Value} {j len es : Nat} (hm : mk.length = es) (hc : cs.length = len * es) (hj : j < len) : putC ((List.replicate j mk).flatten ++ cs.drop (j * es)) (j * es) mk = (List.replicate (j + 1) mk).flatten ++ cs.drop ((j + 1) * es) := by
  have h1 : ((List.replicate j mk).flatten).length = j * es := by simp [hm]
  have h2 : (j + 1) * es ≤ len * es := Nat.mul_le_mul_right _ hj
  have h3 : ((cs.drop (j * es)).take es).length = mk.length := by rw [List.length_take, List.length_drop, hc, hm]; rw [Nat.succ_mul] at h2; omega
  rw [putC_at' (A := (List.replicate j mk).flatten) (X := (cs.drop (j * es)).take es) (D := cs.drop ((j + 1) * es)) h1 h3 (by
    congr 1
    rw [Nat.succ_mul, ← List.drop_drop, List.take_append_drop])]
  rw [List.replicate_succ', List.flatten_append]
  simp
theorem rep_get {mk : List Value} {k len es : Nat} (hm : mk.length = es) (hk : k < len) : ∀ i u, mk[i]? = some u → ((List.replicate len mk).flatten)[k * es + i]? = some u := by
  intro i u hu
  have hi := (List.getElem?_eq_some_iff.1 hu).1
  have h1 : ((List.replicate k mk).flatten).length = k * es := by simp [hm]
  have e : List.replicate len mk = List.replicate k mk ++ mk :: List.replicate (len - k - 1) mk := by
    rw [show mk :: List.replicate (len - k - 1) mk = List.replicate (len - k - 1 + 1) mk by rw [List.replicate_succ], List.replicate_append_replicate]
    congr 1; omega
  rw [e, List.flatten_append, List.getElem?_append_right (by omega), h1, Nat.add_sub_cancel_left, List.flatten_cons, List.getElem?_append_left hi]
  exact hu
theorem rep_snoc {mk : List Value} {n : Nat} : (List.replicate n mk).flatten ++ mk = (List.replicate (n + 1) mk).flatten := by
  rw [List.replicate_succ', List.flatten_append]; simp
theorem heldCells_mid {l m : List (Value × Nat)} {s s' : Value} {n i : Nat} (hi : l.length = i) : putC (heldCells (l ++ (s, n) :: m)) (i * 2) [s'] = heldCells (l ++ (s', n) :: m) := by
  have e : ∀ s : Value, heldCells (l ++ (s, n) :: m) = heldCells l ++ ([s] ++ (.int .i64 (n : Int) :: heldCells m)) := fun s => by simp [heldCells]
  rw [e, e]
  exact putC_at (by rw [heldCells_len, hi]) rfl
theorem putC_set {C : List Value} {o : Nat} {x : Value} (h : o < C.length) : putC C o [x] = C.set o x := by
  rw [List.set_eq_take_append_cons_drop, if_pos h]
  simp [putC]
theorem held_s0 {y : Nat × Obj} {O2 : OL} : ∀ p ∈ [y], p ∈ y :: O2 := fun p hp => by rw [List.mem_singleton.1 hp]; exact .head _
theorem ElO.flat {α : Type} [Own α] {tw : Bool} {H : HM} {cs : List Value} {xs : List α} {Fs : List Nat} (hf : ∀ {cs : List Value} {x : α} {F : List Nat}, Own.ow tw H cs x F → F = []) (h : ElO tw H cs xs Fs) : Fs = [] := by
  induction h with
  | n => rfl
  | c h _ ih => rw [hf h, ih]; rfl
theorem held_bR {x : Nat × Obj} {R O2 : OL} : ∀ p ∈ x :: R, p ∈ x :: (R ++ O2) := fun p hp => by
  rcases List.mem_cons.1 hp with h | h
  · subst h; exact List.mem_cons_self
  exact List.mem_cons_of_mem _ (List.mem_append_left _ h)
theorem held_zbR {z x : Nat × Obj} {R O2 : OL} : ∀ p ∈ x :: R, p ∈ z :: x :: (R ++ O2) := fun p hp => List.mem_cons_of_mem _ (held_bR p hp)
end Go.Ph
namespace Go.Ph
open Go Go.RowKit
theorem ElO.uncons {α : Type} [Own α] {tw : Bool} {H : HM} {C : List Value} {x : α} {xs : List α} {F : List Nat} (h : ElO tw H C (x :: xs) F) : ∃ ds C' Fk F', C = ds ++ C' ∧ F = Fk ++ F' ∧ Own.ow tw H ds x Fk ∧ ElO tw H C' xs F' := by
  cases h with
  | c h t => exact ⟨_, _, _, _, rfl, rfl, h, t⟩
theorem ElO.none {α : Type} [Own α] {tw : Bool} {H : HM} {C : List Value} {F : List Nat} (h : ElO tw H C ([] : List α) F) : F = [] := by cases h; rfl
theorem Row.atH {v : Value} {n : Nat} {xs ds : List Value} {e es k : Nat} {R O : OL} {H : HM} (h : Row v n xs e es R) (hH : ∀ b o, (b, o) ∈ R → H b = some o) (hn : 0 < n) (hd : ∀ i u, ds[i]? = some u → xs[k + i]? = some u) : AtS H O v k ds := by
  rcases h.form with ⟨_, h0, _⟩ | ⟨b, cap, sp, rfl, _, _, rfl⟩
  · omega
  refine ⟨b, 0, _, _, rfl, At.ofH (C := (xs ++ sp).toArray) (T := e) (fr := (0, 0)) (hH b _ (List.mem_singleton.2 rfl)) (fun i u hu => ?_)⟩
  have h2 := hd i u hu
  simp only [Nat.zero_add, List.getElem?_toArray]
  rw [List.getElem?_append_left (List.getElem?_eq_some_iff.1 h2).1]
  exact h2
theorem sum_take_succ {α : Type} (f : α → Nat) {xs : List α} {i : Nat} (hi : i < xs.length) : ((xs.take (i + 1)).map f).sum = ((xs.take i).map f).sum + f xs[i] := by
  rw [take_next hi, List.map_append, List.sum_append]; simp
theorem sum_take_le {α : Type} (f : α → Nat) (xs : List α) (i : Nat) : ((xs.take i).map f).sum ≤ (xs.map f).sum := by
  have : (xs.map f).sum = ((xs.take i).map f).sum + ((xs.drop i).map f).sum := by rw [← List.sum_append, ← List.map_append, List.take_append_drop]
  omega
theorem drop_get {cs ds C' : List Value} {k : Nat} (h : cs.drop k = ds ++ C') : ∀ i u, ds[i]? = some u → cs[k + i]? = some u := fun i u hu => by
  rw [← List.getElem?_drop, h, List.getElem?_append_left (List.getElem?_eq_some_iff.1 hu).1]; exact hu
theorem drop_more {cs ds C' : List Value} {k n : Nat} (h : cs.drop k = ds ++ C') (hn : ds.length = n) : cs.drop (k + n) = C' := by
  rw [← List.drop_drop, h, ← hn, List.drop_left]
theorem CallsM.perm {P : Program} {f : FuncId} {args : Array Value} {B : World} {H : HM} {O O1 : OL} {R : Value → HM → OL → Prop} (hp : O.Perm O1) (h : CallsM P f args B H O1 R) : CallsM P f args B H O R := fun w hw => h w (hw.perm hp)
theorem CallsM.permS {P : Program} {f : FuncId} {args : Array Value} {B : World} {H : HM} {O O1 : OL} {X : Value} (hp : O.Perm O1) (h : CallsM P f args B H O1 (Same X H O1)) : CallsM P f args B H O (Same X H O) := fun w hw => (h w (hw.perm hp)).mono fun e w' ⟨v, H', O', h1, h2, h3, h4, h5⟩ => ⟨v, H, O, h1, by subst h4; subst h5; exact h2.perm hp.symm, h3, rfl, rfl⟩
end Go.Ph
namespace Go.Ph
open Go Go.RowKit
theorem CallsM.pick {P : Program} {f : FuncId} {args : Array Value} {B : World} {H : HM} {O : OL} {R : Value → HM → OL → Prop} (h : CallsM P f args B H O (fun v H' O' => ∃ O2 : OL, O2.Sublist O' ∧ R v H' O2)) : CallsM P f args B H O R := fun w hw =>
  (h w hw).mono fun e w' ⟨v, H', O', h1, h2, O2, h3, h4⟩ => ⟨v, H', O2, h1, h2.pick (fun p hp => h3.subset hp) (h2.nd.sublist (h3.map _)), h4⟩
theorem perm_count {F G : List Nat} (h : ∀ a, F.count a = G.count a) : F.Perm G := List.perm_iff_count.2 h
theorem rot {A X Y Z : OL} (h1 : Y = A ++ X) (h2 : X ++ A = Z) : Y.Perm Z := by subst h1; subst h2; exact List.perm_append_comm
end Go.Ph
namespace Go.Ph
theorem q_exit_then {next : Env → HM → OL → Prop} {Q : EQ} {i : Nat} {l : Env} {H : HM} {O : OL} (h : Q (.exit i) l H O) : thenQ next Q (.exit i) l H O := h
theorem q_exit_block {Q : EQ} {i : Nat} {l : Env} {H : HM} {O : OL} (h : Q .normal l H O) : blockQ i Q (.exit i) l H O := by
  simp only [blockQ, Nat.beq_refl, cond_true]; exact h
theorem q_exit_pass {Q : EQ} {i j : Nat} {l : Env} {H : HM} {O : OL} (hn : Nat.beq i j = false) (h : Q (.exit i) l H O) : blockQ j Q (.exit i) l H O := by
  simp only [blockQ, hn, cond_false]; exact h
end Go.Ph
set_option linter.unusedVariables false
set_option linter.unusedSimpArgs false
namespace Go.Ph
open Go Go.RowKit
theorem Row.upto {p : Option Addr} {n c m e es : Nat} {cs : List Value} {R : OL} (h : Row (.slice p n c) n cs e es R) (hn : n ≤ m) (hm : m ≤ c) : ∃ ds : List Value, ds.length = (m - n) * es ∧ Row (.slice p m c) m (cs ++ ds) e es R := by
  have hl := h.len
  rcases h.form with ⟨h1, h2, h3⟩ | ⟨b, cap, sp, h1, h2, h3, h4⟩
  · injection h1 with h5 h6 h7
    subst h5; subst h6; subst h7
    have : m = 0 := by omega
    subst this
    exact ⟨[], by simp, by simpa using h⟩
  injection h1 with h5 h6 h7
  subst h5; subst h7; subst h4
  have e1 : (c - n) * es = (m - n) * es + (c - m) * es := by rw [← Nat.add_mul]; congr 1; omega
  have hd : (sp.take ((m - n) * es)).length = (m - n) * es := by rw [List.length_take, h3]; omega
  refine ⟨sp.take ((m - n) * es), hd, ⟨by rw [List.length_append, hl, hd, ← Nat.add_mul]; congr 1; omega, .inr ⟨b, c, sp.drop ((m - n) * es), rfl, hm, by rw [List.length_drop, h3]; omega, ?_⟩⟩⟩
  rw [List.append_assoc, List.take_append_drop]
theorem Row.exact {b m e es : Nat} {cells : List Value} {R : OL} (h : Row (.slice (some ⟨b, 0, none⟩) m m) m cells e es R) : R = [(b, cl cells e)] := by
  rcases h.form with ⟨h1, _⟩ | ⟨g, cap, sp, h1, h2, h3, h4⟩
  · cases h1
  injection h1 with h5 _ h7
  injection h5 with h5
  injection h5 with h5
  subst h5; subst h7
  have : sp = [] := List.eq_nil_of_length_eq_zero (by rw [h3]; simp)
  subst this
  rw [List.append_nil] at h4
  exact h4
theorem putC_all {C u : List Value} (h : u.length = C.length) : putC C 0 u = u := by simp [putC, h]
theorem putC_take {C u : List Value} {o : Nat} (h : o ≤ C.length) : (putC C o u).take (o + u.length) = C.take o ++ u := by
  unfold putC
  have h1 : (C.take o ++ u).length = o + u.length := by rw [List.length_append, List.length_take]; omega
  rw [← h1, List.take_left]
def marksTo (mk : Int → List Value) (n : Nat) : Nat → List Value
  | 0 => []
  | k + 1 => marksTo mk n k ++ mk ((n + k : Nat) : Int)
theorem marksTo_len {mk : Int → List Value} {n es : Nat} (hm : ∀ i, (mk i).length = es) : ∀ k, (marksTo mk n k).length = k * es
  | 0 => by simp [marksTo]
  | k + 1 => by rw [marksTo, List.length_append, marksTo_len hm k, hm, Nat.succ_mul]
theorem marksTo_two {mk : Int → List Value} {n : Nat} : marksTo mk n 2 = mk (n : Int) ++ mk ((n : Int) + 1) := by simp [marksTo]
theorem putC_mark {mk : Int → List Value} {news rest : List Value} {n k es : Nat} (hn : news.length = n * es) (hm : ∀ i, (mk i).length = es) (hr : es ≤ rest.length) : putC (news ++ (marksTo mk n k ++ rest)) ((n + k) * es) (mk ((n + k : Nat) : Int)) = news ++ (marksTo mk n (k + 1) ++ rest.drop es) := by
  rw [putC_at' (A := news ++ marksTo mk n k) (X := rest.take es) (D := rest.drop es) (by rw [List.length_append, hn, marksTo_len hm, Nat.add_mul]) (by rw [List.length_take, hm]; omega) (by rw [List.take_append_drop, List.append_assoc])]
  simp [marksTo]
theorem El.ownFlat {α : Type} [Own α] {tw : Bool} {H : HM} {cs : List Value} {xs : List α} (hf : ∀ {cs : List Value} {x : α}, Rep.rd H cs x → Own.ow tw H cs x []) (h : El H cs xs) : ElO tw H cs xs [] := by
  induction h with
  | n => exact .n
  | c h _ ih => exact ElO.c (F := []) (hf h) ih
theorem OwL.twin {α : Type} [Own α] {H : HM} {xs : List α} {n b : Nat} {news : List Value} {R : OL} {Fs : List Nat} (hr : Row (.slice (some ⟨b, 0, none⟩) (n + 2) (n + 2)) (n + 2) (news ++ (Own.mark α (n : Int) ++ Own.mark α ((n : Int) + 1))) (Own.ty α) (Rep.sz α) R) (hn : n = xs.length) (he : ElO true H news xs Fs) (hI : ∀ b o, (b, o) ∈ R → H b = some o) (hs : xs.length * Rep.bytes α ≤ 140737488351232) : OwL true H (.slice (some ⟨b, 0, none⟩) xs.length (xs.length + 2)) xs (R.map (·.1) ++ Fs) := by
  subst hn
  have e := hr.exact
  have hl := hr.len
  have hnl := he.el.len
  refine ⟨R, news, Fs, ⟨hnl, .inr ⟨b, xs.length + 2, Own.mark α (xs.length : Int) ++ Own.mark α ((xs.length : Int) + 1), rfl, by omega, ?_, e⟩⟩, hI, he, rfl, hs, fun _ => ⟨b, rfl, e⟩⟩
  rw [List.length_append, hnl] at hl
  have : (xs.length + 2 - xs.length) * Rep.sz α = 2 * Rep.sz α := by congr 1; omega
  rw [this]
  rw [Nat.add_mul] at hl
  omega
section
variable {P : Program} {sz : Nat} {B : World} {Q : EQ} {l : Env} {H : HM} {O : OL} {ops : Array Oper} {rest : List Oper} {ty : TypeId} {pos : String} {aft : Array Edge} {d : Nat}
theorem o_copyL {α : Type} [Rep α] {t t' e es bytes n c b o dl dc : Nat} {agg : Bool} {z u : Value} {x y : Operand} {xs : List Value} {ys : List α} {R : OL} {F : OL → OL} (ht : P.underlying t = some (.slice e)) (ht' : P.underlying t' = some (.slice e)) (ti : TI P e agg es bytes z) (hes : Rep.sz α = es)
    (hr : Row (.slice (some ⟨b, 0, none⟩) n c) n xs e es R) (hx : ev l x = some (.slice (some ⟨b, o, none⟩) dl dc)) (hy : ev l y = some u) (hu : RdL H u ys) (hd : ys.length ≤ dl) (ho : o + ys.length * es ≤ xs.length) (hF : Hole O R F)
    (k : ∀ R' news, El H news ys → Row (.slice (some ⟨b, 0, none⟩) n c) n (putC xs o news) e es R' → ExO P sz B ops Q rest ((d, .int .i64 (ys.length : Int)) :: l) H (F R')) :
    ExO P sz B ops Q (⟨some d, .call ⟨.builtin .copy, #[x, y], #[t, t']⟩, ty, pos, aft, none⟩ :: rest) l H O := by
  subst hes
  obtain ⟨news, h1, h2⟩ := hu.all O
  obtain ⟨p, c', rfl⟩ := hu.shape
  cases p with
  | some a =>
    have hat : ∀ w, Has H O w → ∀ j v, news[j]? = some v → w.cell? (a.add j) = some v := by
      by_cases hn : ys = []
      · subst hn; rw [h1.nil_of]; exact fun w hw j u hu => by simp at hu
      obtain ⟨b2, o2, n2, c2, e5, h3⟩ := h2 hn
      injection e5 with e5
      injection e5 with e5
      subst e5
      exact fun w hw j u hu => by rw [add_pl]; simpa using h3 w hw j u hu
    exact o_copyR (m := ys.length) ht ti hr hx hy (Nat.min_eq_left hd) h1.len ho h1.one hat hF (fun R' j => k R' news h1 j)
  | none =>
    have hn : ys = [] := by
      by_cases hn : ys = []
      · exact hn
      obtain ⟨b2, o2, n2, c2, e5, h3⟩ := h2 hn
      cases e5
    subst hn
    have hnil := h1.nil_of
    subst hnil
    have hp : putC xs o [] = xs := by simp [putC]
    intro hd' a w ha hw
    obtain ⟨hlt, hr'⟩ := dst_lt hd' rfl
    refine wpList_plain rfl fun K hK => ?_
    obtain ⟨A, C, rfl, hF'⟩ := hF.split
    have hrun : (Builtin.copy_ #[t, t'] ty #[.slice (some ⟨b, o, none⟩) dl dc, .slice none 0 c']).run P w = .ok (.int .i64 0) w := by
      simp only [Builtin.copy_]
      simp [Go.run_underlying (P := P) ht, Builtin.lenOf, run_sizeOf ti, Builtin.firstCells, goInt, loadCells, loadCellsFrom, storeCells]
    simp only [Oper.wp, execOp, resolve, Sem.run_bind, Sem.run_pure, Result.andThen_ok, invoke, builtin, List.map_toArray, List.map_cons, List.map_nil, ha.ev hx, ha.ev hy, List.length_nil, hrun, Oper.upon]
    refine hK _ _ (k R [] .n (by rw [hp]; exact hr) hr' _ _ (ha.put hlt _) ?_)
    rw [hF']
    exact hw
end
end Go.Ph
set_option linter.unusedVariables false
set_option linter.unusedSimpArgs false
namespace Go.Ph
open Go Go.RowKit
section
variable {P : Program} {sz : Nat} {B : World} {Q : EQ} {l : Env} {H : HM} {O : OL} {ops : Array Oper} {ty : TypeId} {pos : String} {aft : Array Edge} {d : Nat}
def ExG (P : Program) (sz : Nat) (B : World) (ops : Array Oper) (Q : EQ) (H0 : HM) (O0 : OL) (N T : List Nat) : Nat → Bool → Array Bool → Env → HM → OL → Prop
  | 0, _, listed, l, H, O => Region.ready .any ops listed = [] ∧ Q .normal l H O
  | n + 1, s, listed, l, H, O => (Region.ready .any ops listed = [] ∧ Q .normal l H O) ∨
    (∃ i o v, s = true ∧ (N.contains i && (Region.ready .any ops listed).contains i && Region.free .any ops listed i) = true ∧ ops[i]? = some o ∧ (∀ a, Fr sz l a → YieldsIf P ops (Has H0 O0) o v a) ∧ dstOk sz o = true ∧ o.dst ≠ none ∧ ExG P sz B ops Q H0 O0 N T n s (listed.setIfInBounds i true) ((o.dst.getD 0, v) :: l) H O) ∨
    ((Region.ready .any ops listed).isEmpty = false ∧ ∀ i ∈ Region.ready .any ops listed, ∃ o, ops[i]? = some o ∧ dstOk sz o = true ∧ ExO P sz B ops (thenQ (fun l' H' O' => (T.contains i = true ∨ (Ext H0 H' ∧ ∀ p ∈ O0, p ∈ O')) ∧ ExG P sz B ops Q H0 O0 N T n (s && !T.contains i) (listed.setIfInBounds i true) l' H' O') Q) [o] l H O)
theorem ExG.sound {H0 : HM} {O0 : OL} {N T : List Nat} (hs : Region.noSelect ops = true) (hT : ∀ j ∈ T, waitsAll ops N j = true) (np : NoPanic Q) : ∀ (n : Nat) (s : Bool) (listed : Array Bool) (l : Env) (H : HM) (O : OL),
    ExG P sz B ops Q H0 O0 N T n s listed l H O → ∀ a w, Fr sz l a → Fits B H O w → (s = true → Has H0 O0 w) → anyT P ops (Lift sz B Q) (Has H0 O0) T n listed a w := by
  intro n
  induction n with
  | zero => intro s listed l H O h a w ha hw _; exact ⟨h.1, l, H, O, ha, hw, h.2⟩
  | succ n ih =>
    intro s listed l H O h a w ha hw hS
    rcases h with ⟨h1, h2⟩ | ⟨i, o, v, e0, e00, e1, e2, e3, e4, e5⟩ | ⟨h1, h2⟩
    · exact ⟨fun _ => ⟨l, H, O, ha, hw, h2⟩, fun i hi => by rw [h1] at hi; cases hi⟩
    · simp only [Bool.and_eq_true] at e00
      obtain ⟨⟨h1, h2⟩, h3⟩ := e00
      have hS0 := hS e0
      have hfr : Fr sz ((o.dst.getD 0, v) :: l) (a.put o.dst v) := by
        cases hd : o.dst with
        | none => exact absurd hd e4
        | some d =>
          simp only [dstOk, hd, Nat.blt_eq] at e3
          exact ha.put e3 v
      refine anyT_first (N := N) e1 (by simpa using h1) hT (Region.noSelect_spec hs) (fun c a w ⟨l, H, O, _, _, x⟩ => np c l H O x) n listed a w (Region.free_spec e1 h3) (by simpa using h2) (e2 a ha) hS0 ?_
      exact ih _ _ _ _ _ e5 _ _ hfr hw hS
    refine ⟨fun h => (by rw [h] at h1; cases h1), fun j hj => ?_⟩
    obtain ⟨o, e1, e2, e3⟩ := h2 j hj
    have h4 := e3 (by simp [e2]) a w ha hw
    have next : ∀ a' w', Lift sz B (thenQ (fun l' H' O' => (T.contains j = true ∨ (Ext H0 H' ∧ ∀ p ∈ O0, p ∈ O')) ∧ ExG P sz B ops Q H0 O0 N T n (s && !T.contains j) (listed.setIfInBounds j true) l' H' O') Q) .normal a' w' →
        (j ∉ T → Has H0 O0 w') ∧ anyT P ops (Lift sz B Q) (Has H0 O0) T n (listed.setIfInBounds j true) a' w' := by
      rintro a' w' ⟨l', H', O', f1, f2, f3, f4⟩
      have keep : j ∉ T → Has H0 O0 w' := fun hj => by
        rcases f3 with f3 | ⟨f3, f5⟩
        · exact absurd (by simpa using f3) hj
        exact f2.has.mono f3 f5
      refine ⟨keep, ih _ _ _ _ _ f4 a' w' f1 f2 fun hk => keep fun hj => ?_⟩
      have : T.contains j = true := by simpa using hj
      rw [this] at hk
      simp at hk
    unfold wpOp
    simp only [e1]
    simp only [wpList] at h4
    split
    · rename_i hw'
      rw [if_pos hw'] at h4
      rcases h4 with h4 | ⟨h5, a1, w1, h6⟩
      · exact .inl (Oper.wp_mono next (wp_exits (fun e a w he ⟨l, H, O, x, y, z⟩ => ⟨l, H, O, x, y, by cases e <;> first | exact absurd rfl he | exact z⟩) h4))
      obtain ⟨l, H, O, x, y, z⟩ := h6
      exact .inr ⟨h5, a1, w1, l, H, O, x, y, z⟩
    rename_i hw'
    rw [if_neg hw'] at h4
    exact next _ _ h4
theorem x_regionG {id : Nat} {os : List Oper} (O1 : OL) (hs : ∀ p ∈ O1, p ∈ O) (N T : List Nat) (hm : P.follows .mixedOrders = true) (hp : (Region.noSelect os.toArray && T.all (waitsAll os.toArray N)) = true) (np : NoPanic Q) (h : ExG P sz B os.toArray Q H O1 N T os.length true (Array.replicate os.length false) l H O) : ExC P sz B (.region id os.toArray true) Q l H O := fun a w ha hw => by
  simp only [Bool.and_eq_true, List.all_eq_true] at hp
  refine wp_region_any hm (any_of_anyT (S := Has H O1) (T := T) _ _ _ _ ?_)
  have := ExG.sound hp.1 hp.2 np os.length true _ l H O h a _ ha hw.drew (fun _ => ⟨hw.drew.imm, fun b o hm => hw.drew.has.own b o (hs _ hm)⟩)
  simpa using this
section
variable {H0 : HM} {O0 : OL} {N T : List Nat} {n i : Nat} {s : Bool} {listed : Array Bool}
theorem g_nil (hr : Region.ready .any ops listed = []) (h : Q .normal l H O) : ExG P sz B ops Q H0 O0 N T n s listed l H O := by
  cases n with
  | zero => exact ⟨hr, h⟩
  | succ n => exact .inl ⟨hr, h⟩
def GOne (P : Program) (sz : Nat) (B : World) (ops : Array Oper) (Q : EQ) (H0 : HM) (O0 : OL) (N T : List Nat) (n : Nat) (s : Bool) (listed : Array Bool) (l : Env) (H : HM) (O : OL) (i : Nat) : Prop :=
  ∃ o, ops[i]? = some o ∧ dstOk sz o = true ∧ ExO P sz B ops (thenQ (fun l' H' O' => (T.contains i = true ∨ (Ext H0 H' ∧ ∀ p ∈ O0, p ∈ O')) ∧ ExG P sz B ops Q H0 O0 N T n (s && !T.contains i) (listed.setIfInBounds i true) l' H' O') Q) [o] l H O
theorem g_one {o : Oper} {listed' : Array Bool} {s' : Bool} (hi : ops[i]? = some o) (hd : dstOk sz o = true) (hl : listed.setIfInBounds i true = listed') (hs' : (s && !T.contains i) = s') (h : ExO P sz B ops (thenQ (fun l' H' O' => (T.contains i = true ∨ (Ext H0 H' ∧ ∀ p ∈ O0, p ∈ O')) ∧ ExG P sz B ops Q H0 O0 N T n s' listed' l' H' O') Q) [o] l H O) : GOne P sz B ops Q H0 O0 N T n s listed l H O i := by
  subst hl; subst hs'; exact ⟨o, hi, hd, h⟩
theorem g_all1 {i : Nat} (hr : Region.ready .any ops listed = [i]) (h : GOne P sz B ops Q H0 O0 N T n s listed l H O i) : ExG P sz B ops Q H0 O0 N T (n + 1) s listed l H O :=
  .inr (.inr ⟨by rw [hr]; rfl, fun j hj => by rw [hr] at hj; rw [List.mem_singleton.1 hj]; exact h⟩)
theorem g_all2 {i j : Nat} (hr : Region.ready .any ops listed = [i, j]) (h : GOne P sz B ops Q H0 O0 N T n s listed l H O i) (h' : GOne P sz B ops Q H0 O0 N T n s listed l H O j) : ExG P sz B ops Q H0 O0 N T (n + 1) s listed l H O :=
  .inr (.inr ⟨by rw [hr]; rfl, fun q hq => by
    rw [hr] at hq
    rcases List.mem_cons.1 hq with rfl | hq
    · exact h
    rw [List.mem_singleton.1 hq]; exact h'⟩)
end
end
end Go.Ph
namespace Go.Ph
open Go Go.RowKit
section
variable {P : Program} {sz : Nat} {B : World} {Q : EQ} {l : Env} {H : HM} {O : OL}
end
open Classical in
theorem subO : ∀ {T O : OL}, (∀ a, T.count a ≤ O.count a) → ∃ rest, O.Perm (T ++ rest)
  | [], O, _ => ⟨O, List.Perm.refl _⟩
  | x :: T, O, h => by
    have hx : x ∈ O := by
      have := h x
      rw [List.count_cons_self] at this
      exact List.count_pos_iff.1 (by omega)
    have hp := List.perm_cons_erase hx
    obtain ⟨rest, hr⟩ := subO (T := T) (O := O.erase x) (fun a => by
      have h1 := h a
      have h2 := hp.count_eq a
      rw [List.count_cons] at h1 h2
      omega)
    exact ⟨rest, hp.trans (hr.cons x)⟩
section
variable {P : Program} {sz : Nat} {B : World} {Q : EQ} {l : Env} {H : HM} {O : OL}
end
theorem held_az {x : Nat × Obj} {R O2 : OL} : ∀ p ∈ O2, p ∈ R ++ x :: O2 := fun p hp => List.mem_append_right _ (List.mem_cons_of_mem _ hp)
end Go.Ph
set_option linter.unusedVariables false
set_option linter.unusedSimpArgs false
namespace Go.Ph
open Go Go.RowKit
def Reads (P : Program) (α : Type) [Rep α] (t : TypeId) : Prop := ∀ {J : Type} {enc : TypeId × Value → J} {W : World} {sp : Nat → Bool} {fuel : Nat} {cs : List Value} {d : DataW J} {p : List MemPlace},
  DataW.trod enc P W 0 sp true fuel t cs = some (d, p) → (∀ x ∈ d.weights P t, x ≤ reachBytes) → ∃ x : α, Rep.rd (fun b => W.heap[b]?) cs x
theorem inR_wf {n : Int} (h : (Lit.int .i64 n).wf = true) : InR n := by
  simp only [Lit.wf, IntKind.min, IntKind.max, IntKind.bits, IntKind.signed] at h
  unfold InR
  simp at h
  omega
theorem reads_int {P : Program} {t : TypeId} (ht : P.underlying t = some (.int .i64)) : Reads P Int t := by
  intro J enc W sp fuel cs d p h hw
  obtain ⟨n, rfl, _, h1⟩ := DataW.trod_int ht h
  exact ⟨n, rfl, inR_wf h1⟩
theorem reads_bool {P : Program} {t : TypeId} (ht : P.underlying t = some .bool) : Reads P Bool t := by
  intro J enc W sp fuel cs d p h hw
  obtain ⟨b, rfl, _⟩ := DataW.trod_bool ht h
  exact ⟨b, rfl⟩
theorem weightsAll_mem {P : Program} {e : TypeId} {J : Type} : ∀ {ds : List (DataW J)} {d : DataW J} {x : Nat}, d ∈ ds → x ∈ d.weights P e → x ∈ DataW.weightsAll P e ds
  | [], _, _, h, _ => by simp at h
  | d0 :: ds, d, x, h, hx => by
    simp only [DataW.weightsAll, List.mem_append]
    rcases List.mem_cons.1 h with rfl | h
    · exact .inl hx
    exact .inr (weightsAll_mem h hx)
theorem weightsEach_mem {P : Program} {J : Type} : ∀ {ts : List TypeId} {ds : List (DataW J)} {j : Nat} {t : TypeId} {d : DataW J} {x : Nat}, ts[j]? = some t → ds[j]? = some d → x ∈ d.weights P t → x ∈ DataW.weightsEach P ts ds
  | [], _, j, _, _, _, h, _, _ => by simp at h
  | t0 :: ts, [], j, _, _, _, _, h, _ => by simp at h
  | t0 :: ts, d0 :: ds, j, t, d, x, h1, h2, hx => by
    simp only [DataW.weightsEach, List.mem_append]
    cases j with
    | zero =>
      simp only [List.getElem?_cons_zero, Option.some.injEq] at h1 h2
      subst h1; subst h2; exact .inl hx
    | succ j => exact .inr (weightsEach_mem (j := j) (by simpa using h1) (by simpa using h2) hx)
theorem trod_field {P : Program} {t : TypeId} {fs : Array Field} {J : Type} {enc : TypeId × Value → J} {W : World} {sp : Nat → Bool} {fuel : Nat} {cs : List Value} {d : DataW J} {p : List MemPlace} (ht : P.underlying t = some (.struct fs))
    (h : DataW.trod enc P W 0 sp true fuel t cs = some (d, p)) (hw : ∀ x ∈ d.weights P t, x ≤ reachBytes) : cs.length = P.cellsOf t ∧ ∀ (j : Nat) (f : Field), fs.toList[j]? = some f → ∃ fuel' d' p', DataW.trod enc P W 0 sp true fuel' f.type ((cs.drop f.offset).take (P.cellsOf f.type)) = some (d', p') ∧ ∀ x ∈ d'.weights P f.type, x ≤ reachBytes := by
  cases fuel with
  | zero => simp [DataW.trod] at h
  | succ fuel =>
    simp only [DataW.trod, ht] at h
    split at h
    · rename_i hl
      refine ⟨hl, fun j f hj => ?_⟩
      obtain ⟨xs, hm, hx⟩ := Option.map_eq_some_iff.1 h
      injection hx with hd _
      subst hd
      obtain ⟨y, hy, he⟩ := Lib.mapM_at hm j f hj
      refine ⟨fuel, y.1, y.2, he, fun x hxw => hw x ?_⟩
      simp only [DataW.weights, ht]
      exact weightsEach_mem (j := j) (t := f.type) (d := y.1) (by simp [hj]) (by simp [hy]) hxw
    cases h
theorem cells_spot {W : World} {a : Addr} {s : Nat} {cs : List Value} (h : W.cells? 0 (a.add 0) s = some cs) (hs : 0 < s) : a.spot = none := by
  unfold World.cells? at h
  rw [if_pos (Nat.zero_le _)] at h
  obtain ⟨y, hy, he⟩ := Lib.mapM_at h 0 0 (by simp [hs])
  have e : (a.add 0).add 0 = a := by simp [Addr.add]
  rw [e] at he
  unfold World.cell? at he
  cases hq : a.spot with
  | none => rfl
  | some x =>
    cases hb : W.heap[a.block]? with
    | none => rw [hb] at he; cases he
    | some o => cases o <;> rw [hb] at he <;> simp [hq] at he
theorem cells_at {W : World} {b o k s : Nat} {cs : List Value} (h : W.cells? 0 ((⟨b, o, none⟩ : Addr).add k) s = some cs) (hs : 0 < s) : At (fun b => W.heap[b]?) [] b (o + k) cs := by
  unfold World.cells? at h
  rw [if_pos (Nat.zero_le _)] at h
  have hl : cs.length = s := by simpa using Lib.mapM_length h
  intro w hw j u hu
  have hi : j < s := by rw [← hl]; exact (List.getElem?_eq_some_iff.1 hu).1
  obtain ⟨y, hy, he⟩ := Lib.mapM_at h j j (by simp [hi])
  rw [hu] at hy; cases hy
  have e : ((⟨b, o, none⟩ : Addr).add k).add j = ⟨b, o + k + j, none⟩ := by rw [add_pl, add_pl]
  rw [e] at he
  unfold World.cell? at he ⊢
  cases hb : W.heap[b]? with
  | none => rw [hb] at he; cases he
  | some ob => rw [hb] at he; rw [hw.imm b ob hb]; exact he
theorem reads_slice {P : Program} {α : Type} [Rep α] {t e : TypeId} (ht : P.underlying t = some (.slice e)) (hsz : P.cellsOf e = Rep.sz α) (hpos : 0 < Rep.sz α) (hb : P.bytesOf e = Rep.bytes α) (he : Reads P α e) : Reads P (List α) t := by
  intro J enc W sp fuel cs d p h hw
  rcases DataW.trod_slice ht h with ⟨rfl, _⟩ | ⟨a, len, cap, elems, rest, n, rfl, rfl, hx, _, hlc, _, hel, hr, _, _⟩
  · exact ⟨[], _, rfl, RdL.nil _⟩
  injection hx with hd _
  subst hd
  simp only [DataW.weights, ht] at hw
  have hsmall : (elems.map (·.1)).length * P.bytesOf e ≤ reachBytes := by
    have := hw _ List.mem_cons_self
    exact Nat.le_trans (Nat.mul_le_mul_right _ (Nat.le_add_right _ _)) this
  rw [List.length_map, hel, hb] at hsmall
  have key : ∀ i, i < len → ∃ (x : α) (cs : List Value), W.cells? 0 (a.add (i * Rep.sz α)) (Rep.sz α) = some cs ∧ Rep.rd (fun b => W.heap[b]?) cs x := fun i hi => by
    have h1 := hr i hi
    rw [hsz, List.getElem?_eq_getElem (by omega)] at h1
    obtain ⟨cs, h2, h3⟩ := Option.bind_eq_some_iff.1 h1
    obtain ⟨x, h4⟩ := he (d := (elems[i]'(by omega)).1) (p := (elems[i]'(by omega)).2) h3 (fun y hy => hw y (List.mem_cons_of_mem _ (List.mem_append_left _ (weightsAll_mem (List.mem_map.2 ⟨_, List.getElem_mem _, rfl⟩) hy))))
    exact ⟨x, cs, h2, h4⟩
  have all : ∀ m, m ≤ len → ∃ xs : List α, xs.length = m ∧ ∀ j x, xs[j]? = some x → ∃ cs, W.cells? 0 (a.add (j * Rep.sz α)) (Rep.sz α) = some cs ∧ Rep.rd (fun b => W.heap[b]?) cs x := by
    intro m
    induction m with
    | zero => exact fun _ => ⟨[], rfl, fun j x h => by simp at h⟩
    | succ m ih =>
      intro hm
      obtain ⟨xs, h1, h2⟩ := ih (by omega)
      obtain ⟨x, cs, h3, h4⟩ := key m (by omega)
      refine ⟨xs ++ [x], by simp [h1], fun j y hy => ?_⟩
      by_cases hj : j < m
      · rw [List.getElem?_append_left (by omega)] at hy; exact h2 j y hy
      rw [List.getElem?_append_right (by omega)] at hy
      have e0 : j - xs.length = 0 := by
        have := (List.getElem?_eq_some_iff.1 hy).1
        simp at this; omega
      rw [e0] at hy
      simp at hy
      subst hy
      have : j = m := by omega
      subst this
      exact ⟨cs, h3, h4⟩
  obtain ⟨xs, h1, h2⟩ := all len (Nat.le_refl _)
  subst h1
  refine ⟨xs, _, rfl, some a, cap, rfl, hsmall, fun j x hx => ?_⟩
  have hsp : a.spot = none := by
    have h0 : 0 < xs.length := by have := (List.getElem?_eq_some_iff.1 hx).1; omega
    obtain ⟨cs, h3, _⟩ := h2 0 _ (List.getElem?_eq_getElem h0)
    rw [Nat.zero_mul] at h3
    exact cells_spot h3 hpos
  obtain ⟨cs, h3, h4⟩ := h2 j x hx
  cases a with
  | mk b o s =>
    simp only at hsp
    subst hsp
    exact ⟨cs, ⟨b, o, _, _, rfl, cells_at h3 hpos⟩, h4⟩
end Go.Ph
namespace Go.Ph
open Go Go.RowKit
theorem inn {O : OL} {b : Nat} {o : Obj} (h : In O b o := by repeat (first | assumption | exact .z | apply In.s | apply In.a)) : In O b o := h
theorem hol {O R : OL} {F : OL → OL} (h : Hole O R F := by repeat (first | exact .o | exact .z | exact .e | apply Hole.s | apply Hole.g)) : Hole O R F := h
theorem npa {Q : EQ} (h : NoPanic Q := by with_reducible repeat (first | exact np_fn | apply np_then | apply np_block)) : NoPanic Q := h
theorem hld {O0 O1 : OL} (h : ∀ p ∈ O0, p ∈ O1 := by first | exact fun _ h => h | exact fun _ h => .tail _ h | exact fun _ h => .tail _ (.tail _ h) | exact fun _ h => .tail _ (.tail _ (.tail _ h)) | exact held_0 | exact held_1 | exact held_2 | exact held_z0 | exact held_z1 | exact held_s | exact held_s0 | exact held_bR | exact held_zbR | exact held_az | exact (fun _ h => by cases h) | exact (fun p hp => by simp only [List.mem_cons, List.mem_append] at hp ⊢; rcases hp with h | h | h <;> simp [h])) : ∀ p ∈ O0, p ∈ O1 := h
def LenIs (H : HM) (v : Value) (n : Nat) : Prop := ∃ p c, v = .slice p n c
theorem lenL {α : Type} [Rep α] {H : HM} {v : Value} {xs : List α} (h : RdL H v xs) : LenIs H v xs.length := h.shape
theorem lenR {H : HM} {v : Value} {n e es : Nat} {cs : List Value} {R : OL} (h : Row v n cs e es R) : LenIs H v n := h.shape
theorem lenS {H : HM} {p : Option Addr} {n c : Nat} : LenIs H (.slice p n c) n := ⟨p, c, rfl⟩
theorem y_lenA {P : Program} {l : Env} {H : HM} {O : OL} {ty : TypeId} {t e n : Nat} {x : Operand} {v : Value} (ht : P.underlying t = some (.slice e)) (hx : ev l x = some v) (h : LenIs H v n := by first | exact lenL (by assumption) | exact lenR (by assumption) | exact lenS) : Yl P (.call ⟨.builtin .len, #[x], #[t]⟩) ty l H O (.int .i64 n) := by
  obtain ⟨p, c, rfl⟩ := h
  exact y_len ht hx
theorem kk : (∀ {p : Prop} [Decidable p], (decide p = true) = p) ∧ (∀ {p : Prop} [Decidable p], (decide p = false) = ¬p) ∧ (∀ {b : Bool}, ((!b) = true) = (b = false)) ∧ (∀ {b : Bool}, ((!b) = false) = (b = true)) ∧ (∀ {a b : Bool}, ((a || b) = true) = (a = true ∨ b = true)) ∧ (∀ {a b : Bool}, ((a && b) = true) = (a = true ∧ b = true)) ∧ (∀ {a b : Bool}, ((a || b) = false) = (a = false ∧ b = false)) ∧ (∀ {a b : Int}, (¬ a < b) = (b ≤ a)) ∧ (∀ {a b : Int}, (¬ a ≤ b) = (b < a)) := ⟨k1, k2, k3, k4, k5, k6, k7, k8, k9⟩
end Go.Ph
set_option maxRecDepth 100000
namespace Go.Proofs.YtmgnagpgnoikfaaGreatDoor
open Go Go.Ph Go.Proofs.Tryz
theorem ti3 : TI prog 3 false 1 8 (.int .i64 0) := ⟨by kernel_rfl, by kernel_rfl⟩
theorem ti4 : TI prog 4 false 1 1 (.bool false) := ⟨by kernel_rfl, by kernel_rfl⟩
theorem ti5 : TI prog 5 false 1 1 (.int .u8 0) := ⟨by kernel_rfl, by kernel_rfl⟩
theorem ti22 : TI prog 22 false 1 24 (.slice none 0 0) := ⟨by kernel_rfl, by kernel_rfl⟩
theorem ti23 : TI prog 23 false 1 24 (.slice none 0 0) := ⟨by kernel_rfl, by kernel_rfl⟩
theorem ti24 : TI prog 24 false 1 24 (.slice none 0 0) := ⟨by kernel_rfl, by kernel_rfl⟩
theorem ti25 : TI prog 25 false 1 24 (.slice none 0 0) := ⟨by kernel_rfl, by kernel_rfl⟩
theorem ti26 : TI prog 26 false 1 24 (.slice none 0 0) := ⟨by kernel_rfl, by kernel_rfl⟩
theorem ti27 : TI prog 27 false 1 24 (.slice none 0 0) := ⟨by kernel_rfl, by kernel_rfl⟩
theorem ti29 : TI prog 29 true 1 24 (.agg #[.slice none 0 0]) := ⟨by kernel_rfl, by kernel_rfl⟩
theorem bt29 : BT prog 29 [(0, 1)] (.agg #[.slice none 0 0]) := fun vs => by kernel_rfl
theorem fd29_0 : Fld prog 29 0 0 27 := ⟨_, _, underlying29, rfl, rfl, rfl⟩
theorem ti31 : TI prog 31 true 15 200 (.agg #[.int .i64 0, .int .i64 0, .int .i64 0, .int .i64 0, .int .i64 0, .bool false, .slice none 0 0, .slice none 0 0, .slice none 0 0, .slice none 0 0, .int .i64 0, .int .i64 0, .slice none 0 0, .int .i64 0, .int .i64 0]) := ⟨by kernel_rfl, by kernel_rfl⟩
theorem bt31 : BT prog 31 [(0, 1), (1, 1), (2, 1), (3, 1), (4, 1), (5, 1), (6, 1), (7, 1), (8, 1), (9, 1), (10, 1), (11, 1), (12, 1), (13, 1), (14, 1)] (.agg #[.int .i64 0, .int .i64 0, .int .i64 0, .int .i64 0, .int .i64 0, .bool false, .slice none 0 0, .slice none 0 0, .slice none 0 0, .slice none 0 0, .int .i64 0, .int .i64 0, .slice none 0 0, .int .i64 0, .int .i64 0]) := fun vs => by kernel_rfl
theorem fd31_0 : Fld prog 31 0 0 3 := ⟨_, _, underlying31, rfl, rfl, rfl⟩
theorem fd31_1 : Fld prog 31 1 1 3 := ⟨_, _, underlying31, rfl, rfl, rfl⟩
theorem fd31_2 : Fld prog 31 2 2 3 := ⟨_, _, underlying31, rfl, rfl, rfl⟩
theorem fd31_3 : Fld prog 31 3 3 3 := ⟨_, _, underlying31, rfl, rfl, rfl⟩
theorem fd31_4 : Fld prog 31 4 4 3 := ⟨_, _, underlying31, rfl, rfl, rfl⟩
theorem fd31_5 : Fld prog 31 5 5 4 := ⟨_, _, underlying31, rfl, rfl, rfl⟩
theorem fd31_6 : Fld prog 31 6 6 23 := ⟨_, _, underlying31, rfl, rfl, rfl⟩
theorem fd31_7 : Fld prog 31 7 7 24 := ⟨_, _, underlying31, rfl, rfl, rfl⟩
theorem fd31_8 : Fld prog 31 8 8 25 := ⟨_, _, underlying31, rfl, rfl, rfl⟩
theorem fd31_9 : Fld prog 31 9 9 26 := ⟨_, _, underlying31, rfl, rfl, rfl⟩
theorem fd31_10 : Fld prog 31 10 10 3 := ⟨_, _, underlying31, rfl, rfl, rfl⟩
theorem fd31_11 : Fld prog 31 11 11 3 := ⟨_, _, underlying31, rfl, rfl, rfl⟩
theorem fd31_12 : Fld prog 31 12 12 29 := ⟨_, _, underlying31, rfl, rfl, rfl⟩
theorem fd31_13 : Fld prog 31 13 13 3 := ⟨_, _, underlying31, rfl, rfl, rfl⟩
theorem fd31_14 : Fld prog 31 14 14 3 := ⟨_, _, underlying31, rfl, rfl, rfl⟩
theorem ti42 : TI prog 42 false 1 24 (.slice none 0 0) := ⟨by kernel_rfl, by kernel_rfl⟩
theorem ti43 : TI prog 43 false 1 24 (.slice none 0 0) := ⟨by kernel_rfl, by kernel_rfl⟩
theorem ti44 : TI prog 44 false 1 24 (.slice none 0 0) := ⟨by kernel_rfl, by kernel_rfl⟩
theorem ti45 : TI prog 45 false 1 24 (.slice none 0 0) := ⟨by kernel_rfl, by kernel_rfl⟩
theorem ti46 : TI prog 46 false 1 24 (.slice none 0 0) := ⟨by kernel_rfl, by kernel_rfl⟩
theorem ti47 : TI prog 47 false 1 24 (.slice none 0 0) := ⟨by kernel_rfl, by kernel_rfl⟩
theorem ti48 : TI prog 48 false 1 24 (.slice none 0 0) := ⟨by kernel_rfl, by kernel_rfl⟩
theorem ti49 : TI prog 49 false 1 24 (.slice none 0 0) := ⟨by kernel_rfl, by kernel_rfl⟩
theorem ti50 : TI prog 50 false 1 24 (.slice none 0 0) := ⟨by kernel_rfl, by kernel_rfl⟩
theorem ti51 : TI prog 51 false 1 24 (.slice none 0 0) := ⟨by kernel_rfl, by kernel_rfl⟩
theorem ti52 : TI prog 52 false 1 24 (.slice none 0 0) := ⟨by kernel_rfl, by kernel_rfl⟩
theorem ti53 : TI prog 53 false 1 24 (.slice none 0 0) := ⟨by kernel_rfl, by kernel_rfl⟩
theorem ti54 : TI prog 54 false 1 24 (.slice none 0 0) := ⟨by kernel_rfl, by kernel_rfl⟩
theorem ti55 : TI prog 55 false 1 24 (.slice none 0 0) := ⟨by kernel_rfl, by kernel_rfl⟩
theorem ti56 : TI prog 56 false 1 24 (.slice none 0 0) := ⟨by kernel_rfl, by kernel_rfl⟩
theorem ti57 : TI prog 57 false 1 24 (.slice none 0 0) := ⟨by kernel_rfl, by kernel_rfl⟩
theorem ti58 : TI prog 58 false 1 24 (.slice none 0 0) := ⟨by kernel_rfl, by kernel_rfl⟩
theorem ti59 : TI prog 59 false 1 24 (.slice none 0 0) := ⟨by kernel_rfl, by kernel_rfl⟩
theorem ti60 : TI prog 60 false 1 24 (.slice none 0 0) := ⟨by kernel_rfl, by kernel_rfl⟩
theorem ti61 : TI prog 61 false 1 24 (.slice none 0 0) := ⟨by kernel_rfl, by kernel_rfl⟩
theorem ti62 : TI prog 62 false 1 24 (.slice none 0 0) := ⟨by kernel_rfl, by kernel_rfl⟩
theorem ti63 : TI prog 63 false 1 24 (.slice none 0 0) := ⟨by kernel_rfl, by kernel_rfl⟩
theorem ti64 : TI prog 64 false 1 24 (.slice none 0 0) := ⟨by kernel_rfl, by kernel_rfl⟩
theorem ti65 : TI prog 65 false 1 24 (.slice none 0 0) := ⟨by kernel_rfl, by kernel_rfl⟩
theorem ti66 : TI prog 66 false 1 24 (.slice none 0 0) := ⟨by kernel_rfl, by kernel_rfl⟩
theorem ti67 : TI prog 67 false 1 24 (.slice none 0 0) := ⟨by kernel_rfl, by kernel_rfl⟩
theorem ti68 : TI prog 68 false 1 24 (.slice none 0 0) := ⟨by kernel_rfl, by kernel_rfl⟩
theorem ti69 : TI prog 69 false 1 24 (.slice none 0 0) := ⟨by kernel_rfl, by kernel_rfl⟩
theorem ti70 : TI prog 70 false 1 24 (.slice none 0 0) := ⟨by kernel_rfl, by kernel_rfl⟩
theorem ti71 : TI prog 71 false 1 24 (.slice none 0 0) := ⟨by kernel_rfl, by kernel_rfl⟩
theorem ti72 : TI prog 72 false 1 24 (.slice none 0 0) := ⟨by kernel_rfl, by kernel_rfl⟩
theorem ti73 : TI prog 73 false 1 24 (.slice none 0 0) := ⟨by kernel_rfl, by kernel_rfl⟩
theorem ti74 : TI prog 74 false 1 24 (.slice none 0 0) := ⟨by kernel_rfl, by kernel_rfl⟩
theorem ti75 : TI prog 75 false 1 24 (.slice none 0 0) := ⟨by kernel_rfl, by kernel_rfl⟩
theorem ti77 : TI prog 77 true 35 824 (.agg #[.int .i64 0, .slice none 0 0, .slice none 0 0, .slice none 0 0, .slice none 0 0, .slice none 0 0, .slice none 0 0, .slice none 0 0, .slice none 0 0, .slice none 0 0, .slice none 0 0, .slice none 0 0, .slice none 0 0, .slice none 0 0, .slice none 0 0, .slice none 0 0, .slice none 0 0, .slice none 0 0, .slice none 0 0, .slice none 0 0, .slice none 0 0, .slice none 0 0, .slice none 0 0, .slice none 0 0, .slice none 0 0, .slice none 0 0, .slice none 0 0, .slice none 0 0, .slice none 0 0, .slice none 0 0, .slice none 0 0, .slice none 0 0, .slice none 0 0, .slice none 0 0, .slice none 0 0]) := ⟨by kernel_rfl, by kernel_rfl⟩
theorem bt77 : BT prog 77 [(0, 1), (1, 1), (2, 1), (3, 1), (4, 1), (5, 1), (6, 1), (7, 1), (8, 1), (9, 1), (10, 1), (11, 1), (12, 1), (13, 1), (14, 1), (15, 1), (16, 1), (17, 1), (18, 1), (19, 1), (20, 1), (21, 1), (22, 1), (23, 1), (24, 1), (25, 1), (26, 1), (27, 1), (28, 1), (29, 1), (30, 1), (31, 1), (32, 1), (33, 1), (34, 1)] (.agg #[.int .i64 0, .slice none 0 0, .slice none 0 0, .slice none 0 0, .slice none 0 0, .slice none 0 0, .slice none 0 0, .slice none 0 0, .slice none 0 0, .slice none 0 0, .slice none 0 0, .slice none 0 0, .slice none 0 0, .slice none 0 0, .slice none 0 0, .slice none 0 0, .slice none 0 0, .slice none 0 0, .slice none 0 0, .slice none 0 0, .slice none 0 0, .slice none 0 0, .slice none 0 0, .slice none 0 0, .slice none 0 0, .slice none 0 0, .slice none 0 0, .slice none 0 0, .slice none 0 0, .slice none 0 0, .slice none 0 0, .slice none 0 0, .slice none 0 0, .slice none 0 0, .slice none 0 0]) := fun vs => by kernel_rfl
theorem fd77_0 : Fld prog 77 0 0 3 := ⟨_, _, underlying77, rfl, rfl, rfl⟩
theorem fd77_1 : Fld prog 77 1 1 42 := ⟨_, _, underlying77, rfl, rfl, rfl⟩
theorem fd77_2 : Fld prog 77 2 2 43 := ⟨_, _, underlying77, rfl, rfl, rfl⟩
theorem fd77_3 : Fld prog 77 3 3 44 := ⟨_, _, underlying77, rfl, rfl, rfl⟩
theorem fd77_4 : Fld prog 77 4 4 45 := ⟨_, _, underlying77, rfl, rfl, rfl⟩
theorem fd77_5 : Fld prog 77 5 5 46 := ⟨_, _, underlying77, rfl, rfl, rfl⟩
theorem fd77_6 : Fld prog 77 6 6 47 := ⟨_, _, underlying77, rfl, rfl, rfl⟩
theorem fd77_7 : Fld prog 77 7 7 48 := ⟨_, _, underlying77, rfl, rfl, rfl⟩
theorem fd77_8 : Fld prog 77 8 8 49 := ⟨_, _, underlying77, rfl, rfl, rfl⟩
theorem fd77_9 : Fld prog 77 9 9 50 := ⟨_, _, underlying77, rfl, rfl, rfl⟩
theorem fd77_10 : Fld prog 77 10 10 51 := ⟨_, _, underlying77, rfl, rfl, rfl⟩
theorem fd77_11 : Fld prog 77 11 11 52 := ⟨_, _, underlying77, rfl, rfl, rfl⟩
theorem fd77_12 : Fld prog 77 12 12 53 := ⟨_, _, underlying77, rfl, rfl, rfl⟩
theorem fd77_13 : Fld prog 77 13 13 54 := ⟨_, _, underlying77, rfl, rfl, rfl⟩
theorem fd77_14 : Fld prog 77 14 14 55 := ⟨_, _, underlying77, rfl, rfl, rfl⟩
theorem fd77_15 : Fld prog 77 15 15 56 := ⟨_, _, underlying77, rfl, rfl, rfl⟩
theorem fd77_16 : Fld prog 77 16 16 57 := ⟨_, _, underlying77, rfl, rfl, rfl⟩
theorem fd77_17 : Fld prog 77 17 17 58 := ⟨_, _, underlying77, rfl, rfl, rfl⟩
theorem fd77_18 : Fld prog 77 18 18 59 := ⟨_, _, underlying77, rfl, rfl, rfl⟩
theorem fd77_19 : Fld prog 77 19 19 60 := ⟨_, _, underlying77, rfl, rfl, rfl⟩
theorem fd77_20 : Fld prog 77 20 20 61 := ⟨_, _, underlying77, rfl, rfl, rfl⟩
theorem fd77_21 : Fld prog 77 21 21 62 := ⟨_, _, underlying77, rfl, rfl, rfl⟩
theorem fd77_22 : Fld prog 77 22 22 63 := ⟨_, _, underlying77, rfl, rfl, rfl⟩
theorem fd77_23 : Fld prog 77 23 23 64 := ⟨_, _, underlying77, rfl, rfl, rfl⟩
theorem fd77_24 : Fld prog 77 24 24 65 := ⟨_, _, underlying77, rfl, rfl, rfl⟩
theorem fd77_25 : Fld prog 77 25 25 66 := ⟨_, _, underlying77, rfl, rfl, rfl⟩
theorem fd77_26 : Fld prog 77 26 26 67 := ⟨_, _, underlying77, rfl, rfl, rfl⟩
theorem fd77_27 : Fld prog 77 27 27 68 := ⟨_, _, underlying77, rfl, rfl, rfl⟩
theorem fd77_28 : Fld prog 77 28 28 69 := ⟨_, _, underlying77, rfl, rfl, rfl⟩
theorem fd77_29 : Fld prog 77 29 29 70 := ⟨_, _, underlying77, rfl, rfl, rfl⟩
theorem fd77_30 : Fld prog 77 30 30 71 := ⟨_, _, underlying77, rfl, rfl, rfl⟩
theorem fd77_31 : Fld prog 77 31 31 72 := ⟨_, _, underlying77, rfl, rfl, rfl⟩
theorem fd77_32 : Fld prog 77 32 32 73 := ⟨_, _, underlying77, rfl, rfl, rfl⟩
theorem fd77_33 : Fld prog 77 33 33 74 := ⟨_, _, underlying77, rfl, rfl, rfl⟩
theorem fd77_34 : Fld prog 77 34 34 75 := ⟨_, _, underlying77, rfl, rfl, rfl⟩
theorem ti93 : TI prog 93 false 1 24 (.slice none 0 0) := ⟨by kernel_rfl, by kernel_rfl⟩
theorem ti95 : TI prog 95 true 2 32 (.agg #[.int .i64 0, .slice none 0 0]) := ⟨by kernel_rfl, by kernel_rfl⟩
theorem bt95 : BT prog 95 [(0, 1), (1, 1)] (.agg #[.int .i64 0, .slice none 0 0]) := fun vs => by kernel_rfl
theorem fd95_0 : Fld prog 95 0 0 3 := ⟨_, _, underlying95, rfl, rfl, rfl⟩
theorem fd95_1 : Fld prog 95 1 1 93 := ⟨_, _, underlying95, rfl, rfl, rfl⟩
theorem ti127 : TI prog 127 true 4 48 (.agg #[.int .i64 0, .int .i64 0, .int .i64 0, .slice none 0 0]) := ⟨by kernel_rfl, by kernel_rfl⟩
theorem bt127 : BT prog 127 [(0, 1), (1, 1), (2, 1), (3, 1)] (.agg #[.int .i64 0, .int .i64 0, .int .i64 0, .slice none 0 0]) := fun vs => by kernel_rfl
theorem fd127_0 : Fld prog 127 0 0 3 := ⟨_, _, underlying127, rfl, rfl, rfl⟩
theorem fd127_1 : Fld prog 127 1 1 3 := ⟨_, _, underlying127, rfl, rfl, rfl⟩
theorem fd127_2 : Fld prog 127 2 2 3 := ⟨_, _, underlying127, rfl, rfl, rfl⟩
theorem fd127_3 : Fld prog 127 3 3 24 := ⟨_, _, underlying127, rfl, rfl, rfl⟩
theorem ti131 : TI prog 131 true 3 24 (.agg #[.int .i64 0, .int .i64 0, .int .i64 0]) := ⟨by kernel_rfl, by kernel_rfl⟩
theorem bt131 : BT prog 131 [(0, 1), (1, 1), (2, 1)] (.agg #[.int .i64 0, .int .i64 0, .int .i64 0]) := fun vs => by kernel_rfl
theorem ei131 : EqI prog 131 3 := ⟨_, underlying131, by kernel_rfl, by kernel_rfl, rfl, fun j f hj => by
  match j with
  | 0 => cases hj; exact ⟨by decide, underlying3, by kernel_rfl, rfl⟩
  | 1 => cases hj; exact ⟨by decide, underlying3, by kernel_rfl, rfl⟩
  | 2 => cases hj; exact ⟨by decide, underlying3, by kernel_rfl, rfl⟩
  | _ + 3 => simp at hj⟩
theorem ti135 : TI prog 135 true 3 24 (.agg #[.int .i64 0, .int .i64 0, .int .i64 0]) := ⟨by kernel_rfl, by kernel_rfl⟩
theorem bt135 : BT prog 135 [(0, 1), (1, 1), (2, 1)] (.agg #[.int .i64 0, .int .i64 0, .int .i64 0]) := fun vs => by kernel_rfl
theorem ei135 : EqI prog 135 3 := ⟨_, underlying135, by kernel_rfl, by kernel_rfl, rfl, fun j f hj => by
  match j with
  | 0 => cases hj; exact ⟨by decide, underlying3, by kernel_rfl, rfl⟩
  | 1 => cases hj; exact ⟨by decide, underlying3, by kernel_rfl, rfl⟩
  | 2 => cases hj; exact ⟨by decide, underlying3, by kernel_rfl, rfl⟩
  | _ + 3 => simp at hj⟩
theorem ti138 : TI prog 138 true 2 16 (.agg #[.int .i64 0, .int .i64 0]) := ⟨by kernel_rfl, by kernel_rfl⟩
theorem bt138 : BT prog 138 [(0, 1), (1, 1)] (.agg #[.int .i64 0, .int .i64 0]) := fun vs => by kernel_rfl
theorem ei138 : EqI prog 138 2 := ⟨_, underlying138, by kernel_rfl, by kernel_rfl, rfl, fun j f hj => by
  match j with
  | 0 => cases hj; exact ⟨by decide, underlying3, by kernel_rfl, rfl⟩
  | 1 => cases hj; exact ⟨by decide, underlying3, by kernel_rfl, rfl⟩
  | _ + 2 => simp at hj⟩
theorem ti153 : TI prog 153 true 2 32 (.agg #[.slice none 0 0, .int .i64 0]) := ⟨by kernel_rfl, by kernel_rfl⟩
theorem bt153 : BT prog 153 [(0, 1), (1, 1)] (.agg #[.slice none 0 0, .int .i64 0]) := fun vs => by kernel_rfl
theorem fd153_0 : Fld prog 153 0 0 22 := ⟨_, _, underlying153, rfl, rfl, rfl⟩
theorem fd153_1 : Fld prog 153 1 1 3 := ⟨_, _, underlying153, rfl, rfl, rfl⟩
theorem ti157 : TI prog 157 true 2 32 (.agg #[.slice none 0 0, .int .i64 0]) := ⟨by kernel_rfl, by kernel_rfl⟩
theorem bt157 : BT prog 157 [(0, 1), (1, 1)] (.agg #[.slice none 0 0, .int .i64 0]) := fun vs => by kernel_rfl
theorem fd157_0 : Fld prog 157 0 0 24 := ⟨_, _, underlying157, rfl, rfl, rfl⟩
theorem fd157_1 : Fld prog 157 1 1 3 := ⟨_, _, underlying157, rfl, rfl, rfl⟩
theorem ti178 : TI prog 178 true 2 32 (.agg #[.slice none 0 0, .int .i64 0]) := ⟨by kernel_rfl, by kernel_rfl⟩
theorem bt178 : BT prog 178 [(0, 1), (1, 1)] (.agg #[.slice none 0 0, .int .i64 0]) := fun vs => by kernel_rfl
theorem fd178_0 : Fld prog 178 0 0 25 := ⟨_, _, underlying178, rfl, rfl, rfl⟩
theorem fd178_1 : Fld prog 178 1 1 3 := ⟨_, _, underlying178, rfl, rfl, rfl⟩
theorem ti188 : TI prog 188 true 2 32 (.agg #[.slice none 0 0, .int .i64 0]) := ⟨by kernel_rfl, by kernel_rfl⟩
theorem bt188 : BT prog 188 [(0, 1), (1, 1)] (.agg #[.slice none 0 0, .int .i64 0]) := fun vs => by kernel_rfl
theorem fd188_0 : Fld prog 188 0 0 23 := ⟨_, _, underlying188, rfl, rfl, rfl⟩
theorem fd188_1 : Fld prog 188 1 1 3 := ⟨_, _, underlying188, rfl, rfl, rfl⟩
theorem ti191 : TI prog 191 true 2 32 (.agg #[.slice none 0 0, .int .i64 0]) := ⟨by kernel_rfl, by kernel_rfl⟩
theorem bt191 : BT prog 191 [(0, 1), (1, 1)] (.agg #[.slice none 0 0, .int .i64 0]) := fun vs => by kernel_rfl
theorem fd191_0 : Fld prog 191 0 0 26 := ⟨_, _, underlying191, rfl, rfl, rfl⟩
theorem fd191_1 : Fld prog 191 1 1 3 := ⟨_, _, underlying191, rfl, rfl, rfl⟩
theorem ti258 : TI prog 258 true 2 32 (.agg #[.slice none 0 0, .int .i64 0]) := ⟨by kernel_rfl, by kernel_rfl⟩
theorem bt258 : BT prog 258 [(0, 1), (1, 1)] (.agg #[.slice none 0 0, .int .i64 0]) := fun vs => by kernel_rfl
theorem fd258_0 : Fld prog 258 0 0 27 := ⟨_, _, underlying258, rfl, rfl, rfl⟩
theorem fd258_1 : Fld prog 258 1 1 3 := ⟨_, _, underlying258, rfl, rfl, rfl⟩
theorem ti266 : TI prog 266 true 2 32 (.agg #[.slice none 0 0, .int .i64 0]) := ⟨by kernel_rfl, by kernel_rfl⟩
theorem bt266 : BT prog 266 [(0, 1), (1, 1)] (.agg #[.slice none 0 0, .int .i64 0]) := fun vs => by kernel_rfl
theorem fd266_0 : Fld prog 266 0 0 93 := ⟨_, _, underlying266, rfl, rfl, rfl⟩
theorem fd266_1 : Fld prog 266 1 1 3 := ⟨_, _, underlying266, rfl, rfl, rfl⟩
theorem fn5 : FnOk prog 5 := ⟨⟨_, func5, by kernel_rfl, by kernel_rfl⟩⟩
theorem fn6 : FnOk prog 6 := ⟨⟨_, func6, by kernel_rfl, by kernel_rfl⟩⟩
theorem fn7 : FnOk prog 7 := ⟨⟨_, func7, by kernel_rfl, by kernel_rfl⟩⟩
theorem fn8 : FnOk prog 8 := ⟨⟨_, func8, by kernel_rfl, by kernel_rfl⟩⟩
theorem fn9 : FnOk prog 9 := ⟨⟨_, func9, by kernel_rfl, by kernel_rfl⟩⟩
theorem fn10 : FnOk prog 10 := ⟨⟨_, func10, by kernel_rfl, by kernel_rfl⟩⟩
theorem fn13 : FnOk prog 13 := ⟨⟨_, func13, by kernel_rfl, by kernel_rfl⟩⟩
theorem fn14 : FnOk prog 14 := ⟨⟨_, func14, by kernel_rfl, by kernel_rfl⟩⟩
theorem fn15 : FnOk prog 15 := ⟨⟨_, func15, by kernel_rfl, by kernel_rfl⟩⟩
theorem fn16 : FnOk prog 16 := ⟨⟨_, func16, by kernel_rfl, by kernel_rfl⟩⟩
theorem fn17 : FnOk prog 17 := ⟨⟨_, func17, by kernel_rfl, by kernel_rfl⟩⟩
theorem fn18 : FnOk prog 18 := ⟨⟨_, func18, by kernel_rfl, by kernel_rfl⟩⟩
theorem fn19 : FnOk prog 19 := ⟨⟨_, func19, by kernel_rfl, by kernel_rfl⟩⟩
theorem fn20 : FnOk prog 20 := ⟨⟨_, func20, by kernel_rfl, by kernel_rfl⟩⟩
theorem fn21 : FnOk prog 21 := ⟨⟨_, func21, by kernel_rfl, by kernel_rfl⟩⟩
theorem fn22 : FnOk prog 22 := ⟨⟨_, func22, by kernel_rfl, by kernel_rfl⟩⟩
theorem fn23 : FnOk prog 23 := ⟨⟨_, func23, by kernel_rfl, by kernel_rfl⟩⟩
theorem fn24 : FnOk prog 24 := ⟨⟨_, func24, by kernel_rfl, by kernel_rfl⟩⟩
theorem fn25 : FnOk prog 25 := ⟨⟨_, func25, by kernel_rfl, by kernel_rfl⟩⟩
theorem fn26 : FnOk prog 26 := ⟨⟨_, func26, by kernel_rfl, by kernel_rfl⟩⟩
theorem fn27 : FnOk prog 27 := ⟨⟨_, func27, by kernel_rfl, by kernel_rfl⟩⟩
theorem fn28 : FnOk prog 28 := ⟨⟨_, func28, by kernel_rfl, by kernel_rfl⟩⟩
theorem fn29 : FnOk prog 29 := ⟨⟨_, func29, by kernel_rfl, by kernel_rfl⟩⟩
theorem fn30 : FnOk prog 30 := ⟨⟨_, func30, by kernel_rfl, by kernel_rfl⟩⟩
theorem fn31 : FnOk prog 31 := ⟨⟨_, func31, by kernel_rfl, by kernel_rfl⟩⟩
theorem fn32 : FnOk prog 32 := ⟨⟨_, func32, by kernel_rfl, by kernel_rfl⟩⟩
theorem fn33 : FnOk prog 33 := ⟨⟨_, func33, by kernel_rfl, by kernel_rfl⟩⟩
theorem fn34 : FnOk prog 34 := ⟨⟨_, func34, by kernel_rfl, by kernel_rfl⟩⟩
theorem fn35 : FnOk prog 35 := ⟨⟨_, func35, by kernel_rfl, by kernel_rfl⟩⟩
theorem fn36 : FnOk prog 36 := ⟨⟨_, func36, by kernel_rfl, by kernel_rfl⟩⟩
theorem fn37 : FnOk prog 37 := ⟨⟨_, func37, by kernel_rfl, by kernel_rfl⟩⟩
theorem fn38 : FnOk prog 38 := ⟨⟨_, func38, by kernel_rfl, by kernel_rfl⟩⟩
theorem fn39 : FnOk prog 39 := ⟨⟨_, func39, by kernel_rfl, by kernel_rfl⟩⟩
theorem fn40 : FnOk prog 40 := ⟨⟨_, func40, by kernel_rfl, by kernel_rfl⟩⟩
theorem fn41 : FnOk prog 41 := ⟨⟨_, func41, by kernel_rfl, by kernel_rfl⟩⟩
theorem fn42 : FnOk prog 42 := ⟨⟨_, func42, by kernel_rfl, by kernel_rfl⟩⟩
theorem fn43 : FnOk prog 43 := ⟨⟨_, func43, by kernel_rfl, by kernel_rfl⟩⟩
theorem fn44 : FnOk prog 44 := ⟨⟨_, func44, by kernel_rfl, by kernel_rfl⟩⟩
theorem fn45 : FnOk prog 45 := ⟨⟨_, func45, by kernel_rfl, by kernel_rfl⟩⟩
theorem fn47 : FnOk prog 47 := ⟨⟨_, func47, by kernel_rfl, by kernel_rfl⟩⟩
theorem fn48 : FnOk prog 48 := ⟨⟨_, func48, by kernel_rfl, by kernel_rfl⟩⟩
theorem fn49 : FnOk prog 49 := ⟨⟨_, func49, by kernel_rfl, by kernel_rfl⟩⟩
theorem fn50 : FnOk prog 50 := ⟨⟨_, func50, by kernel_rfl, by kernel_rfl⟩⟩
theorem fn51 : FnOk prog 51 := ⟨⟨_, func51, by kernel_rfl, by kernel_rfl⟩⟩
theorem fn52 : FnOk prog 52 := ⟨⟨_, func52, by kernel_rfl, by kernel_rfl⟩⟩
theorem fn53 : FnOk prog 53 := ⟨⟨_, func53, by kernel_rfl, by kernel_rfl⟩⟩
theorem fn54 : FnOk prog 54 := ⟨⟨_, func54, by kernel_rfl, by kernel_rfl⟩⟩
theorem fn55 : FnOk prog 55 := ⟨⟨_, func55, by kernel_rfl, by kernel_rfl⟩⟩
theorem fn56 : FnOk prog 56 := ⟨⟨_, func56, by kernel_rfl, by kernel_rfl⟩⟩
theorem fn57 : FnOk prog 57 := ⟨⟨_, func57, by kernel_rfl, by kernel_rfl⟩⟩
theorem fn58 : FnOk prog 58 := ⟨⟨_, func58, by kernel_rfl, by kernel_rfl⟩⟩
theorem fn59 : FnOk prog 59 := ⟨⟨_, func59, by kernel_rfl, by kernel_rfl⟩⟩
theorem fn60 : FnOk prog 60 := ⟨⟨_, func60, by kernel_rfl, by kernel_rfl⟩⟩
theorem fn61 : FnOk prog 61 := ⟨⟨_, func61, by kernel_rfl, by kernel_rfl⟩⟩
theorem fn62 : FnOk prog 62 := ⟨⟨_, func62, by kernel_rfl, by kernel_rfl⟩⟩
theorem fn63 : FnOk prog 63 := ⟨⟨_, func63, by kernel_rfl, by kernel_rfl⟩⟩
theorem fn64 : FnOk prog 64 := ⟨⟨_, func64, by kernel_rfl, by kernel_rfl⟩⟩
theorem fn65 : FnOk prog 65 := ⟨⟨_, func65, by kernel_rfl, by kernel_rfl⟩⟩
theorem fn66 : FnOk prog 66 := ⟨⟨_, func66, by kernel_rfl, by kernel_rfl⟩⟩
theorem fn67 : FnOk prog 67 := ⟨⟨_, func67, by kernel_rfl, by kernel_rfl⟩⟩
theorem fn68 : FnOk prog 68 := ⟨⟨_, func68, by kernel_rfl, by kernel_rfl⟩⟩
theorem fn69 : FnOk prog 69 := ⟨⟨_, func69, by kernel_rfl, by kernel_rfl⟩⟩
theorem fn70 : FnOk prog 70 := ⟨⟨_, func70, by kernel_rfl, by kernel_rfl⟩⟩
theorem fn71 : FnOk prog 71 := ⟨⟨_, func71, by kernel_rfl, by kernel_rfl⟩⟩
theorem fn72 : FnOk prog 72 := ⟨⟨_, func72, by kernel_rfl, by kernel_rfl⟩⟩
theorem fn73 : FnOk prog 73 := ⟨⟨_, func73, by kernel_rfl, by kernel_rfl⟩⟩
theorem fn74 : FnOk prog 74 := ⟨⟨_, func74, by kernel_rfl, by kernel_rfl⟩⟩
theorem fn75 : FnOk prog 75 := ⟨⟨_, func75, by kernel_rfl, by kernel_rfl⟩⟩
theorem fn76 : FnOk prog 76 := ⟨⟨_, func76, by kernel_rfl, by kernel_rfl⟩⟩
theorem fn77 : FnOk prog 77 := ⟨⟨_, func77, by kernel_rfl, by kernel_rfl⟩⟩
theorem fn78 : FnOk prog 78 := ⟨⟨_, func78, by kernel_rfl, by kernel_rfl⟩⟩
theorem fn79 : FnOk prog 79 := ⟨⟨_, func79, by kernel_rfl, by kernel_rfl⟩⟩
theorem fn80 : FnOk prog 80 := ⟨⟨_, func80, by kernel_rfl, by kernel_rfl⟩⟩
theorem fn81 : FnOk prog 81 := ⟨⟨_, func81, by kernel_rfl, by kernel_rfl⟩⟩
theorem fn82 : FnOk prog 82 := ⟨⟨_, func82, by kernel_rfl, by kernel_rfl⟩⟩
theorem fn83 : FnOk prog 83 := ⟨⟨_, func83, by kernel_rfl, by kernel_rfl⟩⟩
theorem fn84 : FnOk prog 84 := ⟨⟨_, func84, by kernel_rfl, by kernel_rfl⟩⟩
theorem fn85 : FnOk prog 85 := ⟨⟨_, func85, by kernel_rfl, by kernel_rfl⟩⟩
theorem fn86 : FnOk prog 86 := ⟨⟨_, func86, by kernel_rfl, by kernel_rfl⟩⟩
theorem fn87 : FnOk prog 87 := ⟨⟨_, func87, by kernel_rfl, by kernel_rfl⟩⟩
theorem fn88 : FnOk prog 88 := ⟨⟨_, func88, by kernel_rfl, by kernel_rfl⟩⟩
theorem fn89 : FnOk prog 89 := ⟨⟨_, func89, by kernel_rfl, by kernel_rfl⟩⟩
theorem fn90 : FnOk prog 90 := ⟨⟨_, func90, by kernel_rfl, by kernel_rfl⟩⟩
theorem fn91 : FnOk prog 91 := ⟨⟨_, func91, by kernel_rfl, by kernel_rfl⟩⟩
theorem fn92 : FnOk prog 92 := ⟨⟨_, func92, by kernel_rfl, by kernel_rfl⟩⟩
theorem fn93 : FnOk prog 93 := ⟨⟨_, func93, by kernel_rfl, by kernel_rfl⟩⟩
theorem fn94 : FnOk prog 94 := ⟨⟨_, func94, by kernel_rfl, by kernel_rfl⟩⟩
theorem fn95 : FnOk prog 95 := ⟨⟨_, func95, by kernel_rfl, by kernel_rfl⟩⟩
theorem fn96 : FnOk prog 96 := ⟨⟨_, func96, by kernel_rfl, by kernel_rfl⟩⟩
theorem fn97 : FnOk prog 97 := ⟨⟨_, func97, by kernel_rfl, by kernel_rfl⟩⟩
theorem fn98 : FnOk prog 98 := ⟨⟨_, func98, by kernel_rfl, by kernel_rfl⟩⟩
theorem fn99 : FnOk prog 99 := ⟨⟨_, func99, by kernel_rfl, by kernel_rfl⟩⟩
theorem fn100 : FnOk prog 100 := ⟨⟨_, func100, by kernel_rfl, by kernel_rfl⟩⟩
theorem fn101 : FnOk prog 101 := ⟨⟨_, func101, by kernel_rfl, by kernel_rfl⟩⟩
theorem fn102 : FnOk prog 102 := ⟨⟨_, func102, by kernel_rfl, by kernel_rfl⟩⟩
theorem fn103 : FnOk prog 103 := ⟨⟨_, func103, by kernel_rfl, by kernel_rfl⟩⟩
theorem fn104 : FnOk prog 104 := ⟨⟨_, func104, by kernel_rfl, by kernel_rfl⟩⟩
theorem fn105 : FnOk prog 105 := ⟨⟨_, func105, by kernel_rfl, by kernel_rfl⟩⟩
theorem fn106 : FnOk prog 106 := ⟨⟨_, func106, by kernel_rfl, by kernel_rfl⟩⟩
theorem fn107 : FnOk prog 107 := ⟨⟨_, func107, by kernel_rfl, by kernel_rfl⟩⟩
theorem fn108 : FnOk prog 108 := ⟨⟨_, func108, by kernel_rfl, by kernel_rfl⟩⟩
theorem fn109 : FnOk prog 109 := ⟨⟨_, func109, by kernel_rfl, by kernel_rfl⟩⟩
theorem fn110 : FnOk prog 110 := ⟨⟨_, func110, by kernel_rfl, by kernel_rfl⟩⟩
theorem fn111 : FnOk prog 111 := ⟨⟨_, func111, by kernel_rfl, by kernel_rfl⟩⟩
theorem fn112 : FnOk prog 112 := ⟨⟨_, func112, by kernel_rfl, by kernel_rfl⟩⟩
theorem fn113 : FnOk prog 113 := ⟨⟨_, func113, by kernel_rfl, by kernel_rfl⟩⟩
theorem fn114 : FnOk prog 114 := ⟨⟨_, func114, by kernel_rfl, by kernel_rfl⟩⟩
theorem fn115 : FnOk prog 115 := ⟨⟨_, func115, by kernel_rfl, by kernel_rfl⟩⟩
theorem fn116 : FnOk prog 116 := ⟨⟨_, func116, by kernel_rfl, by kernel_rfl⟩⟩
theorem fn117 : FnOk prog 117 := ⟨⟨_, func117, by kernel_rfl, by kernel_rfl⟩⟩
theorem fn118 : FnOk prog 118 := ⟨⟨_, func118, by kernel_rfl, by kernel_rfl⟩⟩
theorem fn119 : FnOk prog 119 := ⟨⟨_, func119, by kernel_rfl, by kernel_rfl⟩⟩
theorem fn120 : FnOk prog 120 := ⟨⟨_, func120, by kernel_rfl, by kernel_rfl⟩⟩
theorem fn121 : FnOk prog 121 := ⟨⟨_, func121, by kernel_rfl, by kernel_rfl⟩⟩
theorem fn122 : FnOk prog 122 := ⟨⟨_, func122, by kernel_rfl, by kernel_rfl⟩⟩
theorem fn123 : FnOk prog 123 := ⟨⟨_, func123, by kernel_rfl, by kernel_rfl⟩⟩
theorem fn124 : FnOk prog 124 := ⟨⟨_, func124, by kernel_rfl, by kernel_rfl⟩⟩
theorem fn125 : FnOk prog 125 := ⟨⟨_, func125, by kernel_rfl, by kernel_rfl⟩⟩
theorem fn126 : FnOk prog 126 := ⟨⟨_, func126, by kernel_rfl, by kernel_rfl⟩⟩
theorem fn127 : FnOk prog 127 := ⟨⟨_, func127, by kernel_rfl, by kernel_rfl⟩⟩
theorem fn128 : FnOk prog 128 := ⟨⟨_, func128, by kernel_rfl, by kernel_rfl⟩⟩
theorem fn129 : FnOk prog 129 := ⟨⟨_, func129, by kernel_rfl, by kernel_rfl⟩⟩
theorem fn130 : FnOk prog 130 := ⟨⟨_, func130, by kernel_rfl, by kernel_rfl⟩⟩
theorem fn131 : FnOk prog 131 := ⟨⟨_, func131, by kernel_rfl, by kernel_rfl⟩⟩
theorem fn132 : FnOk prog 132 := ⟨⟨_, func132, by kernel_rfl, by kernel_rfl⟩⟩
theorem fn133 : FnOk prog 133 := ⟨⟨_, func133, by kernel_rfl, by kernel_rfl⟩⟩
theorem fn134 : FnOk prog 134 := ⟨⟨_, func134, by kernel_rfl, by kernel_rfl⟩⟩
theorem fn135 : FnOk prog 135 := ⟨⟨_, func135, by kernel_rfl, by kernel_rfl⟩⟩
theorem fn136 : FnOk prog 136 := ⟨⟨_, func136, by kernel_rfl, by kernel_rfl⟩⟩
theorem fn137 : FnOk prog 137 := ⟨⟨_, func137, by kernel_rfl, by kernel_rfl⟩⟩
theorem fn138 : FnOk prog 138 := ⟨⟨_, func138, by kernel_rfl, by kernel_rfl⟩⟩
theorem fn139 : FnOk prog 139 := ⟨⟨_, func139, by kernel_rfl, by kernel_rfl⟩⟩
theorem fn140 : FnOk prog 140 := ⟨⟨_, func140, by kernel_rfl, by kernel_rfl⟩⟩
theorem fn141 : FnOk prog 141 := ⟨⟨_, func141, by kernel_rfl, by kernel_rfl⟩⟩
theorem fn142 : FnOk prog 142 := ⟨⟨_, func142, by kernel_rfl, by kernel_rfl⟩⟩
theorem fn143 : FnOk prog 143 := ⟨⟨_, func143, by kernel_rfl, by kernel_rfl⟩⟩
theorem fn144 : FnOk prog 144 := ⟨⟨_, func144, by kernel_rfl, by kernel_rfl⟩⟩
theorem fn145 : FnOk prog 145 := ⟨⟨_, func145, by kernel_rfl, by kernel_rfl⟩⟩
theorem fn146 : FnOk prog 146 := ⟨⟨_, func146, by kernel_rfl, by kernel_rfl⟩⟩
theorem fn147 : FnOk prog 147 := ⟨⟨_, func147, by kernel_rfl, by kernel_rfl⟩⟩
theorem fn148 : FnOk prog 148 := ⟨⟨_, func148, by kernel_rfl, by kernel_rfl⟩⟩
theorem fn149 : FnOk prog 149 := ⟨⟨_, func149, by kernel_rfl, by kernel_rfl⟩⟩
theorem fn150 : FnOk prog 150 := ⟨⟨_, func150, by kernel_rfl, by kernel_rfl⟩⟩
theorem fn151 : FnOk prog 151 := ⟨⟨_, func151, by kernel_rfl, by kernel_rfl⟩⟩
theorem fn152 : FnOk prog 152 := ⟨⟨_, func152, by kernel_rfl, by kernel_rfl⟩⟩
theorem fn153 : FnOk prog 153 := ⟨⟨_, func153, by kernel_rfl, by kernel_rfl⟩⟩
theorem fn154 : FnOk prog 154 := ⟨⟨_, func154, by kernel_rfl, by kernel_rfl⟩⟩
theorem fn155 : FnOk prog 155 := ⟨⟨_, func155, by kernel_rfl, by kernel_rfl⟩⟩
theorem fn156 : FnOk prog 156 := ⟨⟨_, func156, by kernel_rfl, by kernel_rfl⟩⟩
theorem fn157 : FnOk prog 157 := ⟨⟨_, func157, by kernel_rfl, by kernel_rfl⟩⟩
theorem fn158 : FnOk prog 158 := ⟨⟨_, func158, by kernel_rfl, by kernel_rfl⟩⟩
theorem fn159 : FnOk prog 159 := ⟨⟨_, func159, by kernel_rfl, by kernel_rfl⟩⟩
theorem fn160 : FnOk prog 160 := ⟨⟨_, func160, by kernel_rfl, by kernel_rfl⟩⟩
theorem fn161 : FnOk prog 161 := ⟨⟨_, func161, by kernel_rfl, by kernel_rfl⟩⟩
theorem fn162 : FnOk prog 162 := ⟨⟨_, func162, by kernel_rfl, by kernel_rfl⟩⟩
theorem fn163 : FnOk prog 163 := ⟨⟨_, func163, by kernel_rfl, by kernel_rfl⟩⟩
theorem fn164 : FnOk prog 164 := ⟨⟨_, func164, by kernel_rfl, by kernel_rfl⟩⟩
theorem fn165 : FnOk prog 165 := ⟨⟨_, func165, by kernel_rfl, by kernel_rfl⟩⟩
theorem fn166 : FnOk prog 166 := ⟨⟨_, func166, by kernel_rfl, by kernel_rfl⟩⟩
theorem fn167 : FnOk prog 167 := ⟨⟨_, func167, by kernel_rfl, by kernel_rfl⟩⟩
theorem fn168 : FnOk prog 168 := ⟨⟨_, func168, by kernel_rfl, by kernel_rfl⟩⟩
theorem fn169 : FnOk prog 169 := ⟨⟨_, func169, by kernel_rfl, by kernel_rfl⟩⟩
theorem fn170 : FnOk prog 170 := ⟨⟨_, func170, by kernel_rfl, by kernel_rfl⟩⟩
theorem fn171 : FnOk prog 171 := ⟨⟨_, func171, by kernel_rfl, by kernel_rfl⟩⟩
theorem fn172 : FnOk prog 172 := ⟨⟨_, func172, by kernel_rfl, by kernel_rfl⟩⟩
theorem fn173 : FnOk prog 173 := ⟨⟨_, func173, by kernel_rfl, by kernel_rfl⟩⟩
theorem fn174 : FnOk prog 174 := ⟨⟨_, func174, by kernel_rfl, by kernel_rfl⟩⟩
theorem fn175 : FnOk prog 175 := ⟨⟨_, func175, by kernel_rfl, by kernel_rfl⟩⟩
theorem fn176 : FnOk prog 176 := ⟨⟨_, func176, by kernel_rfl, by kernel_rfl⟩⟩
theorem fn177 : FnOk prog 177 := ⟨⟨_, func177, by kernel_rfl, by kernel_rfl⟩⟩
theorem fn178 : FnOk prog 178 := ⟨⟨_, func178, by kernel_rfl, by kernel_rfl⟩⟩
theorem fn179 : FnOk prog 179 := ⟨⟨_, func179, by kernel_rfl, by kernel_rfl⟩⟩
theorem fn180 : FnOk prog 180 := ⟨⟨_, func180, by kernel_rfl, by kernel_rfl⟩⟩
theorem fn181 : FnOk prog 181 := ⟨⟨_, func181, by kernel_rfl, by kernel_rfl⟩⟩
theorem fn182 : FnOk prog 182 := ⟨⟨_, func182, by kernel_rfl, by kernel_rfl⟩⟩
theorem fn183 : FnOk prog 183 := ⟨⟨_, func183, by kernel_rfl, by kernel_rfl⟩⟩
theorem fn184 : FnOk prog 184 := ⟨⟨_, func184, by kernel_rfl, by kernel_rfl⟩⟩
theorem fn185 : FnOk prog 185 := ⟨⟨_, func185, by kernel_rfl, by kernel_rfl⟩⟩
theorem fn188 : FnOk prog 188 := ⟨⟨_, func188, by kernel_rfl, by kernel_rfl⟩⟩
theorem fn190 : FnOk prog 190 := ⟨⟨_, func190, by kernel_rfl, by kernel_rfl⟩⟩
theorem fn191 : FnOk prog 191 := ⟨⟨_, func191, by kernel_rfl, by kernel_rfl⟩⟩
theorem fn192 : FnOk prog 192 := ⟨⟨_, func192, by kernel_rfl, by kernel_rfl⟩⟩
theorem fn193 : FnOk prog 193 := ⟨⟨_, func193, by kernel_rfl, by kernel_rfl⟩⟩
theorem fn194 : FnOk prog 194 := ⟨⟨_, func194, by kernel_rfl, by kernel_rfl⟩⟩
theorem fn195 : FnOk prog 195 := ⟨⟨_, func195, by kernel_rfl, by kernel_rfl⟩⟩
theorem fn196 : FnOk prog 196 := ⟨⟨_, func196, by kernel_rfl, by kernel_rfl⟩⟩
theorem fn197 : FnOk prog 197 := ⟨⟨_, func197, by kernel_rfl, by kernel_rfl⟩⟩
theorem fn198 : FnOk prog 198 := ⟨⟨_, func198, by kernel_rfl, by kernel_rfl⟩⟩
theorem fn199 : FnOk prog 199 := ⟨⟨_, func199, by kernel_rfl, by kernel_rfl⟩⟩
theorem fn200 : FnOk prog 200 := ⟨⟨_, func200, by kernel_rfl, by kernel_rfl⟩⟩
theorem fn214 : FnOk prog 214 := ⟨⟨_, func214, by kernel_rfl, by kernel_rfl⟩⟩
theorem fn216 : FnOk prog 216 := ⟨⟨_, func216, by kernel_rfl, by kernel_rfl⟩⟩
theorem fn242 : FnOk prog 242 := ⟨⟨_, func242, by kernel_rfl, by kernel_rfl⟩⟩
theorem fn244 : FnOk prog 244 := ⟨⟨_, func244, by kernel_rfl, by kernel_rfl⟩⟩
theorem fn257 : FnOk prog 257 := ⟨⟨_, func257, by kernel_rfl, by kernel_rfl⟩⟩
theorem fn260 : FnOk prog 260 := ⟨⟨_, func260, by kernel_rfl, by kernel_rfl⟩⟩
theorem fn261 : FnOk prog 261 := ⟨⟨_, func261, by kernel_rfl, by kernel_rfl⟩⟩
theorem fn262 : FnOk prog 262 := ⟨⟨_, func262, by kernel_rfl, by kernel_rfl⟩⟩
theorem fn263 : FnOk prog 263 := ⟨⟨_, func263, by kernel_rfl, by kernel_rfl⟩⟩
theorem fn264 : FnOk prog 264 := ⟨⟨_, func264, by kernel_rfl, by kernel_rfl⟩⟩
theorem fn265 : FnOk prog 265 := ⟨⟨_, func265, by kernel_rfl, by kernel_rfl⟩⟩
theorem fn267 : FnOk prog 267 := ⟨⟨_, func267, by kernel_rfl, by kernel_rfl⟩⟩
theorem fn268 : FnOk prog 268 := ⟨⟨_, func268, by kernel_rfl, by kernel_rfl⟩⟩
theorem fn269 : FnOk prog 269 := ⟨⟨_, func269, by kernel_rfl, by kernel_rfl⟩⟩
theorem fn270 : FnOk prog 270 := ⟨⟨_, func270, by kernel_rfl, by kernel_rfl⟩⟩
theorem fn271 : FnOk prog 271 := ⟨⟨_, func271, by kernel_rfl, by kernel_rfl⟩⟩
theorem fn272 : FnOk prog 272 := ⟨⟨_, func272, by kernel_rfl, by kernel_rfl⟩⟩
theorem fn273 : FnOk prog 273 := ⟨⟨_, func273, by kernel_rfl, by kernel_rfl⟩⟩
theorem fn274 : FnOk prog 274 := ⟨⟨_, func274, by kernel_rfl, by kernel_rfl⟩⟩
theorem fn275 : FnOk prog 275 := ⟨⟨_, func275, by kernel_rfl, by kernel_rfl⟩⟩
theorem fn288 : FnOk prog 288 := ⟨⟨_, func288, by kernel_rfl, by kernel_rfl⟩⟩
theorem fn289 : FnOk prog 289 := ⟨⟨_, func289, by kernel_rfl, by kernel_rfl⟩⟩
theorem fn290 : FnOk prog 290 := ⟨⟨_, func290, by kernel_rfl, by kernel_rfl⟩⟩
theorem fn292 : FnOk prog 292 := ⟨⟨_, func292, by kernel_rfl, by kernel_rfl⟩⟩
theorem fn293 : FnOk prog 293 := ⟨⟨_, func293, by kernel_rfl, by kernel_rfl⟩⟩
theorem fn301 : FnOk prog 301 := ⟨⟨_, func301, by kernel_rfl, by kernel_rfl⟩⟩
theorem fn302 : FnOk prog 302 := ⟨⟨_, func302, by kernel_rfl, by kernel_rfl⟩⟩
theorem fn303 : FnOk prog 303 := ⟨⟨_, func303, by kernel_rfl, by kernel_rfl⟩⟩
theorem fn306 : FnOk prog 306 := ⟨⟨_, func306, by kernel_rfl, by kernel_rfl⟩⟩
theorem fn307 : FnOk prog 307 := ⟨⟨_, func307, by kernel_rfl, by kernel_rfl⟩⟩
theorem mixed : prog.follows .mixedOrders = true := by kernel_rfl
end Go.Proofs.YtmgnagpgnoikfaaGreatDoor
set_option linter.unusedVariables false
namespace Go.Ph
open Go Go.RowKit Go.Proofs.Tryz
theorem one_of {α : Type} [Rep α] {H : HM} {v : Value} {xs : List α} (h : RdL H v xs) : Value.oneCell' v = true := by
  have := h.one; simpa [ones] using this
structure AddE where
  member : Int
  epoch : Int
  pub : Int
  deriving DecidableEq, Inhabited
instance : Rep AddE where
  sz := 3
  bytes := 24
  bpos := by decide
  rd := fun H cs x => cs = [.int .i64 x.member, .int .i64 x.epoch, .int .i64 x.pub] ∧ InR x.member ∧ InR x.epoch ∧ InR x.pub
  len := fun ⟨e, _⟩ => by rw [e]; rfl
  one := fun ⟨e, _⟩ => by rw [e]; rfl
  mono := fun x ⟨e, h0, h1, h2⟩ => ⟨e, h0, h1, h2⟩
structure Seal where
  at_ : Int
  to_ : Int
  term_ : Int
  deriving DecidableEq, Inhabited
instance : Rep Seal where
  sz := 3
  bytes := 24
  bpos := by decide
  rd := fun H cs x => cs = [.int .i64 x.at_, .int .i64 x.to_, .int .i64 x.term_] ∧ InR x.at_ ∧ InR x.to_ ∧ InR x.term_
  len := fun ⟨e, _⟩ => by rw [e]; rfl
  one := fun ⟨e, _⟩ => by rw [e]; rfl
  mono := fun x ⟨e, h0, h1, h2⟩ => ⟨e, h0, h1, h2⟩
structure Join where
  member : Int
  term_ : Int
  deriving DecidableEq, Inhabited
instance : Rep Join where
  sz := 2
  bytes := 16
  bpos := by decide
  rd := fun H cs x => cs = [.int .i64 x.member, .int .i64 x.term_] ∧ InR x.member ∧ InR x.term_
  len := fun ⟨e, _⟩ => by rw [e]; rfl
  one := fun ⟨e, _⟩ => by rw [e]; rfl
  mono := fun x ⟨e, h0, h1⟩ => ⟨e, h0, h1⟩
structure Node where
  pub : Int
  member : Int
  epoch : Int
  unmerged : List Int
  deriving DecidableEq, Inhabited
instance : Rep Node where
  sz := 4
  bytes := 48
  bpos := by decide
  rd := fun H cs x => ∃ u3 : Value, cs = [.int .i64 x.pub, .int .i64 x.member, .int .i64 x.epoch, u3] ∧ InR x.pub ∧ InR x.member ∧ InR x.epoch ∧ RdL H u3 x.unmerged
  len := fun ⟨u3, e, _⟩ => by rw [e]; rfl
  one := fun ⟨u3, e, h0, h1, h2, h3⟩ => by
    rw [e]
    simp only [ones, List.all_cons, List.all_nil, Bool.and_true, one_of h3] <;> rfl
  mono := fun x ⟨u3, e, h0, h1, h2, h3⟩ => ⟨u3, e, h0, h1, h2, h3.mono x⟩
structure Tree where
  nodes : List Node
  deriving DecidableEq, Inhabited
instance : Rep Tree where
  sz := 1
  bytes := 24
  bpos := by decide
  rd := fun H cs x => ∃ u0 : Value, cs = [u0] ∧ RdL H u0 x.nodes
  len := fun ⟨u0, e, _⟩ => by rw [e]; rfl
  one := fun ⟨u0, e, h0⟩ => by
    rw [e]
    simp only [ones, List.all_cons, List.all_nil, Bool.and_true, one_of h0] <;> rfl
  mono := fun x ⟨u0, e, h0⟩ => ⟨u0, e, h0.mono x⟩
structure Commit where
  group : Int
  epoch : Int
  by_ : Int
  member : Int
  keyEpoch : Int
  external : Bool
  adds : List AddE
  removes : List Int
  seals : List Seal
  joins : List Join
  own : Int
  entry : Int
  next_ : Tree
  face : Int
  card : Int
  deriving DecidableEq, Inhabited
instance : Rep Commit where
  sz := 15
  bytes := 200
  bpos := by decide
  rd := fun H cs x => ∃ u6 u7 u8 u9 u12 : Value, cs = [.int .i64 x.group, .int .i64 x.epoch, .int .i64 x.by_, .int .i64 x.member, .int .i64 x.keyEpoch, .bool x.external, u6, u7, u8, u9, .int .i64 x.own, .int .i64 x.entry, u12, .int .i64 x.face, .int .i64 x.card] ∧ InR x.group ∧ InR x.epoch ∧ InR x.by_ ∧ InR x.member ∧ InR x.keyEpoch ∧ RdL H u6 x.adds ∧ RdL H u7 x.removes ∧ RdL H u8 x.seals ∧ RdL H u9 x.joins ∧ InR x.own ∧ InR x.entry ∧ RdL H u12 x.next_.nodes ∧ InR x.face ∧ InR x.card
  len := fun ⟨u6, u7, u8, u9, u12, e, _⟩ => by rw [e]; rfl
  one := fun ⟨u6, u7, u8, u9, u12, e, h0, h1, h2, h3, h4, h5, h6, h7, h8, h9, h10, h11, h12, h13⟩ => by
    rw [e]
    simp only [ones, List.all_cons, List.all_nil, Bool.and_true, one_of h5, one_of h6, one_of h7, one_of h8, one_of h11] <;> rfl
  mono := fun x ⟨u6, u7, u8, u9, u12, e, h0, h1, h2, h3, h4, h5, h6, h7, h8, h9, h10, h11, h12, h13⟩ => ⟨u6, u7, u8, u9, u12, e, h0, h1, h2, h3, h4, h5.mono x, h6.mono x, h7.mono x, h8.mono x, h9, h10, h11.mono x, h12, h13⟩
structure Log where
  group : Int
  commits : List Commit
  deriving DecidableEq, Inhabited
instance : Rep Log where
  sz := 2
  bytes := 32
  bpos := by decide
  rd := fun H cs x => ∃ u1 : Value, cs = [.int .i64 x.group, u1] ∧ InR x.group ∧ RdL H u1 x.commits
  len := fun ⟨u1, e, _⟩ => by rw [e]; rfl
  one := fun ⟨u1, e, h0, h1⟩ => by
    rw [e]
    simp only [ones, List.all_cons, List.all_nil, Bool.and_true, one_of h1] <;> rfl
  mono := fun x ⟨u1, e, h0, h1⟩ => ⟨u1, e, h0, h1.mono x⟩
end Go.Ph
set_option linter.unusedVariables false
namespace Go.Ph
open Go Go.RowKit Go.Proofs.Tryz
instance : Own Int where
  ty := 3
  mark := fun n => [.int .i64 (-1000 - n)]
  ow := fun _ H cs x F => Rep.rd H cs x ∧ F = []
  ow_rd := fun h => h.1
  ow_any := fun h => h
  ow_mono := fun e h => ⟨Rep.mono e h.1, h.2⟩
  ow_cut := fun _ h => ⟨h.1, h.2⟩
instance : Own Bool where
  ty := 4
  mark := fun n => []
  ow := fun _ H cs x F => Rep.rd H cs x ∧ F = []
  ow_rd := fun h => h.1
  ow_any := fun h => h
  ow_mono := fun e h => ⟨Rep.mono e h.1, h.2⟩
  ow_cut := fun _ h => ⟨h.1, h.2⟩
instance : Own AddE where
  ty := 131
  mark := fun n => [.int .i64 (-1000 - n), .int .i64 0, .int .i64 0]
  ow := fun _ H cs x F => Rep.rd H cs x ∧ F = []
  ow_rd := fun h => h.1
  ow_any := fun h => h
  ow_mono := fun e h => ⟨Rep.mono e h.1, h.2⟩
  ow_cut := fun _ h => ⟨h.1, h.2⟩
instance : Own Seal where
  ty := 135
  mark := fun n => [.int .i64 (-1000 - n), .int .i64 0, .int .i64 0]
  ow := fun _ H cs x F => Rep.rd H cs x ∧ F = []
  ow_rd := fun h => h.1
  ow_any := fun h => h
  ow_mono := fun e h => ⟨Rep.mono e h.1, h.2⟩
  ow_cut := fun _ h => ⟨h.1, h.2⟩
instance : Own Join where
  ty := 138
  mark := fun n => [.int .i64 (-1000 - n), .int .i64 0]
  ow := fun _ H cs x F => Rep.rd H cs x ∧ F = []
  ow_rd := fun h => h.1
  ow_any := fun h => h
  ow_mono := fun e h => ⟨Rep.mono e h.1, h.2⟩
  ow_cut := fun _ h => ⟨h.1, h.2⟩
instance : Own Node where
  ty := 127
  mark := fun n => [.int .i64 (-1000 - n), .int .i64 0, .int .i64 0, .slice none 0 0]
  ow := fun tw H cs x F => ∃ (u3 : Value) (F3 : List Nat), cs = [.int .i64 x.pub, .int .i64 x.member, .int .i64 x.epoch, u3] ∧ InR x.pub ∧ InR x.member ∧ InR x.epoch ∧ OwL tw H u3 x.unmerged F3 ∧ F = F3
  ow_rd := fun ⟨u3, F3, e, h0, h1, h2, h3, eF⟩ => ⟨u3, e, h0, h1, h2, h3.rdL⟩
  ow_any := fun ⟨u3, F3, e, h0, h1, h2, h3, eF⟩ => ⟨u3, F3, e, h0, h1, h2, h3.any, eF⟩
  ow_mono := fun x ⟨u3, F3, e, h0, h1, h2, h3, eF⟩ => ⟨u3, F3, e, h0, h1, h2, h3.mono x, eF⟩
  ow_cut := fun hb ⟨u3, F3, e, h0, h1, h2, h3, eF⟩ => ⟨u3, F3, e, h0, h1, h2, h3.cut (fun hm => hb (by rw [eF]; simp [hm])), eF⟩
instance : Own Tree where
  ty := 29
  mark := fun n => []
  ow := fun tw H cs x F => ∃ (u0 : Value) (F0 : List Nat), cs = [u0] ∧ OwL tw H u0 x.nodes F0 ∧ F = F0
  ow_rd := fun ⟨u0, F0, e, h0, eF⟩ => ⟨u0, e, h0.rdL⟩
  ow_any := fun ⟨u0, F0, e, h0, eF⟩ => ⟨u0, F0, e, h0.any, eF⟩
  ow_mono := fun x ⟨u0, F0, e, h0, eF⟩ => ⟨u0, F0, e, h0.mono x, eF⟩
  ow_cut := fun hb ⟨u0, F0, e, h0, eF⟩ => ⟨u0, F0, e, h0.cut (fun hm => hb (by rw [eF]; simp [hm])), eF⟩
instance : Own Commit where
  ty := 31
  mark := fun n => [.int .i64 0, .int .i64 (-1000 - n), .int .i64 0, .int .i64 0, .int .i64 0, .bool false, .slice none 0 0, .slice none 0 0, .slice none 0 0, .slice none 0 0, .int .i64 0, .int .i64 0, .slice none 0 0, .int .i64 0, .int .i64 0]
  ow := fun tw H cs x F => ∃ (u6 u7 u8 u9 u12 : Value) (F6 F7 F8 F9 F12 : List Nat), cs = [.int .i64 x.group, .int .i64 x.epoch, .int .i64 x.by_, .int .i64 x.member, .int .i64 x.keyEpoch, .bool x.external, u6, u7, u8, u9, .int .i64 x.own, .int .i64 x.entry, u12, .int .i64 x.face, .int .i64 x.card] ∧ InR x.group ∧ InR x.epoch ∧ InR x.by_ ∧ InR x.member ∧ InR x.keyEpoch ∧ OwL tw H u6 x.adds F6 ∧ OwL tw H u7 x.removes F7 ∧ OwL tw H u8 x.seals F8 ∧ OwL tw H u9 x.joins F9 ∧ InR x.own ∧ InR x.entry ∧ OwL tw H u12 x.next_.nodes F12 ∧ InR x.face ∧ InR x.card ∧ F = F6 ++ (F7 ++ (F8 ++ (F9 ++ F12)))
  ow_rd := fun ⟨u6, u7, u8, u9, u12, F6, F7, F8, F9, F12, e, h0, h1, h2, h3, h4, h5, h6, h7, h8, h9, h10, h11, h12, h13, eF⟩ => ⟨u6, u7, u8, u9, u12, e, h0, h1, h2, h3, h4, h5.rdL, h6.rdL, h7.rdL, h8.rdL, h9, h10, h11.rdL, h12, h13⟩
  ow_any := fun ⟨u6, u7, u8, u9, u12, F6, F7, F8, F9, F12, e, h0, h1, h2, h3, h4, h5, h6, h7, h8, h9, h10, h11, h12, h13, eF⟩ => ⟨u6, u7, u8, u9, u12, F6, F7, F8, F9, F12, e, h0, h1, h2, h3, h4, h5.any, h6.any, h7.any, h8.any, h9, h10, h11.any, h12, h13, eF⟩
  ow_mono := fun x ⟨u6, u7, u8, u9, u12, F6, F7, F8, F9, F12, e, h0, h1, h2, h3, h4, h5, h6, h7, h8, h9, h10, h11, h12, h13, eF⟩ => ⟨u6, u7, u8, u9, u12, F6, F7, F8, F9, F12, e, h0, h1, h2, h3, h4, h5.mono x, h6.mono x, h7.mono x, h8.mono x, h9, h10, h11.mono x, h12, h13, eF⟩
  ow_cut := fun hb ⟨u6, u7, u8, u9, u12, F6, F7, F8, F9, F12, e, h0, h1, h2, h3, h4, h5, h6, h7, h8, h9, h10, h11, h12, h13, eF⟩ => ⟨u6, u7, u8, u9, u12, F6, F7, F8, F9, F12, e, h0, h1, h2, h3, h4, h5.cut (fun hm => hb (by rw [eF]; simp [hm])), h6.cut (fun hm => hb (by rw [eF]; simp [hm])), h7.cut (fun hm => hb (by rw [eF]; simp [hm])), h8.cut (fun hm => hb (by rw [eF]; simp [hm])), h9, h10, h11.cut (fun hm => hb (by rw [eF]; simp [hm])), h12, h13, eF⟩
instance : Own Log where
  ty := 95
  mark := fun n => [.int .i64 (-1000 - n), .slice none 0 0]
  ow := fun tw H cs x F => ∃ (u1 : Value) (F1 : List Nat), cs = [.int .i64 x.group, u1] ∧ InR x.group ∧ OwL tw H u1 x.commits F1 ∧ F = F1
  ow_rd := fun ⟨u1, F1, e, h0, h1, eF⟩ => ⟨u1, e, h0, h1.rdL⟩
  ow_any := fun ⟨u1, F1, e, h0, h1, eF⟩ => ⟨u1, F1, e, h0, h1.any, eF⟩
  ow_mono := fun x ⟨u1, F1, e, h0, h1, eF⟩ => ⟨u1, F1, e, h0, h1.mono x, eF⟩
  ow_cut := fun hb ⟨u1, F1, e, h0, h1, eF⟩ => ⟨u1, F1, e, h0, h1.cut (fun hm => hb (by rw [eF]; simp [hm])), eF⟩
end Go.Ph
set_option linter.unusedVariables false
set_option linter.unusedSimpArgs false
set_option maxRecDepth 100000
namespace Go.Ph
open Go Go.RowKit Go.Proofs.YtmgnagpgnoikfaaGreatDoor Go.Proofs.Tryz
def Node.blankB (x : Node) : Bool := decide (x.pub = 0) && decide (x.member = 0) && decide (x.epoch = 0) && decide ((x.unmerged.length : Int) = 0)
theorem blank_ok {B : World} {H : HM} {O : OL} {cs : List Value} {x : Node} (h : Rep.rd H cs x) : CallsM prog 265 [.agg cs.toArray].toArray B H O (Same (.bool x.blankB) H O) := by
  obtain ⟨u, rfl, h0, h1, h2, h3⟩ := h
  refine enter func265 rfl ntmps265 (l := [(0, _)]) rfl rfl ?_
  refine x_seq ?_
  refine x_region rfl ?_
  refine o_box rfl (cs := [_, _, _, _]) rfl (fun b1 => ?_)
  refine o_y (y_assign rfl) ?_
  refine o_nil ?_
  refine x_seq ?_
  refine x_region rfl ?_
  refine o_y (y_fieldAddr fd127_0 ti3 (by decide) rfl) ?_
  refine o_y (y_loadO ti3 rfl inn rfl) ?_
  refine o_y (y_eql rfl rfl) ?_
  refine o_y (y_move rfl) ?_
  refine o_split 6 rfl (fun hg1_6 => ?_) (fun hg1_6 => ?_)
  · try simp only [kk] at hg1_6
    refine o_gy 6 rfl rfl (y_fieldAddr fd127_1 ti3 (by decide) rfl) ?_
    refine o_gy 6 rfl rfl (y_loadO ti3 rfl inn rfl) ?_
    refine o_gy 6 rfl rfl (y_eql rfl rfl) ?_
    refine o_y (y_pick rfl rfl) ?_
    refine o_y (y_move rfl) ?_
    refine o_split 11 rfl (fun hg1_11 => ?_) (fun hg1_11 => ?_)
    · try simp only [kk] at hg1_11
      refine o_gy 11 rfl rfl (y_fieldAddr fd127_2 ti3 (by decide) rfl) ?_
      refine o_gy 11 rfl rfl (y_loadO ti3 rfl inn rfl) ?_
      refine o_gy 11 rfl rfl (y_eql rfl rfl) ?_
      refine o_y (y_pick rfl rfl) ?_
      refine o_y (y_move rfl) ?_
      refine o_split 16 rfl (fun hg1_16 => ?_) (fun hg1_16 => ?_)
      · try simp only [kk] at hg1_16
        refine o_gy 16 rfl rfl (y_fieldAddr fd127_3 ti24 (by decide) rfl) ?_
        refine o_gy 16 rfl rfl (y_loadO ti24 rfl inn rfl) ?_
        first | refine o_gy 16 rfl rfl (y_lenL (by assumption) underlying24 rfl) ?_ | refine o_gy 16 rfl rfl (y_lenR (by assumption) underlying24 rfl) ?_ | refine o_gy 16 rfl rfl (y_len underlying24 rfl) ?_
        refine o_gy 16 rfl rfl (y_eql rfl rfl) ?_
        refine o_y (y_pick rfl rfl) ?_
        refine o_y (y_assign rfl) ?_
        refine o_nil ?_
        refine x_ret ?_
        refine x_fin 1 (ret1 rfl rfl) ?_
        exact ⟨by simp [Node.blankB, *], rfl, rfl⟩
      try simp only [kk] at hg1_16
      refine o_gn 16 rfl rfl rfl ?_
      refine o_gn 16 rfl rfl rfl ?_
      refine o_gn 16 rfl rfl rfl ?_
      refine o_gn 16 rfl rfl rfl ?_
      refine o_y (y_pick rfl rfl) ?_
      refine o_y (y_assign rfl) ?_
      refine o_nil ?_
      refine x_ret ?_
      refine x_fin 1 (ret1 rfl rfl) ?_
      exact ⟨by simp [Node.blankB, *], rfl, rfl⟩
    try simp only [kk] at hg1_11
    refine o_gn 11 rfl rfl rfl ?_
    refine o_gn 11 rfl rfl rfl ?_
    refine o_gn 11 rfl rfl rfl ?_
    refine o_y (y_pick rfl rfl) ?_
    refine o_y (y_move rfl) ?_
    refine o_gn 16 rfl rfl rfl ?_
    refine o_gn 16 rfl rfl rfl ?_
    refine o_gn 16 rfl rfl rfl ?_
    refine o_gn 16 rfl rfl rfl ?_
    refine o_y (y_pick rfl rfl) ?_
    refine o_y (y_assign rfl) ?_
    refine o_nil ?_
    refine x_ret ?_
    refine x_fin 1 (ret1 rfl rfl) ?_
    exact ⟨by simp [Node.blankB, *], rfl, rfl⟩
  try simp only [kk] at hg1_6
  refine o_gn 6 rfl rfl rfl ?_
  refine o_gn 6 rfl rfl rfl ?_
  refine o_gn 6 rfl rfl rfl ?_
  refine o_y (y_pick rfl rfl) ?_
  refine o_y (y_move rfl) ?_
  refine o_gn 11 rfl rfl rfl ?_
  refine o_gn 11 rfl rfl rfl ?_
  refine o_gn 11 rfl rfl rfl ?_
  refine o_y (y_pick rfl rfl) ?_
  refine o_y (y_move rfl) ?_
  refine o_gn 16 rfl rfl rfl ?_
  refine o_gn 16 rfl rfl rfl ?_
  refine o_gn 16 rfl rfl rfl ?_
  refine o_gn 16 rfl rfl rfl ?_
  refine o_y (y_pick rfl rfl) ?_
  refine o_y (y_assign rfl) ?_
  refine o_nil ?_
  refine x_ret ?_
  refine x_fin 1 (ret1 rfl rfl) ?_
  exact ⟨by simp [Node.blankB, *], rfl, rfl⟩
def isPow (n : Nat) : Bool := Nat.beq n 1 || Nat.beq n 2 || Nat.beq n 4 || Nat.beq n 8
theorem isPow_bits : ∀ n : Nat, n ≤ 8 → 0 < n → decide (ibit .and .i64 (n : Int) ((n : Int) - 1) = 0) = isPow n := by decide +kernel
end Go.Ph
