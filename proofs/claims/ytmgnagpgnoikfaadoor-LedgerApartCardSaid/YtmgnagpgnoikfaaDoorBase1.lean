/- The walk's own judgements: code is run over a frame that is told slot by slot and over memory that is told block by block. -/
import Derived.WalkKit
import Derived.OwnWalk
import Derived.Deep.Quiet
import Derived.Deep.LoopGhost
import Derived.OrdersHeld
import Derived.Below
set_option linter.unusedVariables false
set_option linter.unusedSimpArgs false
namespace Go.Ph
open Go.RowKit

theorem beq_ne {k t : Nat} (h : k ≠ t) : Nat.beq k t = false := by
  cases e : Nat.beq k t with
  | false => rfl
  | true => exact absurd (Nat.eq_of_beq_eq_true e) h

/-! ### Frames -/
abbrev Env := List (Nat × Value)
def look : Env → Nat → Option Value
  | [], _ => none
  | (k, v) :: l, t => bif Nat.beq k t then some v else look l t
def ev (l : Env) : Operand → Option Value
  | .tmp t => look l t
  | .const v => some v
  | .global g => some (.pointer (some ⟨g, 0, none⟩))
  | .func f => some (.func (.func f) #[] #[])
structure Fr (sz : Nat) (l : Env) (a : Act) : Prop where
  size : a.tmps.size = sz
  defers : a.defers = []
  get : ∀ t v, look l t = some v → a.tmps.getD t undef = v
theorem Fr.ev {sz : Nat} {l : Env} {a : Act} (h : Fr sz l a) {x : Operand} {v : Value} (hx : Ph.ev l x = some v) : a.eval x = v := by
  cases x with
  | tmp t => exact h.get t v hx
  | const u => exact Option.some.inj hx
  | global g => exact Option.some.inj hx
  | func f => exact Option.some.inj hx
theorem look_cons (k : Nat) (v : Value) (l : Env) (t : Nat) : look ((k, v) :: l) t = if k = t then some v else look l t := by
  by_cases h : k = t
  · subst h; simp [look]
  · have : Nat.beq k t = false := beq_ne h
    simp [look, this, h]
theorem Fr.put {sz : Nat} {l : Env} {a : Act} (h : Fr sz l a) {d : Nat} (hd : d < sz) (v : Value) : Fr sz ((d, v) :: l) (a.put (some d) v) := by
  refine ⟨by simp [Act.put, h.size], h.defers, fun t u hu => ?_⟩
  rw [look_cons] at hu
  by_cases e : d = t
  · subst e
    rw [if_pos rfl] at hu
    have := Option.some.inj hu
    subst this
    have hlt : d < a.tmps.size := by rw [h.size]; exact hd
    simp [Act.put, Array.getD, hlt]
  · rw [if_neg e] at hu
    have := h.get t u hu
    simp only [Act.put]
    rw [← this]
    simp [Array.getD_eq_getD_getElem?, Array.getElem?_setIfInBounds_ne e]
/-- What is told anew of a frame. -/
inductive Sub (l : Env) : Env → Prop where
  | n : Sub l []
  | c {t : Nat} {v : Value} {l' : Env} (h : look l t = some v) (s : Sub l l') : Sub l ((t, v) :: l')
theorem Sub.spec {l l' : Env} (h : Sub l l') : ∀ t v, look l' t = some v → look l t = some v := by
  induction h with
  | n => intro t v h; simp [look] at h
  | c h s ih =>
    intro t v hv
    rw [look_cons] at hv
    split at hv
    · rename_i e; subst e; rw [← hv]; exact h
    · exact ih t v hv
theorem Fr.sub {sz : Nat} {l l' : Env} {a : Act} (h : Fr sz l a) (s : Sub l l') : Fr sz l' a :=
  ⟨h.size, h.defers, fun t v hv => h.get t v (s.spec t v hv)⟩

/-! ### Memory: 'H', what nobody writes any more; 'O', the blocks of one's own -/
abbrev HM := Nat → Option Obj
abbrev OL := List (Nat × Obj)
structure Fits (B : World) (H : HM) (O : OL) (w : World) : Prop where
  os : w.os = B.os
  tape : w.tape = B.tape
  out : w.output = B.output
  bsz : B.heap.size ≤ w.heap.size
  base : ∀ b o, B.heap[b]? = some o → H b = some o
  imm : ∀ b o, H b = some o → w.heap[b]? = some o
  own : ∀ b o, (b, o) ∈ O → w.heap[b]? = some o ∧ H b = none
  nd : (O.map (·.1)).Nodup
theorem Fits.start (B : World) : Fits B (fun b => B.heap[b]?) [] B :=
  ⟨rfl, rfl, rfl, Nat.le_refl _, fun _ _ h => h, fun _ _ h => h, fun _ _ h => by simp at h, by simp⟩
theorem Fits.below {B : World} {H : HM} {O : OL} {w : World} (h : Fits B H O w) : Below B.heap.size B w := by
  refine ⟨h.os, h.tape, h.out, h.bsz, fun k hk => ?_⟩
  have : B.heap[k]? = some B.heap[k] := Array.getElem?_eq_getElem hk
  rw [this]
  exact h.imm _ _ (h.base _ _ this)
/-- What S says of a world: the blocks that are told are there. -/
structure Has (H : HM) (O : OL) (w : World) : Prop where
  imm : ∀ b o, H b = some o → w.heap[b]? = some o
  own : ∀ b o, (b, o) ∈ O → w.heap[b]? = some o
theorem Fits.has {B : World} {H : HM} {O : OL} {w : World} (h : Fits B H O w) : Has H O w := ⟨h.imm, fun b o hm => (h.own b o hm).1⟩
theorem Fits.drew {B : World} {H : HM} {O : OL} {w : World} (h : Fits B H O w) : Fits B H O { w with drawn := w.drawn + 1 } := ⟨h.os, h.tape, h.out, h.bsz, h.base, h.imm, h.own, h.nd⟩
/-- Blocks that are told on: some of those that were, each once. -/
theorem Fits.pick {B : World} {H : HM} {O O' : OL} {w : World} (h : Fits B H O w) (hs : ∀ p ∈ O', p ∈ O) (hn : (O'.map (·.1)).Nodup) : Fits B H O' w :=
  ⟨h.os, h.tape, h.out, h.bsz, h.base, h.imm, fun b o hm => h.own b o (hs _ hm), hn⟩
theorem Fits.drop {B : World} {H : HM} {O : OL} {w : World} (h : Fits B H O w) (n : Nat) : Fits B H (O.drop n) w :=
  h.pick (fun _ hp => List.mem_of_mem_drop hp) (by
    have := h.nd
    rw [List.map_drop]
    exact List.Nodup.sublist (List.drop_sublist _ _) this)
theorem Fits.perm {B : World} {H : HM} {O O' : OL} {w : World} (h : Fits B H O w) (hp : O.Perm O') : Fits B H O' w :=
  h.pick (fun p hm => hp.mem_iff.2 hm) ((hp.map _).nodup_iff.1 h.nd)
/-- A new block. -/
theorem Fits.alloc {B : World} {H : HM} {O : OL} {w : World} (h : Fits B H O w) (o : Obj) : Fits B H ((w.heap.size, o) :: O) { w with heap := w.heap.push o } := by
  have old : ∀ b x, w.heap[b]? = some x → (w.heap.push o)[b]? = some x := fun b x hx => by
    obtain ⟨hlt, _⟩ := Array.getElem?_eq_some_iff.1 hx
    rw [Array.getElem?_push_lt hlt]; exact (Array.getElem?_eq_getElem hlt) ▸ hx
  refine ⟨h.os, h.tape, h.out, ?_, h.base, fun b x hx => old b x (h.imm b x hx), fun b x hm => ?_, ?_⟩
  · simp; have := h.bsz; omega
  · rcases List.mem_cons.1 hm with e | hm
    · injection e with e1 e2
      subst e1; subst e2
      refine ⟨by simp, ?_⟩
      cases hb : H w.heap.size with
      | none => rfl
      | some y =>
        obtain ⟨hlt, _⟩ := Array.getElem?_eq_some_iff.1 (h.imm _ _ hb)
        omega
    · exact ⟨old b x (h.own b x hm).1, (h.own b x hm).2⟩
  · simp only [List.map_cons, List.nodup_cons]
    refine ⟨fun hm => ?_, h.nd⟩
    obtain ⟨⟨b, x⟩, hm, e⟩ := List.mem_map.1 hm
    simp only at e
    subst e
    obtain ⟨hlt, _⟩ := Array.getElem?_eq_some_iff.1 (h.own _ _ hm).1
    omega
/-- One block is turned. -/
theorem Fits.turn {B : World} {H : HM} {O1 O2 : OL} {b : Nat} {o : Obj} {w : World} (h : Fits B H (O1 ++ (b, o) :: O2) w) (o' : Obj) :
    Fits B H (O1 ++ (b, o') :: O2) { w with heap := w.heap.setIfInBounds b o' } := by
  have hb := h.own b o (by simp)
  have hlt : b < w.heap.size := (Array.getElem?_eq_some_iff.1 hb.1).1
  have hnd := h.nd
  simp only [List.map_append, List.map_cons] at hnd
  have hne : ∀ c x, (c, x) ∈ O1 ++ O2 → c ≠ b := by
    intro c x hm e
    subst e
    rw [List.nodup_append] at hnd
    obtain ⟨_, h2, h3⟩ := hnd
    rcases List.mem_append.1 hm with hm | hm
    · exact h3 c (List.mem_map.2 ⟨_, hm, rfl⟩) c (by simp) rfl
    · exact (List.nodup_cons.1 h2).1 (List.mem_map.2 ⟨_, hm, rfl⟩)
  refine ⟨h.os, h.tape, h.out, by simpa using h.bsz, h.base, fun c x hx => ?_, fun c x hm => ?_, by simpa using h.nd⟩
  · have : c ≠ b := fun e => by subst e; rw [hb.2] at hx; cases hx
    simp [Array.getElem?_setIfInBounds_ne (Ne.symm this), h.imm c x hx]
  · have hm' : (c, x) = (b, o') ∨ (c, x) ∈ O1 ++ O2 := by
      rcases List.mem_append.1 hm with hm | hm
      · exact .inr (List.mem_append.2 (.inl hm))
      · rcases List.mem_cons.1 hm with hm | hm
        · exact .inl hm
        · exact .inr (List.mem_append.2 (.inr hm))
    rcases hm' with e | hm'
    · injection e with e1 e2
      subst e1; subst e2
      exact ⟨by simp [hlt], hb.2⟩
    · have hc := h.own c x (by
        rcases List.mem_append.1 hm' with z | z
        · exact List.mem_append.2 (.inl z)
        · exact List.mem_append.2 (.inr (List.mem_cons_of_mem _ z)))
      refine ⟨?_, hc.2⟩
      simp [Array.getElem?_setIfInBounds_ne (Ne.symm (hne c x hm')), hc.1]
/-- Where a block stands among one's own, and the list with that block turned. -/
inductive Upd : OL → Nat → Obj → Obj → OL → Prop where
  | z {b o o' O} : Upd ((b, o) :: O) b o o' ((b, o') :: O)
  | s {p b o o' O O'} (h : Upd O b o o' O') : Upd (p :: O) b o o' (p :: O')
  | a {S b o o' O O'} (h : Upd O b o o' O') : Upd (S ++ O) b o o' (S ++ O')
theorem Upd.split {O : OL} {b : Nat} {o o' : Obj} {O' : OL} (h : Upd O b o o' O') : ∃ O1 O2, O = O1 ++ (b, o) :: O2 ∧ O' = O1 ++ (b, o') :: O2 := by
  induction h with
  | z => exact ⟨[], _, rfl, rfl⟩
  | s _ ih => obtain ⟨O1, O2, rfl, rfl⟩ := ih; exact ⟨_ :: O1, O2, rfl, rfl⟩
  | @a S _ _ _ _ _ _ ih => obtain ⟨O1, O2, rfl, rfl⟩ := ih; exact ⟨S ++ O1, O2, by simp, by simp⟩
theorem Upd.mem {O : OL} {b : Nat} {o o' : Obj} {O' : OL} (h : Upd O b o o' O') : (b, o) ∈ O := by
  obtain ⟨O1, O2, rfl, rfl⟩ := h.split; simp
/-- Where a block stands among one's own. -/
inductive In : OL → Nat → Obj → Prop where
  | z {b o O} : In ((b, o) :: O) b o
  | s {p b o O} (h : In O b o) : In (p :: O) b o
  | a {S b o O} (h : In O b o) : In (S ++ O) b o
  | m {S b o O} (h : (b, o) ∈ S) : In (S ++ O) b o
theorem In.mem {O : OL} {b : Nat} {o : Obj} (h : In O b o) : (b, o) ∈ O := by
  induction h with
  | z => simp
  | s _ ih => exact List.mem_cons_of_mem _ ih
  | a _ ih => exact List.mem_append.2 (.inr ih)
  | m h => exact List.mem_append.2 (.inl h)
/-- More is told that nobody writes. -/
def Ext (H H' : HM) : Prop := ∀ b o, H b = some o → H' b = some o
theorem Ext.refl (H : HM) : Ext H H := fun _ _ h => h
theorem Ext.trans {H1 H2 H3 : HM} (h : Ext H1 H2) (k : Ext H2 H3) : Ext H1 H3 := fun b o x => k b o (h b o x)
/-- Blocks of one's own that nobody will write any more. -/
def HM.add (H : HM) (S : OL) : HM := fun b => match H b with | some o => some o | none => (S.find? (fun p => Nat.beq p.1 b)).map (·.2)
theorem Ext.add (H : HM) (S : OL) : Ext H (H.add S) := fun b o h => by simp [HM.add, h]
theorem HM.add_mem {H : HM} {S : OL} {b : Nat} {o : Obj} (hn : (S.map (·.1)).Nodup) (hH : H b = none) (hm : (b, o) ∈ S) : H.add S b = some o := by
  simp only [HM.add, hH]
  induction S with
  | nil => simp at hm
  | cons p S ih =>
    obtain ⟨hp, hn⟩ := List.nodup_cons.1 hn
    rcases List.mem_cons.1 hm with e | hm
    · subst e; simp
    · have : p.1 ≠ b := fun e => hp (List.mem_map.2 ⟨(b, o), hm, e.symm⟩)
      have h2 : Nat.beq p.1 b = false := beq_ne this
      simp only [List.find?_cons, h2]
      exact ih hn hm
theorem HM.add_inv {H : HM} {S : OL} {b : Nat} {o : Obj} (h : H.add S b = some o) : H b = some o ∨ (H b = none ∧ (b, o) ∈ S) := by
  simp only [HM.add] at h
  cases hH : H b with
  | some x => rw [hH] at h; exact .inl h
  | none =>
    rw [hH] at h
    simp only [Option.map_eq_some_iff] at h
    obtain ⟨p, hf, rfl⟩ := h
    have h1 := List.find?_some hf
    have h2 := List.mem_of_find?_eq_some hf
    have : p.1 = b := by simpa using h1
    subst this
    exact .inr ⟨rfl, h2⟩
theorem Fits.freeze {B : World} {H : HM} {S O : OL} {w : World} (h : Fits B H (S ++ O) w) : Fits B (H.add S) O w := by
  have hnd := h.nd
  rw [List.map_append, List.nodup_append] at hnd
  refine ⟨h.os, h.tape, h.out, h.bsz, fun b o x => Ext.add H S b o (h.base b o x), fun b o x => ?_, fun b o hm => ⟨(h.own b o (by simp [hm])).1, ?_⟩, hnd.2.1⟩
  · rcases HM.add_inv x with x | ⟨_, x⟩
    · exact h.imm b o x
    · exact (h.own b o (by simp [x])).1
  · cases hb : H.add S b with
    | none => rfl
    | some y =>
      rcases HM.add_inv hb with x | ⟨_, x⟩
      · rw [(h.own b o (by simp [hm])).2] at x; cases x
      · exact absurd rfl (hnd.2.2 b (List.mem_map.2 ⟨_, x, rfl⟩) b (List.mem_map.2 ⟨_, hm, rfl⟩))
/-- What was lent to be read comes back. -/
theorem Fits.back {B : World} {H : HM} {S O O' : OL} {w w' : World} (h : Fits B H (S ++ O) w) (h' : Fits B (H.add S) O' w') : Fits B H (S ++ O') w' := by
  have hnd := h.nd
  rw [List.map_append, List.nodup_append] at hnd
  refine ⟨h'.os, h'.tape, h'.out, h'.bsz, h.base, fun b o x => h'.imm b o (Ext.add H S b o x), fun b o hm => ?_, ?_⟩
  · rcases List.mem_append.1 hm with hm | hm
    · exact ⟨h'.imm b o (HM.add_mem hnd.1 (h.own b o (by simp [hm])).2 hm), (h.own b o (by simp [hm])).2⟩
    · refine ⟨(h'.own b o hm).1, ?_⟩
      have := (h'.own b o hm).2
      cases hb : H b with
      | none => rfl
      | some y => rw [Ext.add H S b y hb] at this; cases this
  · rw [List.map_append, List.nodup_append]
    refine ⟨hnd.1, h'.nd, fun x hx y hy e => ?_⟩
    subst e
    obtain ⟨⟨b, o⟩, hm, rfl⟩ := List.mem_map.1 hx
    obtain ⟨⟨c, u⟩, hm', e⟩ := List.mem_map.1 hy
    simp only at e
    subst e
    have h1 := (h'.own _ _ hm').2
    rw [HM.add_mem hnd.1 (h.own _ _ (by simp [hm] : (_, o) ∈ S ++ O)).2 hm] at h1
    cases h1

/-! ### The judgements -/
abbrev EQ := Exit → Env → HM → OL → Prop
def Lift (sz : Nat) (B : World) (Q : EQ) : Exit → Act → World → Prop := fun e a w => ∃ l H O, Fr sz l a ∧ Fits B H O w ∧ Q e l H O
def ExC (P : Program) (sz : Nat) (B : World) (c : Code) (Q : EQ) (l : Env) (H : HM) (O : OL) : Prop :=
  ∀ a w, Fr sz l a → Fits B H O w → c.wp P (Lift sz B Q) a w
def dstOk (sz : Nat) (o : Oper) : Bool := match o.dst with | some d => Nat.blt d sz | none => true
def ExO (P : Program) (sz : Nat) (B : World) (ops : Array Oper) (Q : EQ) (rest : List Oper) (l : Env) (H : HM) (O : OL) : Prop :=
  rest.all (dstOk sz) = true → ∀ a w, Fr sz l a → Fits B H O w → wpList P ops (Lift sz B Q) rest a w
def thenQ (next : Env → HM → OL → Prop) (Q : EQ) : EQ
  | .normal, l, H, O => next l H O
  | e, l, H, O => Q e l H O
def blockQ (id : Nat) (Q : EQ) : EQ
  | .exit i, l, H, O => bif Nat.beq i id then Q .normal l H O else Q (.exit i) l H O
  | e, l, H, O => Q e l H O
def CallsM (P : Program) (f : FuncId) (args : Array Value) (B : World) (H : HM) (O : OL) (R : Value → HM → OL → Prop) : Prop :=
  ∀ w, Fits B H O w → Calls P f args w fun e w' => ∃ v H' O', e = .returned v ∧ Fits B H' O' w' ∧ R v H' O'

section rules
variable {P : Program} {sz : Nat} {B : World} {Q : EQ} {l : Env} {H : HM} {O : OL} {ops : Array Oper} {rest : List Oper}

theorem ExC.mono {c : Code} {Q' : EQ} (h : ExC P sz B c Q l H O) (hq : ∀ e l H O, Q e l H O → Q' e l H O) : ExC P sz B c Q' l H O :=
  fun a w ha hw => wp_mono (h a w ha hw) fun _ _ _ ⟨l, H, O, h1, h2, h3⟩ => ⟨l, H, O, h1, h2, hq _ _ _ _ h3⟩
theorem x_skip (h : Q .normal l H O) : ExC P sz B .skip Q l H O := fun a w ha hw => wp_skip ⟨l, H, O, ha, hw, h⟩
theorem x_ret (h : Q .ret l H O) : ExC P sz B .ret Q l H O := fun a w ha hw => wp_ret ⟨l, H, O, ha, hw, h⟩
theorem x_exit {id : Nat} (h : Q (.exit id) l H O) : ExC P sz B (.exit id) Q l H O := fun a w ha hw => wp_exit ⟨l, H, O, ha, hw, h⟩
theorem x_seq {x y : Code} (h : ExC P sz B x (thenQ (ExC P sz B y Q) Q) l H O) : ExC P sz B (.seq x y) Q l H O := fun a w ha hw =>
  wp_seq (wp_mono (h a w ha hw) fun e a' w' ⟨l', H', O', h1, h2, h3⟩ => by
    cases e with
    | normal => exact h3 a' w' h1 h2
    | _ => exact ⟨l', H', O', h1, h2, h3⟩)
theorem x_block {id : Nat} {c : Code} (h : ExC P sz B c (blockQ id Q) l H O) : ExC P sz B (.block id c) Q l H O := fun a w ha hw =>
  wp_block (wp_mono (h a w ha hw) fun e a' w' ⟨l', H', O', h1, h2, h3⟩ => by
    cases e with
    | exit i =>
      simp only [Exit.inBlock]
      simp only [blockQ] at h3
      by_cases hi : i = id
      · subst hi; simp at h3; rw [if_pos rfl]; exact ⟨l', H', O', h1, h2, h3⟩
      · have : Nat.beq i id = false := beq_ne hi
        rw [this] at h3; rw [if_neg hi]; exact ⟨l', H', O', h1, h2, h3⟩
    | _ => exact ⟨l', H', O', h1, h2, h3⟩)
theorem x_cond {c : Operand} {x y : Code} {b : Bool} (hc : ev l c = some (.bool b)) (ht : b = true → ExC P sz B x Q l H O) (hf : b = false → ExC P sz B y Q l H O) :
    ExC P sz B (.cond c x y) Q l H O := fun a w ha hw => wp_cond_split (ha.ev hc) (fun e => ht e a w ha hw) (fun e => hf e a w ha hw)
theorem x_condT {c : Operand} {x y : Code} (hc : ev l c = some (.bool true)) (ht : ExC P sz B x Q l H O) : ExC P sz B (.cond c x y) Q l H O := fun a w ha hw => wp_cond_true (ha.ev hc) (ht a w ha hw)
theorem x_condF {c : Operand} {x y : Code} (hc : ev l c = some (.bool false)) (hf : ExC P sz B y Q l H O) : ExC P sz B (.cond c x y) Q l H O := fun a w ha hw => wp_cond_false (ha.ev hc) (hf a w ha hw)
/-- The frame is told anew. -/
theorem x_sub {c : Code} {l' : Env} (s : Sub l l') (h : ExC P sz B c Q l' H O) : ExC P sz B c Q l H O := fun a w ha hw => h a w (ha.sub s) hw
/-- Blocks are dropped. -/
theorem x_drop {c : Code} (n : Nat) {O' : OL} (e : O.drop n = O') (h : ExC P sz B c Q l H O') : ExC P sz B c Q l H O := fun a w ha hw => h a w ha (e ▸ hw.drop n)
theorem x_region {id : Nat} {os : List Oper} (hd : os.all (dstOk sz) = true) (h : ExO P sz B os.toArray Q os l H O) : ExC P sz B (.region id os.toArray false) Q l H O :=
  fun a w ha hw => wp_region_lit (h hd a w ha hw)
theorem o_nil (h : Q .normal l H O) : ExO P sz B ops Q [] l H O := fun _ a w ha hw => wpList_nil ⟨l, H, O, ha, hw, h⟩
/-- A loop: an invariant over the proof's own states, with a number that goes down. -/
theorem x_loop {σ : Type} {c : Code} (St : σ → Env → HM → OL → Prop) (μ : σ → Nat) (s0 : σ) (h0 : St s0 l H O)
    (round : ∀ s l H O, St s l H O → ExC P sz B c (thenQ (fun l' H' O' => ∃ s', μ s' < μ s ∧ St s' l' H' O') Q) l H O) : ExC P sz B (.loop c) Q l H O := by
  intro a w ha hw
  refine wp_loop_ghost (fun n a w => ∃ s l H O, μ s = n ∧ St s l H O ∧ Fr sz l a ∧ Fits B H O w) (μ s0) ⟨s0, l, H, O, rfl, h0, ha, hw⟩ ?_
  rintro n a w ⟨s, l, H, O, rfl, hs, ha, hw⟩
  refine wp_mono (round s l H O hs a w ha hw) ?_
  rintro e a' w' ⟨l', H', O', h1, h2, h3⟩
  cases e with
  | normal =>
    obtain ⟨s', hlt, hs'⟩ := h3
    exact ⟨μ s', hlt, s', l', H', O', rfl, hs', h1, h2⟩
  | _ => exact ⟨l', H', O', h1, h2, h3⟩
/-- The same where the frame and the blocks are told as functions of the state. -/
theorem x_loopf {σ : Type} {c : Code} (L : σ → Env) (M : σ → OL) (I : σ → Prop) (μ : σ → Nat) (s0 : σ) (hI : I s0) (hl : Sub l (L s0)) (hO : O = M s0)
    (round : ∀ s, I s → ExC P sz B c (thenQ (fun l' H' O' => ∃ s' n, H' = H ∧ Sub l' (L s') ∧ O'.drop n = M s' ∧ I s' ∧ μ s' < μ s) Q) (L s) H (M s)) : ExC P sz B (.loop c) Q l H O := by
  intro a w ha hw
  subst hO
  refine wp_loop_ghost (fun n a w => ∃ s, μ s = n ∧ I s ∧ Fr sz (L s) a ∧ Fits B H (M s) w) (μ s0) ⟨s0, rfl, hI, ha.sub hl, hw⟩ ?_
  rintro n a w ⟨s, rfl, hs, ha, hw⟩
  refine wp_mono (round s hs a w ha hw) ?_
  rintro e a' w' ⟨l', H', O', h1, h2, h3⟩
  cases e with
  | normal =>
    obtain ⟨s', k, rfl, hs1, hs2, hs3, hs4⟩ := h3
    exact ⟨μ s', hs4, s', rfl, hs3, h1.sub hs1, hs2 ▸ h2.drop k⟩
  | _ => exact ⟨l', H', O', h1, h2, h3⟩
end rules

/-! ### Functions -/
def RetV (P : Program) (fn : Func) (l : Env) (H : HM) (O : OL) (v : Value) : Prop := ∀ a w sz, Fr sz l a → Has H O w → (results fn a.tmps).run P w = .ok v w
def FnPost (P : Program) (fn : Func) (R : Value → HM → OL → Prop) : EQ := fun e l H O => (e = .ret ∨ e = .normal) ∧ ∃ v n, RetV P fn l H O v ∧ R v H (O.drop n)
theorem callsM {P : Program} {f : FuncId} {fn : Func} {c : Code} {args : Array Value} {B : World} {H : HM} {O : OL} {R : Value → HM → OL → Prop} {l : Env}
    (hf : P.funcs[f]? = some fn) (hb : fn.body = some c) (hl : ∀ t v, look l t = some v → (args ++ Array.replicate (fn.ntmps - args.size) undef).getD t undef = v) (hz : args.size ≤ fn.ntmps)
    (h : ExC P fn.ntmps B c (FnPost P fn R) l H O) : CallsM P f args B H O R := by
  intro w hw
  refine calls_of_wp hf hb (wp_mono (h _ w ⟨by simp; omega, rfl, hl⟩ hw) ?_)
  rintro e a w' ⟨l', H', O', h1, h2, he, v, n, hv, hR⟩
  have : a.defers = [] ∧ ∃ v, (results fn a.tmps).run P w' = .ok v w' ∧ ∃ v' H' O', Ending.returned v = .returned v' ∧ Fits B H' O' w' ∧ R v' H' O' :=
    ⟨h1.defers, v, hv a w' _ h1 h2.has, v, H', _, rfl, h2.drop n, hR⟩
  rcases he with rfl | rfl <;> exact this
theorem CallsM.mono {P : Program} {f : FuncId} {args : Array Value} {B : World} {H : HM} {O : OL} {R R' : Value → HM → OL → Prop} (h : CallsM P f args B H O R)
    (hr : ∀ v H O, R v H O → R' v H O) : CallsM P f args B H O R' := fun w hw => (h w hw).mono fun _ _ ⟨v, H', O', h1, h2, h3⟩ => ⟨v, H', O', h1, h2, hr _ _ _ h3⟩
theorem ret1 {P : Program} {fn : Func} {l : Env} {H : HM} {O : OL} {t : Nat} {v : Value} (h : fn.results = #[.tmp t]) (hv : look l t = some v) : RetV P fn l H O v :=
  fun a w sz ha _ => by rw [results_tmp h, ha.get t v hv]
theorem ret2 {P : Program} {fn : Func} {l : Env} {H : HM} {O : OL} {t t2 : Nat} {v v2 : Value} (h : fn.results = #[.tmp t, .tmp t2]) (hv : look l t = some v) (hv2 : look l t2 = some v2) : RetV P fn l H O (.tuple #[v, v2]) :=
  fun a w sz ha _ => by rw [results_tmp2 h, ha.get t v hv, ha.get t2 v2 hv2]
theorem ret3 {P : Program} {fn : Func} {l : Env} {H : HM} {O : OL} {t t2 t3 : Nat} {v v2 v3 : Value} (h : fn.results = #[.tmp t, .tmp t2, .tmp t3]) (hv : look l t = some v) (hv2 : look l t2 = some v2) (hv3 : look l t3 = some v3) : RetV P fn l H O (.tuple #[v, v2, v3]) :=
  fun a w sz ha _ => by rw [results_tmp3 h, ha.get t v hv, ha.get t2 v2 hv2, ha.get t3 v3 hv3]
theorem ret0 {P : Program} {fn : Func} {l : Env} {H : HM} {O : OL} (h : fn.results = #[]) : RetV P fn l H O (.tuple #[]) := fun a w sz ha _ => by rw [results_none h]
theorem x_fin {P : Program} {fn : Func} {R : Value → HM → OL → Prop} {l : Env} {H : HM} {O : OL} {v : Value} (n : Nat) (hv : RetV P fn l H O v) (hR : R v H (O.drop n)) : FnPost P fn R .ret l H O := ⟨.inl rfl, v, n, hv, hR⟩
theorem x_finN {P : Program} {fn : Func} {R : Value → HM → OL → Prop} {l : Env} {H : HM} {O : OL} {v : Value} (n : Nat) (hv : RetV P fn l H O v) (hR : R v H (O.drop n)) : FnPost P fn R .normal l H O := ⟨.inr rfl, v, n, hv, hR⟩
end Go.Ph
