/- Single operations: addresses, reads, writes, new blocks. -/
import Derived.Test.YtmgnagpgnoikfaaDoorBase2
set_option linter.unusedVariables false
set_option linter.unusedSimpArgs false
namespace Go.Ph
open Go.RowKit

/-- A block of cells. -/
def cl (cs : List Value) (T : TypeId) : Obj := .cells cs.toArray T (0, 0)
def ones (cs : List Value) : Bool := cs.all Value.oneCell'
/-- The address k cells behind the begin of what a slice shows. -/
def ptrAt (v : Value) (k : Nat) : Value := match v with | .slice (some a) _ _ => .pointer (some ⟨a.block, a.off + k, none⟩) | _ => .pointer none
def isSl (v : Value) : Prop := ∃ b o n c, v = .slice (some ⟨b, o, none⟩) n c
theorem add_pl (b o j : Nat) : (⟨b, o, none⟩ : Addr).add j = ⟨b, o + j, none⟩ := by unfold Addr.add; split <;> simp_all

/-- Cells that are to be read: in what nobody writes, or in a block of one's own. -/
def At (H : HM) (O : OL) (b o : Nat) (cs : List Value) : Prop := ∀ w, Has H O w → ∀ j u, cs[j]? = some u → w.cell? ⟨b, o + j, none⟩ = some u
theorem At.ofO {H : HM} {O : OL} {b o : Nat} {C cs : List Value} {T : TypeId} (h : In O b (cl C T)) (hc : ∀ j u, cs[j]? = some u → C[o + j]? = some u) : At H O b o cs := fun w hw j u hu => by
  have := hw.own _ _ h.mem
  simp [World.cell?, this, cl, hc j u hu]
theorem At.ofH {H : HM} {O : OL} {b o : Nat} {C : Array Value} {cs : List Value} {T : TypeId} {fr : Nat × Nat} (h : H b = some (.cells C T fr)) (hc : ∀ j u, cs[j]? = some u → C[o + j]? = some u) : At H O b o cs := fun w hw j u hu => by
  have := hw.imm _ _ h
  simp [World.cell?, this, hc j u hu]
theorem Has.mono {H H' : HM} {O O' : OL} {w : World} (h : Has H' O' w) (e : Ext H H') (s : ∀ p ∈ O, p ∈ O') : Has H O w := ⟨fun b o x => h.imm b o (e b o x), fun b o x => h.own b o (s _ x)⟩
theorem At.mono {H H' : HM} {O O' : OL} {b o : Nat} {cs : List Value} (h : At H O b o cs) (e : Ext H H') (s : ∀ p ∈ O, p ∈ O') : At H' O' b o cs := fun w hw => h w (hw.mono e s)

section
variable {P : Program} {sz : Nat} {B : World} {Q : EQ} {l : Env} {H : HM} {O : OL} {ops : Array Oper} {rest : List Oper} {ty : TypeId} {pos : String} {aft : Array Edge} {d : Nat}

theorem TI.info' {t : TypeId} {agg : Bool} {n bytes : Nat} {z : Value} (h : TI P t agg n bytes z) : ∃ i, P.info? t = some i ∧ i.zero = some z ∧ i.size = n ∧ i.bytes = bytes := by
  have := h.info
  cases hi : P.info? t with
  | none => rw [hi] at this; simp at this
  | some i =>
    rw [hi] at this
    simp only [Option.map_some, Option.some.injEq, Prod.mk.injEq] at this
    exact ⟨i, rfl, this.1, this.2.1, this.2.2⟩
theorem run_isAgg {t : TypeId} {agg : Bool} {n bytes : Nat} {z : Value} (h : TI P t agg n bytes z) (w : World) : (isAgg t).run P w = .ok agg w := by
  have := h.agg
  cases hu : P.underlying t with
  | none => rw [hu] at this; simp at this
  | some D =>
    rw [hu] at this
    simp only [Option.map_some, Option.some.injEq] at this
    unfold isAgg
    simp only [Sem.run_bind, Go.run_underlying (P := P) hu, Result.andThen_ok]
    subst this
    cases D <;> rfl
theorem run_sizeOf {t : TypeId} {agg : Bool} {n bytes : Nat} {z : Value} (h : TI P t agg n bytes z) (w : World) : (sizeOf t).run P w = .ok n w := by
  obtain ⟨i, h1, _, h3, _⟩ := h.info'
  simp [sizeOf, typeInfo, h1, h3]
theorem run_zero {t : TypeId} {agg : Bool} {n bytes : Nat} {z : Value} (h : TI P t agg n bytes z) (w : World) : (zeroValue t).run P w = .ok z w := by
  obtain ⟨i, h1, h2, h3, _⟩ := h.info'
  simp [zeroValue, typeInfo, h1, h2]

/-! ### Addresses -/
theorem run_fieldAt {s k off ft : Nat} {agg : Bool} {n bytes : Nat} {z : Value} (hf : Fld P s k off ft) (ti : TI P ft agg n bytes z) (hn : n ≠ 0) (b o : Nat) (w : World) :
    (Instr.fieldAt s (.pointer (some ⟨b, o, none⟩)) k).run P w = .ok (.pointer (some ⟨b, o + off, none⟩)) w := by
  obtain ⟨fs, f, h1, h2, rfl, rfl⟩ := hf
  simp [Instr.fieldAt, Go.run_underlying (P := P) h1, h2, Instr.sureAddr, fieldPlace, run_sizeOf ti, hn, add_pl]
theorem y_fieldAddr {s k off ft : Nat} {x : Operand} {agg : Bool} {n bytes : Nat} {z : Value} {b o : Nat} (hf : Fld P s k off ft) (ti : TI P ft agg n bytes z) (hn : n ≠ 0) (hx : ev l x = some (.pointer (some ⟨b, o, none⟩))) :
    Yl P (.fieldAddr s x k) ty l H O (.pointer (some ⟨b, o + off, none⟩)) := fun ρ w d pos aft g ha hw => by
  simp only [execOp, ha _ _ hx, Sem.run_bind, run_fieldAt hf ti hn, Result.andThen_ok, Sem.run_pure]
theorem y_fieldAddrP {s k off ft m : Nat} {x : Operand} {agg : Bool} {n bytes : Nat} {z v : Value} (hf : Fld P s k off ft) (ti : TI P ft agg n bytes z) (hn : n ≠ 0) (hs : isSl v) (hx : ev l x = some (ptrAt v m)) :
    Yl P (.fieldAddr s x k) ty l H O (ptrAt v (m + off)) := by
  obtain ⟨b, o, n', c, rfl⟩ := hs
  have := y_fieldAddr (ty := ty) (H := H) (O := O) hf ti hn (b := b) (o := o + m) hx
  simpa [ptrAt, Nat.add_assoc] using this
theorem run_indexAt {t e : Nat} {agg : Bool} {es bytes : Nat} {z : Value} (ht : P.underlying t = some (.slice e)) (ti : TI P e agg es bytes z) {k : IntKind} {i : Int} {b o n c : Nat} (h0 : 0 ≤ i) (h1 : i < n) (w : World) :
    (Instr.indexAt t (.slice (some ⟨b, o, none⟩) n c) (.int k i)).run P w = .ok (.pointer (some ⟨b, o + i.toNat * es, none⟩)) w := by
  simp [Instr.indexAt, asIntOf, Go.run_underlying (P := P) ht, run_sizeOf ti, h0, h1, add_pl]
theorem y_indexAddr {t e : Nat} {x y : Operand} {agg : Bool} {es bytes : Nat} {z v : Value} {i : Int} {k : IntKind} (ht : P.underlying t = some (.slice e)) (ti : TI P e agg es bytes z) (hs : isSl v) {n c : Nat} {p : Option Addr} (hv : v = .slice p n c)
    (hx : ev l x = some v) (hy : ev l y = some (.int k i)) (h0 : 0 ≤ i) (h1 : i < n) : Yl P (.indexAddr t x y) ty l H O (ptrAt v (i.toNat * es)) := fun ρ w d pos aft g ha hw => by
  obtain ⟨b, o, n', c', rfl⟩ := hs
  injection hv with e1 e2 e3
  subst e2
  simp only [execOp, ha _ _ hx, ha _ _ hy, Sem.run_bind, run_indexAt ht ti h0 h1, Result.andThen_ok, Sem.run_pure, ptrAt]
theorem y_nilCheck {x : Operand} {a : Addr} (hx : ev l x = some (.pointer (some a))) : Yl P (.nilCheck x) ty l H O (.pointer (some a)) := fun ρ w d pos aft g ha hw => by
  simp only [execOp, ha _ _ hx]; rfl
theorem y_nilCheckP {x : Operand} {v : Value} {m : Nat} (hs : isSl v) (hx : ev l x = some (ptrAt v m)) : Yl P (.nilCheck x) ty l H O (ptrAt v m) := by
  obtain ⟨b, o, n', c, rfl⟩ := hs
  exact y_nilCheck hx

/-! ### Reads -/
theorem run_loadVar {t : TypeId} {agg : Bool} {n bytes : Nat} {z : Value} {b o : Nat} {cs : List Value} {w : World} (ti : TI P t agg n bytes z) (hc : ∀ j u, cs[j]? = some u → w.cell? ⟨b, o + j, none⟩ = some u) (hl : cs.length = n) (h1 : agg = false → n = 1) :
    (loadVar t ⟨b, o, none⟩).run P w = .ok (ofCells agg cs) w := by
  unfold loadVar
  simp only [Sem.run_bind, run_isAgg ti, Result.andThen_ok]
  cases agg with
  | true =>
    simp only [if_true, Sem.run_bind, run_sizeOf ti, Result.andThen_ok]
    have := run_loadCells_list (P := P) w ⟨b, o, none⟩ cs (fun j u hu => by rw [add_pl]; exact hc j u hu)
    rw [hl] at this
    simp only [this, Result.andThen_ok, Sem.run_pure, ofCells]
  | false =>
    have hn := h1 rfl
    subst hn
    match cs, hl with
    | [u], _ =>
      have := hc 0 u rfl
      simp only [Bool.false_eq_true, if_false, Nat.add_zero] at this ⊢
      simp [run_load, this, ofCells]
theorem y_load {t : TypeId} {x : Operand} {agg : Bool} {n bytes : Nat} {z : Value} {b o : Nat} {cs : List Value} (ti : TI P t agg n bytes z) (hx : ev l x = some (.pointer (some ⟨b, o, none⟩))) (hc : At H O b o cs) (hl : cs.length = n) (h1 : agg = false → n = 1) :
    Yl P (.load t x) ty l H O (ofCells agg cs) := fun ρ w d pos aft g ha hw => by
  simp only [execOp, ha _ _ hx, Instr.loadAt, Instr.sureAddr, Sem.run_bind, Sem.run_pure, Result.andThen_ok, run_loadVar ti (hc w hw) hl h1]
/-- Of a block of one's own: one cell. -/
theorem y_loadO {t : TypeId} {x : Operand} {bytes : Nat} {z : Value} {b o : Nat} {C : List Value} {T : TypeId} {u : Value} (ti : TI P t false 1 bytes z) (hx : ev l x = some (.pointer (some ⟨b, o, none⟩))) (hi : In O b (cl C T)) (hu : C[o]? = some u) :
    Yl P (.load t x) ty l H O u :=
  y_load (cs := [u]) ti hx (At.ofO hi fun j v hv => by
    match j, hv with
    | 0, hv => simp at hv; subst hv; simpa using hu
    | j + 1, hv => simp at hv) rfl (fun _ => rfl)
/-- Of a block of one's own: all of it. -/
theorem y_loadA {t : TypeId} {x : Operand} {n bytes : Nat} {z : Value} {b : Nat} {C : List Value} {T : TypeId} (ti : TI P t true n bytes z) (hx : ev l x = some (.pointer (some ⟨b, 0, none⟩))) (hi : In O b (cl C T)) (hl : C.length = n) :
    Yl P (.load t x) ty l H O (.agg C.toArray) :=
  y_load (cs := C) ti hx (At.ofO hi fun j v hv => by simpa using hv) hl (fun e => by cases e)
/-- Of a block of one's own: a part. -/
theorem y_loadP {t : TypeId} {x : Operand} {n bytes : Nat} {z : Value} {b o : Nat} {C cs : List Value} {T : TypeId} (ti : TI P t true n bytes z) (hx : ev l x = some (.pointer (some ⟨b, o, none⟩))) (hi : In O b (cl C T)) (hc : (C.drop o).take n = cs) (hl : cs.length = n) :
    Yl P (.load t x) ty l H O (.agg cs.toArray) :=
  y_load (cs := cs) ti hx (At.ofO hi fun j v hv => by
    subst hc
    rw [List.getElem?_take] at hv
    split at hv
    · rw [List.getElem?_drop] at hv; exact hv
    · cases hv) hl (fun e => by cases e)
/-- Cells k behind the begin of what a slice shows. -/
def AtS (H : HM) (O : OL) (v : Value) (k : Nat) (cs : List Value) : Prop := ∃ b o n c, v = .slice (some ⟨b, o, none⟩) n c ∧ At H O b (o + k) cs
theorem AtS.isSl {v : Value} {k : Nat} {cs : List Value} (h : AtS H O v k cs) : isSl v := by obtain ⟨b, o, n, c, rfl, _⟩ := h; exact ⟨b, o, n, c, rfl⟩
theorem AtS.mono {H' : HM} {O' : OL} {v : Value} {k : Nat} {cs : List Value} (h : AtS H O v k cs) (e : Ext H H') (s : ∀ p ∈ O, p ∈ O') : AtS H' O' v k cs := by
  obtain ⟨b, o, n, c, rfl, h⟩ := h; exact ⟨b, o, n, c, rfl, h.mono e s⟩
theorem y_loadS {t : TypeId} {x : Operand} {agg : Bool} {n bytes k : Nat} {z v : Value} {cs : List Value} (ti : TI P t agg n bytes z) (hx : ev l x = some (ptrAt v k)) (hc : AtS H O v k cs) (hl : cs.length = n) (h1 : agg = false → n = 1) :
    Yl P (.load t x) ty l H O (ofCells agg cs) := by
  obtain ⟨b, o, n', c, rfl, hc⟩ := hc
  exact y_load ti hx hc hl h1
/-- One cell of those. -/
theorem y_loadS1 {t : TypeId} {x : Operand} {bytes k j : Nat} {z v u : Value} {cs : List Value} (ti : TI P t false 1 bytes z) (hx : ev l x = some (ptrAt v (k + j))) (hc : AtS H O v k cs) (hu : cs[j]? = some u) :
    Yl P (.load t x) ty l H O u := by
  obtain ⟨b, o, n', c, rfl, hc⟩ := hc
  refine y_load (cs := [u]) (b := b) (o := o + (k + j)) ti hx (fun w hw i v hv => ?_) rfl (fun _ => rfl)
  match i, hv with
  | 0, hv =>
    simp at hv
    subst hv
    have := hc w hw j _ hu
    rwa [show o + k + j = o + (k + j) + 0 by omega] at this
  | i + 1, hv => simp at hv
theorem run_len {t : TypeId} {e n c : Nat} {p : Option Addr} (ht : P.underlying t = some (.slice e)) (ts : Array TypeId) (w : World) : (Builtin.len_ #[t] ty #[.slice p n c]).run P w = .ok (.int .i64 n) w := by
  simp [Builtin.len_, Go.run_underlying (P := P) ht, goInt]
theorem y_len {t : TypeId} {x : Operand} {e n c : Nat} {p : Option Addr} (ht : P.underlying t = some (.slice e)) (hx : ev l x = some (.slice p n c)) : Yl P (.call ⟨.builtin .len, #[x], #[t]⟩) ty l H O (.int .i64 n) := fun ρ w d pos aft g ha hw => by
  simp only [execOp, resolve, Sem.run_bind, Sem.run_pure, Result.andThen_ok, invoke, builtin, List.map_toArray, List.map_cons, List.map_nil, ha _ _ hx, run_len ht #[]]
/-- A part of a struct's value. -/
theorem y_field1 {s k off ft : Nat} {x : Operand} {n bytes : Nat} {z u : Value} {cs : List Value} (hf : Fld P s k off ft) (ti : TI P ft false n bytes z) (hx : ev l x = some (.agg cs.toArray)) (hu : cs[off]? = some u) : Yl P (.field s x k) ty l H O u := fun ρ w d pos aft g ha hw => by
  obtain ⟨fs, f, h1, h2, rfl, rfl⟩ := hf
  simp [execOp, ha _ _ hx, Instr.field, Go.run_underlying (P := P) h1, h2, asAgg, part, run_isAgg ti, hu]
theorem y_fieldA {s k off ft : Nat} {x : Operand} {n bytes : Nat} {z : Value} {cs us : List Value} (hf : Fld P s k off ft) (ti : TI P ft true n bytes z) (hx : ev l x = some (.agg cs.toArray)) (hu : (cs.drop off).take n = us) : Yl P (.field s x k) ty l H O (.agg us.toArray) := fun ρ w d pos aft g ha hw => by
  obtain ⟨fs, f, h1, h2, rfl, rfl⟩ := hf
  subst hu
  simp [execOp, ha _ _ hx, Instr.field, Go.run_underlying (P := P) h1, h2, asAgg, part, run_isAgg ti, run_sizeOf ti, List.drop_take]

/-! ### Writes and new blocks -/
theorem Fits.turn' {O1 O2 : OL} {b : Nat} {o o' : Obj} {w w' : World} (h : Fits B H (O1 ++ (b, o) :: O2) w) (h1 : w'.os = w.os) (h2 : w'.tape = w.tape) (h3 : w'.output = w.output) (h4 : w.heap.size ≤ w'.heap.size)
    (hn : ∀ k, k < w.heap.size → k ≠ b → w'.heap[k]? = w.heap[k]?) (hb : w'.heap[b]? = some o') : Fits B H (O1 ++ (b, o') :: O2) w' := by
  have hbo := h.own b o (by simp)
  have hnd := h.nd
  simp only [List.map_append, List.map_cons] at hnd
  have lt : ∀ {k : Nat} {x : Obj}, w.heap[k]? = some x → k < w.heap.size := fun hx => (Array.getElem?_eq_some_iff.1 hx).1
  have hne : ∀ c x, (c, x) ∈ O1 ++ O2 → c ≠ b := by
    intro c x hm e
    subst e
    rw [List.nodup_append] at hnd
    obtain ⟨_, h2, h3⟩ := hnd
    rcases List.mem_append.1 hm with hm | hm
    · exact h3 c (List.mem_map.2 ⟨_, hm, rfl⟩) c (by simp) rfl
    · exact (List.nodup_cons.1 h2).1 (List.mem_map.2 ⟨_, hm, rfl⟩)
  refine ⟨h1.trans h.os, h2.trans h.tape, h3.trans h.out, Nat.le_trans h.bsz h4, h.base, fun c x hx => ?_, fun c x hm => ?_, by simpa using h.nd⟩
  · have hx' := h.imm c x hx
    rw [hn c (lt hx') (fun e => by subst e; rw [hbo.2] at hx; cases hx)]
    exact hx'
  · have hm' : (c, x) = (b, o') ∨ (c, x) ∈ O1 ++ O2 := by
      rcases List.mem_append.1 hm with hm | hm
      · exact .inr (List.mem_append.2 (.inl hm))
      · rcases List.mem_cons.1 hm with hm | hm
        · exact .inl hm
        · exact .inr (List.mem_append.2 (.inr hm))
    rcases hm' with e | hm'
    · injection e with e1 e2
      subst e1; subst e2
      exact ⟨hb, hbo.2⟩
    · have hc := h.own c x (by
        rcases List.mem_append.1 hm' with z | z
        · exact List.mem_append.2 (.inl z)
        · exact List.mem_append.2 (.inr (List.mem_cons_of_mem _ z)))
      exact ⟨by rw [hn c (lt hc.1) (hne c x hm')]; exact hc.1, hc.2⟩
/-- Cells from a place on are written over. -/
def putC (C : List Value) (o : Nat) (u : List Value) : List Value := C.take o ++ u ++ C.drop (o + u.length)
theorem run_storeVar {t : TypeId} {agg : Bool} {n bytes : Nat} {z v : Value} {b o : Nat} {C : List Value} {T : TypeId} {w : World} (ti : TI P t agg n bytes z) (hv : v.cells.toList.length = n) (h1 : ones v.cells.toList = true)
    (hb : w.heap[b]? = some (cl C T)) (hl : o + n ≤ C.length) : (storeVar t ⟨b, o, none⟩ v).run P w = .ok () (w.setRow b (putC C o v.cells.toList).toArray) := by
  unfold storeVar
  have hs : v.cells.size = n := by rw [← Array.length_toList]; exact hv
  have := run_storeCells_at P b o T v.cells.toList 0 C.toArray w hb (by simp at hv ⊢; omega) (fun x hx => List.all_eq_true.1 h1 x hx)
  simp only [Nat.add_zero] at this
  simp only [Sem.run_bind, run_sizeOf ti, Result.andThen_ok, hs, ne_eq, not_true_eq_false, if_false, this]
  rfl
theorem Fits.setRow {O O' : OL} {b : Nat} {C C' : List Value} {T : TypeId} {w : World} (h : Fits B H O w) (hu : Upd O b (cl C T) (cl C' T) O') : Fits B H O' (w.setRow b C'.toArray) := by
  obtain ⟨O1, O2, rfl, rfl⟩ := hu.split
  have hb := (h.own b (cl C T) (by simp)).1
  refine h.turn' rfl rfl rfl (by simp [World.setRow]) (fun k hk hn => setRow_other w b k _ hn) ?_
  exact setRow_heap w b _ _ _ _ hb
theorem o_store {t : TypeId} {x y : Operand} {agg : Bool} {n bytes : Nat} {z v : Value} {b o : Nat} {C C' : List Value} {T : TypeId} {O' : OL} {u : List Value} (ti : TI P t agg n bytes z) (hx : ev l x = some (.pointer (some ⟨b, o, none⟩))) (hy : ev l y = some v)
    (hv : v.cells.toList = u) (hn : u.length = n) (h1 : ones u = true) (hu : Upd O b (cl C T) (cl C' T) O') (hl : o + n ≤ C.length) (hC : putC C o u = C') (k : ExO P sz B ops Q rest l H O') :
    ExO P sz B ops Q (⟨none, .store t x y, ty, pos, aft, none⟩ :: rest) l H O := by
  intro hd a w ha hw
  simp only [List.all_cons, Bool.and_eq_true] at hd
  refine wpList_plain rfl fun K hK => ?_
  subst hv
  subst hC
  have hb := (hw.own b _ hu.mem).1
  simp only [Oper.wp, execOp, ha.ev hx, ha.ev hy, Instr.storeAt, Instr.sureAddr, Sem.run_bind, Sem.run_pure, Result.andThen_ok, run_storeVar ti hn h1 hb hl, Oper.upon]
  exact hK _ _ (k hd.2 _ _ ha (hw.setRow hu))
theorem o_box {t : TypeId} {x : Operand} {v : Value} {cs : List Value} (hx : ev l x = some v) (hc : v.cells.toList = cs) (k : ∀ b, ExO P sz B ops Q rest ((d, .pointer (some ⟨b, 0, none⟩)) :: l) H ((b, cl cs t) :: O)) :
    ExO P sz B ops Q (⟨some d, .box t x, ty, pos, aft, none⟩ :: rest) l H O := by
  intro hd a w ha hw
  obtain ⟨hlt, hr⟩ := dst_lt hd rfl
  refine wpList_plain rfl fun K hK => ?_
  subst hc
  simp only [Oper.wp, execOp, ha.ev hx, Instr.box, newVar, newRow, Sem.run_bind, run_newObj, Sem.run_pure, Result.andThen_ok, Oper.upon]
  refine hK _ _ (k _ hr _ _ (ha.put hlt _) ?_)
  have := hw.alloc (cl v.cells.toList t)
  simpa [cl] using this
theorem o_alloc {t : TypeId} {agg : Bool} {n bytes : Nat} {z : Value} {cs : List Value} (ti : TI P t agg n bytes z) (hc : z.cells.toList = cs) (k : ∀ b, ExO P sz B ops Q rest ((d, .pointer (some ⟨b, 0, none⟩)) :: l) H ((b, cl cs t) :: O)) :
    ExO P sz B ops Q (⟨some d, .alloc t, ty, pos, aft, none⟩ :: rest) l H O := by
  intro hd a w ha hw
  obtain ⟨hlt, hr⟩ := dst_lt hd rfl
  refine wpList_plain rfl fun K hK => ?_
  subst hc
  simp only [Oper.wp, execOp, Instr.alloc, run_zero ti, newVar, newRow, Sem.run_bind, run_newObj, Sem.run_pure, Result.andThen_ok, Oper.upon]
  refine hK _ _ (k _ hr _ _ (ha.put hlt _) ?_)
  have := hw.alloc (cl z.cells.toList t)
  simpa [cl] using this

/-! ### Calls -/
structure FnOk (P : Program) (f : FuncId) : Prop where
  h : ∃ fn, P.funcs[f]? = some fn ∧ (fn.name == "runtime.NumGoroutine") = false ∧ fn.body.isNone = false
theorem run_callFunc {f : FuncId} (h : FnOk P f) (args : Array Value) (w : World) : (callFunc f args).run P w = .ok (.enter f args) w := by
  obtain ⟨fn, h1, h2, h3⟩ := h
  simp only [callFunc, Sem.run_bind, run_program, Result.andThen_ok, h1, h2, h3, Bool.false_eq_true, if_false]
  rfl
theorem o_call {f : FuncId} {xs : List Operand} {vs : List Value} {ts : Array TypeId} {R : Value → HM → OL → Prop} (hf : FnOk P f) (hx : xs.mapM (ev l) = some vs) (hc : CallsM P f vs.toArray B H O R)
    (k : ∀ v H' O', R v H' O' → ExO P sz B ops Q rest ((d, v) :: l) H' O') : ExO P sz B ops Q (⟨some d, .call ⟨.value (.func f), xs.toArray, ts⟩, ty, pos, aft, none⟩ :: rest) l H O := by
  intro hd a w ha hw
  obtain ⟨hlt, hr⟩ := dst_lt hd rfl
  refine wpList_plain rfl fun K hK => ?_
  have e := map_ev (fun _ _ => ha.ev) hx
  have e2 : (execOp a.eval ⟨some d, .call ⟨.value (.func f), xs.toArray, ts⟩, ty, pos, aft, none⟩).run P w = .ok (.enter f vs.toArray) w := by
    simp only [execOp, resolve, List.map_toArray, e, Act.eval, Deferred.ofValue, Sem.run_bind, Sem.run_pure, Result.andThen_ok, invoke, Array.empty_append, Array.append_empty, run_callFunc hf]
  simp only [Oper.wp, e2, Oper.upon]
  refine (hc w hw).mono ?_
  rintro e w' ⟨v, H', O', rfl, h1, h2⟩
  exact hK _ _ (k v H' O' h2 hr _ _ (ha.put hlt v) h1)
theorem o_callN {f : FuncId} {xs : List Operand} {vs : List Value} {ts : Array TypeId} {R : Value → HM → OL → Prop} (hf : FnOk P f) (hx : xs.mapM (ev l) = some vs) (hc : CallsM P f vs.toArray B H O R)
    (k : ∀ v H' O', R v H' O' → ExO P sz B ops Q rest l H' O') : ExO P sz B ops Q (⟨none, .call ⟨.value (.func f), xs.toArray, ts⟩, ty, pos, aft, none⟩ :: rest) l H O := by
  intro hd a w ha hw
  simp only [List.all_cons, Bool.and_eq_true] at hd
  refine wpList_plain rfl fun K hK => ?_
  have e := map_ev (fun _ _ => ha.ev) hx
  have e2 : (execOp a.eval ⟨none, .call ⟨.value (.func f), xs.toArray, ts⟩, ty, pos, aft, none⟩).run P w = .ok (.enter f vs.toArray) w := by
    simp only [execOp, resolve, List.map_toArray, e, Act.eval, Deferred.ofValue, Sem.run_bind, Sem.run_pure, Result.andThen_ok, invoke, Array.empty_append, Array.append_empty, run_callFunc hf]
  simp only [Oper.wp, e2, Oper.upon]
  refine (hc w hw).mono ?_
  rintro e w' ⟨v, H', O', rfl, h1, h2⟩
  exact hK _ _ (k v H' O' h2 hd.2 _ _ ha h1)
end
end Go.Ph
