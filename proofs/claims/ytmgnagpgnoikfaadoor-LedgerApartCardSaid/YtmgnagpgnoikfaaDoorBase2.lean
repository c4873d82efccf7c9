/- Single operations: what computes only, and what reads. -/
import Derived.Test.YtmgnagpgnoikfaaDoorBase1
set_option linter.unusedVariables false
set_option linter.unusedSimpArgs false
namespace Go.Ph
open Go.RowKit

/-- An operation that yields a value wherever these slots and blocks are told, and changes nothing. -/
def Yl (P : Program) (op : Op) (ty : TypeId) (l : Env) (H : HM) (O : OL) (v : Value) : Prop :=
  ∀ (ρ : Operand → Value) w d pos aft g, (∀ x v, ev l x = some v → ρ x = v) → Has H O w → (execOp ρ ⟨d, op, ty, pos, aft, g⟩).run P w = .ok (.value v) w

section
variable {P : Program} {sz : Nat} {B : World} {Q : EQ} {l : Env} {H : HM} {O : OL} {ops : Array Oper} {rest : List Oper} {ty : TypeId} {pos : String} {aft : Array Edge} {d : Nat}

theorem yielded_of {a : Act} (ha : Fr sz l a) {j t : Nat} {b : Bool} (hj : (ops[j]?).bind (·.dst) = some t) (hb : look l t = some (.bool b)) : yielded ops a.tmps j = some b := by
  have hv := ha.get t _ hb
  simp only [yielded, hj, Option.bind_some]
  rw [Array.getD_eq_getD_getElem?] at hv
  cases hx : a.tmps[t]? with
  | none => rw [hx] at hv; simp [undef] at hv
  | some y => rw [hx] at hv; simp at hv; subst hv; rfl
theorem dst_lt {o : Oper} {rest : List Oper} {d : Nat} (hd : (o :: rest).all (dstOk sz) = true) (e : o.dst = some d) : d < sz ∧ rest.all (dstOk sz) = true := by
  simp only [List.all_cons, Bool.and_eq_true] at hd
  refine ⟨?_, hd.2⟩
  have := hd.1
  simp only [dstOk, e, Nat.blt_eq] at this
  exact this
theorem o_y {op : Op} {v : Value} (h : Yl P op ty l H O v) (k : ExO P sz B ops Q rest ((d, v) :: l) H O) : ExO P sz B ops Q (⟨some d, op, ty, pos, aft, none⟩ :: rest) l H O := by
  intro hd a w ha hw
  obtain ⟨hlt, hr⟩ := dst_lt hd rfl
  refine wpList_plain rfl fun K hK => ?_
  simp only [Oper.wp, h a.eval w (some d) pos aft none (fun _ _ => ha.ev) hw.has, Oper.upon]
  exact hK _ _ (k hr _ _ (ha.put hlt v) hw)
/-- Its guard holds. -/
theorem o_gy {op : Op} {v : Value} {j : Nat} (t : Nat) {b : Bool} (hj : (ops[j]?).bind (·.dst) = some t) (hb : look l t = some (.bool b)) (h : Yl P op ty l H O v) (k : ExO P sz B ops Q rest ((d, v) :: l) H O) :
    ExO P sz B ops Q (⟨some d, op, ty, pos, aft, some (j, b)⟩ :: rest) l H O := by
  intro hd a w ha hw
  obtain ⟨hlt, hr⟩ := dst_lt hd rfl
  unfold wpList
  rw [if_pos (by simp [Region.wanted, yielded_of ha hj hb])]
  refine .inl ?_
  simp only [Oper.wp, h a.eval w (some d) pos aft _ (fun _ _ => ha.ev) hw.has, Oper.upon]
  exact k hr _ _ (ha.put hlt v) hw
/-- Its guard does not hold: it is passed by. -/
theorem o_gn {op : Op} {j : Nat} (t : Nat) {b c : Bool} (hj : (ops[j]?).bind (·.dst) = some t) (hb : look l t = some (.bool b)) (hne : b = !c) (k : ExO P sz B ops Q rest ((d, undef) :: l) H O) :
    ExO P sz B ops Q (⟨some d, op, ty, pos, aft, some (j, c)⟩ :: rest) l H O := by
  intro hd a w ha hw
  obtain ⟨hlt, hr⟩ := dst_lt hd rfl
  unfold wpList
  rw [if_neg (by subst hne; cases c <;> simp [Region.wanted, yielded_of ha hj hb])]
  exact k hr _ _ (ha.put hlt undef) hw

theorem map_ev {ρ : Operand → Value} (ha : ∀ x v, ev l x = some v → ρ x = v) : ∀ {xs : List Operand} {vs : List Value}, xs.mapM (ev l) = some vs → xs.map ρ = vs
  | [], vs, h => by simp at h; subst h; rfl
  | x :: xs, vs, h => by
    simp only [List.mapM_cons, bind, Option.bind_eq_some_iff, pure] at h
    obtain ⟨v, hv, us, hu, e⟩ := h
    have := Option.some.inj e
    subst this
    rw [List.map_cons, ha x v hv, map_ev ha hu]
/-! ### What only computes -/
theorem y_move {x : Operand} {v : Value} (h : ev l x = some v) : Yl P (.move x) ty l H O v := fun ρ w d pos aft g ha hw => by
  simp only [execOp, ha _ _ h]; rfl
theorem y_assign {x : Operand} {v : Value} (h : ev l x = some v) : Yl P (.assign x) ty l H O v := fun ρ w d pos aft g ha hw => by
  simp only [execOp, ha _ _ h]; rfl
theorem y_pick {c x y : Operand} {b : Bool} {v : Value} (hc : ev l c = some (.bool b)) (h : (bif b then ev l x else ev l y) = some v) : Yl P (.pick c x y) ty l H O v := fun ρ w d pos aft g ha hw => by
  cases b
  · simp only [execOp, ha _ _ hc, ha _ _ (show ev l y = some v from h)]; rfl
  · simp only [execOp, ha _ _ hc, ha _ _ (show ev l x = some v from h)]; rfl
theorem y_pickO {c y : Operand} {b b' : Bool} (hc : ev l c = some (.bool b)) (h : b = false → ev l y = some (.bool b')) : Yl P (.pick c (.const (.bool true)) y) ty l H O (.bool (b || b')) := by
  cases b
  · exact y_pick hc (by simpa using h rfl)
  · exact y_pick hc rfl
theorem y_not {x : Operand} {t : TypeId} {b : Bool} (h : ev l x = some (.bool b)) : Yl P (.unOp .not t x) ty l H O (.bool (!b)) := fun ρ w d pos aft g ha hw => by
  simp only [execOp, ha _ _ h]; rfl
theorem y_extract {x : Operand} {i : Nat} {vs : Array Value} {v : Value} (h : ev l x = some (.tuple vs)) (hv : vs[i]? = some v) : Yl P (.extract x i) ty l H O v := fun ρ w d pos aft g ha hw => by
  simp only [execOp, ha _ _ h, Instr.extract, hv]; rfl
theorem y_func {f : Fn} {xs ys : List Operand} {vs us : List Value} (h : xs.mapM (ev l) = some vs) (h' : ys.mapM (ev l) = some us) : Yl P (.makeFunc f xs.toArray ys.toArray) ty l H O (.func f vs.toArray us.toArray) := fun ρ w d pos aft g ha hw => by
  have e1 := map_ev ha h
  have e2 := map_ev ha h'
  simp only [execOp, List.map_toArray, e1, e2]; rfl
section ints
variable {op : BinOp} {t t' : TypeId} {x y : Operand} {k : IntKind} {m n : Int}
theorem y_add (hx : ev l x = some (.int k m)) (hy : ev l y = some (.int k n)) : Yl P (.binOp .add t x y t') ty l H O (.int k (k.wrap (m + n))) := fun ρ w d pos aft g ha hw => by
  simp only [execOp, ha _ _ hx, ha _ _ hy, binOp, ne_eq, not_true_eq_false, if_false]; rfl
theorem y_sub (hx : ev l x = some (.int k m)) (hy : ev l y = some (.int k n)) : Yl P (.binOp .sub t x y t') ty l H O (.int k (k.wrap (m - n))) := fun ρ w d pos aft g ha hw => by
  simp only [execOp, ha _ _ hx, ha _ _ hy, binOp, ne_eq, not_true_eq_false, if_false]; rfl
theorem y_mul (hx : ev l x = some (.int k m)) (hy : ev l y = some (.int k n)) : Yl P (.binOp .mul t x y t') ty l H O (.int k (k.wrap (m * n))) := fun ρ w d pos aft g ha hw => by
  simp only [execOp, ha _ _ hx, ha _ _ hy, binOp, ne_eq, not_true_eq_false, if_false]; rfl
theorem y_quo (hx : ev l x = some (.int k m)) (hy : ev l y = some (.int k n)) (h0 : n ≠ 0) : Yl P (.binOp .quo t x y t') ty l H O (.int k (k.wrap (m.tdiv n))) := fun ρ w d pos aft g ha hw => by
  simp only [execOp, ha _ _ hx, ha _ _ hy, binOp, Op.intDiv, ne_eq, not_true_eq_false, if_false, h0]; rfl
theorem y_rem (hx : ev l x = some (.int k m)) (hy : ev l y = some (.int k n)) (h0 : n ≠ 0) : Yl P (.binOp .rem t x y t') ty l H O (.int k (m.tmod n)) := fun ρ w d pos aft g ha hw => by
  simp only [execOp, ha _ _ hx, ha _ _ hy, binOp, Op.intDiv, ne_eq, not_true_eq_false, if_false, h0]; rfl
theorem y_eql (hx : ev l x = some (.int k m)) (hy : ev l y = some (.int k n)) : Yl P (.binOp .eql t x y t') ty l H O (.bool (decide (m = n))) := fun ρ w d pos aft g ha hw => by
  simp only [execOp, ha _ _ hx, ha _ _ hy, binOp, ne_eq, not_true_eq_false, if_false]; rfl
theorem y_neq (hx : ev l x = some (.int k m)) (hy : ev l y = some (.int k n)) : Yl P (.binOp .neq t x y t') ty l H O (.bool (!decide (m = n))) := fun ρ w d pos aft g ha hw => by
  simp only [execOp, ha _ _ hx, ha _ _ hy, binOp, ne_eq, not_true_eq_false, if_false]; rfl
theorem y_lss (hx : ev l x = some (.int k m)) (hy : ev l y = some (.int k n)) : Yl P (.binOp .lss t x y t') ty l H O (.bool (decide (m < n))) := fun ρ w d pos aft g ha hw => by
  simp only [execOp, ha _ _ hx, ha _ _ hy, binOp, ne_eq, not_true_eq_false, if_false]; rfl
theorem y_leq (hx : ev l x = some (.int k m)) (hy : ev l y = some (.int k n)) : Yl P (.binOp .leq t x y t') ty l H O (.bool (decide (m ≤ n))) := fun ρ w d pos aft g ha hw => by
  simp only [execOp, ha _ _ hx, ha _ _ hy, binOp, ne_eq, not_true_eq_false, if_false]; rfl
theorem y_gtr (hx : ev l x = some (.int k m)) (hy : ev l y = some (.int k n)) : Yl P (.binOp .gtr t x y t') ty l H O (.bool (decide (n < m))) := fun ρ w d pos aft g ha hw => by
  simp only [execOp, ha _ _ hx, ha _ _ hy, binOp, ne_eq, not_true_eq_false, if_false]; rfl
theorem y_geq (hx : ev l x = some (.int k m)) (hy : ev l y = some (.int k n)) : Yl P (.binOp .geq t x y t') ty l H O (.bool (decide (n ≤ m))) := fun ρ w d pos aft g ha hw => by
  simp only [execOp, ha _ _ hx, ha _ _ hy, binOp, ne_eq, not_true_eq_false, if_false]; rfl
end ints
theorem run_underlying {P : Program} {t : TypeId} {D : TypeDesc} (h : P.underlying t = some D) (w : World) : (underlying t).run P w = .ok D w := by
  show (Sem.bind program _).run P w = _
  simp only [program, Sem.bind, Sem.run, h]
  rfl
theorem run_bind {α β : Type} {P : Program} {e : Sem α} {f : α → Sem β} {w w' : World} {x : α} (h : e.run P w = .ok x w') : (e >>= f).run P w = (f x).run P w' := by
  simp [h, go_sem]
theorem run_beq {P : Program} {t : TypeId} {b c : Bool} (hT : P.underlying t = some .bool) (w : World) : (Op.equal t (.bool b) (.bool c)).run P w = .ok (b == c) w := by
  show (Op.equalIn (9999 + 1) t (.bool b) (.bool c)).run P w = _
  unfold Op.equalIn
  rw [run_bind (run_underlying hT w)]
  rfl
theorem y_beql {t t' : TypeId} {x y : Operand} {b c : Bool} (hT : P.underlying t = some .bool) (hx : ev l x = some (.bool b)) (hy : ev l y = some (.bool c)) : Yl P (.binOp .eql t x y t') ty l H O (.bool (b == c)) := fun ρ w d pos aft g ha hw => by
  simp only [execOp, ha _ _ hx, ha _ _ hy]
  show ((do let v ← (do let r ← Op.equal t (.bool b) (.bool c); pure (Value.bool r)); pure (Next.value v)) : Sem Next).run P w = _
  rw [run_bind (x := .bool (b == c)) (w' := w)]
  · rfl
  · rw [run_bind (run_beq hT w)]; rfl
theorem y_bneq {t t' : TypeId} {x y : Operand} {b c : Bool} (hT : P.underlying t = some .bool) (hx : ev l x = some (.bool b)) (hy : ev l y = some (.bool c)) : Yl P (.binOp .neq t x y t') ty l H O (.bool (!(b == c))) := fun ρ w d pos aft g ha hw => by
  simp only [execOp, ha _ _ hx, ha _ _ hy]
  show ((do let v ← (do let r ← Op.equal t (.bool b) (.bool c); pure (Value.bool !r)); pure (Next.value v)) : Sem Next).run P w = _
  rw [run_bind (x := .bool (!(b == c))) (w' := w)]
  · rfl
  · rw [run_bind (run_beq hT w)]; rfl

/-! ### Sums that fit -/
theorem wrap_id {z : Int} (h1 : -9223372036854775808 ≤ z) (h2 : z ≤ 9223372036854775807) : IntKind.i64.wrap z = z := by
  have : IntKind.i64.wrap z = (if z % 18446744073709551616 ≥ 9223372036854775808 then z % 18446744073709551616 - 18446744073709551616 else z % 18446744073709551616) := by
    simp [IntKind.wrap, IntKind.signed, IntKind.bits]
  rw [this]
  split <;> omega
section ints2
variable {t t' : TypeId} {x y : Operand} {m n : Int}
theorem y_addN (hx : ev l x = some (.int .i64 m)) (hy : ev l y = some (.int .i64 n)) (h1 : -9223372036854775808 ≤ m + n) (h2 : m + n ≤ 9223372036854775807) : Yl P (.binOp .add t x y t') ty l H O (.int .i64 (m + n)) := by
  have := y_add (P := P) (t := t) (t' := t') (ty := ty) (H := H) (O := O) hx hy
  rwa [wrap_id h1 h2] at this
theorem y_subN (hx : ev l x = some (.int .i64 m)) (hy : ev l y = some (.int .i64 n)) (h1 : -9223372036854775808 ≤ m - n) (h2 : m - n ≤ 9223372036854775807) : Yl P (.binOp .sub t x y t') ty l H O (.int .i64 (m - n)) := by
  have := y_sub (P := P) (t := t) (t' := t') (ty := ty) (H := H) (O := O) hx hy
  rwa [wrap_id h1 h2] at this
theorem y_mulN (hx : ev l x = some (.int .i64 m)) (hy : ev l y = some (.int .i64 n)) (h1 : -9223372036854775808 ≤ m * n) (h2 : m * n ≤ 9223372036854775807) : Yl P (.binOp .mul t x y t') ty l H O (.int .i64 (m * n)) := by
  have := y_mul (P := P) (t := t) (t' := t') (ty := ty) (H := H) (O := O) hx hy
  rwa [wrap_id h1 h2] at this
/-- Of numbers from 0 on Go's division is Lean's own. -/
theorem y_quoN (hx : ev l x = some (.int .i64 m)) (hy : ev l y = some (.int .i64 n)) (h0 : 0 ≤ m) (h1 : 0 < n) (h2 : m ≤ 9223372036854775807) : Yl P (.binOp .quo t x y t') ty l H O (.int .i64 (m / n)) := by
  have := y_quo (P := P) (t := t) (t' := t') (ty := ty) (H := H) (O := O) hx hy (by omega)
  have e : m.tdiv n = m / n := Int.tdiv_eq_ediv_of_nonneg h0
  have hd : m / n ≤ m := Int.ediv_le_self n h0
  have hp : 0 ≤ m / n := Int.ediv_nonneg h0 (by omega)
  rwa [e, wrap_id (by omega) (by omega)] at this
theorem y_remN (hx : ev l x = some (.int .i64 m)) (hy : ev l y = some (.int .i64 n)) (h0 : 0 ≤ m) (h1 : 0 < n) : Yl P (.binOp .rem t x y t') ty l H O (.int .i64 (m % n)) := by
  have := y_rem (P := P) (t := t) (t' := t') (ty := ty) (H := H) (O := O) hx hy (by omega)
  rwa [Int.tmod_eq_emod_of_nonneg h0] at this
end ints2
end

/-! ### Types -/
/-- What is used of a type. -/
structure TI (P : Program) (t : TypeId) (agg : Bool) (sz bytes : Nat) (z : Value) : Prop where
  info : (P.info? t).map (fun i => (i.zero, i.size, i.bytes)) = some (some z, sz, bytes)
  agg : (P.underlying t).map (fun d => match d with | .struct _ | .array _ _ => true | _ => false) = some agg
/-- What is used of a struct's field. -/
def Fld (P : Program) (s k off ft : Nat) : Prop := ∃ fs f, P.underlying s = some (.struct fs) ∧ fs[k]? = some f ∧ f.offset = off ∧ f.type = ft
def vcells (agg : Bool) (v : Value) : List Value := v.cells.toList
/-- A value out of its cells. -/
def ofCells : Bool → List Value → Value
  | true, cs => .agg cs.toArray
  | false, [v] => v
  | false, _ => undef
end Go.Ph
