/- Bits, conversions, arrays of the program's own, maps from numbers to numbers. -/
import Derived.Test.YtmgnagpgnoikfaaDoorBase7
set_option linter.unusedVariables false
set_option linter.unusedSimpArgs false
namespace Go.Ph
open Go.RowKit

/-! ### short names for what tests say -/
theorem k1 {p : Prop} [Decidable p] : (decide p = true) = p := decide_eq_true_eq
theorem k2 {p : Prop} [Decidable p] : (decide p = false) = ¬p := by simp
theorem k3 {b : Bool} : ((!b) = true) = (b = false) := by simp
theorem k4 {b : Bool} : ((!b) = false) = (b = true) := by simp
theorem k5 {a b : Bool} : ((a || b) = true) = (a = true ∨ b = true) := by simp
theorem k6 {a b : Bool} : ((a && b) = true) = (a = true ∧ b = true) := by simp
theorem k7 {a b : Bool} : ((a || b) = false) = (a = false ∧ b = false) := by simp
theorem k8 {a b : Int} : (¬ a < b) = (b ≤ a) := by simp
theorem k9 {a b : Int} : (¬ a ≤ b) = (b < a) := by simp

section
variable {P : Program} {sz : Nat} {B : World} {Q : EQ} {l : Env} {H : HM} {O : OL} {ops : Array Oper} {rest : List Oper} {ty : TypeId} {pos : String} {aft : Array Edge} {d : Nat}
def ibit (op : BinOp) (k : IntKind) (m n : Int) : Int := k.wrap (match op with
  | .and => (BitVec.ofInt k.bits m &&& BitVec.ofInt k.bits n).toNat
  | .or => (BitVec.ofInt k.bits m ||| BitVec.ofInt k.bits n).toNat
  | .xor => (BitVec.ofInt k.bits m ^^^ BitVec.ofInt k.bits n).toNat
  | _ => (BitVec.ofInt k.bits m &&& ~~~ BitVec.ofInt k.bits n).toNat)
def ishl (k : IntKind) (m n : Int) : Int := k.wrap (m * 2 ^ (min n.toNat k.bits))
def ishr (k : IntKind) (m n : Int) : Int := m.fdiv (2 ^ (min n.toNat k.bits))
section ints
variable {t t' : TypeId} {x y : Operand} {k k' : IntKind} {m n : Int}
theorem y_and (hx : ev l x = some (.int k m)) (hy : ev l y = some (.int k n)) : Yl P (.binOp .and t x y t') ty l H O (.int k (ibit .and k m n)) := fun ρ w d pos aft g ha hw => by
  simp only [execOp, ha _ _ hx, ha _ _ hy, binOp, ne_eq, not_true_eq_false, if_false]; rfl
theorem y_or (hx : ev l x = some (.int k m)) (hy : ev l y = some (.int k n)) : Yl P (.binOp .or t x y t') ty l H O (.int k (ibit .or k m n)) := fun ρ w d pos aft g ha hw => by
  simp only [execOp, ha _ _ hx, ha _ _ hy, binOp, ne_eq, not_true_eq_false, if_false]; rfl
theorem y_xor2 (hx : ev l x = some (.int k m)) (hy : ev l y = some (.int k n)) : Yl P (.binOp .xor t x y t') ty l H O (.int k (ibit .xor k m n)) := fun ρ w d pos aft g ha hw => by
  simp only [execOp, ha _ _ hx, ha _ _ hy, binOp, ne_eq, not_true_eq_false, if_false]; rfl
theorem y_andNot (hx : ev l x = some (.int k m)) (hy : ev l y = some (.int k n)) : Yl P (.binOp .andNot t x y t') ty l H O (.int k (ibit .andNot k m n)) := fun ρ w d pos aft g ha hw => by
  simp only [execOp, ha _ _ hx, ha _ _ hy, binOp, ne_eq, not_true_eq_false, if_false]; rfl
theorem y_xor (hx : ev l x = some (.int k m)) : Yl P (.unOp .xor t x) ty l H O (.int k (ibit .xor k (if k.signed then -1 else k.max) m)) := fun ρ w d pos aft g ha hw => by
  simp only [execOp, ha _ _ hx]; rfl
theorem y_neg (hx : ev l x = some (.int k m)) : Yl P (.unOp .neg t x) ty l H O (.int k (k.wrap (0 - m))) := fun ρ w d pos aft g ha hw => by
  simp only [execOp, ha _ _ hx]; rfl
theorem y_shl (hx : ev l x = some (.int k m)) (hy : ev l y = some (.int k' n)) (h0 : 0 ≤ n) : Yl P (.binOp .shl t x y t') ty l H O (.int k (ishl k m n)) := fun ρ w d pos aft g ha hw => by
  have : ¬ n < 0 := by omega
  simp only [execOp, ha _ _ hx, ha _ _ hy, binOp, Op.shift, this, if_false]; rfl
theorem y_shr (hx : ev l x = some (.int k m)) (hy : ev l y = some (.int k' n)) (h0 : 0 ≤ n) : Yl P (.binOp .shr t x y t') ty l H O (.int k (ishr k m n)) := fun ρ w d pos aft g ha hw => by
  have : ¬ n < 0 := by omega
  simp only [execOp, ha _ _ hx, ha _ _ hy, binOp, Op.shift, this, if_false]; rfl
theorem y_conv {t1 t2 : TypeId} {k1 : IntKind} (h1 : P.underlying t1 = some (.int k1)) (h2 : P.underlying t2 = some (.int k')) (hx : ev l x = some (.int k m)) : Yl P (.convert t1 t2 x) ty l H O (.int k' (k'.wrap m)) := fun ρ w d pos aft g ha hw => by
  simp only [execOp, ha _ _ hx, convert, Sem.run_bind, Go.run_underlying (P := P) h1, Go.run_underlying (P := P) h2, Result.andThen_ok]
  rfl
end ints
/-- An array's element, the array at an address. -/
theorem y_idxArr {t e N : Nat} {x y : Operand} {agg : Bool} {es bytes b o : Nat} {z : Value} {i : Int} {k : IntKind} (ht : P.underlying t = some (.array N e)) (ti : TI P e agg es bytes z)
    (hx : ev l x = some (.pointer (some ⟨b, o, none⟩))) (hy : ev l y = some (.int k i)) (h0 : 0 ≤ i) (h1 : i < N) : Yl P (.indexAddr t x y) ty l H O (.pointer (some ⟨b, o + i.toNat * es, none⟩)) := fun ρ w d pos aft g ha hw => by
  simp [execOp, ha _ _ hx, ha _ _ hy, Instr.indexAt, asIntOf, Go.run_underlying (P := P) ht, run_sizeOf ti, h0, h1, add_pl, Instr.sureAddr]
/-- One cell of what nobody writes. -/
theorem y_loadH {t : TypeId} {x : Operand} {bytes : Nat} {z : Value} {b o : Nat} {C : Array Value} {T : TypeId} {fr : Nat × Nat} {u : Value} (ti : TI P t false 1 bytes z) (hx : ev l x = some (.pointer (some ⟨b, o, none⟩))) (hH : H b = some (.cells C T fr)) (hu : C[o]? = some u) :
    Yl P (.load t x) ty l H O u :=
  y_load (cs := [u]) ti hx (At.ofH hH fun j v hv => by
    match j, hv with
    | 0, hv => simp at hv; subst hv; simpa using hu
    | j + 1, hv => simp at hv) rfl (fun _ => rfl)

/-! ### Maps from numbers to numbers -/
/-- A block is a map that gives f k (0 where there is nothing). -/
def MapF (o : Obj) (f : Int → Int) : Prop := ∃ es clock, o = .map es clock ∧ (∀ e ∈ es.toList, ∃ k v, e.key = .int .i64 k ∧ e.val = .int .i64 v) ∧
  ∀ k, ∃ r, Instr.findNow (.int .i64) (.int .i64 k) es.toList 0 = some r ∧ (r.map (·.2)).getD (.int .i64 0) = .int .i64 (f k)
theorem MapF.empty : MapF (.map #[] 0) (fun _ => 0) := ⟨#[], 0, rfl, by simp, fun k => ⟨none, rfl, rfl⟩⟩
theorem run_checkKey {t : TypeId} (h : P.underlying t = some (.int .i64)) (b : Bool) (k : Int) (w : World) : (Instr.checkKey b 10000 t (.int .i64 k)).run P w = .ok () w := by
  show (Instr.checkKey b (9999 + 1) t (.int .i64 k)).run P w = _
  unfold Instr.checkKey
  simp only [Sem.run_bind, Go.run_underlying (P := P) h, Result.andThen_ok]
  rfl
theorem run_findKey {t : TypeId} (h : P.underlying t = some (.int .i64)) {k : Int} {es : List MapEntry} {r : Option (Nat × Value)} (hr : Instr.findNow (.int .i64) (.int .i64 k) es 0 = some r) (w : World) : (Instr.findKey t (.int .i64 k) es).run P w = .ok r w := by
  unfold Instr.findKey
  simp only [Sem.run_bind, Go.run_underlying (P := P) h, Result.andThen_ok, hr]
  rfl
theorem y_lookup {t kt et : TypeId} {x y : Operand} {bytes r : Nat} {o : Obj} {f : Int → Int} {k : Int} (ht : P.underlying t = some (.map kt et)) (hk : P.underlying kt = some (.int .i64)) (ti : TI P et false 1 bytes (.int .i64 0)) (hm : MapF o f)
    (hx : ev l x = some (.map (some r))) (hy : ev l y = some (.int .i64 k)) (hi : In O r o) : Yl P (.lookup t x y false) ty l H O (.int .i64 (f k)) := fun ρ w d pos aft g ha hw => by
  obtain ⟨es, clock, rfl, _, hf⟩ := hm
  have hg := hw.own _ _ hi.mem
  have e1 : (getObj r).run P w = .ok (.map es clock) w := by simp [getObj, Sem.run, hg]
  obtain ⟨q, h1, h2⟩ := hf k
  simp only [execOp, ha _ _ hx, ha _ _ hy, Instr.lookup, Sem.run_bind, Go.run_underlying (P := P) ht, Result.andThen_ok, e1, Sem.run_pure, run_checkKey hk, run_findKey hk h1]
  cases q with
  | none => simp [run_zero ti] at h2 ⊢; rw [← h2]
  | some p => simp at h2 ⊢; exact h2
theorem o_makeMap {t : TypeId} (k : ∀ r, ExO P sz B ops Q rest ((d, .map (some r)) :: l) H ((r, .map #[] 0) :: O)) : ExO P sz B ops Q (⟨some d, .makeMap t none, ty, pos, aft, none⟩ :: rest) l H O := by
  intro hd a w ha hw
  obtain ⟨hlt, hr⟩ := dst_lt hd rfl
  refine wpList_plain rfl fun K hK => ?_
  simp only [Oper.wp, execOp, Option.map_none, Instr.makeMap, Sem.run_bind, run_newObj, Sem.run_pure, Result.andThen_ok, Oper.upon]
  exact hK _ _ (k _ hr _ _ (ha.put hlt _) (hw.alloc _))
theorem findNow_cons {k kx : Int} {x : MapEntry} (hx : x.key = .int .i64 kx) (es : List MapEntry) (i : Nat) :
    Instr.findNow (.int .i64) (.int .i64 k) (x :: es) i = if k = kx then some (some (i, x.val)) else Instr.findNow (.int .i64) (.int .i64 k) es (i + 1) := by
  simp only [Instr.findNow, hx, Instr.sameNow, if_true]
  by_cases h : k = kx
  · subst h; simp
  · have : (k == kx) = false := by simpa using h
    rw [if_neg h, this]
theorem findNow_push (k j : Int) (v : Value) (e : MapEntry) (hk : e.key = .int .i64 j) : ∀ (es : List MapEntry), (∀ e ∈ es, ∃ k v, e.key = .int .i64 k ∧ e.val = .int .i64 v) → ∀ (i : Nat) (r : Option (Nat × Value)), Instr.findNow (.int .i64) (.int .i64 k) es i = some r →
    Instr.findNow (.int .i64) (.int .i64 k) (es ++ [e]) i = some (match r with | some p => some p | none => if k = j then some (i + es.length, e.val) else none)
  | [], _, i, r, h => by
    simp [Instr.findNow] at h
    subst h
    rw [List.nil_append, findNow_cons hk]
    by_cases hkj : k = j <;> simp [hkj, Instr.findNow]
  | x :: es, hall, i, r, h => by
    obtain ⟨kx, vx, hkx, hvx⟩ := hall x (by simp)
    rw [List.cons_append, findNow_cons hkx]
    rw [findNow_cons hkx] at h
    by_cases hkk : k = kx
    · rw [if_pos hkk] at h ⊢; rw [← Option.some.inj h]
    · rw [if_neg hkk] at h ⊢
      rw [findNow_push k j v e hk es (fun e he => hall e (by simp [he])) (i + 1) r h]
      cases r with
      | some p => rfl
      | none => simp [Nat.add_comm 1, Nat.add_assoc]
theorem findNow_at {k : Int} : ∀ (es : List MapEntry) (i q : Nat) (u : Value), (∀ e ∈ es, ∃ k v, e.key = .int .i64 k ∧ e.val = .int .i64 v) → Instr.findNow (.int .i64) (.int .i64 k) es i = some (some (q, u)) → ∃ m e, q = i + m ∧ es[m]? = some e ∧ e.key = .int .i64 k ∧
    (∀ j v, Instr.findNow (.int .i64) (.int .i64 j) (es.modify m fun e => { e with val := v }) i = (if j = k then some (some (q, v)) else Instr.findNow (.int .i64) (.int .i64 j) es i))
  | [], i, q, u, _, h => by simp [Instr.findNow] at h
  | x :: es, i, q, u, hall, h => by
    obtain ⟨kx, vx, hkx, hvx⟩ := hall x (by simp)
    rw [findNow_cons hkx] at h
    by_cases hk : k = kx
    · subst hk
      simp at h
      obtain ⟨rfl, _⟩ := h
      refine ⟨0, x, rfl, rfl, hkx, fun j v => ?_⟩
      rw [List.modify_zero_cons, findNow_cons (x := { x with val := v }) (kx := k) hkx, findNow_cons hkx]
      by_cases hj : j = k <;> simp [hj]
    · rw [if_neg hk] at h
      obtain ⟨m, e, rfl, h2, h3, h4⟩ := findNow_at es (i + 1) q u (fun e he => hall e (by simp [he])) h
      refine ⟨m + 1, e, by omega, by simpa using h2, h3, fun j v => ?_⟩
      rw [List.modify_succ_cons, findNow_cons hkx, findNow_cons hkx, h4]
      by_cases hj : j = kx
      · have : ¬ j = k := fun e => hk (e ▸ hj)
        simp [hj]
        intro e; exact absurd e.symm hk
      · simp [hj]
theorem o_mapUpdate {t kt et : TypeId} {x y z : Operand} {r : Nat} {o : Obj} {f : Int → Int} {k v : Int} {F : OL → OL} (ht : P.underlying t = some (.map kt et)) (hk : P.underlying kt = some (.int .i64)) (hm : MapF o f)
    (hx : ev l x = some (.map (some r))) (hy : ev l y = some (.int .i64 k)) (hz : ev l z = some (.int .i64 v)) (hF : Hole O [(r, o)] F)
    (kk : ∀ o', MapF o' (fun j => if j = k then v else f j) → ExO P sz B ops Q rest l H (F [(r, o')])) : ExO P sz B ops Q (⟨none, .mapUpdate t x y z, ty, pos, aft, none⟩ :: rest) l H O := by
  intro hd a w ha hw
  simp only [List.all_cons, Bool.and_eq_true] at hd
  refine wpList_plain rfl fun K hK => ?_
  obtain ⟨A, C, rfl, hF'⟩ := hF.split
  obtain ⟨es, clock, rfl, hall, hf⟩ := hm
  have hg := (hw.own r (.map es clock) (by simp)).1
  have hlt : r < w.heap.size := (Array.getElem?_eq_some_iff.1 hg).1
  have e1 : (getObj r).run P w = .ok (.map es clock) w := by simp [getObj, Sem.run, hg]
  have e2 : ∀ o', (setObj r o').run P w = .ok () { w with heap := w.heap.setIfInBounds r o' } := fun o' => by simp [setObj, Sem.run, hg]
  have fit : ∀ o', Fits B H (F [(r, o')]) { w with heap := w.heap.setIfInBounds r o' } := fun o' => by rw [hF']; exact hw.turn o'
  obtain ⟨q, h1, h2⟩ := hf k
  cases q with
  | none =>
    have hm' : MapF (.map (es.push { key := .int .i64 k, val := .int .i64 v, born := clock }) (clock + 1)) (fun j => if j = k then v else f j) := by
      refine ⟨_, _, rfl, fun e he => ?_, fun j => ?_⟩
      · simp only [Array.toList_push, List.mem_append, List.mem_singleton] at he
        rcases he with he | rfl
        · exact hall e he
        · exact ⟨k, v, rfl, rfl⟩
      · obtain ⟨qj, h3, h4⟩ := hf j
        rw [Array.toList_push]
        refine ⟨_, findNow_push j k (.int .i64 v) _ rfl es.toList hall 0 qj h3, ?_⟩
        by_cases hj : j = k
        · subst hj
          rw [h3] at h1
          have := Option.some.inj h1
          subst this
          simp
        · cases qj with
          | none => simp [hj] at h4 ⊢; exact h4
          | some p => simpa [hj] using h4
    simp only [Oper.wp, execOp, ha.ev hx, ha.ev hy, ha.ev hz, Instr.mapUpdate, Sem.run_bind, Go.run_underlying (P := P) ht, Result.andThen_ok, e1, run_checkKey hk, run_findKey hk h1, e2, Sem.run_pure, Oper.upon]
    exact hK _ _ (kk _ hm' hd.2 _ _ ha (fit _))
  | some p =>
    obtain ⟨q, u⟩ := p
    obtain ⟨m, e, rfl, h5, h6, h7⟩ := findNow_at es.toList 0 q u hall h1
    simp only [Nat.zero_add] at h1 h7
    have e5 : es[m]? = some e := by simpa using h5
    have e6 : (Instr.keyThatStays (((es[m]?).map (·.key)).getD (.int .i64 k)) (.int .i64 k)).run P w = .ok (.int .i64 k) w := by
      simp [e5, h6, Instr.keyThatStays, Instr.sameBits]
    have hes : es.modify m (fun e => { e with key := .int .i64 k, val := .int .i64 v }) = es.modify m (fun e => { e with val := .int .i64 v }) := by
      apply Array.ext'
      simp only [Array.toList_modify]
      apply List.ext_getElem?
      intro i
      rw [List.getElem?_modify, List.getElem?_modify]
      by_cases him : m = i
      · subst him; simp [h5, h6]
      · simp [him]
    have hm' : MapF (.map (es.modify m (fun e => { e with val := .int .i64 v })) clock) (fun j => if j = k then v else f j) := by
      refine ⟨_, _, rfl, fun e' he => ?_, fun j => ?_⟩
      · rw [Array.toList_modify] at he
        obtain ⟨i, hi⟩ := List.getElem?_of_mem he
        rw [List.getElem?_modify] at hi
        cases hx2 : es.toList[i]? with
        | none => rw [hx2] at hi; simp at hi
        | some e2 =>
          obtain ⟨k2, v2, h8, h9⟩ := hall e2 (List.mem_of_getElem? hx2)
          rw [hx2] at hi
          by_cases him : m = i
          · simp [him] at hi; subst hi; exact ⟨k2, v, h8, rfl⟩
          · simp [him] at hi; subst hi; exact ⟨k2, v2, h8, h9⟩
      · rw [Array.toList_modify, h7]
        by_cases hj : j = k
        · simp [hj]
        · obtain ⟨qj, h3, h4⟩ := hf j
          simp [hj, h3, h4]
    simp only [Oper.wp, execOp, ha.ev hx, ha.ev hy, ha.ev hz, Instr.mapUpdate, Sem.run_bind, Go.run_underlying (P := P) ht, Result.andThen_ok, e1, run_checkKey hk, run_findKey hk h1, Nat.zero_add, e6, hes, e2, Sem.run_pure, Oper.upon]
    exact hK _ _ (kk _ hm' hd.2 _ _ ha (fit _))
end
end Go.Ph
