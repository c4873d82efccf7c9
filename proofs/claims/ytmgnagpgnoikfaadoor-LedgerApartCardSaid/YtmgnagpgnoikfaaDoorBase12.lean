/- Own blocks lent to be read; structs that are built. -/
import Derived.Test.YtmgnagpgnoikfaaDoorBase11
set_option linter.unusedVariables false
set_option linter.unusedSimpArgs false
namespace Go.Ph
open Go Go.RowKit
section
variable {P : Program} {sz : Nat} {B : World} {Q : EQ} {l : Env} {H : HM} {O : OL} {ops : Array Oper} {rest : List Oper} {ty : TypeId} {pos : String} {aft : Array Edge} {d : Nat}
/-- A callee that only reads may read blocks of one's own. -/
theorem CallsM.lend {f : FuncId} {args : Array Value} {X : Value} (S : OL) {A O' : OL} (hO : O = S ++ O') (h : (∀ b o, (b, o) ∈ S → H b = none) → Ext H (H.add S) → CallsM P f args B (H.add S) O' (Same X (H.add S) O')) : CallsM P f args B H O (Same X H O) := by
  subst hO
  intro w hw
  refine (h (fun b o hm => (hw.own b o (by simp [hm])).2) (Ext.add _ _) w hw.freeze).mono ?_
  rintro e w' ⟨v, H', O'', rfl, h2, rfl, rfl, rfl⟩
  exact ⟨_, H, S ++ O', rfl, hw.back h2, rfl, rfl, rfl⟩
def evs (l : Env) : List (Nat × Operand) → Option (List (Nat × Value))
  | [] => some []
  | (i, x) :: ps => match ev l x, evs l ps with
    | some v, some vs => some ((i, v) :: vs)
    | _, _ => none
theorem evs_ok {ps : List (Nat × Operand)} {vs : List (Nat × Value)} (h : evs l ps = some vs) : ∀ ρ : Operand → Value, (∀ x v, ev l x = some v → ρ x = v) → ps.map (fun p => (p.1, ρ p.2)) = vs := by
  induction ps generalizing vs with
  | nil => intro ρ hρ; cases h; rfl
  | cons p ps ih =>
    obtain ⟨i, x⟩ := p
    intro ρ hρ
    simp only [evs] at h
    split at h
    · rename_i v ws h1 h2
      cases h
      rw [List.map_cons, ih h2 ρ hρ, hρ _ _ h1]
    · cases h
theorem y_build {t : TypeId} {ps : List (Nat × Operand)} {C : Array Value} {vs : List (Nat × Value)} (hv : evs l ps = some vs)
    (hb : P.built t vs = some C) : Yl P (.build t ps.toArray) ty l H O (.agg C) := fun ρ w d pos aft g ha hw => by
  have e := evs_ok hv ρ ha
  have := run_build w t (vs.toArray) C hb
  simp only [execOp, List.map_toArray, Sem.run_bind]
  rw [show (ps.map fun x => (x.1, ρ x.2)) = vs from e, this]
  rfl
/-- What a struct built of parts comes to. -/
def BT (P : Program) (t : TypeId) (pl : List (Nat × Nat)) (z : Value) : Prop := ∀ vs, P.built t vs = Instr.fill (pl.toArray[·]?) z.cells vs
theorem y_buildS {t : TypeId} {pl : List (Nat × Nat)} {z : Value} {ps : List (Nat × Operand)} {C : List Value} {vs : List (Nat × Value)} (hb : BT P t pl z) (hv : evs l ps = some vs)
    (hf : Instr.fill (pl.toArray[·]?) z.cells vs = some C.toArray) : Yl P (.build t ps.toArray) ty l H O (.agg C.toArray) := y_build hv ((hb vs).trans hf)
theorem yielded_un {a : Act} (ha : Fr sz l a) {j t : Nat} (hj : (ops[j]?).bind (·.dst) = some t) (hb : look l t = some undef) : yielded ops a.tmps j = none := by
  have hv := ha.get t _ hb
  simp only [yielded, hj, Option.bind_some]
  rw [Array.getD_eq_getD_getElem?] at hv
  cases hx : a.tmps[t]? with
  | none => rfl
  | some y => rw [hx] at hv; simp at hv; subst hv; rfl
theorem o_gu {op : Op} {j : Nat} (t : Nat) {c : Bool} (hj : (ops[j]?).bind (·.dst) = some t) (hb : look l t = some undef) (k : ExO P sz B ops Q rest ((d, undef) :: l) H O) :
    ExO P sz B ops Q (⟨some d, op, ty, pos, aft, some (j, c)⟩ :: rest) l H O := by
  intro hd a w ha hw
  obtain ⟨hlt, hr⟩ := dst_lt hd rfl
  unfold wpList
  rw [if_neg (by simp [Region.wanted, yielded_un ha hj hb])]
  exact k hr _ _ (ha.put hlt undef) hw
theorem q_gu {K : Env → Prop} {op : Op} {j : Nat} (t : Nat) {c : Bool} (hj : (ops[j]?).bind (·.dst) = some t) (hb : look l t = some undef) (k : ExQ P sz B ops K rest ((d, undef) :: l) H O) :
    ExQ P sz B ops K (⟨some d, op, ty, pos, aft, some (j, c)⟩ :: rest) l H O := by
  intro hd a ha
  obtain ⟨hlt, hr⟩ := dst_lt hd rfl
  simp only [wpQuiet]
  rw [if_neg (by simp [Region.wanted, yielded_un ha hj hb])]
  exact k hr _ (ha.put hlt undef)
theorem p_takeU {H0 : HM} {O0 : OL} {T : List Nat} {plan : List (Nat × Bool)} {i : Nat} {op : Op} {j t : Nat} {c : Bool} (hi : ops[i]? = some ⟨some d, op, ty, pos, aft, some (j, c)⟩) (hd : Nat.blt d sz = true) (hj : (ops[j]?).bind (·.dst) = some t) (hb : look l t = some undef) (k : ExP P sz B ops Q H0 O0 T plan ((d, undef) :: l) H O) : ExP P sz B ops Q H0 O0 T ((i, true) :: plan) l H O :=
  ⟨_, undef, hi, fun a ha => .inr ⟨by simp [Region.wanted, yielded_un ha hj hb], rfl⟩, hd, by simp, k⟩
end
end Go.Ph
