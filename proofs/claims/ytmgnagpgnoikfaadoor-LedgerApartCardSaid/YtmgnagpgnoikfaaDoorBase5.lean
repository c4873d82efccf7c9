/- What memory reads as: numbers, structs, lists. -/
import Derived.Test.YtmgnagpgnoikfaaDoorBase4
set_option linter.unusedVariables false
set_option linter.unusedSimpArgs false
namespace Go.Ph
open Go.RowKit

def InR (n : Int) : Prop := -9223372036854775808 ≤ n ∧ n ≤ 9223372036854775807
/-- A kind of values: how many cells it takes, and what they read as. -/
class Rep (α : Type) where
  sz : Nat
  bytes : Nat
  bpos : 0 < bytes
  rd : HM → List Value → α → Prop
  len : ∀ {H : HM} {cs : List Value} {x : α}, rd H cs x → cs.length = sz
  one : ∀ {H : HM} {cs : List Value} {x : α}, rd H cs x → ones cs = true
  mono : ∀ {H H' : HM} {cs : List Value} {x : α}, Ext H H' → rd H cs x → rd H' cs x
instance : Rep Int where
  sz := 1
  bytes := 8
  bpos := by decide
  rd := fun _ cs n => cs = [.int .i64 n] ∧ InR n
  len := fun h => by rw [h.1]; rfl
  one := fun h => by rw [h.1]; rfl
  mono := fun _ h => h
instance : Rep Bool where
  sz := 1
  bytes := 1
  bpos := by decide
  rd := fun _ cs b => cs = [.bool b]
  len := fun h => by rw [h]; rfl
  one := fun h => by rw [h]; rfl
  mono := fun _ h => h
/-- A slice reads as a list. -/
structure RdL {α : Type} [Rep α] (H : HM) (v : Value) (xs : List α) : Prop where
  h : ∃ p c, v = .slice p xs.length c ∧ xs.length * Rep.bytes α ≤ 140737488351232 ∧ ∀ j x, xs[j]? = some x → ∃ cs, AtS H [] v (j * Rep.sz α) cs ∧ Rep.rd H cs x
theorem AtS.ext {H H' : HM} {O : OL} {v : Value} {k : Nat} {cs : List Value} (h : AtS H [] v k cs) (e : Ext H H') : AtS H' O v k cs := h.mono e (fun _ hm => by simp at hm)
theorem RdL.mono {α : Type} [Rep α] {H H' : HM} {v : Value} {xs : List α} (e : Ext H H') (h : RdL H v xs) : RdL H' v xs := by
  obtain ⟨p, c, h1, h2, h3⟩ := h.h
  refine ⟨p, c, h1, h2, fun j x hx => ?_⟩
  obtain ⟨cs, h4, h5⟩ := h3 j x hx
  exact ⟨cs, h4.ext e, Rep.mono e h5⟩
theorem RdL.shape {α : Type} [Rep α] {H : HM} {v : Value} {xs : List α} (h : RdL H v xs) : ∃ p c, v = .slice p xs.length c := by
  obtain ⟨p, c, h1, _⟩ := h.h; exact ⟨p, c, h1⟩
theorem RdL.small {α : Type} [Rep α] {H : HM} {v : Value} {xs : List α} (h : RdL H v xs) : xs.length * Rep.bytes α ≤ 140737488351232 := by
  obtain ⟨p, c, h1, h2, _⟩ := h.h; exact h2
theorem RdL.lenle {α : Type} [Rep α] {H : HM} {v : Value} {xs : List α} (h : RdL H v xs) : xs.length ≤ 140737488351232 :=
  Nat.le_trans (Nat.le_mul_of_pos_right _ (Rep.bpos (α := α))) h.small
theorem RdL.at {α : Type} [Rep α] {H : HM} {v : Value} {xs : List α} (h : RdL H v xs) (O : OL) (j : Nat) (hj : j < xs.length) : ∃ cs, AtS H O v (j * Rep.sz α) cs ∧ Rep.rd H cs (xs[j]'hj) := by
  obtain ⟨p, c, h1, _, h3⟩ := h.h
  obtain ⟨cs, h4, h5⟩ := h3 j _ (List.getElem?_eq_getElem hj)
  exact ⟨cs, h4.ext (Ext.refl H), h5⟩
theorem RdL.nil {α : Type} [Rep α] (H : HM) : RdL H (.slice none 0 0) ([] : List α) := ⟨none, 0, rfl, by simp, fun j x h => by simp at h⟩
theorem RdL.one {α : Type} [Rep α] {H : HM} {v : Value} {xs : List α} (h : RdL H v xs) : ones [v] = true := by
  obtain ⟨p, c, h1⟩ := h.shape; rw [h1]; rfl
theorem RdL.cells {α : Type} [Rep α] {H : HM} {v : Value} {xs : List α} (h : RdL H v xs) : v.cells.toList = [v] := by
  obtain ⟨p, c, h1⟩ := h.shape; rw [h1]; rfl
instance {α : Type} [Rep α] : Rep (List α) where
  sz := 1
  bytes := 24
  bpos := by decide
  rd := fun H cs xs => ∃ v, cs = [v] ∧ RdL H v xs
  len := fun ⟨v, h, _⟩ => by rw [h]; rfl
  one := fun ⟨v, h, h'⟩ => by rw [h]; exact h'.one
  mono := fun e ⟨v, h, h'⟩ => ⟨v, h, h'.mono e⟩
/-- Cells, element by element. -/
inductive El {α : Type} [Rep α] (H : HM) : List Value → List α → Prop where
  | n : El H [] []
  | c {cs : List Value} {x : α} {css : List Value} {xs : List α} (h : Rep.rd H cs x) (t : El H css xs) : El H (cs ++ css) (x :: xs)
theorem El.len {α : Type} [Rep α] {H : HM} {cs : List Value} {xs : List α} (h : El H cs xs) : cs.length = xs.length * Rep.sz α := by
  induction h with
  | n => simp
  | c h _ ih => rw [List.length_append, Rep.len h, ih, List.length_cons, Nat.succ_mul, Nat.add_comm]
theorem El.one {α : Type} [Rep α] {H : HM} {cs : List Value} {xs : List α} (h : El H cs xs) : ones cs = true := by
  induction h with
  | n => rfl
  | c h _ ih => simp only [ones, List.all_append] at ih ⊢; rw [ih, Bool.and_true]; exact Rep.one h
theorem El.mono {α : Type} [Rep α] {H H' : HM} {cs : List Value} {xs : List α} (e : Ext H H') (h : El H cs xs) : El H' cs xs := by
  induction h with
  | n => exact .n
  | c h _ ih => exact .c (Rep.mono e h) ih
theorem El.append {α : Type} [Rep α] {H : HM} {cs ds : List Value} {xs ys : List α} (h : El H cs xs) (k : El H ds ys) : El H (cs ++ ds) (xs ++ ys) := by
  induction h with
  | n => exact k
  | c h _ ih => rw [List.append_assoc, List.cons_append]; exact .c h ih
theorem El.one1 {α : Type} [Rep α] {H : HM} {cs : List Value} {x : α} (h : Rep.rd H cs x) : El H cs [x] := by
  have := El.c h El.n; simpa using this
theorem El.snoc {α : Type} [Rep α] {H : HM} {cs ds : List Value} {xs : List α} {x : α} (h : El H cs xs) (k : Rep.rd H ds x) : El H (cs ++ ds) (xs ++ [x]) := h.append (El.one1 k)
theorem El.get {α : Type} [Rep α] {H : HM} {cs : List Value} {xs : List α} (h : El H cs xs) : ∀ j x, xs[j]? = some x → ∃ ds, Rep.rd H ds x ∧ ∀ i u, ds[i]? = some u → cs[j * Rep.sz α + i]? = some u := by
  induction h with
  | n => intro j x h; simp at h
  | @c cs y css xs h t ih =>
    intro j x hj
    cases j with
    | zero =>
      simp only [List.getElem?_cons_zero, Option.some.injEq] at hj
      subst hj
      refine ⟨cs, h, fun i u hu => ?_⟩
      rw [Nat.zero_mul, Nat.zero_add, List.getElem?_append_left (List.getElem?_eq_some_iff.1 hu).1]; exact hu
    | succ j =>
      rw [List.getElem?_cons_succ] at hj
      obtain ⟨ds, h1, h2⟩ := ih j x hj
      refine ⟨ds, h1, fun i u hu => ?_⟩
      have e : (j + 1) * Rep.sz α + i = cs.length + (j * Rep.sz α + i) := by rw [Rep.len h, Nat.succ_mul]; omega
      rw [e, List.getElem?_append_right (by omega), Nat.add_sub_cancel_left]
      exact h2 i u hu
/-- A row that nobody writes any more reads as a list. -/
theorem Row.freeze {α : Type} [Rep α] {v : Value} {n : Nat} {cs : List Value} {e : Nat} {R : OL} {H : HM} {xs : List α} (h : Row v n cs e (Rep.sz α) R) (hn : n = xs.length) (he : El H cs xs) (hs : xs.length * Rep.bytes α ≤ 140737488351232)
    (hH : ∀ b o, (b, o) ∈ R → H b = none) : RdL (H.add R) v xs := by
  subst hn
  rcases h.form with ⟨rfl, h0, rfl⟩ | ⟨b, cap, sp, rfl, hc, hsp, rfl⟩
  · have : xs = [] := List.eq_nil_of_length_eq_zero h0
    subst this
    exact RdL.nil _
  · refine ⟨_, _, rfl, hs, fun j x hx => ?_⟩
    obtain ⟨ds, h1, h2⟩ := he.get j x hx
    refine ⟨ds, ⟨b, 0, _, _, rfl, ?_⟩, Rep.mono (Ext.add _ _) h1⟩
    refine At.ofH (C := (cs ++ sp).toArray) (T := e) (fr := (0, 0)) (HM.add_mem (by simp) (hH b _ (List.mem_singleton.2 rfl)) (List.mem_singleton.2 rfl)) (fun i u hu => ?_)
    have := h2 i u hu
    simp only [Nat.zero_add, List.getElem?_toArray]
    rw [List.getElem?_append_left (List.getElem?_eq_some_iff.1 this).1]
    exact this

section
variable {P : Program} {sz : Nat} {B : World} {Q : EQ} {l : Env} {H : HM} {O : OL} {ops : Array Oper} {rest : List Oper} {ty : TypeId} {pos : String} {aft : Array Edge} {d : Nat}
/-- Blocks that nobody will write any more. -/
theorem x_freeze {c : Code} {S O' : OL} (hO : ∃ A, O = A ++ (S ++ O')) (h : (∀ b o, (b, o) ∈ S → H b = none) → Ext H (H.add S) → ExC P sz B c Q l (H.add S) O') : ExC P sz B c Q l H O := by
  intro a w ha hw
  obtain ⟨A, rfl⟩ := hO
  have h1 : Fits B H (S ++ O') w := by
    have := hw.drop A.length
    simpa using this
  exact h (fun b o hm => (hw.own b o (by simp [hm])).2) (Ext.add H S) a w ha h1.freeze
theorem q_freeze {Q' : HM → OL → Prop} {S O' : OL} {w : World} (hw : Fits B H (S ++ O') w) (h : (∀ b o, (b, o) ∈ S → H b = none) → Ext H (H.add S) → Q' (H.add S) O') : ∃ H' O'', Fits B H' O'' w ∧ Q' H' O'' :=
  ⟨_, _, hw.freeze, h (fun b o hm => (hw.own b o (by simp [hm])).2) (Ext.add H S)⟩
theorem y_lenL {α : Type} [Rep α] {t e : Nat} {x : Operand} {v : Value} {xs : List α} (hr : RdL H v xs) (ht : P.underlying t = some (.slice e)) (hx : ev l x = some v) : Yl P (.call ⟨.builtin .len, #[x], #[t]⟩) ty l H O (.int .i64 xs.length) := by
  obtain ⟨p, c, rfl⟩ := hr.shape
  exact y_len ht hx
theorem y_lenR {t e n es e' : Nat} {x : Operand} {v : Value} {cs : List Value} {R : OL} (hr : Row v n cs e' es R) (ht : P.underlying t = some (.slice e)) (hx : ev l x = some v) : Yl P (.call ⟨.builtin .len, #[x], #[t]⟩) ty l H O (.int .i64 n) := by
  obtain ⟨p, c, rfl⟩ := hr.shape
  exact y_len ht hx
/-- The address of an element of a list that is read. -/
theorem y_idxL {α : Type} [Rep α] {t e : Nat} {x y : Operand} {agg : Bool} {es bytes : Nat} {z v : Value} {i : Int} {k : IntKind} {xs : List α} (hr : RdL H v xs) (j : Nat) (hj : j < xs.length) (ht : P.underlying t = some (.slice e)) (ti : TI P e agg es bytes z)
    (hx : ev l x = some v) (hy : ev l y = some (.int k i)) (hi : i = (j : Int)) : Yl P (.indexAddr t x y) ty l H O (ptrAt v (j * es)) := by
  obtain ⟨p, c, hv⟩ := hr.shape
  obtain ⟨cs, hs, _⟩ := hr.at O j hj
  have := y_indexAddr (ty := ty) (H := H) (O := O) ht ti hs.isSl hv hx hy (by omega) (by omega)
  rwa [show i.toNat = j by omega] at this
end
end Go.Ph
