/- Whole slices; nil; slices that are made empty. -/
import Derived.Test.YtmgnagpgnoikfaaDoorBase9
set_option linter.unusedVariables false
set_option linter.unusedSimpArgs false
namespace Go.Ph
open Go.RowKit
section
variable {P : Program} {sz : Nat} {B : World} {Q : EQ} {l : Env} {H : HM} {O : OL} {ops : Array Oper} {rest : List Oper} {ty : TypeId} {pos : String} {aft : Array Edge} {d : Nat}
theorem run_eqNil {t e n c : Nat} {p : Option Addr} (ht : P.underlying t = some (.slice e)) (w : World) : (Op.equal t (.slice p n c) (.slice none 0 0)).run P w = .ok p.isNone w := by
  show (Op.equalIn (9999 + 1) t (.slice p n c) (.slice none 0 0)).run P w = _
  unfold Op.equalIn
  simp only [Sem.run_bind, Go.run_underlying (P := P) ht, Result.andThen_ok]
  cases p <;> rfl
theorem y_eqNil {t t' e n c : Nat} {p : Option Addr} {x y : Operand} (ht : P.underlying t = some (.slice e)) (hx : ev l x = some (.slice p n c)) (hy : ev l y = some (.slice none 0 0)) : Yl P (.binOp .eql t x y t') ty l H O (.bool p.isNone) := fun ρ w d pos aft g ha hw => by
  simp only [execOp, ha _ _ hx, ha _ _ hy]
  show ((do let v ← (do let r ← Op.equal t (.slice p n c) (.slice none 0 0); pure (Value.bool r)); pure (Next.value v)) : Sem Next).run P w = _
  simp only [Sem.run_bind, run_eqNil ht, Result.andThen_ok, Sem.run_pure]
theorem o_slice0 {t e es bytes : Nat} {agg : Bool} {z : Value} (ht : P.underlying t = some (.slice e)) (ti : TI P e agg es bytes z) (k : ∀ b, ExO P sz B ops Q rest ((d, .slice (some ⟨b, 0, none⟩) 0 0) :: l) H ((b, cl [] e) :: O)) :
    ExO P sz B ops Q (⟨some d, .buildSlice t 0 #[], ty, pos, aft, none⟩ :: rest) l H O := by
  intro hd a w ha hw
  obtain ⟨hlt, hr⟩ := dst_lt hd rfl
  refine wpList_plain rfl fun K hK => ?_
  have e1 : (execOp a.eval ⟨some d, .buildSlice t 0 #[], ty, pos, aft, none⟩).run P w = .ok (.value (.slice (some ⟨w.heap.size, 0, none⟩) 0 0)) { w with heap := w.heap.push (cl [] e) } := by
    simp [execOp, Instr.buildSlice, Go.run_underlying (P := P) ht, run_sizeOf ti, Instr.fill, newRow, cl, Array.range_zero']
  simp only [Oper.wp, e1, Oper.upon]
  exact hK _ _ (k _ hr _ _ (ha.put hlt _) (hw.alloc (cl [] e)))
theorem Row.made {b e es : Nat} : Row (.slice (some ⟨b, 0, none⟩) 0 0) 0 [] e es [(b, cl [] e)] := ⟨by simp, .inr ⟨b, 0, [], rfl, Nat.le_refl _, by simp, rfl⟩⟩
theorem At.all {b : Nat} {C : List Value} {T : TypeId} (h : In O b (cl C T)) : At H O b 0 C := At.ofO h fun j u hu => by simpa using hu
theorem At.append {b o : Nat} {cs ds : List Value} (h : At H O b o cs) (k : At H O b (o + cs.length) ds) : At H O b o (cs ++ ds) := fun w hw j u hu => by
  by_cases hj : j < cs.length
  · exact h w hw j u (by rwa [List.getElem?_append_left hj] at hu)
  · have := k w hw (j - cs.length) u (by rwa [List.getElem?_append_right (by omega)] at hu)
    rwa [show o + cs.length + (j - cs.length) = o + j by omega] at this
/-- All cells of a list that is read. -/
theorem RdL.all {α : Type} [Rep α] {v : Value} {xs : List α} (h : RdL H v xs) (O : OL) : ∃ news, El H news xs ∧ (xs ≠ [] → AtS H O v 0 news) := by
  obtain ⟨p, c, h1, h2, h3⟩ := h.h
  have key : ∀ (ys : List α) (k : Nat), xs.drop k = ys → ∃ news, El H news ys ∧ (ys ≠ [] → AtS H O v (k * Rep.sz α) news) := by
    intro ys
    induction ys with
    | nil => exact fun k _ => ⟨[], .n, fun e => absurd rfl e⟩
    | cons y ys ih =>
      intro k hk
      have hlt : k < xs.length := by
        rcases Nat.lt_or_ge k xs.length with h | h
        · exact h
        · rw [List.drop_eq_nil_of_le h] at hk; cases hk
      rw [List.drop_eq_getElem_cons hlt] at hk
      injection hk with e1 e2
      obtain ⟨cs, h4, h5⟩ := h3 k y (by rw [List.getElem?_eq_getElem hlt, e1])
      obtain ⟨news, h6, h7⟩ := ih (k + 1) e2
      refine ⟨cs ++ news, .c h5 h6, fun _ => ?_⟩
      have h4' := h4.ext (O := O) (Ext.refl H)
      obtain ⟨b, o, n, c', e3, h8⟩ := h4'
      refine ⟨b, o, n, c', e3, h8.append ?_⟩
      cases ys with
      | nil =>
        cases h6
        exact fun w hw j u hu => by simp at hu
      | cons z zs =>
        obtain ⟨b2, o2, n2, c2, e4, h9⟩ := h7 (by simp)
        rw [e3] at e4
        injection e4 with e5
        injection e5 with e5
        injection e5 with e6 e7
        subst e6; subst e7
        rw [Rep.len h5, show o + k * Rep.sz α + Rep.sz α = o + (k + 1) * Rep.sz α by rw [Nat.succ_mul]; omega]
        exact h9
  obtain ⟨news, h4, h5⟩ := key xs 0 (by simp)
  exact ⟨news, h4, fun e => by simpa using h5 e⟩
theorem El.nil_of {α : Type} [Rep α] {cs : List Value} (h : El H cs ([] : List α)) : cs = [] := by cases h; rfl
/-- append of all that another slice shows. -/
theorem o_appendL {α : Type} [Rep α] {t e es bytes n : Nat} {agg : Bool} {z v u : Value} {x y : Operand} {cs : List Value} {ys : List α} {R : OL} {F : OL → OL} (ht : P.underlying t = some (.slice e)) (ti : TI P e agg es bytes z) (hz : z.cells.size = es) (he : 0 < es) (hes : Rep.sz α = es)
    (hx : ev l x = some v) (hr : Row v n cs e es R) (hy : ev l y = some u) (hu : RdL H u ys) (hs : ∃ a n c, u = .slice (some a) n c) (hb : (n + ys.length) * bytes ≤ 140737488355328) (hm : n + ys.length ≤ 9223372036854775807)
    (hF : Hole O R F) (k : ∀ v' R' news, El H news ys → Row v' (n + ys.length) (cs ++ news) e es R' → ExO P sz B ops Q rest ((d, v') :: l) H (F R')) :
    ExO P sz B ops Q (⟨some d, .call ⟨.builtin .append, #[x, y], #[t, t]⟩, ty, pos, aft, none⟩ :: rest) l H O := by
  obtain ⟨news, h1, h2⟩ := hu.all O
  obtain ⟨a, n', c, rfl⟩ := hs
  obtain ⟨p, c', e1⟩ := hu.shape
  injection e1 with e2 e3 e4
  subst e3
  have hat : ∀ w, Has H O w → ∀ j u, news[j]? = some u → w.cell? (a.add j) = some u := by
    by_cases hn : ys = []
    · subst hn; rw [h1.nil_of]; exact fun w hw j u hu => by simp at hu
    · obtain ⟨b2, o2, n2, c2, e5, h3⟩ := h2 hn
      injection e5 with e5
      injection e5 with e5
      subst e5
      exact fun w hw j u hu => by rw [add_pl]; simpa using h3 w hw j u hu
  subst hes
  exact o_appendA ht ti hz he hx hr hy hat h1.len h1.one hb hm hF (fun v' R' h => k v' R' news h1 h)
end
end Go.Ph
