/- Rows of one's own: their elements read and written. -/
import Derived.Test.YtmgnagpgnoikfaaDoorBase10
set_option linter.unusedVariables false
set_option linter.unusedSimpArgs false
namespace Go.Ph
open Go.RowKit
theorem Row.sl {v : Value} {n : Nat} {xs : List Value} {e es : Nat} {R : OL} (h : Row v n xs e es R) (hn : 0 < n) : isSl v := by
  rcases h.form with ⟨_, h0, _⟩ | ⟨b, cap, sp, rfl, _⟩
  · omega
  · exact ⟨_, _, _, _, rfl⟩
/-- Cells of a row, as they are read. -/
theorem Row.at {v : Value} {n : Nat} {xs ds : List Value} {e es k : Nat} {R O : OL} {H : HM} (h : Row v n xs e es R) (hO : ∀ p ∈ R, p ∈ O) (hn : 0 < n) (hd : ∀ i u, ds[i]? = some u → xs[k + i]? = some u) : AtS H O v k ds := by
  rcases h.form with ⟨_, h0, _⟩ | ⟨b, cap, sp, rfl, _, _, rfl⟩
  · omega
  · refine ⟨b, 0, _, _, rfl, fun w hw i u hu => ?_⟩
    have h1 := hw.own b (cl (xs ++ sp) e) (hO _ (by simp))
    have h2 := hd i u hu
    simp only [World.cell?, h1, cl, Nat.zero_add, List.getElem?_toArray]
    rw [List.getElem?_append_left (List.getElem?_eq_some_iff.1 h2).1, h2]
    rfl
theorem AtS.sub {H : HM} {R O : OL} {v : Value} {k : Nat} {cs : List Value} (h : AtS H R v k cs) (s : ∀ p ∈ R, p ∈ O) : AtS H O v k cs := h.mono (Ext.refl _) s
theorem putC_len {C u : List Value} {o : Nat} (h : o + u.length ≤ C.length) : (putC C o u).length = C.length := by
  simp only [putC, List.length_append, List.length_take, List.length_drop]; omega
theorem putC_append {C sp u : List Value} {o : Nat} (h : o + u.length ≤ C.length) : putC (C ++ sp) o u = putC C o u ++ sp := by
  simp only [putC]
  rw [List.take_append_of_le_length (by omega), List.drop_append_of_le_length h]
  simp
theorem putC_mid {A X D u : List Value} {j o : Nat} (hA : A.length = o) (hj : j + u.length ≤ X.length) : putC (A ++ X ++ D) (o + j) u = A ++ putC X j u ++ D := by
  subst hA
  simp only [putC]
  rw [List.append_assoc A X D, List.take_append, List.drop_append]
  simp only [show A.length + j - A.length = j by omega, show A.length + j + u.length - A.length = j + u.length by omega]
  rw [List.take_of_length_le (show A.length ≤ A.length + j by omega), List.drop_of_length_le (show A.length ≤ A.length + j + u.length by omega)]
  rw [List.take_append_of_le_length (by omega), List.drop_append_of_le_length hj]
  simp
theorem El.split {α : Type} [Rep α] {H : HM} {cs : List Value} {xs : List α} (h : El H cs xs) : ∀ k (hk : k < xs.length), ∃ A ds D, cs = A ++ ds ++ D ∧ A.length = k * Rep.sz α ∧ El H A (xs.take k) ∧ Rep.rd H ds (xs[k]'hk) ∧ El H D (xs.drop (k + 1)) := by
  induction h with
  | n => intro k hk; simp at hk
  | @c cs x css xs h t ih =>
    intro k hk
    cases k with
    | zero => exact ⟨[], cs, css, rfl, by simp, .n, h, t⟩
    | succ k =>
      obtain ⟨A, ds, D, rfl, h1, h2, h3, h4⟩ := ih k (by simpa using hk)
      exact ⟨cs ++ A, ds, D, by simp, by rw [List.length_append, Rep.len h, h1, Nat.succ_mul, Nat.add_comm], .c h h2, h3, h4⟩
theorem El.set {α : Type} [Rep α] {H : HM} {A ds D : List Value} {xs : List α} {k : Nat} {y : α} (hk : k < xs.length) (h1 : El H A (xs.take k)) (h2 : Rep.rd H ds y) (h3 : El H D (xs.drop (k + 1))) : El H (A ++ ds ++ D) (xs.set k y) := by
  have e : xs.set k y = xs.take k ++ [y] ++ xs.drop (k + 1) := by
    rw [List.set_eq_take_append_cons_drop, if_pos hk]; simp
  rw [e]
  exact (h1.append (El.one1 h2)).append h3
/-- Some cells of one element are others. -/
theorem El.put {α : Type} [Rep α] {H : HM} {cs u : List Value} {xs : List α} (h : El H cs xs) {k j : Nat} (hk : k < xs.length) {y : α} (hj : j + u.length ≤ Rep.sz α)
    (hy : ∀ ds, Rep.rd H ds (xs[k]'hk) → (∀ i v, ds[i]? = some v → cs[k * Rep.sz α + i]? = some v) → Rep.rd H (putC ds j u) y) : El H (putC cs (k * Rep.sz α + j) u) (xs.set k y) := by
  obtain ⟨A, ds, D, rfl, h1, h2, h3, h4⟩ := h.split k hk
  rw [putC_mid h1 (by rw [Rep.len h3]; exact hj)]
  refine El.set hk h2 (hy ds h3 fun i v hv => ?_) h4
  rw [List.append_assoc, ← h1, List.getElem?_append_right (by omega), Nat.add_sub_cancel_left, List.getElem?_append_left (List.getElem?_eq_some_iff.1 hv).1]
  exact hv
theorem El.len_le {α : Type} [Rep α] {H : HM} {cs : List Value} {xs : List α} (h : El H cs xs) {k j : Nat} (hk : k < xs.length) (hj : j ≤ Rep.sz α) : k * Rep.sz α + j ≤ cs.length := by
  rw [h.len]
  have : (k + 1) * Rep.sz α ≤ xs.length * Rep.sz α := Nat.mul_le_mul_right _ hk
  rw [Nat.succ_mul] at this
  omega
section
variable {P : Program} {sz : Nat} {B : World} {Q : EQ} {l : Env} {H : HM} {O : OL} {ops : Array Oper} {rest : List Oper} {ty : TypeId} {pos : String} {aft : Array Edge} {d : Nat}
/-- The address of an element of a row. -/
theorem y_idxR {t e n e' : Nat} {x y : Operand} {agg : Bool} {es bytes : Nat} {z v : Value} {i : Int} {k : IntKind} {cs : List Value} {R : OL} (hr : Row v n cs e' es R) (j : Nat) (hj : j < n) (ht : P.underlying t = some (.slice e)) (ti : TI P e agg es bytes z)
    (hx : ev l x = some v) (hy : ev l y = some (.int k i)) (hi : i = (j : Int)) : Yl P (.indexAddr t x y) ty l H O (ptrAt v (j * es)) := by
  obtain ⟨p, c, hv⟩ := hr.shape
  have := y_indexAddr (ty := ty) (H := H) (O := O) ht ti (hr.sl (by omega)) hv hx hy (by omega) (by omega)
  rwa [show i.toNat = j by omega] at this
/-- Cells of a row are written over. -/
theorem o_storeS {t : TypeId} {x y : Operand} {agg : Bool} {m bytes : Nat} {z v val : Value} {n k e es : Nat} {cs u : List Value} {R : OL} {F : OL → OL} (ti : TI P t agg m bytes z) (hx : ev l x = some (ptrAt v k)) (hy : ev l y = some val) (hr : Row v n cs e es R) (hv : val.cells.toList = u) (hn : u.length = m) (h1 : ones u = true)
    (hl : k + m ≤ cs.length) (h0 : 0 < n) (hF : Hole O R F) (kk : ∀ R', Row v n (putC cs k u) e es R' → ExO P sz B ops Q rest l H (F R')) : ExO P sz B ops Q (⟨none, .store t x y, ty, pos, aft, none⟩ :: rest) l H O := by
  rcases hr.form with ⟨_, h0', _⟩ | ⟨b, cap, sp, rfl, h2, h3, rfl⟩
  · omega
  · intro hd a w ha hw
    simp only [List.all_cons, Bool.and_eq_true] at hd
    refine wpList_plain rfl fun K hK => ?_
    obtain ⟨A, C, rfl, hF'⟩ := hF.split
    subst hv
    have hb := (hw.own b (cl (cs ++ sp) e) (by simp)).1
    have e1 : putC (cs ++ sp) k val.cells.toList = putC cs k val.cells.toList ++ sp := putC_append (by omega)
    have hst := run_storeVar (o := 0 + k) ti hn h1 hb (by simp; omega)
    simp only [Nat.zero_add] at hst
    rw [e1] at hst
    simp only [Oper.wp, execOp, ha.ev hx, ha.ev hy, ptrAt, Instr.storeAt, Instr.sureAddr, Sem.run_bind, Sem.run_pure, Result.andThen_ok, Nat.zero_add, hst, Oper.upon]
    refine hK _ _ (kk _ ⟨by rw [putC_len (by omega)]; exact hr.len, .inr ⟨b, cap, sp, rfl, h2, h3, rfl⟩⟩ hd.2 _ _ ha ?_)
    rw [hF']
    refine hw.swap rfl rfl rfl (by simp [World.setRow]) (fun k' _ hk' => setRow_other w b k' _ (fun e' => hk' (b, cl (cs ++ sp) e) (by simp) e'.symm)) (fun c o hm => ?_) (by simp)
    simp only [List.mem_singleton, Prod.mk.injEq] at hm
    obtain ⟨rfl, rfl⟩ := hm
    exact ⟨setRow_heap w c _ _ _ _ hb, .inl ⟨(c, cl (cs ++ sp) e), by simp, rfl⟩⟩
end
end Go.Ph
namespace Go.Ph
open Go.RowKit
theorem Row.elAt {α : Type} [Rep α] {v : Value} {n : Nat} {cs : List Value} {e es : Nat} {R O : OL} {H : HM} {xs : List α} (h : Row v n cs e es R) (he : El H cs xs) (hes : Rep.sz α = es) (k : Nat) (hk : k < xs.length) (hn : 0 < n) (hO : ∀ p ∈ R, p ∈ O) :
    ∃ ds, AtS H O v (k * es) ds ∧ Rep.rd H ds (xs[k]'hk) := by
  subst hes
  obtain ⟨A, ds, D, rfl, h1, h2, h3, h4⟩ := he.split k hk
  refine ⟨ds, h.at hO hn (fun i u hu => ?_), h3⟩
  rw [List.append_assoc, ← h1, List.getElem?_append_right (by omega), Nat.add_sub_cancel_left, List.getElem?_append_left (List.getElem?_eq_some_iff.1 hu).1]
  exact hu
/-- What hands back a row of its own whose elements lie in what nobody writes. -/
abbrev MadeR {α : Type} [Rep α] (xs : List α) (e : Nat) (H : HM) (O : OL) : Value → HM → OL → Prop := fun v H' O' => H = H' ∧ ∃ R cs, O' = R ++ O ∧ Row v xs.length cs e (Rep.sz α) R ∧ El H cs xs
abbrev Made {α : Type} [Rep α] (xs : List α) (H : HM) (O : OL) : Value → HM → OL → Prop := fun v H' O' => Ext H H' ∧ O = O' ∧ RdL H' v xs
abbrev MadeS {α : Type} [Rep α] (x : α) (H : HM) (O : OL) : Value → HM → OL → Prop := fun v H' O' => Ext H H' ∧ O = O' ∧ ∃ cs, v = .agg cs.toArray ∧ Rep.rd H' cs x
theorem CallsM.freeze {P : Program} {f : FuncId} {args : Array Value} {B : World} {H : HM} {O : OL} {α : Type} [Rep α] {xs : List α} {e : Nat} (hs : xs.length * Rep.bytes α ≤ 140737488351232) (h : CallsM P f args B H O (MadeR xs e H O)) : CallsM P f args B H O (Made xs H O) := by
  intro w hw
  refine (h w hw).mono ?_
  rintro e' w' ⟨v, H', O', h1, h2, rfl, R, cs, rfl, h3, h4⟩
  exact ⟨v, H.add R, O, h1, h2.freeze, Ext.add _ _, rfl, h3.freeze rfl h4 hs (fun b o hm => (h2.own b o (by simp [hm])).2)⟩
theorem run_results_cell {P : Program} {t : TypeId} {n bytes : Nat} {z : Value} {b : Nat} {C : List Value} {T : TypeId} {H : HM} {O : OL} {w : World} (ti : TI P t true n bytes z) (hw : Has H O w) (hi : In O b (cl C T)) (hn : C.length = n) : (loadVar t ⟨b, 0, none⟩).run P w = .ok (.agg C.toArray) w :=
  run_loadVar (cs := C) ti (At.all hi w hw) hn (fun e => by cases e)
theorem retC {P : Program} {fn : Func} {l : Env} {H : HM} {O : OL} {t a b n bytes : Nat} {z : Value} {C : List Value} {T : TypeId} (h : fn.results = #[.cell a t]) (hv : look l a = some (.pointer (some ⟨b, 0, none⟩))) (ti : TI P t true n bytes z) (hi : In O b (cl C T)) (hn : C.length = n) : RetV P fn l H O (.agg C.toArray) :=
  fun a' w sz ha hw => by
    have e := run_results_cell ti hw hi hn
    have e1 := ha.get a _ hv
    rw [Array.getD_eq_getD_getElem?] at e1
    simp [results, h, e1, asAddr, e]
theorem retC2 {P : Program} {fn : Func} {l : Env} {H : HM} {O : OL} {t a b n bytes t2 : Nat} {z v2 : Value} {C : List Value} {T : TypeId} (h : fn.results = #[.cell a t, .tmp t2]) (hv : look l a = some (.pointer (some ⟨b, 0, none⟩))) (hv2 : look l t2 = some v2) (ti : TI P t true n bytes z) (hi : In O b (cl C T)) (hn : C.length = n) : RetV P fn l H O (.tuple #[.agg C.toArray, v2]) :=
  fun a' w sz ha hw => by
    have e := run_results_cell ti hw hi hn
    have e2 := ha.get t2 _ hv2
    have e1 := ha.get a _ hv
    rw [Array.getD_eq_getD_getElem?] at e1 e2
    simp [results, h, e1, asAddr, e, e2]
end Go.Ph
