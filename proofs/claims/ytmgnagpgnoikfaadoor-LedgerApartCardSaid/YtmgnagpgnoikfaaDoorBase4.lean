/- Slices: rows that are being built, appends, what is read as a list. -/
import Derived.Test.YtmgnagpgnoikfaaDoorBase3
import Derived.Laws.AppendOwn
import Derived.Laws.MakeOwn
set_option linter.unusedVariables false
set_option linter.unusedSimpArgs false
namespace Go.Ph
open Go.RowKit

/-! ### A slice that is being built: its n elements' cells, its block -/
structure Row (v : Value) (n : Nat) (xs : List Value) (e es : Nat) (R : OL) : Prop where
  len : xs.length = n * es
  form : (v = .slice none 0 0 ∧ n = 0 ∧ R = []) ∨
    ∃ b cap sp, v = .slice (some ⟨b, 0, none⟩) n cap ∧ n ≤ cap ∧ sp.length = (cap - n) * es ∧ R = [(b, cl (xs ++ sp) e)]
theorem Row.nil (e es : Nat) : Row (.slice none 0 0) 0 [] e es [] := ⟨by simp, .inl ⟨rfl, rfl, rfl⟩⟩
theorem Row.shape {v : Value} {n : Nat} {xs : List Value} {e es : Nat} {R : OL} (h : Row v n xs e es R) : ∃ p c, v = .slice p n c := by
  rcases h.form with ⟨rfl, rfl, _⟩ | ⟨b, cap, sp, rfl, _⟩
  · exact ⟨_, _, rfl⟩
  · exact ⟨_, _, rfl⟩
/-- Where a run of blocks stands; 'F R'': the list with another run there. -/
inductive Hole : OL → OL → (OL → OL) → Prop where
  | z {R O} : Hole (R ++ O) R (fun R' => R' ++ O)
  | e {R} : Hole R R (fun R' => R')
  | o {p O} : Hole (p :: O) [p] (fun R' => R' ++ O)
  | s {p O R F} (h : Hole O R F) : Hole (p :: O) R (fun R' => p :: F R')
  | g {S O R F} (h : Hole O R F) : Hole (S ++ O) R (fun R' => S ++ F R')
theorem Hole.split {O R : OL} {F : OL → OL} (h : Hole O R F) : ∃ A C, O = A ++ (R ++ C) ∧ ∀ R', F R' = A ++ (R' ++ C) := by
  induction h with
  | z => exact ⟨[], _, rfl, fun _ => rfl⟩
  | e => exact ⟨[], [], by simp, fun _ => by simp⟩
  | o => exact ⟨[], _, rfl, fun _ => rfl⟩
  | s _ ih => obtain ⟨A, C, rfl, h⟩ := ih; exact ⟨_ :: A, C, rfl, fun R' => congrArg (List.cons _) (h R')⟩
  | @g S _ _ _ _ ih => obtain ⟨A, C, rfl, h⟩ := ih; exact ⟨S ++ A, C, by simp, fun R' => (congrArg (S ++ ·) (h R')).trans (by simp)⟩

section
variable {P : Program} {sz : Nat} {B : World} {Q : EQ} {l : Env} {H : HM} {O : OL} {ops : Array Oper} {rest : List Oper} {ty : TypeId} {pos : String} {aft : Array Edge} {d : Nat}

/-- A run of blocks is another one: none of the other blocks is touched; the new block, if there is one, is new. -/
theorem Fits.swap {A C R R' : OL} {w w' : World} (h : Fits B H (A ++ (R ++ C)) w) (h1 : w'.os = w.os) (h2 : w'.tape = w.tape) (h3 : w'.output = w.output) (h4 : w.heap.size ≤ w'.heap.size)
    (hn : ∀ k, k < w.heap.size → (∀ p ∈ R, p.1 ≠ k) → w'.heap[k]? = w.heap[k]?) (hR : ∀ b o, (b, o) ∈ R' → w'.heap[b]? = some o ∧ ((∃ p ∈ R, p.1 = b) ∨ w.heap.size ≤ b)) (hd : (R'.map (·.1)).Nodup) :
    Fits B H (A ++ (R' ++ C)) w' := by
  have lt : ∀ {k : Nat} {x : Obj}, w.heap[k]? = some x → k < w.heap.size := fun hx => (Array.getElem?_eq_some_iff.1 hx).1
  have hnd := h.nd
  simp only [List.map_append] at hnd
  rw [List.nodup_append, List.nodup_append] at hnd
  obtain ⟨hA, ⟨hR0, hC, hRC⟩, hAR⟩ := hnd
  have mk : ∀ {S : OL} {b o}, (b, o) ∈ S → b ∈ S.map (·.1) := fun hm => List.mem_map.2 ⟨_, hm, rfl⟩
  have notR : ∀ b o, (b, o) ∈ A ∨ (b, o) ∈ C → ∀ p ∈ R, p.1 ≠ b := by
    rintro b o (hm | hm) p hp e
    · exact hAR b (mk hm) p.1 (List.mem_append.2 (.inl (mk hp))) e.symm
    · exact hRC p.1 (mk hp) b (mk hm) e
  have old : ∀ b o, (b, o) ∈ A ∨ (b, o) ∈ C → w'.heap[b]? = some o ∧ H b = none := fun b o hm => by
    have hb := h.own b o (by rcases hm with hm | hm <;> simp [hm])
    exact ⟨by rw [hn b (lt hb.1) (notR b o hm)]; exact hb.1, hb.2⟩
  have new : ∀ b o, (b, o) ∈ R' → H b = none := fun b o hm => by
    rcases (hR b o hm).2 with ⟨p, hp, rfl⟩ | hge
    · exact (h.own p.1 p.2 (by simp [hp])).2
    · cases hb : H b with
      | none => rfl
      | some y => have := lt (h.imm b y hb); omega
  have apart : ∀ b o c u, (b, o) ∈ R' → (c, u) ∈ A ∨ (c, u) ∈ C → b ≠ c := fun b o c u hm hc e => by
    subst e
    rcases (hR b o hm).2 with ⟨p, hp, e⟩ | hge
    · exact notR b u hc p hp e
    · have := lt (h.own b u (by rcases hc with hc | hc <;> simp [hc])).1
      omega
  refine ⟨h1.trans h.os, h2.trans h.tape, h3.trans h.out, Nat.le_trans h.bsz h4, h.base, fun c x hx => ?_, fun b o hm => ?_, ?_⟩
  · have hx' := h.imm c x hx
    rw [hn c (lt hx') (fun p hp e => by have := (h.own p.1 p.2 (by simp [hp])).2; rw [e, hx] at this; cases this)]
    exact hx'
  · rcases List.mem_append.1 hm with hm | hm
    · exact old b o (.inl hm)
    · rcases List.mem_append.1 hm with hm | hm
      · exact ⟨(hR b o hm).1, new b o hm⟩
      · exact old b o (.inr hm)
  · simp only [List.map_append]
    rw [List.nodup_append, List.nodup_append]
    refine ⟨hA, ⟨hd, hC, fun x hx y hy e => ?_⟩, fun x hx y hy e => ?_⟩
    · obtain ⟨⟨b, o⟩, hm, rfl⟩ := List.mem_map.1 hx
      obtain ⟨⟨c, u⟩, hm', rfl⟩ := List.mem_map.1 hy
      exact apart b o c u hm (.inr hm') e
    · obtain ⟨⟨b, o⟩, hm, rfl⟩ := List.mem_map.1 hx
      rcases List.mem_append.1 hy with hy | hy
      · obtain ⟨⟨c, u⟩, hm', rfl⟩ := List.mem_map.1 hy
        exact apart c u b o hm' (.inl hm) e.symm
      · obtain ⟨⟨c, u⟩, hm', rfl⟩ := List.mem_map.1 hy
        exact hAR b (mk hm) c (List.mem_append.2 (.inr (mk hm'))) e
theorem run_append {t e es bytes n m c : Nat} {agg : Bool} {z v : Value} {xs news : List Value} {A C R : OL} {a : Addr} {w : World} (ht : P.underlying t = some (.slice e)) (ti : TI P e agg es bytes z) (hz : z.cells.size = es) (he : 0 < es)
    (hw : Fits B H (A ++ (R ++ C)) w) (hr : Row v n xs e es R) (hl : news.length = m * es) (hc' : ∀ j u, news[j]? = some u → w.cell? (a.add j) = some u) (h1 : ones news = true) (hb : (n + m) * bytes ≤ 140737488355328) (hm : n + m ≤ 9223372036854775807) :
    ∃ v' R' w', (Builtin.append_ #[t, t] ty #[v, .slice (some a) m c]).run P w = .ok v' w' ∧ Row v' (n + m) (xs ++ news) e es R' ∧ Fits B H (A ++ (R' ++ C)) w' := by
  obtain ⟨i, i1, i2, rfl, rfl⟩ := ti.info'
  have h1' : ∀ u ∈ news, u.oneCell' = true := fun u hu => List.all_eq_true.1 h1 u hu
  have hlen : (xs ++ news).length = (n + m) * i.size := by rw [List.length_append, hr.len, hl, Nat.add_mul]
  have newrow : ∀ (cap : Nat) (sp : Array Value), n + m ≤ cap → sp.size = (cap - (n + m)) * i.size →
      Row (.slice (some ⟨w.heap.size, 0, none⟩) (n + m) cap) (n + m) (xs ++ news) e i.size [(w.heap.size, cl (xs ++ news ++ sp.toList) e)] := fun cap sp h2 h3 =>
    ⟨hlen, .inr ⟨_, _, sp.toList, rfl, h2, by simpa using h3, rfl⟩⟩
  have newfit : ∀ (sp : Array Value), Fits B H (A ++ ([(w.heap.size, cl (xs ++ news ++ sp.toList) e)] ++ C)) (w.drew.alloc (cl (xs ++ news ++ sp.toList) e)) := fun sp => by
    refine hw.swap rfl rfl rfl (by simp) (fun k hk _ => heap_alloc_old w.drew _ hk) (fun b o hm => ?_) (by simp)
    simp only [List.mem_singleton, Prod.mk.injEq] at hm
    obtain ⟨rfl, rfl⟩ := hm
    exact ⟨heap_alloc_new w.drew _, .inr (Nat.le_refl _)⟩
  rcases hr.form with ⟨rfl, rfl, rfl⟩ | ⟨g, cap, sp, rfl, hnc, hsp, rfl⟩
  · have hx : xs = [] := List.eq_nil_of_length_eq_zero (by simpa using hr.len)
    subst hx
    by_cases h0 : m = 0
    · subst h0
      have hn : news = [] := List.eq_nil_of_length_eq_zero (by simpa using hl)
      subst hn
      refine ⟨.slice none 0 0, [], w, ?_, Row.nil _ _, hw⟩
      simp [Builtin.append_, Go.run_underlying (P := P) ht, sizeOf, typeInfo, i1, Builtin.lenOf, Builtin.firstCells, loadCells, loadCellsFrom]
    · have hrun := run_append_nil (P := P) w t ty e i z ht i1 i2 a m c news hl hc' (by omega) (by omega) (by simp only [Nat.zero_add] at hb; omega)
      have hge := grownCap_ge w m 0 e
      have hs := size_zeroCells z.cells (grownCap w m 0 e - m)
      rw [hz] at hs
      have a1 := newrow (grownCap w m 0 e) (Builtin.zeroCells z.cells (grownCap w m 0 e - m)) (by omega) (by simpa using hs)
      have a2 := newfit (Builtin.zeroCells z.cells (grownCap w m 0 e - m))
      simp only [Nat.zero_add, List.nil_append] at a1 a2 ⊢
      refine ⟨_, _, _, hrun, a1, ?_⟩
      have e2 : (news.toArray ++ Builtin.zeroCells z.cells (grownCap w m 0 e - m)) = (news ++ (Builtin.zeroCells z.cells (grownCap w m 0 e - m)).toList).toArray := by apply Array.ext'; simp
      rw [e2]
      exact a2
  · have hg := (hw.own g (cl (xs ++ sp) e) (by simp)).1
    by_cases hroom : n + m ≤ cap
    · have hfit : n * i.size + news.length ≤ (xs ++ sp).toArray.size := by
        simp only [List.size_toArray, List.length_append, hr.len, hsp, hl]
        have : m * i.size ≤ (cap - n) * i.size := Nat.mul_le_mul_right _ (by omega)
        omega
      have hrun := run_append_room (P := P) w t ty e i ht i1 g n cap (xs ++ sp).toArray hg a m c news hl hc' h1' hroom hfit
      have hlx : n * i.size = xs.length := hr.len.symm
      have e1 : (xs ++ sp).toArray.toList.take (n * i.size) ++ news ++ (xs ++ sp).toArray.toList.drop (n * i.size + news.length) = xs ++ news ++ sp.drop news.length := by
        rw [hlx]; simp [List.drop_append]
      rw [e1] at hrun
      refine ⟨_, [(g, cl (xs ++ news ++ sp.drop news.length) e)], _, hrun, ⟨hlen, .inr ⟨g, cap, sp.drop news.length, rfl, hroom, ?_, rfl⟩⟩, ?_⟩
      · rw [List.length_drop, hsp, hl, ← Nat.mul_sub_right_distrib]; congr 1; omega
      · refine hw.swap rfl rfl rfl (by simp [World.setRow]) (fun k _ hk => setRow_other w g k _ (fun e' => hk (g, cl (xs ++ sp) e) (by simp) e'.symm)) (fun b o hm => ?_) (by simp)
        simp only [List.mem_singleton, Prod.mk.injEq] at hm
        obtain ⟨rfl, rfl⟩ := hm
        exact ⟨setRow_heap w b _ _ _ _ hg, .inl ⟨(b, cl (xs ++ sp) e), by simp, rfl⟩⟩
    · have hold : ∀ j u, xs[j]? = some u → w.cell? ((⟨g, 0, none⟩ : Addr).add j) = some u := fun j u hu => by
        have hj : j < xs.length := (List.getElem?_eq_some_iff.1 hu).1
        rw [add_pl]
        simp [World.cell?, hg, cl, List.getElem?_append_left hj, hu]
      have hrun := run_append_grow (P := P) w t ty e i z ht i1 i2 ⟨g, 0, none⟩ n cap xs hr.len hold a m c news hl hc' (by omega) (by omega) (growslice_fits (by omega) hb)
      have hge := grownCap_ge w (n + m) cap e
      have hs := size_zeroCells z.cells (grownCap w (n + m) cap e - (n + m))
      rw [hz] at hs
      have a1 := newrow (grownCap w (n + m) cap e) (Builtin.zeroCells z.cells (grownCap w (n + m) cap e - (n + m))) (by omega) hs
      have a2 := newfit (Builtin.zeroCells z.cells (grownCap w (n + m) cap e - (n + m)))
      refine ⟨_, _, _, hrun, a1, ?_⟩
      have e2 : (xs.toArray ++ news.toArray ++ Builtin.zeroCells z.cells (grownCap w (n + m) cap e - (n + m))) = (xs ++ news ++ (Builtin.zeroCells z.cells (grownCap w (n + m) cap e - (n + m))).toList).toArray := by apply Array.ext'; simp
      rw [e2]
      exact a2
/-- append of what another slice shows. -/
theorem o_appendA {t e es bytes n m c : Nat} {agg : Bool} {z v : Value} {x y : Operand} {xs news : List Value} {R : OL} {a' : Addr} {F : OL → OL} (ht : P.underlying t = some (.slice e)) (ti : TI P e agg es bytes z) (hz : z.cells.size = es) (he : 0 < es)
    (hx : ev l x = some v) (hr : Row v n xs e es R) (hy : ev l y = some (.slice (some a') m c)) (hc : ∀ w, Has H O w → ∀ j u, news[j]? = some u → w.cell? (a'.add j) = some u) (hl : news.length = m * es) (h1 : ones news = true) (hb : (n + m) * bytes ≤ 140737488355328) (hm : n + m ≤ 9223372036854775807)
    (hF : Hole O R F) (k : ∀ v' R', Row v' (n + m) (xs ++ news) e es R' → ExO P sz B ops Q rest ((d, v') :: l) H (F R')) :
    ExO P sz B ops Q (⟨some d, .call ⟨.builtin .append, #[x, y], #[t, t]⟩, ty, pos, aft, none⟩ :: rest) l H O := by
  intro hd a w ha hw
  obtain ⟨hlt, hr'⟩ := dst_lt hd rfl
  refine wpList_plain rfl fun K hK => ?_
  obtain ⟨A, C, rfl, hF'⟩ := hF.split
  obtain ⟨v', R', w', h2, h3, h4⟩ := run_append (ty := ty) (c := c) ht ti hz he hw hr hl (hc w hw.has) h1 hb hm
  simp only [Oper.wp, execOp, resolve, Sem.run_bind, Sem.run_pure, Result.andThen_ok, invoke, builtin, List.map_toArray, List.map_cons, List.map_nil, ha.ev hx, ha.ev hy, h2, Oper.upon]
  refine hK _ _ (k v' R' h3 hr' _ _ (ha.put hlt v') ?_)
  rw [hF']
  exact h4
theorem o_append {t e es bytes n m c : Nat} {agg : Bool} {z v : Value} {x y : Operand} {xs news : List Value} {R : OL} {b o : Nat} {F : OL → OL} (ht : P.underlying t = some (.slice e)) (ti : TI P e agg es bytes z) (hz : z.cells.size = es) (he : 0 < es)
    (hx : ev l x = some v) (hr : Row v n xs e es R) (hy : ev l y = some (.slice (some ⟨b, o, none⟩) m c)) (hc : At H O b o news) (hl : news.length = m * es) (h1 : ones news = true) (hb : (n + m) * bytes ≤ 140737488355328) (hm : n + m ≤ 9223372036854775807)
    (hF : Hole O R F) (k : ∀ v' R', Row v' (n + m) (xs ++ news) e es R' → ExO P sz B ops Q rest ((d, v') :: l) H (F R')) :
    ExO P sz B ops Q (⟨some d, .call ⟨.builtin .append, #[x, y], #[t, t]⟩, ty, pos, aft, none⟩ :: rest) l H O :=
   o_appendA ht ti hz he hx hr hy (fun w hw j u hu => by rw [add_pl]; exact hc w hw j u hu) hl h1 hb hm hF k
/-- A slice of given values: its block is new. -/
theorem o_buildSlice {t e es bytes n : Nat} {agg : Bool} {z : Value} {ps : List (Nat × Operand)} {qs : List (Nat × Value)} {C : List Value} (ht : P.underlying t = some (.slice e)) (ti : TI P e agg es bytes z) (hn : n * es ≤ 16777216) (h0 : n * es ≠ 0)
    (hp : ∀ ρ : Operand → Value, (∀ x v, ev l x = some v → ρ x = v) → ps.map (fun p => (p.1, ρ p.2)) = qs) (hC : Instr.fill (fun i => some (i * es, es)) ((Array.range (n * es)).map (z.cells[· % z.cells.size]!)) qs = some C.toArray)
    (k : ∀ b, ExO P sz B ops Q rest ((d, .slice (some ⟨b, 0, none⟩) n n) :: l) H ((b, cl C e) :: O)) :
    ExO P sz B ops Q (⟨some d, .buildSlice t n ps.toArray, ty, pos, aft, none⟩ :: rest) l H O := by
  intro hd a w ha hw
  obtain ⟨hlt, hr⟩ := dst_lt hd rfl
  refine wpList_plain rfl fun K hK => ?_
  have e1 := hp a.eval (fun _ _ => ha.ev)
  have e2 : ¬ (n * es > 2 ^ 24) := by omega
  simp only [Oper.wp, execOp, Instr.buildSlice, List.map_toArray, Sem.run_bind, Go.run_underlying (P := P) ht, Result.andThen_ok, run_sizeOf ti, e2, if_false, h0, run_zero ti, Sem.run_pure, e1, hC, newRow, run_newObj, Oper.upon]
  refine hK _ _ (k _ hr _ _ (ha.put hlt _) ?_)
  exact hw.alloc (cl C e)
theorem fill_one {v : Value} {es : Nat} {C0 : Array Value} (h0 : C0.size = es) (hv : v.cells.size = es) : Instr.fill (fun i => some (i * es, es)) C0 [(0, v)] = some v.cells := by
  have key : ∀ (u : List Value) (k : Nat) (C : Array Value), k + u.length = C.size → (u.zipIdx k).foldl (fun (cs : Array Value) (p : Value × Nat) => cs.setIfInBounds p.2 p.1) C = (C.toList.take k ++ u).toArray := by
    intro u
    induction u with
    | nil => intro k C h; simp at h; subst h; apply Array.ext'; simp [← Array.length_toList]
    | cons x u ih =>
      intro k C h
      simp only [List.zipIdx_cons, List.foldl_cons]
      rw [ih (k + 1) _ (by simp at h ⊢; omega)]
      apply Array.ext'
      simp only [List.length_cons] at h
      simp only [Array.toList_setIfInBounds]
      rw [List.take_succ_eq_append_getElem (by simp; omega)]
      simp [List.take_set_of_le]
  simp only [Instr.fill, Nat.zero_mul, hv, ne_eq, not_true_eq_false, Nat.zero_add, h0, gt_iff_lt, Nat.lt_irrefl, decide_false, Bool.or_self, Bool.false_eq_true, if_false]
  have := key v.cells.toList 0 C0 (by simp; omega)
  rw [← Array.foldl_toList, Array.toList_zipIdx]
  rw [this]; simp
/-- A slice of one value. -/
theorem o_slice1 {t e es bytes : Nat} {agg : Bool} {z v : Value} {x : Operand} {C : List Value} (ht : P.underlying t = some (.slice e)) (ti : TI P e agg es bytes z) (hn : es ≤ 16777216) (h0 : es ≠ 0) (hz : z.cells.size = es)
    (hx : ev l x = some v) (hC : v.cells.toList = C) (hl : C.length = es) (k : ∀ b, ExO P sz B ops Q rest ((d, .slice (some ⟨b, 0, none⟩) 1 1) :: l) H ((b, cl C e) :: O)) :
    ExO P sz B ops Q (⟨some d, .buildSlice t 1 #[(0, x)], ty, pos, aft, none⟩ :: rest) l H O := by
  refine o_buildSlice (ps := [(0, x)]) (qs := [(0, v)]) ht ti (by omega) (by omega) (fun ρ ha => by simp [ha _ _ hx]) ?_ k
  subst hC
  rw [fill_one (by simp) (by rw [← Array.length_toList]; exact hl)]
end
end Go.Ph
