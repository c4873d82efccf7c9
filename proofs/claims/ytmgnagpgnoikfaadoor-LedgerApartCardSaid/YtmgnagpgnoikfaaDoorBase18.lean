/- copy into a row of one's own; append of so many zeros. -/
import Derived.Test.YtmgnagpgnoikfaaDoorBase17
import Derived.Lib.AppendZerosOnto
import Derived.Lib.Overlaps
import Derived.KernelRfl
set_option linter.unusedVariables false
set_option linter.unusedSimpArgs false
namespace Go.Ph
open Go Go.RowKit
section
variable {P : Program} {sz : Nat} {B : World} {Q : EQ} {l : Env} {H : HM} {O : OL} {ops : Array Oper} {rest : List Oper} {ty : TypeId} {pos : String} {aft : Array Edge} {d : Nat}
/-- The first cells of a slice are copied over cells of a row of one's own. -/
theorem o_copyR {t t' e es bytes n c b o dl dc sl sc m : Nat} {agg : Bool} {z : Value} {x y : Operand} {xs news : List Value} {a' : Addr} {R : OL} {F : OL → OL} (ht : P.underlying t = some (.slice e)) (ti : TI P e agg es bytes z)
    (hr : Row (.slice (some ⟨b, 0, none⟩) n c) n xs e es R) (hx : ev l x = some (.slice (some ⟨b, o, none⟩) dl dc)) (hy : ev l y = some (.slice (some a') sl sc)) (hm : Nat.min sl dl = m)
    (hl : news.length = m * es) (ho : o + m * es ≤ xs.length) (h1 : ones news = true) (hc : ∀ w, Has H O w → ∀ j u, news[j]? = some u → w.cell? (a'.add j) = some u) (hF : Hole O R F)
    (k : ∀ R', Row (.slice (some ⟨b, 0, none⟩) n c) n (putC xs o news) e es R' → ExO P sz B ops Q rest ((d, .int .i64 (m : Int)) :: l) H (F R')) :
    ExO P sz B ops Q (⟨some d, .call ⟨.builtin .copy, #[x, y], #[t, t']⟩, ty, pos, aft, none⟩ :: rest) l H O := by
  intro hd a w ha hw
  obtain ⟨hlt, hr'⟩ := dst_lt hd rfl
  refine wpList_plain rfl fun K hK => ?_
  obtain ⟨A, C, rfl, hF'⟩ := hF.split
  rcases hr.form with ⟨h0, _⟩ | ⟨g, cap, sp, h0, hnc, hsp, rfl⟩
  · cases h0
  · injection h0 with h2 _ h3
    injection h2 with h2
    injection h2 with h2
    subst h2; subst h3
    have hb := (hw.own b (cl (xs ++ sp) e) (by simp)).1
    have hld : (loadCells a' (m * es)).run P w = .ok news.toArray w := by rw [← hl]; exact run_loadCells_list w a' news (hc w hw.has)
    have hst := run_storeCells_at P b o e news 0 (xs ++ sp).toArray w hb (by simp; omega) (fun v hv => List.all_eq_true.1 h1 v hv)
    simp only [Nat.add_zero] at hst
    have hrun : (Builtin.copy_ #[t, t'] ty #[.slice (some ⟨b, o, none⟩) dl dc, .slice (some a') sl sc]).run P w = .ok (.int .i64 (m : Int)) (w.setRow b (putC (xs ++ sp) o news).toArray) := by
      simp only [Builtin.copy_]
      simp [Go.run_underlying (P := P) ht, Builtin.lenOf, run_sizeOf ti, Builtin.firstCells, hm, hld, hst, goInt, putC]
    have e1 : putC (xs ++ sp) o news = putC xs o news ++ sp := putC_append (by omega)
    rw [e1] at hrun
    simp only [Oper.wp, execOp, resolve, Sem.run_bind, Sem.run_pure, Result.andThen_ok, invoke, builtin, List.map_toArray, List.map_cons, List.map_nil, ha.ev hx, ha.ev hy, hrun, Oper.upon]
    refine hK _ _ (k [(b, cl (putC xs o news ++ sp) e)] ⟨by rw [putC_len (by omega)]; exact hr.len, .inr ⟨b, c, sp, rfl, hnc, hsp, rfl⟩⟩ hr' _ _ (ha.put hlt _) ?_)
    rw [hF']
    refine hw.swap rfl rfl rfl (by simp [World.setRow]) (fun k' _ hk' => setRow_other w b k' _ (fun e' => hk' (b, cl (xs ++ sp) e) (by simp) e'.symm)) (fun c' o' hm' => ?_) (by simp)
    simp only [List.mem_singleton, Prod.mk.injEq] at hm'
    obtain ⟨rfl, rfl⟩ := hm'
    exact ⟨setRow_heap w c' _ _ _ _ hb, .inl ⟨(c', cl (xs ++ sp) e), by simp, rfl⟩⟩
/-- So many zeros behind what a slice shows, where its row has no room: a new row. -/
theorem o_appendZ {t tn e es bytes n c m : Nat} {agg : Bool} {z : Value} {x y : Operand} {olds : List Value} {a' : Addr} (ht : P.underlying t = some (.slice e)) (htn : P.underlying tn = some (.int .i64)) (ti : TI P e agg es bytes z) (hz : z.cells.size = es) (he : 0 < es)
    (hx : ev l x = some (.slice (some a') n c)) {q : Int} (hy : ev l y = some (.int .i64 q)) (hq : q = (m : Int)) (h0 : 0 < m) (hg : c < n + m) (hl : olds.length = n * es) (hc : ∀ w, Has H O w → ∀ j u, olds[j]? = some u → w.cell? (a'.add j) = some u) (hnc : n ≤ c) (hb : (n + m) * bytes ≤ 140737488355328) (hm : n + m ≤ 9223372036854775807)
    (k : ∀ b cap sp zs, zs.length = m * es → Row (.slice (some ⟨b, 0, none⟩) (n + m) cap) (n + m) (olds ++ zs) e es [(b, cl (olds ++ zs ++ sp) e)] → ExO P sz B ops Q rest ((d, .slice (some ⟨b, 0, none⟩) (n + m) cap) :: l) H ((b, cl (olds ++ zs ++ sp) e) :: O)) :
    ExO P sz B ops Q (⟨some d, .call ⟨.builtin .append, #[x, y], #[t, tn]⟩, ty, pos, aft, none⟩ :: rest) l H O := by
  subst hq
  intro hd a w ha hw
  obtain ⟨hlt, hr'⟩ := dst_lt hd rfl
  refine wpList_plain rfl fun K hK => ?_
  obtain ⟨i, i1, i2, rfl, rfl⟩ := ti.info'
  have hfo := run_firstCells_some (P := P) w.drew i.size n a' n c olds hl (by simpa using hc w hw.has)
  have hfo' : (Builtin.firstCells i.size n (.slice (some a') n c)).run P w.drew = .ok olds.toArray w.drew := hfo
  have hrun := Lib.run_append_grow_zeros (P := P) w t tn ty e i z .i64 .i64 ht htn i1 i2 (some a') n c olds hfo' m h0 he hg (by omega) (by have : m * i.bytes ≤ (n + m) * i.bytes := Nat.mul_le_mul_right _ (Nat.le_add_left _ _); omega) (growslice_fits (by omega) hb)
  have hge := grownCap_ge w (n + m) c e
  have hs := size_zeroCells z.cells (grownCap w (n + m) c e - (n + m))
  have hs2 := size_zeroCells z.cells m
  rw [hz] at hs hs2
  simp only [Oper.wp, execOp, resolve, Sem.run_bind, Sem.run_pure, Result.andThen_ok, invoke, builtin, List.map_toArray, List.map_cons, List.map_nil, ha.ev hx, ha.ev hy, hrun, Oper.upon]
  have e2 : (olds.toArray ++ Builtin.zeroCells z.cells m ++ Builtin.zeroCells z.cells (grownCap w (n + m) c e - (n + m))) = (olds ++ (Builtin.zeroCells z.cells m).toList ++ (Builtin.zeroCells z.cells (grownCap w (n + m) c e - (n + m))).toList).toArray := by apply Array.ext'; simp
  rw [e2]
  refine hK _ _ (k w.heap.size (grownCap w (n + m) c e) (Builtin.zeroCells z.cells (grownCap w (n + m) c e - (n + m))).toList (Builtin.zeroCells z.cells m).toList (by simpa using hs2) ⟨by rw [List.length_append, hl, Nat.add_mul]; simp [hs2], .inr ⟨_, _, _, rfl, by omega, by simpa using hs, rfl⟩⟩ hr' _ _ (ha.put hlt _) ?_)
  have := hw.drew.alloc (cl (olds ++ (Builtin.zeroCells z.cells m).toList ++ (Builtin.zeroCells z.cells (grownCap w (n + m) c e - (n + m))).toList) e)
  exact this
/-- slices.overlaps, which the model answers itself, of two blocks of one's own. -/
theorem o_overlaps {f : FuncId} {tS tR e es bytes b o b2 o2 n c n2 c2 : Nat} {agg : Bool} {z : Value} {x y : Operand} {C C2 : List Value} {T T2 : TypeId} {ts : Array TypeId} (hex : ∀ args w, (callFunc f args).run P w = ((Extern.SlicesOverlaps.overlaps #[tS, tS] #[tR] args).run P w).andThen fun v w' => .ok (.value v) w')
    (ht : P.underlying tS = some (.slice e)) (ti : TI P e agg es bytes z) (hx : ev l x = some (.slice (some ⟨b, o, none⟩) n c)) (hy : ev l y = some (.slice (some ⟨b2, o2, none⟩) n2 c2)) (hne : b ≠ b2) (h1 : In O b (cl C T)) (h2 : In O b2 (cl C2 T2)) (h0 : C2.length ≠ 0)
    (k : ExO P sz B ops Q rest ((d, .bool false) :: l) H O) : ExO P sz B ops Q (⟨some d, .call ⟨.value (.func f), #[x, y], ts⟩, ty, pos, aft, none⟩ :: rest) l H O := by
  intro hd a w ha hw
  obtain ⟨hlt, hr'⟩ := dst_lt hd rfl
  refine wpList_plain rfl fun K hK => ?_
  have hb := (hw.own _ _ h1.mem).1
  have hb2 := (hw.own _ _ h2.mem).1
  have hov := Lib.run_overlaps_apart (P := P) w tS tR e ht es (fun w => run_sizeOf ti w) ⟨b, o, none⟩ ⟨b2, o2, none⟩ n c n2 c2 hne T T2 C.length C2.length (by simp [World.shape?, hb, cl]) (by simp [World.shape?, hb2, cl]) h0 (by simp [World.frozen?, hb, cl]) (by simp [World.frozen?, hb, cl])
  have hfn : a.eval (.func f) = .func (.func f) #[] #[] := rfl
  simp only [Oper.wp, execOp, resolve, List.map_toArray, List.map_cons, List.map_nil, hfn, Deferred.ofValue, Sem.run_bind, Sem.run_pure, Result.andThen_ok, invoke, Array.empty_append, Array.append_empty, ha.ev hx, ha.ev hy, hex, hov, Oper.upon]
  exact hK _ _ (k hr' _ _ (ha.put hlt _) hw)
theorem y_cap {t e n c : Nat} {p : Option Addr} {x : Operand} (ht : P.underlying t = some (.slice e)) (hx : ev l x = some (.slice p n c)) : Yl P (.call ⟨.builtin .cap, #[x], #[t]⟩) ty l H O (.int .i64 (c : Int)) := fun ρ w d pos aft g ha hw => by
  have := run_cap_slice (P := P) w t ty p n c (elem_of ht)
  simp only [execOp, resolve, List.map_toArray, List.map_cons, List.map_nil, ha _ _ hx, Sem.run_bind, Sem.run_pure, Result.andThen_ok, invoke, builtin, this]
  rfl
/-- Some of the blocks, in another order. -/
theorem x_pickP {c : Code} {O'' O' : OL} (hs : O''.Sublist O) (hp : O''.Perm O') (h : ExC P sz B c Q l H O') : ExC P sz B c Q l H O := x_pick hs fun a w ha hw => h a w ha (hw.perm hp)
theorem hole_new {O R : OL} {F : OL → OL} (hF : Hole O R F) (p : Nat × Obj) : ∃ O'' : OL, O''.Sublist (p :: O) ∧ O''.Perm (F [p]) := by
  obtain ⟨A, C, rfl, hF'⟩ := hF.split
  refine ⟨p :: (A ++ C), ((List.Sublist.refl A).append (List.sublist_append_right R C)).cons_cons p, ?_⟩
  rw [hF']
  simpa using (List.perm_middle (a := p) (l₁ := A) (l₂ := C)).symm
theorem Hole.mem {O R : OL} {F : OL → OL} (hF : Hole O R F) : ∀ p ∈ R, p ∈ O := by
  obtain ⟨A, C, rfl, _⟩ := hF.split
  intro p hp; simp [hp]
/-- Cells of a row of one's own can be read. -/
theorem At.rowPart {n c b0 e es o : Nat} {cs ds : List Value} {R : OL} (hr : Row (.slice (some ⟨b0, 0, none⟩) n c) n cs e es R) (hm : ∀ p ∈ R, p ∈ O) (hd : ∀ i u, ds[i]? = some u → cs[o + i]? = some u) : ∀ w, Has H O w → ∀ j u, ds[j]? = some u → w.cell? ((⟨b0, o, none⟩ : Addr).add j) = some u := by
  rcases hr.form with ⟨h0, _⟩ | ⟨g, cap, sp, h0, _, _, rfl⟩
  · cases h0
  · injection h0 with h2 _ _
    injection h2 with h2
    injection h2 with h2
    subst h2
    intro w hw j u hu
    have h3 := hw.own b0 (cl (cs ++ sp) e) (hm _ (by simp))
    have h4 := hd j u hu
    rw [add_pl]
    simp only [World.cell?, h3, cl]
    simp [List.getElem?_append_left (List.getElem?_eq_some_iff.1 h4).1, h4]
/-- What is behind a place inside of a row. -/
theorem y_sliceX {t e es bytes n c b o : Nat} {agg : Bool} {z : Value} {x y : Operand} {i : Int} {k : IntKind} (ht : P.underlying t = some (.slice e)) (ti : TI P e agg es bytes z) (hx : ev l x = some (.slice (some ⟨b, o, none⟩) n c)) (hy : ev l y = some (.int k i)) (j : Nat) (hi : i = (j : Int)) (hj : j ≤ n) (hjc : j < c) :
    Yl P (.slice t x (some y) none none) ty l H O (.slice (some ⟨b, o + j * es, none⟩) (n - j) (c - j)) := by
  have h := y_sliceL (ty := ty) (H := H) (O := O) ht ti hx hy j hi hj
  have e : sliced (some ⟨b, o, none⟩) j n c es = .slice (some ⟨b, o + j * es, none⟩) (n - j) (c - j) := by
    unfold sliced
    rw [if_neg (by omega), Option.map_some, add_pl]
  rwa [e] at h
theorem Row.capLe {b0 n c e es : Nat} {cs : List Value} {R : OL} (hr : Row (.slice (some ⟨b0, 0, none⟩) n c) n cs e es R) : n ≤ c := by
  rcases hr.form with ⟨h0, _⟩ | ⟨g, cap, sp, h0, h1, _, rfl⟩
  · cases h0
  · injection h0 with _ _ h3; omega
theorem hole_new' {O R : OL} {F : OL → OL} (hF : Hole O R F) (R2 : OL) : ∃ O'' : OL, O''.Sublist (R2 ++ O) ∧ O''.Perm (F R2) := by
  obtain ⟨A, C, rfl, hF'⟩ := hF.split
  refine ⟨R2 ++ (A ++ C), (List.Sublist.refl R2).append ((List.Sublist.refl A).append (List.sublist_append_right R C)), ?_⟩
  rw [hF', ← List.append_assoc, ← List.append_assoc]
  exact (List.perm_append_comm (l₁ := R2) (l₂ := A)).append_right C
theorem ones_drop {cs : List Value} (h : ones cs = true) (k : Nat) : ones (cs.drop k) = true := List.all_eq_true.2 fun u hu => List.all_eq_true.1 h u (List.mem_of_mem_drop hu)
theorem putC_at {A X D u : List Value} {o : Nat} (hA : A.length = o) (hX : X.length = u.length) : putC (A ++ (X ++ D)) o u = A ++ (u ++ D) := by
  unfold putC
  subst hA
  rw [List.take_left, ← hX, List.append_assoc, List.drop_append, List.drop_of_length_le (by omega), List.nil_append, Nat.add_sub_cancel_left, List.drop_left]
/-- A block that stands ahead of a row is none of the row's. -/
theorem x_ne {c : Code} {b b0 : Nat} {o : Obj} {R : OL} {F : OL → OL} (hF : Hole O R F) (hR : ∃ p ∈ R, p.1 = b0) (h : b ≠ b0 → ExC P sz B c Q l H ((b, o) :: O)) : ExC P sz B c Q l H ((b, o) :: O) := fun a w ha hw => by
  refine h (fun e => ?_) a w ha hw
  subst e
  obtain ⟨p, hp, rfl⟩ := hR
  have hnd := hw.nd
  simp only [List.map_cons, List.nodup_cons] at hnd
  exact hnd.1 (List.mem_map.2 ⟨p, hF.mem p hp, rfl⟩)
theorem x_perm {c : Code} {O' : OL} (hp : O.Perm O') (h : ExC P sz B c Q l H O') : ExC P sz B c Q l H O := fun a w ha hw => h a w ha (hw.perm hp)
/-- A longer slice of the same row. -/
theorem Row.up {p : Option Addr} {n c e es : Nat} {cs : List Value} {R : OL} (h : Row (.slice p n c) n cs e es R) (hc : n + 1 ≤ c) : ∃ ds : List Value, ds.length = es ∧ Row (.slice p (n + 1) c) (n + 1) (cs ++ ds) e es R := by
  have hl := h.len
  rcases h.form with ⟨h1, h2, h3⟩ | ⟨b, cap, sp, h1, h2, h3, h4⟩
  · injection h1 with _ _ h5; omega
  · injection h1 with h5 h6 h7
    subst h5; subst h7; subst h4
    have e1 : (c - n) * es = es + (c - (n + 1)) * es := by rw [show c - n = 1 + (c - (n + 1)) by omega, Nat.add_mul, Nat.one_mul]
    have hd : (sp.take es).length = es := by rw [List.length_take, h3]; omega
    refine ⟨sp.take es, hd, ⟨by rw [List.length_append, hl, hd, Nat.add_mul, Nat.one_mul], .inr ⟨b, c, sp.drop es, rfl, hc, by rw [List.length_drop, h3]; omega, ?_⟩⟩⟩
    rw [List.append_assoc, List.take_append_drop]
theorem Row.some_of {p : Option Addr} {n c e es : Nat} {cs : List Value} {R : OL} (h : Row (.slice p n c) n cs e es R) (hn : 0 < n) : ∃ b0, p = some ⟨b0, 0, none⟩ ∧ ∃ q ∈ R, q.1 = b0 := by
  rcases h.form with ⟨_, h2, _⟩ | ⟨b, cap, sp, h1, h2, h3, h4⟩
  · omega
  · injection h1 with h5 h6 h7
    exact ⟨b, h5, _, by rw [h4]; exact List.mem_singleton.2 rfl, rfl⟩
/-- A row with one more put in. -/
abbrev InsR (n : Nat) (cs : List Value) (e es : Nat) (G : OL → OL) (H : HM) : Value → HM → OL → Prop := fun v' H' O' => H = H' ∧ ∃ R', O' = G R' ∧ Row v' n cs e es R'
theorem Hole.again {O R : OL} {F : OL → OL} (h : Hole O R F) (R' : OL) : Hole (F R') R' F := by
  induction h with
  | z => exact .z
  | e => exact .e
  | o => exact .z
  | s _ ih => exact .s ih
  | g _ ih => exact .g ih
theorem In.ofMem {O : OL} {b : Nat} {o : Obj} (h : (b, o) ∈ O) : In O b o := by
  have := In.m (O := []) h
  rwa [List.append_nil] at this
theorem putC_at' {A X D u : List Value} {o : Nat} (hA : A.length = o) (hX : X.length = u.length) {C : List Value} (hC : C = A ++ (X ++ D)) : putC C o u = A ++ (u ++ D) := by subst hC; exact putC_at hA hX
theorem held_s {x y : Nat × Obj} {O2 : OL} : ∀ p ∈ [y], p ∈ x :: y :: O2 := fun p hp => by rw [List.mem_singleton.1 hp]; exact .tail _ (.head _)
theorem fill_i2 (a0 a1 : Int) : Instr.fill (fun i => some (i * 1, 1)) ((Array.range (2 * 1)).map fun x => (Value.int .i64 0).cells[x % (Value.int .i64 0).cells.size]!) [(0, Value.int .i64 a0), (1, Value.int .i64 a1)] = some [Value.int .i64 a0, Value.int .i64 a1].toArray := by kernel_rfl
theorem fill_i3 (a0 a1 a2 : Int) : Instr.fill (fun i => some (i * 1, 1)) ((Array.range (3 * 1)).map fun x => (Value.int .i64 0).cells[x % (Value.int .i64 0).cells.size]!) [(0, Value.int .i64 a0), (1, Value.int .i64 a1), (2, Value.int .i64 a2)] = some [Value.int .i64 a0, Value.int .i64 a1, Value.int .i64 a2].toArray := by kernel_rfl
theorem fill_i4 (a0 a1 a2 a3 : Int) : Instr.fill (fun i => some (i * 1, 1)) ((Array.range (4 * 1)).map fun x => (Value.int .i64 0).cells[x % (Value.int .i64 0).cells.size]!) [(0, Value.int .i64 a0), (1, Value.int .i64 a1), (2, Value.int .i64 a2), (3, Value.int .i64 a3)] = some [Value.int .i64 a0, Value.int .i64 a1, Value.int .i64 a2, Value.int .i64 a3].toArray := by kernel_rfl
theorem fill_i5 (a0 a1 a2 a3 a4 : Int) : Instr.fill (fun i => some (i * 1, 1)) ((Array.range (5 * 1)).map fun x => (Value.int .i64 0).cells[x % (Value.int .i64 0).cells.size]!) [(0, Value.int .i64 a0), (1, Value.int .i64 a1), (2, Value.int .i64 a2), (3, Value.int .i64 a3), (4, Value.int .i64 a4)] = some [Value.int .i64 a0, Value.int .i64 a1, Value.int .i64 a2, Value.int .i64 a3, Value.int .i64 a4].toArray := by kernel_rfl
end
end Go.Ph
