/- Whom a commit touches: the library's sort and its compaction, by the kit's contracts. -/
import Derived.Test.YtmgnagpgnoikfaaDoorLedger3
import Derived.Test.YtmgnagpgnoikfaaDoorLays
set_option linter.unusedVariables false
set_option linter.unusedSimpArgs false
set_option maxRecDepth 100000
namespace Go.Ph
open Go Go.RowKit Go.Proofs.YtmgnagpgnoikfaaDoor

def sortL (xs : List Int) : List Int := xs.mergeSort fun x y => decide (x ≤ y)
theorem sortL_len (xs : List Int) : (sortL xs).length = xs.length := List.length_mergeSort _
theorem sortL_mem {xs : List Int} {x : Int} : x ∈ sortL xs ↔ x ∈ xs := (List.mergeSort_perm _ _).mem_iff
theorem sort_ok {B : World} {H : HM} {O R : OL} {F : OL → OL} {v : Value} {cs : List Value} {xs : List Int} (hr : Row v xs.length cs 3 1 R) (he : El H cs xs) (h0 : 0 < xs.length) (hl : xs.length ≤ 16) (hF : Hole O R F) :
    CallsM Go.Proofs.Tryd.prog 33 [v].toArray B H O (fun v' H' O' => v' = .tuple #[] ∧ H = H' ∧ ∃ R', O' = F R' ∧ Row v xs.length ((sortL xs).map (Value.int .i64)) 3 1 R') := by
  obtain ⟨p, c, rfl⟩ := hr.shape
  exact CallsM.put (xs' := sortL xs) hr he h0 hF (sortL_len xs) (fun b w e1 hc hH hb => by
    subst e1
    exact Go.Proofs.Any.slices_Sort_int layNm189 b 0 c xs w hH hb (by omega))
def compL (xs : List Int) : List Int := Lib.compact xs
theorem compL_le (xs : List Int) : (compL xs).length ≤ xs.length := by
  unfold compL Lib.compact Lib.compactUpTo
  rw [List.length_map]
  exact Nat.le_trans (List.length_filter_le _ _) (by simp)
theorem compL_mem {xs : List Int} {x : Int} (h : x ∈ compL xs) : x ∈ xs := by
  unfold compL Lib.compact Lib.compactUpTo at h
  obtain ⟨j, hj, rfl⟩ := List.mem_map.1 h
  have h2 := List.mem_range.1 (List.mem_filter.1 hj).1
  simp [h2]
theorem compact_ok {B : World} {H : HM} {O R : OL} {F : OL → OL} {v : Value} {cs : List Value} {xs : List Int} (hr : Row v xs.length cs 3 1 R) (he : El H cs xs) (h0 : 0 < xs.length) (hl : xs.length ≤ 16) (hF : Hole O R F) :
    CallsM Go.Proofs.Tryd.prog 34 [v].toArray B H O (fun v' H' O' => H = H' ∧ ∃ R', O' = F R' ∧ Row v' (compL xs).length ((compL xs).map (Value.int .i64)) 3 1 R') := by
  obtain ⟨p, c, rfl⟩ := hr.shape
  have hle : (compL xs).length ≤ xs.length := compL_le xs
  refine (CallsM.put (xs' := compL xs ++ List.replicate (xs.length - (compL xs).length) 0) (r := .slice p (compL xs).length c) hr he h0 hF (by simp; omega) (fun b w e1 hc hH hb => by
    subst e1
    refine (Go.Proofs.Any.slices_Compact_int layNm220 b 0 c xs w hH (by omega) hc).mono ?_
    rintro ev w' ⟨rfl, q, rfl⟩
    exact ⟨rfl, q, #[], by rw [Go.Sort.grow_empty]; rfl⟩)).mono ?_
  rintro v' H' O' ⟨rfl, rfl, R', rfl, h3⟩
  refine ⟨rfl, R', rfl, ?_⟩
  have := h3.cut hle
  rwa [Nat.mul_one, List.map_append, List.take_append_of_le_length (by simp), List.take_of_length_le (by simp)] at this
/-! ### What the ledger's check says of a commit -/
theorem get_take {xs : List Log} {g i : Int} (h : getB xs g i = true) : takeB (getC xs g i) = true ∧ (getC xs g i).group = g ∧ (getC xs g i).epoch = i := by
  obtain ⟨h1, h2⟩ := of_decide_eq_true h
  unfold getC
  rw [if_pos h1]
  have hk : i.toNat < (commitsOf xs g).length := by omega
  rw [List.getD_eq_getElem?_getD, List.getElem?_eq_getElem hk]
  show takeB ((commitsOf xs g)[i.toNat]) = true ∧ ((commitsOf xs g)[i.toNat]).group = g ∧ ((commitsOf xs g)[i.toNat]).epoch = i
  have hc : foundB xs g = true ∧ lcheckB xs = true := by
    by_cases hc : foundB xs g = true ∧ lcheckB xs = true
    · exact hc
    · rw [commitsOf, if_neg hc] at hk; simp at hk
  have hp := of_decide_eq_true hc.1
  have e : commitsOf xs g = (logAt xs (placeN xs g)).commits := by rw [commitsOf, if_pos hc]
  have hall := hc.2
  simp only [lcheckB, Bool.and_eq_true, decide_eq_true_eq, List.all_eq_true, List.mem_range] at hall
  have h3 := hall.2 _ hp.1
  simp only [logOk, comsOk, Bool.and_eq_true, List.all_eq_true, List.mem_range] at h3
  have h4 := h3.2.2 i.toNat (by rw [← e]; exact hk)
  have hk' : i.toNat < (logAt xs (placeN xs g)).commits.length := by rw [← e]; exact hk
  rw [comOk_spec hk'] at h4
  simp only [Bool.and_eq_true, decide_eq_true_eq] at h4
  have e5 : (logAt xs (placeN xs g)).group = g := hp.2
  have e6 : (commitsOf xs g)[i.toNat] = (logAt xs (placeN xs g)).commits[i.toNat] := by congr 1
  rw [e6]
  exact ⟨h4.2.2, h4.1.trans e5, by omega⟩
theorem lastTo_leaf {xs : List Node} : ∀ k, 0 ≤ lastTo xs k → 0 < (memsTo xs k).length
  | 0, h => by simp [lastTo] at h
  | k + 1, h => by
    by_cases hb : isLeaf xs k = true
    · rw [memsTo_yes hb]; simp
    · rw [Bool.not_eq_true] at hb
      rw [memsTo_no hb]
      exact lastTo_leaf k (by rw [lastTo_no hb] at h; exact h)
theorem members_pos {xs : List Node} (h : checkB xs = true) (h0 : 0 < xs.length) : 0 < (membersL xs).length := by
  rw [membersL, if_pos h]
  rcases checkB_spec h with h1 | ⟨_, _, h1⟩
  · omega
  · exact lastTo_leaf _ (by omega)
theorem take_pos {c : Commit} (h : takeB c = true) : 0 < (membersL c.next_.nodes).length := by
  simp only [takeB, Bool.and_eq_true, decide_eq_true_eq] at h
  exact members_pos h.2.2 h.2.1
def touch0 (xs : List Log) (g i : Int) : List Int := membersL (getC xs g i).next_.nodes ++ (if getB xs g (i - 1) = true then membersL (getC xs g (i - 1)).next_.nodes else [])
def touchedL (xs : List Log) (g i : Int) : List Int := compL (sortL (touch0 xs g i))
abbrev Touch (b : Bool) (ys : List Int) (H : HM) (O : OL) : Value → HM → OL → Prop := fun v' H' O' => Ext H H' ∧ O = O' ∧ ∃ u, v' = .tuple #[u, .bool b] ∧ (b = true → RdL H' u ys)
theorem touched_ok {B : World} {H : HM} {O : OL} {v : Value} {xs : List Log} {g i : Int} (hT : TabAt H) (h : RdL H v xs) (hg : InR g) (hi : InR i) : CallsM Go.Proofs.Tryd.prog 17 [v, .int .i64 g, .int .i64 i].toArray B H O (Touch (getB xs g i) (touchedL xs g i) H O) := by
  refine enter Go.Proofs.Tryd.func17 rfl Go.Proofs.Tryd.ntmps17 (l := [(0, _), (1, _), (2, _)]) rfl rfl ?_
  refine x_seq ?_
  refine x_region rfl ?_
  refine o_y (y_assign rfl) ?_
  refine o_y (y_assign rfl) ?_
  refine o_nil ?_
  refine x_seq ?_
  refine x_region rfl ?_
  refine o_y (y_move rfl) ?_
  refine o_y (y_move rfl) ?_
  refine o_y (y_move rfl) ?_
  refine o_call fn16 rfl (get_ok hT h hg hi) ?_
  rintro v17 H1 _ ⟨x17, rfl, cs17, rfl, r17⟩
  have w17 := Rep.one r17
  obtain ⟨u6, u7, u8, u9, u12, rfl, a0, a1, a2, a3, a4, a5, a6, a7, a8, a9, a10, a11, a12, a13⟩ := r17
  refine o_y (y_move rfl) ?_
  refine o_y (y_extract rfl rfl) ?_
  refine o_y (y_extract rfl rfl) ?_
  refine o_alloc ti31 rfl (fun b8 => ?_)
  refine o_store (u := [_, _, _, _, _, _, _, _, _, _, _, _, _, _, _]) (C' := [_, _, _, _, _, _, _, _, _, _, _, _, _, _, _]) ti31 rfl rfl rfl rfl (by first | rfl | assumption | (simp only [ones, List.all_cons, List.all_nil, Bool.and_true, one_of (by assumption)]; done)) (by repeat (first | exact .z | apply Upd.s | apply Upd.a)) (by exact Nat.le_of_ble_eq_true rfl) (by rfl) ?_
  refine o_y (y_assign rfl) ?_
  refine o_nil ?_
  refine x_seq ?_
  refine x_seq ?_
  refine x_region rfl ?_
  refine o_y (y_move rfl) ?_
  refine o_y (y_not rfl) ?_
  refine o_nil ?_
  refine x_cond rfl (fun hc0 => ?_) (fun hc0 => ?_)
  · try simp only [k1, k2, k3, k4, k5, k6, k7, k8, k9] at hc0
    refine x_seq ?_
    refine x_region rfl ?_
    refine o_y (y_assign rfl) ?_
    refine o_y (y_assign rfl) ?_
    refine o_nil ?_
    refine x_ret ?_
    refine x_fin 1 (ret2 rfl rfl rfl) ?_
    refine ⟨x17, rfl, .slice none 0 0, ?_, fun hh => ?_⟩
    · rw [show getB xs g i = false by assumption]
    · rw [show getB xs g i = false by assumption] at hh; cases hh
  · try simp only [k1, k2, k3, k4, k5, k6, k7, k8, k9] at hc0
    have hgb : getB xs g i = true := by assumption
    have hiR := hi
    unfold InR at hiR
    have hi0 := (of_decide_eq_true hgb).1
    have hta := get_take hgb
    have hm0 := take_pos hta.1
    have hm8 := membersL_small a11
    refine x_skip ?_
    refine x_seq ?_
    refine x_region rfl ?_
    refine o_y (y_fieldAddr fd31_12 ti29 (by decide) rfl) ?_
    refine o_y (y_loadP ti29 rfl (by repeat (first | assumption | exact .z | apply In.s | apply In.a)) (cs := [_]) rfl rfl) ?_
    refine o_call fn32 rfl (membersR_ok (hT.ext x17) a11) ?_
    rintro v24 _ _ ⟨rfl, R, cs, rfl, j1, j2⟩
    refine o_y (y_assign rfl) ?_
    refine o_nil ?_
    refine x_seq ?_
    refine x_seq ?_
    refine x_region rfl ?_
    refine o_y (y_move rfl) ?_
    refine o_y (y_move rfl) ?_
    refine o_y (y_move rfl) ?_
    refine o_y (y_subN rfl rfl (by omega) (by omega)) ?_
    refine o_call fn16 rfl (get_ok (hT.ext x17) (h.mono x17) hg (by unfold InR at hi ⊢; omega)) ?_
    rintro v30 H2 _ ⟨x30, rfl, cs30, rfl, r30⟩
    have w30 := Rep.one r30
    obtain ⟨u6', u7', u8', u9', u12', rfl, c0, c1, c2, c3, c4, c5, c6, c7, c8, c9, c10, c11, c12, c13⟩ := r30
    refine o_y (y_move rfl) ?_
    refine o_y (y_extract rfl rfl) ?_
    refine o_y (y_extract rfl rfl) ?_
    refine o_alloc ti31 rfl (fun b11 => ?_)
    refine o_store (u := [_, _, _, _, _, _, _, _, _, _, _, _, _, _, _]) (C' := [_, _, _, _, _, _, _, _, _, _, _, _, _, _, _]) ti31 rfl rfl rfl rfl (by first | rfl | assumption | (simp only [ones, List.all_cons, List.all_nil, Bool.and_true, one_of (by assumption)]; done)) (by repeat (first | exact .z | apply Upd.s | apply Upd.a)) (by exact Nat.le_of_ble_eq_true rfl) (by rfl) ?_
    refine o_y (y_assign rfl) ?_
    refine o_nil ?_
    refine x_seq ?_
    refine x_region rfl ?_
    refine o_y (y_move rfl) ?_
    refine o_nil ?_
    refine x_cond rfl (fun hc1 => ?_) (fun hc1 => ?_)
    · try simp only [k1, k2, k3, k4, k5, k6, k7, k8, k9] at hc1
      have hgb2 : getB xs g (i - 1) = true := by assumption
      have hm1 := take_pos (get_take hgb2).1
      have hm9 := membersL_small c11
      refine x_region rfl ?_
      refine o_y (y_move rfl) ?_
      refine o_y (y_fieldAddr fd31_12 ti29 (by decide) rfl) ?_
      refine o_y (y_loadP ti29 rfl (by repeat (first | assumption | exact .z | apply In.s | apply In.a)) (cs := [_]) rfl rfl) ?_
      refine o_call fn32 rfl (members_ok ((hT.ext x17).ext x30) c11) ?_
      rintro v37 H3 _ ⟨x37, rfl, r37⟩
      have hs37 : ∃ a n c, v37 = .slice (some a) n c := by
        obtain ⟨p, c, rfl⟩ := r37.shape
        obtain ⟨q, h4, _⟩ := r37.at [] 0 hm1
        have h5 := AtS.isSl h4
        cases p with
        | none => simp [isSl] at h5
        | some a => exact ⟨a, _, c, rfl⟩
      refine o_appendL Go.Proofs.Tryd.underlying24 ti3 rfl (by decide) rfl rfl j1 rfl r37 hs37 (by omega) (by omega) (by repeat (first | exact .o | exact .z | exact .e | apply Hole.s | apply Hole.g)) (fun v38 R38 news hn jr' => ?_)
      obtain ⟨zs, hz, hz0, hz16, jr, je⟩ : ∃ zs, zs = touch0 xs g i ∧ 0 < zs.length ∧ zs.length ≤ 16 ∧ Row v38 zs.length (cs ++ news) 3 1 R38 ∧ El H3 (cs ++ news) zs := ⟨_, rfl, by unfold touch0; rw [if_pos hgb2]; simp; omega, by unfold touch0; rw [if_pos hgb2]; simp; omega, by unfold touch0; rw [if_pos hgb2, List.length_append]; exact jr', by unfold touch0; rw [if_pos hgb2]; exact (j2.mono (x30.trans x37)).append hn⟩
      have xe := (x17.trans x30).trans x37
      refine o_y (y_assign rfl) ?_
      refine o_nil ?_
      refine x_seq ?_
      refine x_region rfl ?_
      refine o_y (y_move rfl) ?_
      refine o_call fn33 rfl (sort_ok jr je hz0 hz16 (.s .z)) ?_
      rintro v40 _ _ ⟨rfl, rfl, R40, rfl, j40⟩
      refine o_nil ?_
      refine x_seq ?_
      refine x_region rfl ?_
      have hso : ∀ x ∈ sortL zs, InR x := fun x hx => je.ints.2 x (sortL_mem.1 hx)
      have hsl := sortL_len zs
      rw [← hsl] at j40
      refine o_y (y_move rfl) ?_
      refine o_call fn34 rfl (compact_ok j40 (El.ofInts hso) (by omega) (by omega) (.s .z)) ?_
      rintro v42 _ _ ⟨rfl, R42, rfl, j42⟩
      refine o_y (y_assign rfl) ?_
      refine o_y (y_assign rfl) ?_
      refine o_nil ?_
      refine x_freeze (S := R42) (O' := _ :: O) ⟨[_], rfl⟩ (fun hN hX => ?_)
      refine x_ret ?_
      refine x_fin 1 (ret2 rfl rfl rfl) ?_
      refine ⟨xe.trans hX, rfl, _, by rw [hgb], fun _ => ?_⟩
      have hcl : (compL (sortL zs)).length ≤ (sortL zs).length := compL_le _
      rw [touchedL, ← hz]
      exact Row.freeze j42 rfl (El.ofInts (fun x hx => hso x (compL_mem hx))) (by have e : Rep.bytes Int = 8 := rfl; rw [e]; omega) hN
    · try simp only [k1, k2, k3, k4, k5, k6, k7, k8, k9] at hc1
      obtain ⟨zs, hz, hz0, hz16, jr, je⟩ : ∃ zs, zs = touch0 xs g i ∧ 0 < zs.length ∧ zs.length ≤ 16 ∧ Row v24 zs.length cs 3 1 R ∧ El H2 cs zs := by
        have e : touch0 xs g i = membersL (getC xs g i).next_.nodes := by unfold touch0; rw [if_neg (by simp_all), List.append_nil]
        exact ⟨_, rfl, by rw [e]; omega, by rw [e]; omega, by rw [e]; exact j1, by rw [e]; exact j2.mono x30⟩
      have xe := x17.trans x30
      refine x_skip ?_
      refine x_seq ?_
      refine x_region rfl ?_
      refine o_y (y_move rfl) ?_
      refine o_call fn33 rfl (sort_ok jr je hz0 hz16 (.s .z)) ?_
      rintro v40 _ _ ⟨rfl, rfl, R40, rfl, j40⟩
      refine o_nil ?_
      refine x_seq ?_
      refine x_region rfl ?_
      have hso : ∀ x ∈ sortL zs, InR x := fun x hx => je.ints.2 x (sortL_mem.1 hx)
      have hsl := sortL_len zs
      rw [← hsl] at j40
      refine o_y (y_move rfl) ?_
      refine o_call fn34 rfl (compact_ok j40 (El.ofInts hso) (by omega) (by omega) (.s .z)) ?_
      rintro v42 _ _ ⟨rfl, R42, rfl, j42⟩
      refine o_y (y_assign rfl) ?_
      refine o_y (y_assign rfl) ?_
      refine o_nil ?_
      refine x_freeze (S := R42) (O' := _ :: O) ⟨[_], rfl⟩ (fun hN hX => ?_)
      refine x_ret ?_
      refine x_fin 1 (ret2 rfl rfl rfl) ?_
      refine ⟨xe.trans hX, rfl, _, by rw [hgb], fun _ => ?_⟩
      have hcl : (compL (sortL zs)).length ≤ (sortL zs).length := compL_le _
      rw [touchedL, ← hz]
      exact Row.freeze j42 rfl (El.ofInts (fun x hx => hso x (compL_mem hx))) (by have e : Rep.bytes Int = 8 := rfl; rw [e]; omega) hN
end Go.Ph
