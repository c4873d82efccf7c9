/- A group's commits; how many; one of them; the last. -/
import Derived.Test.YtmgnagpgnoikfaaDoorLedger2
set_option linter.unusedVariables false
set_option linter.unusedSimpArgs false
set_option maxRecDepth 100000
namespace Go.Ph
open Go Go.RowKit Go.Proofs.YtmgnagpgnoikfaaDoor

def commitsOf (xs : List Log) (g : Int) : List Commit := if foundB xs g = true ∧ lcheckB xs = true then (logAt xs (placeN xs g)).commits else []
/-- What hands back what lies in what nobody writes. -/
abbrev Lent {α : Type} [Rep α] (xs : List α) (H : HM) (O : OL) : Value → HM → OL → Prop := fun v H' O' => H = H' ∧ O = O' ∧ RdL H v xs
theorem commits_ok {B : World} {H : HM} {O : OL} {v : Value} {xs : List Log} {g : Int} (hT : TabAt H) (h : RdL H v xs) (hg : InR g) : CallsM Go.Proofs.Tryd.prog 31 [v, .int .i64 g].toArray B H O (Lent (commitsOf xs g) H O) := by
  have hs := h.lenle
  have hc := errI_cases (lcheckB xs)
  refine enter Go.Proofs.Tryd.func31 rfl Go.Proofs.Tryd.ntmps31 (l := [(0, _), (1, _)]) rfl rfl ?_
  refine x_seq ?_
  refine x_region rfl ?_
  refine o_y (y_assign rfl) ?_
  refine o_nil ?_
  refine x_seq ?_
  refine x_seq ?_
  refine x_region rfl ?_
  refine o_y (y_move rfl) ?_
  refine o_y (y_move rfl) ?_
  refine o_call fn23 rfl (place_ok h hg) ?_
  rintro _ _ _ ⟨rfl, rfl, rfl⟩
  refine o_y (y_move rfl) ?_
  refine o_y (y_extract rfl rfl) ?_
  refine o_y (y_extract rfl rfl) ?_
  refine o_y (y_assign rfl) ?_
  refine o_y (y_assign rfl) ?_
  refine o_nil ?_
  refine x_seq ?_
  refine x_region rfl ?_
  refine o_y (y_move rfl) ?_
  refine o_y (y_move rfl) ?_
  refine o_split 14 rfl (fun hg2_14 => ?_) (fun hg2_14 => ?_)
  · try simp only [k1, k2, k3, k4, k5, k6, k7, k8, k9] at hg2_14
    refine o_gy 14 rfl rfl (y_move rfl) ?_
    refine o_gcall 14 rfl rfl fn14 rfl (lcheck_ok hT h) ?_
    rintro _ _ _ ⟨rfl, rfl, rfl⟩
    refine o_gy 14 rfl rfl (y_eql rfl rfl) ?_
    refine o_y (y_pick rfl rfl) ?_
    refine o_nil ?_
    refine x_cond rfl (fun hc0 => ?_) (fun hc0 => ?_)
    · try simp only [k1, k2, k3, k4, k5, k6, k7, k8, k9] at hc0
      have hf : foundB xs g = true := by first | assumption | (simp_all; done)
      have hk : placeN xs g < xs.length := by
        have := of_decide_eq_true hf; exact this.1
      have hl : lcheckB xs = true := by
        rcases hc with ⟨e1, e2⟩ | ⟨e1, e2⟩
        · exact e1
        · exfalso; omega
      refine x_seq ?_
      refine x_region rfl ?_
      refine o_y (y_move rfl) ?_
      refine o_y (y_move rfl) ?_
      obtain ⟨ce21, ae21, re21⟩ := RdL.at h _ (placeN xs g) hk
      have se21 := AtS.isSl ae21
      have te21 := re21
      obtain ⟨u21_1, z21, q21_0, q21_1⟩ := re21
      subst z21
      have w21 := Rep.one te21
      refine o_y (y_idxL h (placeN xs g) hk Go.Proofs.Tryd.underlying22 ti48 rfl rfl (by omega)) ?_
      refine o_y (y_fieldAddrP fd48_1 ti46 (by decide) (by assumption) rfl) ?_
      refine o_y (y_loadS1 ti46 rfl (by assumption) rfl) ?_
      refine o_y (y_assign rfl) ?_
      refine o_nil ?_
      refine x_ret ?_
      refine x_fin 0 (ret1 rfl rfl) ?_
      refine ⟨rfl, rfl, ?_⟩
      rw [commitsOf, if_pos ⟨hf, hl⟩, logAt_eq hk]; exact q21_1
    · try simp only [k1, k2, k3, k4, k5, k6, k7, k8, k9] at hc0
      refine x_skip ?_
      refine x_seq ?_
      refine x_region rfl ?_
      refine o_y (y_assign rfl) ?_
      refine o_nil ?_
      refine x_ret ?_
      refine x_fin 0 (ret1 rfl rfl) ?_
      refine ⟨rfl, rfl, ?_⟩
      rw [commitsOf, if_neg]
      · exact RdL.nil _
      · rintro ⟨e3, e4⟩
        rw [e4] at hc
        simp_all
  · try simp only [k1, k2, k3, k4, k5, k6, k7, k8, k9] at hg2_14
    refine o_gn 14 rfl rfl rfl ?_
    refine o_gn 14 rfl rfl rfl ?_
    refine o_gn 14 rfl rfl rfl ?_
    refine o_y (y_pick rfl rfl) ?_
    refine o_nil ?_
    refine x_condF rfl ?_
    refine x_skip ?_
    refine x_seq ?_
    refine x_region rfl ?_
    refine o_y (y_assign rfl) ?_
    refine o_nil ?_
    refine x_ret ?_
    refine x_fin 0 (ret1 rfl rfl) ?_
    refine ⟨rfl, rfl, ?_⟩
    rw [commitsOf, if_neg]
    · exact RdL.nil _
    · rintro ⟨e3, e4⟩
      rw [e4] at hc
      simp_all
theorem len_ok {B : World} {H : HM} {O : OL} {v : Value} {xs : List Log} {g : Int} (hT : TabAt H) (h : RdL H v xs) (hg : InR g) : CallsM Go.Proofs.Tryd.prog 15 [v, .int .i64 g].toArray B H O (Same (.int .i64 (commitsOf xs g).length) H O) := by
  refine enter Go.Proofs.Tryd.func15 rfl Go.Proofs.Tryd.ntmps15 (l := [(0, _), (1, _)]) rfl rfl ?_
  refine x_seq ?_
  refine x_region rfl ?_
  refine o_y (y_assign rfl) ?_
  refine o_nil ?_
  refine x_seq ?_
  refine x_region rfl ?_
  refine o_y (y_move rfl) ?_
  refine o_y (y_move rfl) ?_
  refine o_call fn31 rfl (commits_ok hT h hg) ?_
  rintro v7 _ _ ⟨rfl, rfl, r7⟩
  first | refine o_y (y_lenL (by assumption) Go.Proofs.Tryd.underlying46 rfl) ?_ | refine o_y (y_lenR (by assumption) Go.Proofs.Tryd.underlying46 rfl) ?_ | refine o_y (y_len Go.Proofs.Tryd.underlying46 rfl) ?_
  refine o_y (y_assign rfl) ?_
  refine o_nil ?_
  refine x_ret ?_
  refine x_fin 0 (ret1 rfl rfl) ?_
  exact ⟨rfl, rfl, rfl⟩
def getC (xs : List Log) (g i : Int) : Commit := if 0 ≤ i then (commitsOf xs g).getD i.toNat default else default
def getB (xs : List Log) (g i : Int) : Bool := decide (0 ≤ i ∧ i < (commitsOf xs g).length)
abbrev Got (c : Commit) (b : Bool) (H : HM) (O : OL) : Value → HM → OL → Prop := fun v H' O' => Ext H H' ∧ O = O' ∧ ∃ cs, v = .tuple #[.agg cs.toArray, .bool b] ∧ Rep.rd H' cs c
theorem commit_zero (H : HM) : Rep.rd H [.int .i64 0, .int .i64 0, .int .i64 0, .int .i64 0, .int .i64 0, .bool false, .slice none 0 0, .slice none 0 0, .slice none 0 0, .slice none 0 0, .int .i64 0, .int .i64 0, .slice none 0 0, .int .i64 0, .int .i64 0] (default : Commit) := by
  have z : InR 0 := by unfold InR; omega
  exact ⟨_, _, _, _, _, rfl, z, z, z, z, z, RdL.nil H, RdL.nil H, RdL.nil H, RdL.nil H, z, z, RdL.nil H, z, z⟩
theorem get_ok {B : World} {H : HM} {O : OL} {v : Value} {xs : List Log} {g i : Int} (hT : TabAt H) (h : RdL H v xs) (hg : InR g) (hi : InR i) : CallsM Go.Proofs.Tryd.prog 16 [v, .int .i64 g, .int .i64 i].toArray B H O (Got (getC xs g i) (getB xs g i) H O) := by
  refine enter Go.Proofs.Tryd.func16 rfl Go.Proofs.Tryd.ntmps16 (l := [(0, _), (1, _), (2, _)]) rfl rfl ?_
  refine x_seq ?_
  refine x_region rfl ?_
  refine o_alloc ti31 rfl (fun b6 => ?_)
  refine o_y (y_assign rfl) ?_
  refine o_nil ?_
  refine x_seq ?_
  refine x_region rfl ?_
  refine o_y (y_move rfl) ?_
  refine o_y (y_move rfl) ?_
  refine o_call fn31 rfl (commits_ok hT h hg) ?_
  rintro v11 _ _ ⟨rfl, rfl, r11⟩
  refine o_y (y_assign rfl) ?_
  refine o_nil ?_
  refine x_seq ?_
  refine x_seq ?_
  refine x_region rfl ?_
  refine o_y (y_move rfl) ?_
  refine o_y (y_lss rfl rfl) ?_
  refine o_y (y_move rfl) ?_
  refine o_split 14 rfl (fun hg2_14 => ?_) (fun hg2_14 => ?_)
  · try simp only [k1, k2, k3, k4, k5, k6, k7, k8, k9] at hg2_14
    refine o_gn 14 rfl rfl rfl ?_
    refine o_gn 14 rfl rfl rfl ?_
    refine o_gn 14 rfl rfl rfl ?_
    refine o_gn 14 rfl rfl rfl ?_
    refine o_y (y_pick rfl rfl) ?_
    refine o_nil ?_
    refine x_condT rfl ?_
    refine x_seq ?_
    refine x_region rfl ?_
    refine o_y (y_buildS bt31 rfl (C := [_, _, _, _, _, _, _, _, _, _, _, _, _, _, _]) rfl) ?_
    refine o_store (u := [_, _, _, _, _, _, _, _, _, _, _, _, _, _, _]) (C' := [_, _, _, _, _, _, _, _, _, _, _, _, _, _, _]) ti31 rfl rfl rfl rfl (by first | rfl | assumption | (simp only [ones, List.all_cons, List.all_nil, Bool.and_true, one_of (by assumption)]; done)) (by repeat (first | exact .z | apply Upd.s | apply Upd.a)) (by exact Nat.le_of_ble_eq_true rfl) (by rfl) ?_
    refine o_y (y_assign rfl) ?_
    refine o_nil ?_
    refine x_ret ?_
    refine x_fin 1 (retC2 rfl rfl rfl ti31 (by repeat (first | assumption | exact .z | apply In.s | apply In.a)) rfl) ?_
    rw [getB, decide_eq_false (by omega)]
    refine ⟨Ext.refl _, rfl, _, rfl, ?_⟩
    have e : getC xs g i = default := by
      unfold getC
      by_cases h0 : 0 ≤ i
      · rw [if_pos h0, List.getD_eq_getElem?_getD, List.getElem?_eq_none (by omega)]; rfl
      · rw [if_neg h0]
    rw [e]; exact commit_zero H
  · try simp only [k1, k2, k3, k4, k5, k6, k7, k8, k9] at hg2_14
    refine o_gy 14 rfl rfl (y_move rfl) ?_
    refine o_gy 14 rfl rfl (y_move rfl) ?_
    first | refine o_gy 14 rfl rfl (y_lenL (by assumption) Go.Proofs.Tryd.underlying46 rfl) ?_ | refine o_gy 14 rfl rfl (y_lenR (by assumption) Go.Proofs.Tryd.underlying46 rfl) ?_ | refine o_gy 14 rfl rfl (y_len Go.Proofs.Tryd.underlying46 rfl) ?_
    refine o_gy 14 rfl rfl (y_geq rfl rfl) ?_
    refine o_y (y_pick rfl rfl) ?_
    refine o_nil ?_
    refine x_cond rfl (fun hc0 => ?_) (fun hc0 => ?_)
    · try simp only [k1, k2, k3, k4, k5, k6, k7, k8, k9] at hc0
      refine x_seq ?_
      refine x_region rfl ?_
      refine o_y (y_buildS bt31 rfl (C := [_, _, _, _, _, _, _, _, _, _, _, _, _, _, _]) rfl) ?_
      refine o_store (u := [_, _, _, _, _, _, _, _, _, _, _, _, _, _, _]) (C' := [_, _, _, _, _, _, _, _, _, _, _, _, _, _, _]) ti31 rfl rfl rfl rfl (by first | rfl | assumption | (simp only [ones, List.all_cons, List.all_nil, Bool.and_true, one_of (by assumption)]; done)) (by repeat (first | exact .z | apply Upd.s | apply Upd.a)) (by exact Nat.le_of_ble_eq_true rfl) (by rfl) ?_
      refine o_y (y_assign rfl) ?_
      refine o_nil ?_
      refine x_ret ?_
      refine x_fin 1 (retC2 rfl rfl rfl ti31 (by repeat (first | assumption | exact .z | apply In.s | apply In.a)) rfl) ?_
      rw [getB, decide_eq_false (by omega)]
      refine ⟨Ext.refl _, rfl, _, rfl, ?_⟩
      have e : getC xs g i = default := by
        unfold getC
        by_cases h0 : 0 ≤ i
        · rw [if_pos h0, List.getD_eq_getElem?_getD, List.getElem?_eq_none (by omega)]; rfl
        · rw [if_neg h0]
      rw [e]; exact commit_zero H
    · try simp only [k1, k2, k3, k4, k5, k6, k7, k8, k9] at hc0
      have hk : i.toNat < (commitsOf xs g).length := by omega
      refine x_skip ?_
      refine x_seq ?_
      refine x_region rfl ?_
      refine o_y (y_move rfl) ?_
      refine o_y (y_move rfl) ?_
      obtain ⟨ce23, ae23, re23⟩ := RdL.at r11 _ i.toNat hk
      have se23 := AtS.isSl ae23
      have te23 := re23
      obtain ⟨u23_6, u23_7, u23_8, u23_9, u23_12, z23, q23_0, q23_1, q23_2, q23_3, q23_4, q23_5, q23_6, q23_7, q23_8, q23_9, q23_10, q23_11, q23_12, q23_13⟩ := re23
      subst z23
      have w23 := Rep.one te23
      refine o_y (y_idxL r11 i.toNat hk Go.Proofs.Tryd.underlying46 ti31 rfl rfl (by omega)) ?_
      refine o_y (y_loadS ti31 rfl (by assumption) rfl (fun e => by cases e)) ?_
      refine o_call fn24 rfl (copied_ok te23) ?_
      rintro v25 H1 _ ⟨x25, rfl, cs25, rfl, r25⟩
      have w25 := Rep.one r25
      obtain ⟨u6, u7, u8, u9, u12, rfl, r25⟩ := r25
      refine o_store (u := [_, _, _, _, _, _, _, _, _, _, _, _, _, _, _]) (C' := [_, _, _, _, _, _, _, _, _, _, _, _, _, _, _]) ti31 rfl rfl rfl rfl (by first | rfl | assumption | (simp only [ones, List.all_cons, List.all_nil, Bool.and_true, one_of (by assumption)]; done)) (by repeat (first | exact .z | apply Upd.s | apply Upd.a)) (by exact Nat.le_of_ble_eq_true rfl) (by rfl) ?_
      refine o_y (y_assign rfl) ?_
      refine o_nil ?_
      refine x_ret ?_
      refine x_fin 1 (retC2 rfl rfl rfl ti31 (by repeat (first | assumption | exact .z | apply In.s | apply In.a)) rfl) ?_
      rw [getB, decide_eq_true (by omega)]
      refine ⟨x25, rfl, _, rfl, ?_⟩
      have e : getC xs g i = (commitsOf xs g)[i.toNat] := by
        unfold getC
        rw [if_pos (by omega), List.getD_eq_getElem?_getD, List.getElem?_eq_getElem hk]; rfl
      rw [e]; exact ⟨_, _, _, _, _, rfl, r25⟩
theorem last_ok {B : World} {H : HM} {O : OL} {v : Value} {xs : List Log} {g : Int} (hT : TabAt H) (h : RdL H v xs) (hg : InR g) : CallsM Go.Proofs.Tryd.prog 12 [v, .int .i64 g].toArray B H O (Got (getC xs g (((commitsOf xs g).length : Int) - 1)) (getB xs g (((commitsOf xs g).length : Int) - 1)) H O) := by
  have hl : (commitsOf xs g).length ≤ 140737488351232 := by
    unfold commitsOf
    split
    · rename_i hf
      have hk : placeN xs g < xs.length := (of_decide_eq_true hf.1).1
      obtain ⟨cs, _, u, _, _, h1⟩ := h.at [] _ hk
      rw [logAt_eq hk]; exact h1.lenle
    · simp
  refine enter Go.Proofs.Tryd.func12 rfl Go.Proofs.Tryd.ntmps12 (l := [(0, _), (1, _)]) rfl rfl ?_
  refine x_seq ?_
  refine x_region rfl ?_
  refine o_alloc ti31 rfl (fun b4 => ?_)
  refine o_y (y_assign rfl) ?_
  refine o_nil ?_
  refine x_seq ?_
  refine x_region rfl ?_
  refine o_y (y_move rfl) ?_
  refine o_y (y_move rfl) ?_
  refine o_y (y_move rfl) ?_
  refine o_y (y_move rfl) ?_
  refine o_call fn15 rfl (len_ok hT h hg) ?_
  rintro _ _ _ ⟨rfl, rfl, rfl⟩
  refine o_y (y_subN rfl rfl (by omega) (by omega)) ?_
  refine o_call fn16 rfl (get_ok hT h hg (by unfold InR; omega)) ?_
  rintro v12 H1 _ ⟨x12, rfl, cs12, rfl, r12⟩
  have w12 := Rep.one r12
  obtain ⟨u6, u7, u8, u9, u12, rfl, r12⟩ := r12
  refine o_y (y_extract rfl rfl) ?_
  refine o_y (y_extract rfl rfl) ?_
  refine o_store (u := [_, _, _, _, _, _, _, _, _, _, _, _, _, _, _]) (C' := [_, _, _, _, _, _, _, _, _, _, _, _, _, _, _]) ti31 rfl rfl rfl rfl (by first | rfl | assumption | (simp only [ones, List.all_cons, List.all_nil, Bool.and_true, one_of (by assumption)]; done)) (by repeat (first | exact .z | apply Upd.s | apply Upd.a)) (by exact Nat.le_of_ble_eq_true rfl) (by rfl) ?_
  refine o_y (y_assign rfl) ?_
  refine o_nil ?_
  refine x_ret ?_
  refine x_fin 1 (retC2 rfl rfl rfl ti31 (by repeat (first | assumption | exact .z | apply In.s | apply In.a)) rfl) ?_
  exact ⟨x12, rfl, _, rfl, _, _, _, _, _, rfl, r12⟩
end Go.Ph
