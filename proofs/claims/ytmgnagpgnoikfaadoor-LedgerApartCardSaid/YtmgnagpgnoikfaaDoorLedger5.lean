/- A ledger with one commit more. -/
import Derived.Test.YtmgnagpgnoikfaaDoorLedger4
set_option linter.unusedVariables false
set_option linter.unusedSimpArgs false
set_option maxRecDepth 100000
namespace Go.Ph
open Go Go.RowKit Go.Proofs.YtmgnagpgnoikfaaDoor

/-- A row of logs, each of whose commits lie in a row of one's own. -/
inductive OwnLs (H : HM) : List Value → List Log → OL → Prop where
  | n : OwnLs H [] [] []
  | c {cs : List Value} {ls : List Log} {Rs : OL} {va : Value} {csa : List Value} {Ra : OL} {x : Log} (h : OwnLs H cs ls Rs) (hg : InR x.group) (hr : Row va x.commits.length csa 31 15 Ra) (he : El H csa x.commits) (hs : x.commits.length * 200 ≤ 140737488351232) : OwnLs H (cs ++ [.int .i64 x.group, va]) (ls ++ [x]) (Ra ++ Rs)
theorem OwnLs.mono {H H' : HM} {cs : List Value} {ls : List Log} {Rs : OL} (e : Ext H H') (h : OwnLs H cs ls Rs) : OwnLs H' cs ls Rs := by
  induction h with
  | n => exact .n
  | c h hg hr he hs ih => exact .c ih hg hr (he.mono e) hs
/-- All frozen: they read as logs. -/
theorem OwnLs.el {H H' : HM} {cs : List Value} {ls : List Log} {Rs : OL} (h : OwnLs H cs ls Rs) (e : Ext H H') (hH : ∀ b o, (b, o) ∈ Rs → H' b = some o) : El H' cs ls := by
  induction h with
  | n => exact .n
  | c h hg hr he hs ih =>
    refine (ih (fun b o hm => hH b o (by simp [hm]))).snoc ⟨_, rfl, hg, ?_⟩
    exact Row.inH hr rfl (he.mono e) hs (fun b o hm => hH b o (by simp [hm]))
theorem OwnLs.len {H : HM} {cs : List Value} {ls : List Log} {Rs : OL} (h : OwnLs H cs ls Rs) : cs.length = ls.length * 2 := by
  induction h with
  | n => rfl
  | c h hg hr he hs ih => simp only [List.length_append, List.length_cons, List.length_nil, ih]; omega
/-- One of them is kept. -/
theorem OwnLs.split {H : HM} {cs : List Value} {ls : List Log} {Rs : OL} (h : OwnLs H cs ls Rs) : ∀ q (hq : q < ls.length), ∃ A D vq csq Rq Rr, cs = A ++ [.int .i64 ls[q].group, vq] ++ D ∧ A.length = q * 2 ∧ Rs.Perm (Rr ++ Rq) ∧ InR ls[q].group ∧ Row vq ls[q].commits.length csq 31 15 Rq ∧ El H csq ls[q].commits ∧ ls[q].commits.length * 200 ≤ 140737488351232 ∧
    ∀ H', Ext H H' → (∀ b o, (b, o) ∈ Rr → H' b = some o) → El H' A (ls.take q) ∧ El H' D (ls.drop (q + 1)) := by
  induction h with
  | n => intro q hq; simp at hq
  | @c cs ls Rs va csa Ra x h hg hr he hs ih =>
    intro q hq
    rw [List.length_append] at hq
    simp only [List.length_cons, List.length_nil] at hq
    by_cases hql : q < ls.length
    · obtain ⟨A, D, vq, csq, Rq, Rr, h1, h2, h3, h4, h5, h6, h7, h8⟩ := ih q hql
      have e : (ls ++ [x])[q] = ls[q] := List.getElem_append_left hql
      rw [e]
      refine ⟨A, D ++ [.int .i64 x.group, va], vq, csq, Rq, Ra ++ Rr, by rw [h1, List.append_assoc], h2, ?_, h4, h5, h6, h7, fun H' e' hH => ?_⟩
      · rw [List.append_assoc]; exact List.Perm.append_left Ra h3
      · obtain ⟨h9, h10⟩ := h8 H' e' (fun b o hm => hH b o (by simp [hm]))
        refine ⟨by rw [List.take_append_of_le_length (by omega)]; exact h9, ?_⟩
        rw [List.drop_append_of_le_length (by omega)]
        exact h10.snoc ⟨_, rfl, hg, Row.inH hr rfl (he.mono e') hs (fun b o hm => hH b o (by simp [hm]))⟩
    · have hq' : q = ls.length := by omega
      subst hq'
      have e : (ls ++ [x])[ls.length] = x := by simp
      have hl := h.len
      rw [e]
      refine ⟨cs, [], va, csa, Ra, Rs, by simp, hl, List.perm_append_comm, hg, hr, he, hs, fun H' e' hH => ?_⟩
      refine ⟨by rw [List.take_left']; exact h.el e' hH; rfl, by rw [List.drop_of_length_le (by simp)]; exact .n⟩

def leafN (x : Int) : Node := ⟨1, x, 0, []⟩
theorem leaf_ok {B : World} {H : HM} {O : OL} {x : Int} (hx : InR x) : CallsM Go.Proofs.Tryd.prog 20 [.int .i64 x].toArray B H O (MadeS (⟨[leafN x]⟩ : Tree) H O) := by
  refine enter Go.Proofs.Tryd.func20 rfl Go.Proofs.Tryd.ntmps20 (l := [(0, _)]) rfl rfl ?_
  refine x_seq ?_
  refine x_region rfl ?_
  refine o_alloc ti29 rfl (fun b2 => ?_)
  refine o_nil ?_
  refine x_seq ?_
  refine x_region rfl ?_
  refine o_y (y_move rfl) ?_
  refine o_y (y_buildS bt72 rfl (C := [_, _, _, _]) rfl) ?_
  refine o_slice1 Go.Proofs.Tryd.underlying27 ti72 (by decide) (by decide) rfl rfl (C := [_, _, _, _]) rfl rfl (fun b5 => ?_)
  refine o_y (y_buildS bt29 rfl (C := [_]) rfl) ?_
  refine o_store (u := [_]) (C' := [_]) ti29 rfl rfl rfl rfl (by first | rfl | assumption | (simp only [ones, List.all_cons, List.all_nil, Bool.and_true, one_of (by assumption)]; done)) (by repeat (first | exact .z | apply Upd.s | apply Upd.a)) (by exact Nat.le_of_ble_eq_true rfl) (by rfl) ?_
  refine o_nil ?_
  refine x_freeze (S := [(b5, _)]) (O' := _ :: O) ⟨[], rfl⟩ (fun hN hX => ?_)
  refine x_ret ?_
  refine x_fin 1 (retC rfl rfl ti29 (by repeat (first | assumption | exact .z | apply In.s | apply In.a)) rfl) ?_
  refine ⟨hX, rfl, _, rfl, _, rfl, ?_⟩
  have h0 : InR 0 := by unfold InR; omega
  have h1 : InR 1 := by unfold InR; omega
  refine Row.freeze (n := 1) (e := 72) (cs := [.int .i64 1, .int .i64 x, .int .i64 0, .slice none 0 0]) ⟨rfl, .inr ⟨b5, 1, [], rfl, Nat.le_refl _, rfl, rfl⟩⟩ rfl (El.one1 ⟨_, rfl, h1, hx, h0, RdL.nil _⟩) (by exact Nat.le_of_ble_eq_true rfl) hN
abbrev Ins (n : Nat) (cs : List Value) (e : Nat) (F : OL → OL) (H : HM) : Value → HM → OL → Prop := fun v' H' O' => H = H' ∧ ∃ R', O' = F R' ∧ Row v' n cs e 2 R'
/-- A log put in behind all others. -/
theorem insert_end {B : World} {H : HM} {O R : OL} {F : OL → OL} {v : Value} {n : Nat} {cs : List Value} {b : Nat} {x y : Value} (hr : Row v n cs 48 2 R) (hn : n ≤ 16) (hb : In O b (cl [x, y] 48)) (h1 : ones [x, y] = true) (hF : Hole O R F) :
    CallsM Go.Proofs.Tryd.prog 25 [v, .int .i64 (n : Int), .slice (some ⟨b, 0, none⟩) 1 1].toArray B H O (Ins (n + 1) (cs ++ [x, y]) 48 F H) := by
  obtain ⟨p, c, rfl⟩ := hr.shape
  refine enter Go.Proofs.Tryd.func25 rfl Go.Proofs.Tryd.ntmps25 (l := [(0, _), (1, _), (2, _)]) rfl rfl ?_
  refine x_seq ?_
  refine x_region rfl ?_
  refine o_y (y_assign rfl) ?_
  refine o_nil ?_
  refine x_seq ?_
  refine x_region rfl ?_
  refine o_y (y_move rfl) ?_
  refine o_y (y_move rfl) ?_
  refine o_y (y_sliceL Go.Proofs.Tryd.underlying22 ti48 rfl rfl n rfl (Nat.le_refl n)) ?_
  refine o_nil ?_
  refine x_seq ?_
  refine x_region rfl ?_
  refine o_y (y_move rfl) ?_
  first | refine o_y (y_lenL (by assumption) Go.Proofs.Tryd.underlying22 rfl) ?_ | refine o_y (y_lenR (by assumption) Go.Proofs.Tryd.underlying22 rfl) ?_ | refine o_y (y_len Go.Proofs.Tryd.underlying22 rfl) ?_
  refine o_y (y_assign rfl) ?_
  refine o_nil ?_
  refine x_seq ?_
  refine x_seq ?_
  refine x_region rfl ?_
  refine o_y (y_move rfl) ?_
  refine o_y (y_eql rfl rfl) ?_
  refine o_nil ?_
  refine x_cond rfl (fun hc0 => ?_) (fun hc0 => ?_)
  · try simp only [k1, k2, k3, k4, k5, k6, k7, k8, k9] at hc0
    exfalso; omega
  · try simp only [k1, k2, k3, k4, k5, k6, k7, k8, k9] at hc0
    refine x_skip ?_
    refine x_seq ?_
    refine x_region rfl ?_
    refine o_y (y_move rfl) ?_
    first | refine o_y (y_lenL (by assumption) Go.Proofs.Tryd.underlying22 rfl) ?_ | refine o_y (y_lenR (by assumption) Go.Proofs.Tryd.underlying22 rfl) ?_ | refine o_y (y_len Go.Proofs.Tryd.underlying22 rfl) ?_
    refine o_y (y_assign rfl) ?_
    refine o_nil ?_
    refine x_seq ?_
    refine x_seq ?_
    refine x_region rfl ?_
    refine o_y (y_move rfl) ?_
    refine o_y (y_move rfl) ?_
    refine o_y (y_eql rfl rfl) ?_
    refine o_nil ?_
    refine x_cond rfl (fun hc1 => ?_) (fun hc1 => ?_)
    · try simp only [k1, k2, k3, k4, k5, k6, k7, k8, k9] at hc1
      refine x_seq ?_
      refine x_region rfl ?_
      refine o_y (y_move rfl) ?_
      refine o_y (y_move rfl) ?_
      refine o_append Go.Proofs.Tryd.underlying22 ti48 rfl (by decide) rfl hr rfl (At.all (by assumption)) rfl h1 (by omega) (by omega) hF (fun v' R' j1 => ?_)
      refine o_y (y_assign rfl) ?_
      refine o_nil ?_
      refine x_ret ?_
      refine x_fin 0 (ret1 rfl rfl) ?_
      exact ⟨rfl, R', rfl, j1⟩
    · try simp only [k1, k2, k3, k4, k5, k6, k7, k8, k9] at hc1
      exfalso; simp at hc1
end Go.Ph
