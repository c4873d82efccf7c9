/- Trees: blank nodes, how many leaves. -/
import Derived.Test.YtmgnagpgnoikfaaDoorTys
import Derived.Test.YtmgnagpgnoikfaaDoorData
set_option linter.unusedVariables false
set_option linter.unusedSimpArgs false
set_option maxRecDepth 100000
namespace Go.Ph
open Go Go.RowKit Go.Proofs.YtmgnagpgnoikfaaDoor

def Node.blankB (x : Node) : Bool := decide (x.pub = 0) && decide (x.member = 0) && decide (x.epoch = 0) && decide ((x.unmerged.length : Int) = 0)
theorem blank_ok {B : World} {H : HM} {O : OL} {cs : List Value} {x : Node} (h : Rep.rd H cs x) : CallsM Go.Proofs.Tryd.prog 52 [.agg cs.toArray].toArray B H O (Same (.bool x.blankB) H O) := by
  obtain ⟨u, rfl, h0, h1, h2, h3⟩ := h
  refine enter Go.Proofs.Tryd.func52 rfl Go.Proofs.Tryd.ntmps52 (l := [(0, _)]) rfl rfl ?_
  refine x_seq ?_
  refine x_region rfl ?_
  refine o_box rfl (cs := [_, _, _, _]) rfl (fun b1 => ?_)
  refine o_y (y_assign rfl) ?_
  refine o_nil ?_
  refine x_seq ?_
  refine x_region rfl ?_
  refine o_y (y_fieldAddr fd72_0 ti3 (by decide) rfl) ?_
  refine o_y (y_loadO ti3 rfl (by repeat (first | assumption | exact .z | apply In.s | apply In.a)) rfl) ?_
  refine o_y (y_eql rfl rfl) ?_
  refine o_y (y_move rfl) ?_
  refine o_split 6 rfl (fun hg1_6 => ?_) (fun hg1_6 => ?_)
  · try simp only [k1, k2, k3, k4, k5, k6, k7, k8, k9] at hg1_6
    refine o_gy 6 rfl rfl (y_fieldAddr fd72_1 ti3 (by decide) rfl) ?_
    refine o_gy 6 rfl rfl (y_loadO ti3 rfl (by repeat (first | assumption | exact .z | apply In.s | apply In.a)) rfl) ?_
    refine o_gy 6 rfl rfl (y_eql rfl rfl) ?_
    refine o_y (y_pick rfl rfl) ?_
    refine o_y (y_move rfl) ?_
    refine o_split 11 rfl (fun hg1_11 => ?_) (fun hg1_11 => ?_)
    · try simp only [k1, k2, k3, k4, k5, k6, k7, k8, k9] at hg1_11
      refine o_gy 11 rfl rfl (y_fieldAddr fd72_2 ti3 (by decide) rfl) ?_
      refine o_gy 11 rfl rfl (y_loadO ti3 rfl (by repeat (first | assumption | exact .z | apply In.s | apply In.a)) rfl) ?_
      refine o_gy 11 rfl rfl (y_eql rfl rfl) ?_
      refine o_y (y_pick rfl rfl) ?_
      refine o_y (y_move rfl) ?_
      refine o_split 16 rfl (fun hg1_16 => ?_) (fun hg1_16 => ?_)
      · try simp only [k1, k2, k3, k4, k5, k6, k7, k8, k9] at hg1_16
        refine o_gy 16 rfl rfl (y_fieldAddr fd72_3 ti24 (by decide) rfl) ?_
        refine o_gy 16 rfl rfl (y_loadO ti24 rfl (by repeat (first | assumption | exact .z | apply In.s | apply In.a)) rfl) ?_
        first | refine o_gy 16 rfl rfl (y_lenL (by assumption) Go.Proofs.Tryd.underlying24 rfl) ?_ | refine o_gy 16 rfl rfl (y_lenR (by assumption) Go.Proofs.Tryd.underlying24 rfl) ?_ | refine o_gy 16 rfl rfl (y_len Go.Proofs.Tryd.underlying24 rfl) ?_
        refine o_gy 16 rfl rfl (y_eql rfl rfl) ?_
        refine o_y (y_pick rfl rfl) ?_
        refine o_y (y_assign rfl) ?_
        refine o_nil ?_
        refine x_ret ?_
        refine x_fin 1 (ret1 rfl rfl) ?_
        exact ⟨by simp [Node.blankB, *], rfl, rfl⟩
      · try simp only [k1, k2, k3, k4, k5, k6, k7, k8, k9] at hg1_16
        refine o_gn 16 rfl rfl rfl ?_
        refine o_gn 16 rfl rfl rfl ?_
        refine o_gn 16 rfl rfl rfl ?_
        refine o_gn 16 rfl rfl rfl ?_
        refine o_y (y_pick rfl rfl) ?_
        refine o_y (y_assign rfl) ?_
        refine o_nil ?_
        refine x_ret ?_
        refine x_fin 1 (ret1 rfl rfl) ?_
        exact ⟨by simp [Node.blankB, *], rfl, rfl⟩
    · try simp only [k1, k2, k3, k4, k5, k6, k7, k8, k9] at hg1_11
      refine o_gn 11 rfl rfl rfl ?_
      refine o_gn 11 rfl rfl rfl ?_
      refine o_gn 11 rfl rfl rfl ?_
      refine o_y (y_pick rfl rfl) ?_
      refine o_y (y_move rfl) ?_
      refine o_gn 16 rfl rfl rfl ?_
      refine o_gn 16 rfl rfl rfl ?_
      refine o_gn 16 rfl rfl rfl ?_
      refine o_gn 16 rfl rfl rfl ?_
      refine o_y (y_pick rfl rfl) ?_
      refine o_y (y_assign rfl) ?_
      refine o_nil ?_
      refine x_ret ?_
      refine x_fin 1 (ret1 rfl rfl) ?_
      exact ⟨by simp [Node.blankB, *], rfl, rfl⟩
  · try simp only [k1, k2, k3, k4, k5, k6, k7, k8, k9] at hg1_6
    refine o_gn 6 rfl rfl rfl ?_
    refine o_gn 6 rfl rfl rfl ?_
    refine o_gn 6 rfl rfl rfl ?_
    refine o_y (y_pick rfl rfl) ?_
    refine o_y (y_move rfl) ?_
    refine o_gn 11 rfl rfl rfl ?_
    refine o_gn 11 rfl rfl rfl ?_
    refine o_gn 11 rfl rfl rfl ?_
    refine o_y (y_pick rfl rfl) ?_
    refine o_y (y_move rfl) ?_
    refine o_gn 16 rfl rfl rfl ?_
    refine o_gn 16 rfl rfl rfl ?_
    refine o_gn 16 rfl rfl rfl ?_
    refine o_gn 16 rfl rfl rfl ?_
    refine o_y (y_pick rfl rfl) ?_
    refine o_y (y_assign rfl) ?_
    refine o_nil ?_
    refine x_ret ?_
    refine x_fin 1 (ret1 rfl rfl) ?_
    exact ⟨by simp [Node.blankB, *], rfl, rfl⟩
def isPow (n : Nat) : Bool := Nat.beq n 1 || Nat.beq n 2 || Nat.beq n 4 || Nat.beq n 8
theorem isPow_bits : ∀ n : Nat, n ≤ 8 → 0 < n → decide (ibit .and .i64 (n : Int) ((n : Int) - 1) = 0) = isPow n := by decide +kernel
theorem itree_ok {B : World} {H : HM} {O : OL} (n : Nat) (hn : n ≤ 8) : CallsM Go.Proofs.Tryd.prog 75 [.int .i64 n].toArray B H O (Same (.bool (isPow n)) H O) := by
  refine enter Go.Proofs.Tryd.func75 rfl Go.Proofs.Tryd.ntmps75 (l := [(0, _)]) rfl rfl ?_
  refine x_seq ?_
  refine x_region rfl ?_
  refine o_y (y_assign rfl) ?_
  refine o_nil ?_
  refine x_seq ?_
  refine x_region rfl ?_
  refine o_y (y_move rfl) ?_
  refine o_y (y_gtr rfl rfl) ?_
  refine o_y (y_move rfl) ?_
  refine o_split 5 rfl (fun hg1_5 => ?_) (fun hg1_5 => ?_)
  · try simp only [k1, k2, k3, k4, k5, k6, k7, k8, k9] at hg1_5
    refine o_gy 5 rfl rfl (y_move rfl) ?_
    refine o_gy 5 rfl rfl (y_leq rfl rfl) ?_
    refine o_y (y_pick rfl rfl) ?_
    refine o_y (y_move rfl) ?_
    refine o_split 9 rfl (fun hg1_9 => ?_) (fun hg1_9 => ?_)
    · try simp only [k1, k2, k3, k4, k5, k6, k7, k8, k9] at hg1_9
      refine o_gy 9 rfl rfl (y_move rfl) ?_
      refine o_gy 9 rfl rfl (y_move rfl) ?_
      refine o_gy 9 rfl rfl (y_subN rfl rfl (by omega) (by omega)) ?_
      refine o_gy 9 rfl rfl (y_and rfl rfl) ?_
      refine o_gy 9 rfl rfl (y_eql rfl rfl) ?_
      refine o_y (y_pick rfl rfl) ?_
      refine o_y (y_assign rfl) ?_
      refine o_nil ?_
      refine x_ret ?_
      refine x_fin 0 (ret1 rfl rfl) ?_
      refine ⟨?_, rfl, rfl⟩
      congr 1
      by_cases e : n = 0
      · subst e; first | rfl | (exfalso; omega)
      · first | exact isPow_bits n hn (Nat.pos_of_ne_zero e) | (exfalso; omega)
    · try simp only [k1, k2, k3, k4, k5, k6, k7, k8, k9] at hg1_9
      refine o_gn 9 rfl rfl rfl ?_
      refine o_gn 9 rfl rfl rfl ?_
      refine o_gn 9 rfl rfl rfl ?_
      refine o_gn 9 rfl rfl rfl ?_
      refine o_gn 9 rfl rfl rfl ?_
      refine o_y (y_pick rfl rfl) ?_
      refine o_y (y_assign rfl) ?_
      refine o_nil ?_
      refine x_ret ?_
      refine x_fin 0 (ret1 rfl rfl) ?_
      refine ⟨?_, rfl, rfl⟩
      congr 1
      by_cases e : n = 0
      · subst e; first | rfl | (exfalso; omega)
      · first | exact isPow_bits n hn (Nat.pos_of_ne_zero e) | (exfalso; omega)
  · try simp only [k1, k2, k3, k4, k5, k6, k7, k8, k9] at hg1_5
    refine o_gn 5 rfl rfl rfl ?_
    refine o_gn 5 rfl rfl rfl ?_
    refine o_y (y_pick rfl rfl) ?_
    refine o_y (y_move rfl) ?_
    refine o_gn 9 rfl rfl rfl ?_
    refine o_gn 9 rfl rfl rfl ?_
    refine o_gn 9 rfl rfl rfl ?_
    refine o_gn 9 rfl rfl rfl ?_
    refine o_gn 9 rfl rfl rfl ?_
    refine o_y (y_pick rfl rfl) ?_
    refine o_y (y_assign rfl) ?_
    refine o_nil ?_
    refine x_ret ?_
    refine x_fin 0 (ret1 rfl rfl) ?_
    refine ⟨?_, rfl, rfl⟩
    congr 1
    by_cases e : n = 0
    · subst e; first | rfl | (exfalso; omega)
    · first | exact isPow_bits n hn (Nat.pos_of_ne_zero e) | (exfalso; omega)
def widthN (n : Nat) : Int := if isPow n then 2 * n - 1 else 0
theorem width_ok {B : World} {H : HM} {O : OL} (n : Nat) (hn : n ≤ 8) : CallsM Go.Proofs.Tryd.prog 66 [.int .i64 n].toArray B H O (Same (.int .i64 (widthN n)) H O) := by
  refine enter Go.Proofs.Tryd.func66 rfl Go.Proofs.Tryd.ntmps66 (l := [(0, _)]) rfl rfl ?_
  refine x_seq ?_
  refine x_region rfl ?_
  refine o_y (y_assign rfl) ?_
  refine o_nil ?_
  refine x_seq ?_
  refine x_seq ?_
  refine x_region rfl ?_
  refine o_y (y_move rfl) ?_
  refine o_call fn75 rfl (itree_ok n hn) ?_
  rintro _ _ _ ⟨rfl, rfl, rfl⟩
  refine o_y (y_not rfl) ?_
  refine o_nil ?_
  refine x_cond rfl (fun hc0 => ?_) (fun hc0 => ?_)
  · try simp only [k1, k2, k3, k4, k5, k6, k7, k8, k9] at hc0
    refine x_seq ?_
    refine x_region rfl ?_
    refine o_y (y_assign rfl) ?_
    refine o_nil ?_
    refine x_ret ?_
    refine x_fin 0 (ret1 rfl rfl) ?_
    exact ⟨by simp [widthN, *], rfl, rfl⟩
  · try simp only [k1, k2, k3, k4, k5, k6, k7, k8, k9] at hc0
    refine x_skip ?_
    refine x_seq ?_
    refine x_region rfl ?_
    refine o_y (y_move rfl) ?_
    refine o_y (y_mulN rfl rfl (by omega) (by omega)) ?_
    refine o_y (y_subN rfl rfl (by omega) (by omega)) ?_
    refine o_y (y_assign rfl) ?_
    refine o_nil ?_
    refine x_ret ?_
    refine x_fin 0 (ret1 rfl rfl) ?_
    exact ⟨by simp [widthN, *], rfl, rfl⟩
def leavesN (m : Nat) : Nat := if m = 1 then 1 else if m = 3 then 2 else if m = 7 then 4 else if m = 15 then 8 else 0
theorem leaves_pure (m : Nat) : (8 < (m + 1) / 2 → leavesN m = 0) ∧ (m = 0 → leavesN m = 0) ∧ ((m + 1) / 2 ≤ 8 → m ≠ 0 → widthN ((m + 1) / 2) ≠ m → leavesN m = 0) ∧ ((m + 1) / 2 ≤ 8 → m ≠ 0 → widthN ((m + 1) / 2) = m → leavesN m = (m + 1) / 2) := by
  have hw : ∀ n, n ≤ 8 → widthN n = if n = 1 then 1 else if n = 2 then 3 else if n = 4 then 7 else if n = 8 then 15 else 0 := by decide
  refine ⟨fun h => ?_, fun h => ?_, fun h h0 h1 => ?_, fun h h0 h1 => ?_⟩
  · unfold leavesN; (repeat' split) <;> omega
  · subst h; rfl
  · rw [hw _ h] at h1
    unfold leavesN
    (repeat' split at h1) <;> (repeat' split) <;> omega
  · rw [hw _ h] at h1
    unfold leavesN
    (repeat' split at h1) <;> (repeat' split) <;> omega
theorem leaves_ok {B : World} {H : HM} {O : OL} {v : Value} {xs : List Node} (h : RdL H v xs) : CallsM Go.Proofs.Tryd.prog 50 [.agg #[v]].toArray B H O (Same (.int .i64 (leavesN xs.length)) H O) := by
  have hs := h.lenle
  obtain ⟨q1, q2, q3, q4⟩ := leaves_pure xs.length
  refine enter Go.Proofs.Tryd.func50 rfl Go.Proofs.Tryd.ntmps50 (l := [(0, _)]) rfl rfl ?_
  refine x_seq ?_
  refine x_region rfl ?_
  refine o_box rfl (cs := [_]) rfl (fun b1 => ?_)
  refine o_y (y_assign rfl) ?_
  refine o_nil ?_
  refine x_seq ?_
  refine x_region rfl ?_
  refine o_y (y_fieldAddr fd29_0 ti27 (by decide) rfl) ?_
  refine o_y (y_loadO ti27 rfl (by repeat (first | assumption | exact .z | apply In.s | apply In.a)) rfl) ?_
  first | refine o_y (y_lenL (by assumption) Go.Proofs.Tryd.underlying27 rfl) ?_ | refine o_y (y_lenR (by assumption) Go.Proofs.Tryd.underlying27 rfl) ?_ | refine o_y (y_len Go.Proofs.Tryd.underlying27 rfl) ?_
  refine o_y (y_addN rfl rfl (by omega) (by omega)) ?_
  refine o_y (y_quoN rfl rfl (by omega) (by omega) (by omega)) ?_
  refine o_y (y_assign rfl) ?_
  refine o_nil ?_
  refine x_seq ?_
  refine x_seq ?_
  refine x_regionQ mixed (by kernel_rfl) rfl ?_
  refine q_y (y_move rfl) ?_
  refine q_y (y_gtr rfl rfl) ?_
  refine q_y (y_move rfl) ?_
  refine q_split 11 rfl (fun hg2_11 => ?_) (fun hg2_11 => ?_)
  · try simp only [k1, k2, k3, k4, k5, k6, k7, k8, k9] at hg2_11
    refine q_gn 11 rfl rfl rfl ?_
    refine q_gn 11 rfl rfl rfl ?_
    refine q_gn 11 rfl rfl rfl ?_
    refine q_gn 11 rfl rfl rfl ?_
    refine q_y (y_pick rfl rfl) ?_
    refine q_y (y_move rfl) ?_
    refine q_gn 17 rfl rfl rfl ?_
    refine q_gn 17 rfl rfl rfl ?_
    refine q_gn 17 rfl rfl rfl ?_
    refine q_gn 17 rfl rfl rfl ?_
    refine q_gn 17 rfl rfl rfl ?_
    refine q_gn 17 rfl rfl rfl ?_
    refine q_y (y_pick rfl rfl) ?_
    refine q_nil ?_
    refine x_condT rfl ?_
    refine x_seq ?_
    refine x_region rfl ?_
    refine o_y (y_assign rfl) ?_
    refine o_nil ?_
    refine x_ret ?_
    refine x_fin 1 (ret1 rfl rfl) ?_
    refine ⟨?_, rfl, rfl⟩
    congr 1
    first
      | (rw [q1 (by omega)]; rfl)
      | (rw [q2 (by omega)]; rfl)
      | (rw [q3 (by omega) (by omega) (by omega)]; rfl)
      | (rw [q4 (by omega) (by omega) (by omega)]; rfl)
  · try simp only [k1, k2, k3, k4, k5, k6, k7, k8, k9] at hg2_11
    refine q_gy 11 rfl rfl (y_fieldAddr fd29_0 ti27 (by decide) rfl) ?_
    refine q_gy 11 rfl rfl (y_loadO ti27 rfl (by repeat (first | assumption | exact .z | apply In.s | apply In.a)) rfl) ?_
    first | refine q_gy 11 rfl rfl (y_lenL (by assumption) Go.Proofs.Tryd.underlying27 rfl) ?_ | refine q_gy 11 rfl rfl (y_lenR (by assumption) Go.Proofs.Tryd.underlying27 rfl) ?_ | refine q_gy 11 rfl rfl (y_len Go.Proofs.Tryd.underlying27 rfl) ?_
    refine q_gy 11 rfl rfl (y_eql rfl rfl) ?_
    refine q_y (y_pick rfl rfl) ?_
    refine q_y (y_move rfl) ?_
    refine q_split 17 rfl (fun hg2_17 => ?_) (fun hg2_17 => ?_)
    · try simp only [k1, k2, k3, k4, k5, k6, k7, k8, k9] at hg2_17
      refine q_gn 17 rfl rfl rfl ?_
      refine q_gn 17 rfl rfl rfl ?_
      refine q_gn 17 rfl rfl rfl ?_
      refine q_gn 17 rfl rfl rfl ?_
      refine q_gn 17 rfl rfl rfl ?_
      refine q_gn 17 rfl rfl rfl ?_
      refine q_y (y_pick rfl rfl) ?_
      refine q_nil ?_
      refine x_condT rfl ?_
      refine x_seq ?_
      refine x_region rfl ?_
      refine o_y (y_assign rfl) ?_
      refine o_nil ?_
      refine x_ret ?_
      refine x_fin 1 (ret1 rfl rfl) ?_
      refine ⟨?_, rfl, rfl⟩
      congr 1
      first
        | (rw [q1 (by omega)]; rfl)
        | (rw [q2 (by omega)]; rfl)
        | (rw [q3 (by omega) (by omega) (by omega)]; rfl)
        | (rw [q4 (by omega) (by omega) (by omega)]; rfl)
    · try simp only [k1, k2, k3, k4, k5, k6, k7, k8, k9] at hg2_17
      refine q_gy 17 rfl rfl (y_move rfl) ?_
      have hle : (xs.length + 1) / 2 ≤ 8 := by omega
      refine q_gcall 17 rfl rfl fn66 rfl (width_ok ((xs.length + 1) / 2) hle) ?_
      refine q_gy 17 rfl rfl (y_fieldAddr fd29_0 ti27 (by decide) rfl) ?_
      refine q_gy 17 rfl rfl (y_loadO ti27 rfl (by repeat (first | assumption | exact .z | apply In.s | apply In.a)) rfl) ?_
      first | refine q_gy 17 rfl rfl (y_lenL (by assumption) Go.Proofs.Tryd.underlying27 rfl) ?_ | refine q_gy 17 rfl rfl (y_lenR (by assumption) Go.Proofs.Tryd.underlying27 rfl) ?_ | refine q_gy 17 rfl rfl (y_len Go.Proofs.Tryd.underlying27 rfl) ?_
      refine q_gy 17 rfl rfl (y_neq rfl rfl) ?_
      refine q_y (y_pick rfl rfl) ?_
      refine q_nil ?_
      refine x_cond rfl (fun hc0 => ?_) (fun hc0 => ?_)
      · try simp only [k1, k2, k3, k4, k5, k6, k7, k8, k9] at hc0
        refine x_seq ?_
        refine x_region rfl ?_
        refine o_y (y_assign rfl) ?_
        refine o_nil ?_
        refine x_ret ?_
        refine x_fin 1 (ret1 rfl rfl) ?_
        refine ⟨?_, rfl, rfl⟩
        congr 1
        first
          | (rw [q1 (by omega)]; rfl)
          | (rw [q2 (by omega)]; rfl)
          | (rw [q3 (by omega) (by omega) (by omega)]; rfl)
          | (rw [q4 (by omega) (by omega) (by omega)]; rfl)
      · try simp only [k1, k2, k3, k4, k5, k6, k7, k8, k9] at hc0
        refine x_skip ?_
        refine x_seq ?_
        refine x_region rfl ?_
        refine o_y (y_move rfl) ?_
        refine o_y (y_assign rfl) ?_
        refine o_nil ?_
        refine x_ret ?_
        refine x_fin 1 (ret1 rfl rfl) ?_
        refine ⟨?_, rfl, rfl⟩
        congr 1
        first
          | (rw [q1 (by omega)]; rfl)
          | (rw [q2 (by omega)]; rfl)
          | (rw [q3 (by omega) (by omega) (by omega)]; rfl)
          | (rw [q4 (by omega) (by omega) (by omega)]; rfl)
end Go.Ph
