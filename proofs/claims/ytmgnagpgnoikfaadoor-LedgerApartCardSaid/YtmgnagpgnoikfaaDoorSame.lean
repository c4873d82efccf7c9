/- The laws' comparisons. -/
import Derived.Test.YtmgnagpgnoikfaaDoorLedger7
set_option linter.unusedVariables false
set_option linter.unusedSimpArgs false
set_option maxRecDepth 100000
namespace Go.Ph
open Go Go.RowKit Go.Proofs.YtmgnagpgnoikfaaDoor

theorem add_eq (x y : AddE) : ([x.member, x.epoch, x.pub] : List Int) = [y.member, y.epoch, y.pub] ↔ x = y := by cases x; cases y; simp
theorem seal_eq (x y : Seal) : ([x.at_, x.to_, x.term_] : List Int) = [y.at_, y.to_, y.term_] ↔ x = y := by cases x; cases y; simp
theorem join_eq (x y : Join) : ([x.member, x.term_] : List Int) = [y.member, y.term_] ↔ x = y := by cases x; cases y; simp
theorem take_same {α : Type} {xs ys : List α} (h : xs.length = ys.length) (h2 : xs.take xs.length = ys.take xs.length) : xs = ys := by
  rw [List.take_length, List.take_of_length_le (by omega)] at h2; exact h2
theorem sameAdds_ok {B : World} {H : HM} {O : OL} {v u : Value} {xs ys : List AddE} (h : RdL H v xs) (hu : RdL H u ys) : CallsM Go.Proofs.Tryd.prog 28 [v, u].toArray B H O (Same (.bool (decide (xs = ys))) H O) := by
  have hs := h.lenle
  have hs2 := hu.lenle
  refine enter Go.Proofs.Tryd.func28 rfl Go.Proofs.Tryd.ntmps28 (l := [(0, _), (1, _)]) rfl rfl ?_
  refine x_seq ?_
  refine x_region rfl ?_
  refine o_y (y_assign rfl) ?_
  refine o_nil ?_
  refine x_seq ?_
  refine x_seq ?_
  refine x_region rfl ?_
  refine o_y (y_move rfl) ?_
  first | refine o_y (y_lenL (by assumption) Go.Proofs.Tryd.underlying23 rfl) ?_ | refine o_y (y_lenR (by assumption) Go.Proofs.Tryd.underlying23 rfl) ?_ | refine o_y (y_len Go.Proofs.Tryd.underlying23 rfl) ?_
  refine o_y (y_move rfl) ?_
  first | refine o_y (y_lenL (by assumption) Go.Proofs.Tryd.underlying23 rfl) ?_ | refine o_y (y_lenR (by assumption) Go.Proofs.Tryd.underlying23 rfl) ?_ | refine o_y (y_len Go.Proofs.Tryd.underlying23 rfl) ?_
  refine o_y (y_neq rfl rfl) ?_
  refine o_nil ?_
  refine x_cond rfl (fun hc0 => ?_) (fun hc0 => ?_)
  · try simp only [k1, k2, k3, k4, k5, k6, k7, k8, k9] at hc0
    refine x_seq ?_
    refine x_region rfl ?_
    refine o_y (y_assign rfl) ?_
    refine o_nil ?_
    refine x_ret ?_
    refine x_fin 0 (ret1 rfl rfl) ?_
    have hne : ¬ xs = ys := fun e => by subst e; omega
    rw [decide_eq_false hne]; exact ⟨rfl, rfl, rfl⟩
  · try simp only [k1, k2, k3, k4, k5, k6, k7, k8, k9] at hc0
    refine x_skip ?_
    refine x_seq ?_
    refine x_seq ?_
    refine x_region rfl ?_
    refine o_y (y_move rfl) ?_
    first | refine o_y (y_lenL (by assumption) Go.Proofs.Tryd.underlying23 rfl) ?_ | refine o_y (y_lenR (by assumption) Go.Proofs.Tryd.underlying23 rfl) ?_ | refine o_y (y_len Go.Proofs.Tryd.underlying23 rfl) ?_
    refine o_y (y_move rfl) ?_
    refine o_nil ?_
    refine x_block ?_
    refine x_loopf (σ := Nat) (fun s => [(13, .int .i64 (s : Int)), (12, .int .i64 (xs.length : Int)), (0, v), (1, u)]) (fun s => O) (fun s => s ≤ xs.length ∧ xs.take s = ys.take s) (fun s => xs.length - s) 0 ⟨by simp, by simp⟩ (.c rfl (.c rfl (.c rfl (.c rfl .n)))) rfl ?_
    rintro k ⟨i1, i2⟩
    refine x_seq ?_
    refine x_region rfl ?_
    refine o_y (y_lss rfl rfl) ?_
    refine o_nil ?_
    refine x_seq ?_
    refine x_cond rfl (fun hc1 => ?_) (fun hc1 => ?_)
    · try simp only [k1, k2, k3, k4, k5, k6, k7, k8, k9] at hc1
      have hk : k < xs.length := by omega
      have hk2 : k < ys.length := by omega
      refine x_skip ?_
      refine x_seq ?_
      refine x_block ?_
      refine x_seq ?_
      refine x_region rfl ?_
      refine o_y (y_move rfl) ?_
      refine o_y (y_assign rfl) ?_
      refine o_nil ?_
      refine x_seq ?_
      refine x_regionQ mixed (by kernel_rfl) rfl ?_
      refine q_y (y_move rfl) ?_
      refine q_y (y_move rfl) ?_
      obtain ⟨ce18, ae18, re18⟩ := RdL.at h _ k hk
      have se18 := AtS.isSl ae18
      have te18 := re18
      obtain ⟨z18, q18_0, q18_1, q18_2⟩ := re18
      subst z18
      have w18 := Rep.one te18
      refine q_y (y_idxL h k hk Go.Proofs.Tryd.underlying23 ti78 rfl rfl (by omega)) ?_
      refine q_y (y_loadS ti78 rfl (by assumption) rfl (fun e => by cases e)) ?_
      refine q_y (y_move rfl) ?_
      refine q_y (y_move rfl) ?_
      obtain ⟨ce22, ae22, re22⟩ := RdL.at hu _ k hk2
      have se22 := AtS.isSl ae22
      have te22 := re22
      obtain ⟨z22, q22_0, q22_1, q22_2⟩ := re22
      subst z22
      have w22 := Rep.one te22
      refine q_y (y_idxL hu k hk2 Go.Proofs.Tryd.underlying23 ti78 rfl rfl (by omega)) ?_
      refine q_y (y_loadS ti78 rfl (by assumption) rfl (fun e => by cases e)) ?_
      refine q_y (y_neqS ei78 (ps := [_, _, _]) (qs := [_, _, _]) rfl rfl rfl rfl) ?_
      refine q_nil ?_
      refine x_cond rfl (fun hc2 => ?_) (fun hc2 => ?_)
      · try simp only [k1, k2, k3, k4, k5, k6, k7, k8, k9] at hc2
        refine x_seq ?_
        refine x_region rfl ?_
        refine o_y (y_assign rfl) ?_
        refine o_nil ?_
        refine x_ret ?_
        refine x_fin 0 (ret1 rfl rfl) ?_
        have hne : ¬ xs = ys := fun e => by subst e; exact absurd rfl hc2
        rw [decide_eq_false hne]; exact ⟨rfl, rfl, rfl⟩
      · try simp only [k1, k2, k3, k4, k5, k6, k7, k8, k9] at hc2
        refine x_skip ?_
        refine x_region rfl ?_
        refine o_y (y_addN rfl rfl (by omega) (by omega)) ?_
        refine o_y (y_move rfl) ?_
        refine o_nil ?_
        exact ⟨k + 1, 0, rfl, (.c rfl (.c rfl (.c rfl (.c rfl .n)))), rfl, ⟨by omega, by rw [take_next hk, take_next hk2, i2, (add_eq _ _).1 hc2]⟩, by omega⟩
    · try simp only [k1, k2, k3, k4, k5, k6, k7, k8, k9] at hc1
      refine x_exit ?_
      refine x_seq ?_
      refine x_region rfl ?_
      refine o_y (y_assign rfl) ?_
      refine o_nil ?_
      refine x_ret ?_
      refine x_fin 0 (ret1 rfl rfl) ?_
      obtain rfl : k = xs.length := by omega
      rw [decide_eq_true (take_same (by omega) i2)]; exact ⟨rfl, rfl, rfl⟩
theorem sameSeals_ok {B : World} {H : HM} {O : OL} {v u : Value} {xs ys : List Seal} (h : RdL H v xs) (hu : RdL H u ys) : CallsM Go.Proofs.Tryd.prog 29 [v, u].toArray B H O (Same (.bool (decide (xs = ys))) H O) := by
  have hs := h.lenle
  have hs2 := hu.lenle
  refine enter Go.Proofs.Tryd.func29 rfl Go.Proofs.Tryd.ntmps29 (l := [(0, _), (1, _)]) rfl rfl ?_
  refine x_seq ?_
  refine x_region rfl ?_
  refine o_y (y_assign rfl) ?_
  refine o_nil ?_
  refine x_seq ?_
  refine x_seq ?_
  refine x_region rfl ?_
  refine o_y (y_move rfl) ?_
  first | refine o_y (y_lenL (by assumption) Go.Proofs.Tryd.underlying25 rfl) ?_ | refine o_y (y_lenR (by assumption) Go.Proofs.Tryd.underlying25 rfl) ?_ | refine o_y (y_len Go.Proofs.Tryd.underlying25 rfl) ?_
  refine o_y (y_move rfl) ?_
  first | refine o_y (y_lenL (by assumption) Go.Proofs.Tryd.underlying25 rfl) ?_ | refine o_y (y_lenR (by assumption) Go.Proofs.Tryd.underlying25 rfl) ?_ | refine o_y (y_len Go.Proofs.Tryd.underlying25 rfl) ?_
  refine o_y (y_neq rfl rfl) ?_
  refine o_nil ?_
  refine x_cond rfl (fun hc0 => ?_) (fun hc0 => ?_)
  · try simp only [k1, k2, k3, k4, k5, k6, k7, k8, k9] at hc0
    refine x_seq ?_
    refine x_region rfl ?_
    refine o_y (y_assign rfl) ?_
    refine o_nil ?_
    refine x_ret ?_
    refine x_fin 0 (ret1 rfl rfl) ?_
    have hne : ¬ xs = ys := fun e => by subst e; omega
    rw [decide_eq_false hne]; exact ⟨rfl, rfl, rfl⟩
  · try simp only [k1, k2, k3, k4, k5, k6, k7, k8, k9] at hc0
    refine x_skip ?_
    refine x_seq ?_
    refine x_seq ?_
    refine x_region rfl ?_
    refine o_y (y_move rfl) ?_
    first | refine o_y (y_lenL (by assumption) Go.Proofs.Tryd.underlying25 rfl) ?_ | refine o_y (y_lenR (by assumption) Go.Proofs.Tryd.underlying25 rfl) ?_ | refine o_y (y_len Go.Proofs.Tryd.underlying25 rfl) ?_
    refine o_y (y_move rfl) ?_
    refine o_nil ?_
    refine x_block ?_
    refine x_loopf (σ := Nat) (fun s => [(13, .int .i64 (s : Int)), (12, .int .i64 (xs.length : Int)), (0, v), (1, u)]) (fun s => O) (fun s => s ≤ xs.length ∧ xs.take s = ys.take s) (fun s => xs.length - s) 0 ⟨by simp, by simp⟩ (.c rfl (.c rfl (.c rfl (.c rfl .n)))) rfl ?_
    rintro k ⟨i1, i2⟩
    refine x_seq ?_
    refine x_region rfl ?_
    refine o_y (y_lss rfl rfl) ?_
    refine o_nil ?_
    refine x_seq ?_
    refine x_cond rfl (fun hc1 => ?_) (fun hc1 => ?_)
    · try simp only [k1, k2, k3, k4, k5, k6, k7, k8, k9] at hc1
      have hk : k < xs.length := by omega
      have hk2 : k < ys.length := by omega
      refine x_skip ?_
      refine x_seq ?_
      refine x_block ?_
      refine x_seq ?_
      refine x_region rfl ?_
      refine o_y (y_move rfl) ?_
      refine o_y (y_assign rfl) ?_
      refine o_nil ?_
      refine x_seq ?_
      refine x_regionQ mixed (by kernel_rfl) rfl ?_
      refine q_y (y_move rfl) ?_
      refine q_y (y_move rfl) ?_
      obtain ⟨ce18, ae18, re18⟩ := RdL.at h _ k hk
      have se18 := AtS.isSl ae18
      have te18 := re18
      obtain ⟨z18, q18_0, q18_1, q18_2⟩ := re18
      subst z18
      have w18 := Rep.one te18
      refine q_y (y_idxL h k hk Go.Proofs.Tryd.underlying25 ti81 rfl rfl (by omega)) ?_
      refine q_y (y_loadS ti81 rfl (by assumption) rfl (fun e => by cases e)) ?_
      refine q_y (y_move rfl) ?_
      refine q_y (y_move rfl) ?_
      obtain ⟨ce22, ae22, re22⟩ := RdL.at hu _ k hk2
      have se22 := AtS.isSl ae22
      have te22 := re22
      obtain ⟨z22, q22_0, q22_1, q22_2⟩ := re22
      subst z22
      have w22 := Rep.one te22
      refine q_y (y_idxL hu k hk2 Go.Proofs.Tryd.underlying25 ti81 rfl rfl (by omega)) ?_
      refine q_y (y_loadS ti81 rfl (by assumption) rfl (fun e => by cases e)) ?_
      refine q_y (y_neqS ei81 (ps := [_, _, _]) (qs := [_, _, _]) rfl rfl rfl rfl) ?_
      refine q_nil ?_
      refine x_cond rfl (fun hc2 => ?_) (fun hc2 => ?_)
      · try simp only [k1, k2, k3, k4, k5, k6, k7, k8, k9] at hc2
        refine x_seq ?_
        refine x_region rfl ?_
        refine o_y (y_assign rfl) ?_
        refine o_nil ?_
        refine x_ret ?_
        refine x_fin 0 (ret1 rfl rfl) ?_
        have hne : ¬ xs = ys := fun e => by subst e; exact absurd rfl hc2
        rw [decide_eq_false hne]; exact ⟨rfl, rfl, rfl⟩
      · try simp only [k1, k2, k3, k4, k5, k6, k7, k8, k9] at hc2
        refine x_skip ?_
        refine x_region rfl ?_
        refine o_y (y_addN rfl rfl (by omega) (by omega)) ?_
        refine o_y (y_move rfl) ?_
        refine o_nil ?_
        exact ⟨k + 1, 0, rfl, (.c rfl (.c rfl (.c rfl (.c rfl .n)))), rfl, ⟨by omega, by rw [take_next hk, take_next hk2, i2, (seal_eq _ _).1 hc2]⟩, by omega⟩
    · try simp only [k1, k2, k3, k4, k5, k6, k7, k8, k9] at hc1
      refine x_exit ?_
      refine x_seq ?_
      refine x_region rfl ?_
      refine o_y (y_assign rfl) ?_
      refine o_nil ?_
      refine x_ret ?_
      refine x_fin 0 (ret1 rfl rfl) ?_
      obtain rfl : k = xs.length := by omega
      rw [decide_eq_true (take_same (by omega) i2)]; exact ⟨rfl, rfl, rfl⟩
theorem sameJoins_ok {B : World} {H : HM} {O : OL} {v u : Value} {xs ys : List Join} (h : RdL H v xs) (hu : RdL H u ys) : CallsM Go.Proofs.Tryd.prog 30 [v, u].toArray B H O (Same (.bool (decide (xs = ys))) H O) := by
  have hs := h.lenle
  have hs2 := hu.lenle
  refine enter Go.Proofs.Tryd.func30 rfl Go.Proofs.Tryd.ntmps30 (l := [(0, _), (1, _)]) rfl rfl ?_
  refine x_seq ?_
  refine x_region rfl ?_
  refine o_y (y_assign rfl) ?_
  refine o_nil ?_
  refine x_seq ?_
  refine x_seq ?_
  refine x_region rfl ?_
  refine o_y (y_move rfl) ?_
  first | refine o_y (y_lenL (by assumption) Go.Proofs.Tryd.underlying26 rfl) ?_ | refine o_y (y_lenR (by assumption) Go.Proofs.Tryd.underlying26 rfl) ?_ | refine o_y (y_len Go.Proofs.Tryd.underlying26 rfl) ?_
  refine o_y (y_move rfl) ?_
  first | refine o_y (y_lenL (by assumption) Go.Proofs.Tryd.underlying26 rfl) ?_ | refine o_y (y_lenR (by assumption) Go.Proofs.Tryd.underlying26 rfl) ?_ | refine o_y (y_len Go.Proofs.Tryd.underlying26 rfl) ?_
  refine o_y (y_neq rfl rfl) ?_
  refine o_nil ?_
  refine x_cond rfl (fun hc0 => ?_) (fun hc0 => ?_)
  · try simp only [k1, k2, k3, k4, k5, k6, k7, k8, k9] at hc0
    refine x_seq ?_
    refine x_region rfl ?_
    refine o_y (y_assign rfl) ?_
    refine o_nil ?_
    refine x_ret ?_
    refine x_fin 0 (ret1 rfl rfl) ?_
    have hne : ¬ xs = ys := fun e => by subst e; omega
    rw [decide_eq_false hne]; exact ⟨rfl, rfl, rfl⟩
  · try simp only [k1, k2, k3, k4, k5, k6, k7, k8, k9] at hc0
    refine x_skip ?_
    refine x_seq ?_
    refine x_seq ?_
    refine x_region rfl ?_
    refine o_y (y_move rfl) ?_
    first | refine o_y (y_lenL (by assumption) Go.Proofs.Tryd.underlying26 rfl) ?_ | refine o_y (y_lenR (by assumption) Go.Proofs.Tryd.underlying26 rfl) ?_ | refine o_y (y_len Go.Proofs.Tryd.underlying26 rfl) ?_
    refine o_y (y_move rfl) ?_
    refine o_nil ?_
    refine x_block ?_
    refine x_loopf (σ := Nat) (fun s => [(13, .int .i64 (s : Int)), (12, .int .i64 (xs.length : Int)), (0, v), (1, u)]) (fun s => O) (fun s => s ≤ xs.length ∧ xs.take s = ys.take s) (fun s => xs.length - s) 0 ⟨by simp, by simp⟩ (.c rfl (.c rfl (.c rfl (.c rfl .n)))) rfl ?_
    rintro k ⟨i1, i2⟩
    refine x_seq ?_
    refine x_region rfl ?_
    refine o_y (y_lss rfl rfl) ?_
    refine o_nil ?_
    refine x_seq ?_
    refine x_cond rfl (fun hc1 => ?_) (fun hc1 => ?_)
    · try simp only [k1, k2, k3, k4, k5, k6, k7, k8, k9] at hc1
      have hk : k < xs.length := by omega
      have hk2 : k < ys.length := by omega
      refine x_skip ?_
      refine x_seq ?_
      refine x_block ?_
      refine x_seq ?_
      refine x_region rfl ?_
      refine o_y (y_move rfl) ?_
      refine o_y (y_assign rfl) ?_
      refine o_nil ?_
      refine x_seq ?_
      refine x_regionQ mixed (by kernel_rfl) rfl ?_
      refine q_y (y_move rfl) ?_
      refine q_y (y_move rfl) ?_
      obtain ⟨ce18, ae18, re18⟩ := RdL.at h _ k hk
      have se18 := AtS.isSl ae18
      have te18 := re18
      obtain ⟨z18, q18_0, q18_1⟩ := re18
      subst z18
      have w18 := Rep.one te18
      refine q_y (y_idxL h k hk Go.Proofs.Tryd.underlying26 ti84 rfl rfl (by omega)) ?_
      refine q_y (y_loadS ti84 rfl (by assumption) rfl (fun e => by cases e)) ?_
      refine q_y (y_move rfl) ?_
      refine q_y (y_move rfl) ?_
      obtain ⟨ce22, ae22, re22⟩ := RdL.at hu _ k hk2
      have se22 := AtS.isSl ae22
      have te22 := re22
      obtain ⟨z22, q22_0, q22_1⟩ := re22
      subst z22
      have w22 := Rep.one te22
      refine q_y (y_idxL hu k hk2 Go.Proofs.Tryd.underlying26 ti84 rfl rfl (by omega)) ?_
      refine q_y (y_loadS ti84 rfl (by assumption) rfl (fun e => by cases e)) ?_
      refine q_y (y_neqS ei84 (ps := [_, _]) (qs := [_, _]) rfl rfl rfl rfl) ?_
      refine q_nil ?_
      refine x_cond rfl (fun hc2 => ?_) (fun hc2 => ?_)
      · try simp only [k1, k2, k3, k4, k5, k6, k7, k8, k9] at hc2
        refine x_seq ?_
        refine x_region rfl ?_
        refine o_y (y_assign rfl) ?_
        refine o_nil ?_
        refine x_ret ?_
        refine x_fin 0 (ret1 rfl rfl) ?_
        have hne : ¬ xs = ys := fun e => by subst e; exact absurd rfl hc2
        rw [decide_eq_false hne]; exact ⟨rfl, rfl, rfl⟩
      · try simp only [k1, k2, k3, k4, k5, k6, k7, k8, k9] at hc2
        refine x_skip ?_
        refine x_region rfl ?_
        refine o_y (y_addN rfl rfl (by omega) (by omega)) ?_
        refine o_y (y_move rfl) ?_
        refine o_nil ?_
        exact ⟨k + 1, 0, rfl, (.c rfl (.c rfl (.c rfl (.c rfl .n)))), rfl, ⟨by omega, by rw [take_next hk, take_next hk2, i2, (join_eq _ _).1 hc2]⟩, by omega⟩
    · try simp only [k1, k2, k3, k4, k5, k6, k7, k8, k9] at hc1
      refine x_exit ?_
      refine x_seq ?_
      refine x_region rfl ?_
      refine o_y (y_assign rfl) ?_
      refine o_nil ?_
      refine x_ret ?_
      refine x_fin 0 (ret1 rfl rfl) ?_
      obtain rfl : k = xs.length := by omega
      rw [decide_eq_true (take_same (by omega) i2)]; exact ⟨rfl, rfl, rfl⟩
end Go.Ph
