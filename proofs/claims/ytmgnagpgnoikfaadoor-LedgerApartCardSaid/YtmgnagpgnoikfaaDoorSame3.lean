/- The laws' comparisons of logs. -/
import Derived.Test.YtmgnagpgnoikfaaDoorSame2
set_option linter.unusedVariables false
set_option linter.unusedSimpArgs false
set_option maxRecDepth 100000
namespace Go.Ph
open Go Go.RowKit Go.Proofs.YtmgnagpgnoikfaaDoor

theorem sameCommits_ok {B : World} {H : HM} {O : OL} {v u : Value} {xs ys : List Commit} (h : RdL H v xs) (hu : RdL H u ys) : CallsM Go.Proofs.Tryd.prog 45 [v, u].toArray B H O (Same (.bool (decide (xs = ys))) H O) := by
  have hs := h.lenle
  have hs2 := hu.lenle
  refine enter Go.Proofs.Tryd.func45 rfl Go.Proofs.Tryd.ntmps45 (l := [(0, _), (1, _)]) rfl rfl ?_
  refine x_seq ?_
  refine x_region rfl ?_
  refine o_y (y_assign rfl) ?_
  refine o_nil ?_
  refine x_seq ?_
  refine x_seq ?_
  refine x_region rfl ?_
  refine o_y (y_move rfl) ?_
  first | refine o_y (y_lenL (by assumption) Go.Proofs.Tryd.underlying46 rfl) ?_ | refine o_y (y_lenR (by assumption) Go.Proofs.Tryd.underlying46 rfl) ?_ | refine o_y (y_len Go.Proofs.Tryd.underlying46 rfl) ?_
  refine o_y (y_move rfl) ?_
  first | refine o_y (y_lenL (by assumption) Go.Proofs.Tryd.underlying46 rfl) ?_ | refine o_y (y_lenR (by assumption) Go.Proofs.Tryd.underlying46 rfl) ?_ | refine o_y (y_len Go.Proofs.Tryd.underlying46 rfl) ?_
  refine o_y (y_neq rfl rfl) ?_
  refine o_nil ?_
  refine x_cond rfl (fun hc0 => ?_) (fun hc0 => ?_)
  · try simp only [k1, k2, k3, k4, k5, k6, k7, k8, k9] at hc0
    refine x_seq ?_
    refine x_region rfl ?_
    refine o_y (y_assign rfl) ?_
    refine o_nil ?_
    refine x_ret ?_
    refine x_fin 0 (ret1 rfl rfl) ?_
    have hne : ¬ xs = ys := fun e => by subst e; omega
    rw [decide_eq_false hne]; exact ⟨rfl, rfl, rfl⟩
  · try simp only [k1, k2, k3, k4, k5, k6, k7, k8, k9] at hc0
    refine x_skip ?_
    refine x_seq ?_
    refine x_seq ?_
    refine x_region rfl ?_
    refine o_y (y_move rfl) ?_
    first | refine o_y (y_lenL (by assumption) Go.Proofs.Tryd.underlying46 rfl) ?_ | refine o_y (y_lenR (by assumption) Go.Proofs.Tryd.underlying46 rfl) ?_ | refine o_y (y_len Go.Proofs.Tryd.underlying46 rfl) ?_
    refine o_y (y_move rfl) ?_
    refine o_nil ?_
    refine x_block ?_
    refine x_loopf (σ := Nat) (fun s => [(13, .int .i64 (s : Int)), (12, .int .i64 (xs.length : Int)), (0, v), (1, u)]) (fun s => O) (fun s => s ≤ xs.length ∧ xs.take s = ys.take s) (fun s => xs.length - s) 0 ⟨by simp, by simp⟩ (.c rfl (.c rfl (.c rfl (.c rfl .n)))) rfl ?_
    rintro k ⟨i1, i2⟩
    refine x_seq ?_
    refine x_region rfl ?_
    refine o_y (y_lss rfl rfl) ?_
    refine o_nil ?_
    refine x_seq ?_
    refine x_cond rfl (fun hc1 => ?_) (fun hc1 => ?_)
    · try simp only [k1, k2, k3, k4, k5, k6, k7, k8, k9] at hc1
      have hk : k < xs.length := by omega
      have hk2 : k < ys.length := by omega
      refine x_skip ?_
      refine x_seq ?_
      refine x_block ?_
      refine x_seq ?_
      refine x_region rfl ?_
      refine o_y (y_move rfl) ?_
      refine o_y (y_assign rfl) ?_
      refine o_nil ?_
      refine x_seq ?_
      refine x_regionQ mixed (by kernel_rfl) rfl ?_
      refine q_y (y_move rfl) ?_
      refine q_y (y_move rfl) ?_
      obtain ⟨ce18, ae18, re18⟩ := RdL.at h _ k hk
      have se18 := AtS.isSl ae18
      have te18 := re18
      obtain ⟨u18_6, u18_7, u18_8, u18_9, u18_12, z18, q18_0, q18_1, q18_2, q18_3, q18_4, q18_5, q18_6, q18_7, q18_8, q18_9, q18_10, q18_11, q18_12, q18_13⟩ := re18
      subst z18
      have w18 := Rep.one te18
      refine q_y (y_idxL h k hk Go.Proofs.Tryd.underlying46 ti31 rfl rfl (by omega)) ?_
      refine q_y (y_loadS ti31 rfl (by assumption) rfl (fun e => by cases e)) ?_
      refine q_y (y_move rfl) ?_
      refine q_y (y_move rfl) ?_
      obtain ⟨ce22, ae22, re22⟩ := RdL.at hu _ k hk2
      have se22 := AtS.isSl ae22
      have te22 := re22
      obtain ⟨u22_6, u22_7, u22_8, u22_9, u22_12, z22, q22_0, q22_1, q22_2, q22_3, q22_4, q22_5, q22_6, q22_7, q22_8, q22_9, q22_10, q22_11, q22_12, q22_13⟩ := re22
      subst z22
      have w22 := Rep.one te22
      refine q_y (y_idxL hu k hk2 Go.Proofs.Tryd.underlying46 ti31 rfl rfl (by omega)) ?_
      refine q_y (y_loadS ti31 rfl (by assumption) rfl (fun e => by cases e)) ?_
      refine q_call fn13 rfl (sameCommit_ok te18 te22) ?_
      refine q_y (y_not rfl) ?_
      refine q_nil ?_
      refine x_cond rfl (fun hc2 => ?_) (fun hc2 => ?_)
      · try simp only [k1, k2, k3, k4, k5, k6, k7, k8, k9] at hc2
        refine x_seq ?_
        refine x_region rfl ?_
        refine o_y (y_assign rfl) ?_
        refine o_nil ?_
        refine x_ret ?_
        refine x_fin 0 (ret1 rfl rfl) ?_
        have hne : ¬ xs = ys := fun e => by subst e; exact absurd rfl hc2
        rw [decide_eq_false hne]; exact ⟨rfl, rfl, rfl⟩
      · try simp only [k1, k2, k3, k4, k5, k6, k7, k8, k9] at hc2
        refine x_skip ?_
        refine x_region rfl ?_
        refine o_y (y_addN rfl rfl (by omega) (by omega)) ?_
        refine o_y (y_move rfl) ?_
        refine o_nil ?_
        exact ⟨k + 1, 0, rfl, (.c rfl (.c rfl (.c rfl (.c rfl .n)))), rfl, ⟨by omega, by rw [take_next hk, take_next hk2, i2, hc2]⟩, by omega⟩
    · try simp only [k1, k2, k3, k4, k5, k6, k7, k8, k9] at hc1
      refine x_exit ?_
      refine x_seq ?_
      refine x_region rfl ?_
      refine o_y (y_assign rfl) ?_
      refine o_nil ?_
      refine x_ret ?_
      refine x_fin 0 (ret1 rfl rfl) ?_
      obtain rfl : k = xs.length := by omega
      rw [decide_eq_true (take_same (by omega) i2)]; exact ⟨rfl, rfl, rfl⟩
theorem sameLog_ok {B : World} {H : HM} {O : OL} {cs ds : List Value} {x y : Log} (h : Rep.rd H cs x) (hu : Rep.rd H ds y) : CallsM Go.Proofs.Tryd.prog 26 [.agg cs.toArray, .agg ds.toArray].toArray B H O (Same (.bool (decide (x = y))) H O) := by
  obtain ⟨u1, rfl, h0, h1⟩ := h
  obtain ⟨v1, rfl, g0, g1⟩ := hu
  refine enter Go.Proofs.Tryd.func26 rfl Go.Proofs.Tryd.ntmps26 (l := [(0, _), (1, _)]) rfl rfl ?_
  refine x_seq ?_
  refine x_region rfl ?_
  refine o_box rfl (cs := [_, _]) rfl (fun b2 => ?_)
  refine o_box rfl (cs := [_, _]) rfl (fun b3 => ?_)
  refine o_y (y_assign rfl) ?_
  refine o_nil ?_
  refine x_seq ?_
  refine x_region rfl ?_
  refine o_y (y_fieldAddr fd48_0 ti3 (by decide) rfl) ?_
  refine o_y (y_loadO ti3 rfl (by repeat (first | assumption | exact .z | apply In.s | apply In.a)) rfl) ?_
  refine o_y (y_fieldAddr fd48_0 ti3 (by decide) rfl) ?_
  refine o_y (y_loadO ti3 rfl (by repeat (first | assumption | exact .z | apply In.s | apply In.a)) rfl) ?_
  refine o_y (y_eql rfl rfl) ?_
  refine o_y (y_move rfl) ?_
  refine o_split 10 rfl (fun hg1_10 => ?_) (fun hg1_10 => ?_)
  · try simp only [k1, k2, k3, k4, k5, k6, k7, k8, k9] at hg1_10
    refine o_gy 10 rfl rfl (y_fieldAddr fd48_1 ti46 (by decide) rfl) ?_
    refine o_gy 10 rfl rfl (y_loadO ti46 rfl (by repeat (first | assumption | exact .z | apply In.s | apply In.a)) rfl) ?_
    refine o_gy 10 rfl rfl (y_fieldAddr fd48_1 ti46 (by decide) rfl) ?_
    refine o_gy 10 rfl rfl (y_loadO ti46 rfl (by repeat (first | assumption | exact .z | apply In.s | apply In.a)) rfl) ?_
    refine o_gcall 10 rfl rfl fn45 rfl (sameCommits_ok h1 g1) ?_
    rintro _ _ _ ⟨rfl, rfl, rfl⟩
    refine o_y (y_pick rfl rfl) ?_
    refine o_y (y_assign rfl) ?_
    refine o_nil ?_
    refine x_ret ?_
    refine x_fin 2 (ret1 rfl rfl) ?_
    refine ⟨?_, rfl, rfl⟩
    first
      | (have hne : ¬ x = y := fun e => by
           subst e
           exact absurd rfl hg1_10
         rw [decide_eq_false hne]; done)
      | (congr 2; apply propext; constructor
         · intro e; cases x; cases y; simp_all
         · intro e; rw [e])
  · try simp only [k1, k2, k3, k4, k5, k6, k7, k8, k9] at hg1_10
    refine o_gn 10 rfl rfl rfl ?_
    refine o_gn 10 rfl rfl rfl ?_
    refine o_gn 10 rfl rfl rfl ?_
    refine o_gn 10 rfl rfl rfl ?_
    refine o_gn 10 rfl rfl rfl ?_
    refine o_y (y_pick rfl rfl) ?_
    refine o_y (y_assign rfl) ?_
    refine o_nil ?_
    refine x_ret ?_
    refine x_fin 2 (ret1 rfl rfl) ?_
    refine ⟨?_, rfl, rfl⟩
    first
      | (have hne : ¬ x = y := fun e => by
           subst e
           exact absurd rfl hg1_10
         rw [decide_eq_false hne]; done)
      | (congr 2; apply propext; constructor
         · intro e; cases x; cases y; simp_all
         · intro e; rw [e])
theorem sameLogs_ok {B : World} {H : HM} {O : OL} {v u : Value} {xs ys : List Log} (h : RdL H v xs) (hu : RdL H u ys) : CallsM Go.Proofs.Tryd.prog 11 [v, u].toArray B H O (Same (.bool (decide (xs = ys))) H O) := by
  have hs := h.lenle
  have hs2 := hu.lenle
  refine enter Go.Proofs.Tryd.func11 rfl Go.Proofs.Tryd.ntmps11 (l := [(0, _), (1, _)]) rfl rfl ?_
  refine x_seq ?_
  refine x_region rfl ?_
  refine o_y (y_assign rfl) ?_
  refine o_nil ?_
  refine x_seq ?_
  refine x_seq ?_
  refine x_region rfl ?_
  refine o_y (y_move rfl) ?_
  first | refine o_y (y_lenL (by assumption) Go.Proofs.Tryd.underlying22 rfl) ?_ | refine o_y (y_lenR (by assumption) Go.Proofs.Tryd.underlying22 rfl) ?_ | refine o_y (y_len Go.Proofs.Tryd.underlying22 rfl) ?_
  refine o_y (y_move rfl) ?_
  first | refine o_y (y_lenL (by assumption) Go.Proofs.Tryd.underlying22 rfl) ?_ | refine o_y (y_lenR (by assumption) Go.Proofs.Tryd.underlying22 rfl) ?_ | refine o_y (y_len Go.Proofs.Tryd.underlying22 rfl) ?_
  refine o_y (y_neq rfl rfl) ?_
  refine o_nil ?_
  refine x_cond rfl (fun hc0 => ?_) (fun hc0 => ?_)
  · try simp only [k1, k2, k3, k4, k5, k6, k7, k8, k9] at hc0
    refine x_seq ?_
    refine x_region rfl ?_
    refine o_y (y_assign rfl) ?_
    refine o_nil ?_
    refine x_ret ?_
    refine x_fin 0 (ret1 rfl rfl) ?_
    have hne : ¬ xs = ys := fun e => by subst e; omega
    rw [decide_eq_false hne]; exact ⟨rfl, rfl, rfl⟩
  · try simp only [k1, k2, k3, k4, k5, k6, k7, k8, k9] at hc0
    refine x_skip ?_
    refine x_seq ?_
    refine x_seq ?_
    refine x_region rfl ?_
    refine o_y (y_move rfl) ?_
    first | refine o_y (y_lenL (by assumption) Go.Proofs.Tryd.underlying22 rfl) ?_ | refine o_y (y_lenR (by assumption) Go.Proofs.Tryd.underlying22 rfl) ?_ | refine o_y (y_len Go.Proofs.Tryd.underlying22 rfl) ?_
    refine o_y (y_move rfl) ?_
    refine o_nil ?_
    refine x_block ?_
    refine x_loopf (σ := Nat) (fun s => [(13, .int .i64 (s : Int)), (12, .int .i64 (xs.length : Int)), (0, v), (1, u)]) (fun s => O) (fun s => s ≤ xs.length ∧ xs.take s = ys.take s) (fun s => xs.length - s) 0 ⟨by simp, by simp⟩ (.c rfl (.c rfl (.c rfl (.c rfl .n)))) rfl ?_
    rintro k ⟨i1, i2⟩
    refine x_seq ?_
    refine x_region rfl ?_
    refine o_y (y_lss rfl rfl) ?_
    refine o_nil ?_
    refine x_seq ?_
    refine x_cond rfl (fun hc1 => ?_) (fun hc1 => ?_)
    · try simp only [k1, k2, k3, k4, k5, k6, k7, k8, k9] at hc1
      have hk : k < xs.length := by omega
      have hk2 : k < ys.length := by omega
      refine x_skip ?_
      refine x_seq ?_
      refine x_block ?_
      refine x_seq ?_
      refine x_region rfl ?_
      refine o_y (y_move rfl) ?_
      refine o_y (y_assign rfl) ?_
      refine o_nil ?_
      refine x_seq ?_
      refine x_regionQ mixed (by kernel_rfl) rfl ?_
      refine q_y (y_move rfl) ?_
      refine q_y (y_move rfl) ?_
      obtain ⟨ce18, ae18, re18⟩ := RdL.at h _ k hk
      have se18 := AtS.isSl ae18
      have te18 := re18
      obtain ⟨u18_1, z18, q18_0, q18_1⟩ := re18
      subst z18
      have w18 := Rep.one te18
      refine q_y (y_idxL h k hk Go.Proofs.Tryd.underlying22 ti48 rfl rfl (by omega)) ?_
      refine q_y (y_loadS ti48 rfl (by assumption) rfl (fun e => by cases e)) ?_
      refine q_y (y_move rfl) ?_
      refine q_y (y_move rfl) ?_
      obtain ⟨ce22, ae22, re22⟩ := RdL.at hu _ k hk2
      have se22 := AtS.isSl ae22
      have te22 := re22
      obtain ⟨u22_1, z22, q22_0, q22_1⟩ := re22
      subst z22
      have w22 := Rep.one te22
      refine q_y (y_idxL hu k hk2 Go.Proofs.Tryd.underlying22 ti48 rfl rfl (by omega)) ?_
      refine q_y (y_loadS ti48 rfl (by assumption) rfl (fun e => by cases e)) ?_
      refine q_call fn26 rfl (sameLog_ok te18 te22) ?_
      refine q_y (y_not rfl) ?_
      refine q_nil ?_
      refine x_cond rfl (fun hc2 => ?_) (fun hc2 => ?_)
      · try simp only [k1, k2, k3, k4, k5, k6, k7, k8, k9] at hc2
        refine x_seq ?_
        refine x_region rfl ?_
        refine o_y (y_assign rfl) ?_
        refine o_nil ?_
        refine x_ret ?_
        refine x_fin 0 (ret1 rfl rfl) ?_
        have hne : ¬ xs = ys := fun e => by subst e; exact absurd rfl hc2
        rw [decide_eq_false hne]; exact ⟨rfl, rfl, rfl⟩
      · try simp only [k1, k2, k3, k4, k5, k6, k7, k8, k9] at hc2
        refine x_skip ?_
        refine x_region rfl ?_
        refine o_y (y_addN rfl rfl (by omega) (by omega)) ?_
        refine o_y (y_move rfl) ?_
        refine o_nil ?_
        exact ⟨k + 1, 0, rfl, (.c rfl (.c rfl (.c rfl (.c rfl .n)))), rfl, ⟨by omega, by rw [take_next hk, take_next hk2, i2, hc2]⟩, by omega⟩
    · try simp only [k1, k2, k3, k4, k5, k6, k7, k8, k9] at hc1
      refine x_exit ?_
      refine x_seq ?_
      refine x_region rfl ?_
      refine o_y (y_assign rfl) ?_
      refine o_nil ?_
      refine x_ret ?_
      refine x_fin 0 (ret1 rfl rfl) ?_
      obtain rfl : k = xs.length := by omega
      rw [decide_eq_true (take_same (by omega) i2)]; exact ⟨rfl, rfl, rfl⟩
end Go.Ph
