/- The laws' comparisons of trees, commits, logs. -/
import Derived.Test.YtmgnagpgnoikfaaDoorSame
set_option linter.unusedVariables false
set_option linter.unusedSimpArgs false
set_option maxRecDepth 100000
namespace Go.Ph
open Go Go.RowKit Go.Proofs.YtmgnagpgnoikfaaDoor

theorem sameNode_ok {B : World} {H : HM} {O : OL} {cs ds : List Value} {x y : Node} (h : Rep.rd H cs x) (hu : Rep.rd H ds y) : CallsM Go.Proofs.Tryd.prog 54 [.agg cs.toArray, .agg ds.toArray].toArray B H O (Same (.bool (decide (x = y))) H O) := by
  obtain ⟨u3, rfl, h0, h1, h2, h3⟩ := h
  obtain ⟨v3, rfl, g0, g1, g2, g3⟩ := hu
  refine enter Go.Proofs.Tryd.func54 rfl Go.Proofs.Tryd.ntmps54 (l := [(0, _), (1, _)]) rfl rfl ?_
  refine x_seq ?_
  refine x_region rfl ?_
  refine o_box rfl (cs := [_, _, _, _]) rfl (fun b2 => ?_)
  refine o_box rfl (cs := [_, _, _, _]) rfl (fun b3 => ?_)
  refine o_y (y_assign rfl) ?_
  refine o_nil ?_
  refine x_seq ?_
  refine x_region rfl ?_
  refine o_y (y_fieldAddr fd72_0 ti3 (by decide) rfl) ?_
  refine o_y (y_loadO ti3 rfl (by repeat (first | assumption | exact .z | apply In.s | apply In.a)) rfl) ?_
  refine o_y (y_fieldAddr fd72_0 ti3 (by decide) rfl) ?_
  refine o_y (y_loadO ti3 rfl (by repeat (first | assumption | exact .z | apply In.s | apply In.a)) rfl) ?_
  refine o_y (y_eql rfl rfl) ?_
  refine o_y (y_move rfl) ?_
  refine o_split 10 rfl (fun hg1_10 => ?_) (fun hg1_10 => ?_)
  · try simp only [k1, k2, k3, k4, k5, k6, k7, k8, k9] at hg1_10
    refine o_gy 10 rfl rfl (y_fieldAddr fd72_1 ti3 (by decide) rfl) ?_
    refine o_gy 10 rfl rfl (y_loadO ti3 rfl (by repeat (first | assumption | exact .z | apply In.s | apply In.a)) rfl) ?_
    refine o_gy 10 rfl rfl (y_fieldAddr fd72_1 ti3 (by decide) rfl) ?_
    refine o_gy 10 rfl rfl (y_loadO ti3 rfl (by repeat (first | assumption | exact .z | apply In.s | apply In.a)) rfl) ?_
    refine o_gy 10 rfl rfl (y_eql rfl rfl) ?_
    refine o_y (y_pick rfl rfl) ?_
    refine o_y (y_move rfl) ?_
    refine o_split 17 rfl (fun hg1_17 => ?_) (fun hg1_17 => ?_)
    · try simp only [k1, k2, k3, k4, k5, k6, k7, k8, k9] at hg1_17
      refine o_gy 17 rfl rfl (y_fieldAddr fd72_2 ti3 (by decide) rfl) ?_
      refine o_gy 17 rfl rfl (y_loadO ti3 rfl (by repeat (first | assumption | exact .z | apply In.s | apply In.a)) rfl) ?_
      refine o_gy 17 rfl rfl (y_fieldAddr fd72_2 ti3 (by decide) rfl) ?_
      refine o_gy 17 rfl rfl (y_loadO ti3 rfl (by repeat (first | assumption | exact .z | apply In.s | apply In.a)) rfl) ?_
      refine o_gy 17 rfl rfl (y_eql rfl rfl) ?_
      refine o_y (y_pick rfl rfl) ?_
      refine o_y (y_move rfl) ?_
      refine o_split 24 rfl (fun hg1_24 => ?_) (fun hg1_24 => ?_)
      · try simp only [k1, k2, k3, k4, k5, k6, k7, k8, k9] at hg1_24
        refine o_gy 24 rfl rfl (y_fieldAddr fd72_3 ti24 (by decide) rfl) ?_
        refine o_gy 24 rfl rfl (y_loadO ti24 rfl (by repeat (first | assumption | exact .z | apply In.s | apply In.a)) rfl) ?_
        refine o_gy 24 rfl rfl (y_fieldAddr fd72_3 ti24 (by decide) rfl) ?_
        refine o_gy 24 rfl rfl (y_loadO ti24 rfl (by repeat (first | assumption | exact .z | apply In.s | apply In.a)) rfl) ?_
        refine o_gcall 24 rfl rfl fn21 rfl (sameNumbers_ok h3 g3) ?_
        rintro _ _ _ ⟨rfl, rfl, rfl⟩
        refine o_y (y_pick rfl rfl) ?_
        refine o_y (y_assign rfl) ?_
        refine o_nil ?_
        refine x_ret ?_
        refine x_fin 2 (ret1 rfl rfl) ?_
        refine ⟨?_, rfl, rfl⟩
        first
          | (have hne : ¬ x = y := fun e => by
               subst e
               first | exact absurd rfl hg1_10 | exact absurd rfl hg1_17 | exact absurd rfl hg1_24
             rw [decide_eq_false hne]; done)
          | (congr 2; apply propext; constructor
             · intro e; cases x; cases y; simp_all
             · intro e; rw [e])
      · try simp only [k1, k2, k3, k4, k5, k6, k7, k8, k9] at hg1_24
        refine o_gn 24 rfl rfl rfl ?_
        refine o_gn 24 rfl rfl rfl ?_
        refine o_gn 24 rfl rfl rfl ?_
        refine o_gn 24 rfl rfl rfl ?_
        refine o_gn 24 rfl rfl rfl ?_
        refine o_y (y_pick rfl rfl) ?_
        refine o_y (y_assign rfl) ?_
        refine o_nil ?_
        refine x_ret ?_
        refine x_fin 2 (ret1 rfl rfl) ?_
        refine ⟨?_, rfl, rfl⟩
        first
          | (have hne : ¬ x = y := fun e => by
               subst e
               first | exact absurd rfl hg1_10 | exact absurd rfl hg1_17 | exact absurd rfl hg1_24
             rw [decide_eq_false hne]; done)
          | (congr 2; apply propext; constructor
             · intro e; cases x; cases y; simp_all
             · intro e; rw [e])
    · try simp only [k1, k2, k3, k4, k5, k6, k7, k8, k9] at hg1_17
      refine o_gn 17 rfl rfl rfl ?_
      refine o_gn 17 rfl rfl rfl ?_
      refine o_gn 17 rfl rfl rfl ?_
      refine o_gn 17 rfl rfl rfl ?_
      refine o_gn 17 rfl rfl rfl ?_
      refine o_y (y_pick rfl rfl) ?_
      refine o_y (y_move rfl) ?_
      refine o_gn 24 rfl rfl rfl ?_
      refine o_gn 24 rfl rfl rfl ?_
      refine o_gn 24 rfl rfl rfl ?_
      refine o_gn 24 rfl rfl rfl ?_
      refine o_gn 24 rfl rfl rfl ?_
      refine o_y (y_pick rfl rfl) ?_
      refine o_y (y_assign rfl) ?_
      refine o_nil ?_
      refine x_ret ?_
      refine x_fin 2 (ret1 rfl rfl) ?_
      refine ⟨?_, rfl, rfl⟩
      first
        | (have hne : ¬ x = y := fun e => by
             subst e
             first | exact absurd rfl hg1_10 | exact absurd rfl hg1_17 | exact absurd rfl hg1_24
           rw [decide_eq_false hne]; done)
        | (congr 2; apply propext; constructor
           · intro e; cases x; cases y; simp_all
           · intro e; rw [e])
  · try simp only [k1, k2, k3, k4, k5, k6, k7, k8, k9] at hg1_10
    refine o_gn 10 rfl rfl rfl ?_
    refine o_gn 10 rfl rfl rfl ?_
    refine o_gn 10 rfl rfl rfl ?_
    refine o_gn 10 rfl rfl rfl ?_
    refine o_gn 10 rfl rfl rfl ?_
    refine o_y (y_pick rfl rfl) ?_
    refine o_y (y_move rfl) ?_
    refine o_gn 17 rfl rfl rfl ?_
    refine o_gn 17 rfl rfl rfl ?_
    refine o_gn 17 rfl rfl rfl ?_
    refine o_gn 17 rfl rfl rfl ?_
    refine o_gn 17 rfl rfl rfl ?_
    refine o_y (y_pick rfl rfl) ?_
    refine o_y (y_move rfl) ?_
    refine o_gn 24 rfl rfl rfl ?_
    refine o_gn 24 rfl rfl rfl ?_
    refine o_gn 24 rfl rfl rfl ?_
    refine o_gn 24 rfl rfl rfl ?_
    refine o_gn 24 rfl rfl rfl ?_
    refine o_y (y_pick rfl rfl) ?_
    refine o_y (y_assign rfl) ?_
    refine o_nil ?_
    refine x_ret ?_
    refine x_fin 2 (ret1 rfl rfl) ?_
    refine ⟨?_, rfl, rfl⟩
    first
      | (have hne : ¬ x = y := fun e => by
           subst e
           first | exact absurd rfl hg1_10 | exact absurd rfl hg1_17 | exact absurd rfl hg1_24
         rw [decide_eq_false hne]; done)
      | (congr 2; apply propext; constructor
         · intro e; cases x; cases y; simp_all
         · intro e; rw [e])
theorem sameNodes_ok {B : World} {H : HM} {O : OL} {v u : Value} {xs ys : List Node} (h : RdL H v xs) (hu : RdL H u ys) : CallsM Go.Proofs.Tryd.prog 46 [v, u].toArray B H O (Same (.bool (decide (xs = ys))) H O) := by
  have hs := h.lenle
  have hs2 := hu.lenle
  refine enter Go.Proofs.Tryd.func46 rfl Go.Proofs.Tryd.ntmps46 (l := [(0, _), (1, _)]) rfl rfl ?_
  refine x_seq ?_
  refine x_region rfl ?_
  refine o_y (y_assign rfl) ?_
  refine o_nil ?_
  refine x_seq ?_
  refine x_seq ?_
  refine x_region rfl ?_
  refine o_y (y_move rfl) ?_
  first | refine o_y (y_lenL (by assumption) Go.Proofs.Tryd.underlying27 rfl) ?_ | refine o_y (y_lenR (by assumption) Go.Proofs.Tryd.underlying27 rfl) ?_ | refine o_y (y_len Go.Proofs.Tryd.underlying27 rfl) ?_
  refine o_y (y_move rfl) ?_
  first | refine o_y (y_lenL (by assumption) Go.Proofs.Tryd.underlying27 rfl) ?_ | refine o_y (y_lenR (by assumption) Go.Proofs.Tryd.underlying27 rfl) ?_ | refine o_y (y_len Go.Proofs.Tryd.underlying27 rfl) ?_
  refine o_y (y_neq rfl rfl) ?_
  refine o_nil ?_
  refine x_cond rfl (fun hc0 => ?_) (fun hc0 => ?_)
  · try simp only [k1, k2, k3, k4, k5, k6, k7, k8, k9] at hc0
    refine x_seq ?_
    refine x_region rfl ?_
    refine o_y (y_assign rfl) ?_
    refine o_nil ?_
    refine x_ret ?_
    refine x_fin 0 (ret1 rfl rfl) ?_
    have hne : ¬ xs = ys := fun e => by subst e; omega
    rw [decide_eq_false hne]; exact ⟨rfl, rfl, rfl⟩
  · try simp only [k1, k2, k3, k4, k5, k6, k7, k8, k9] at hc0
    refine x_skip ?_
    refine x_seq ?_
    refine x_seq ?_
    refine x_region rfl ?_
    refine o_y (y_move rfl) ?_
    first | refine o_y (y_lenL (by assumption) Go.Proofs.Tryd.underlying27 rfl) ?_ | refine o_y (y_lenR (by assumption) Go.Proofs.Tryd.underlying27 rfl) ?_ | refine o_y (y_len Go.Proofs.Tryd.underlying27 rfl) ?_
    refine o_y (y_move rfl) ?_
    refine o_nil ?_
    refine x_block ?_
    refine x_loopf (σ := Nat) (fun s => [(13, .int .i64 (s : Int)), (12, .int .i64 (xs.length : Int)), (0, v), (1, u)]) (fun s => O) (fun s => s ≤ xs.length ∧ xs.take s = ys.take s) (fun s => xs.length - s) 0 ⟨by simp, by simp⟩ (.c rfl (.c rfl (.c rfl (.c rfl .n)))) rfl ?_
    rintro k ⟨i1, i2⟩
    refine x_seq ?_
    refine x_region rfl ?_
    refine o_y (y_lss rfl rfl) ?_
    refine o_nil ?_
    refine x_seq ?_
    refine x_cond rfl (fun hc1 => ?_) (fun hc1 => ?_)
    · try simp only [k1, k2, k3, k4, k5, k6, k7, k8, k9] at hc1
      have hk : k < xs.length := by omega
      have hk2 : k < ys.length := by omega
      refine x_skip ?_
      refine x_seq ?_
      refine x_block ?_
      refine x_seq ?_
      refine x_region rfl ?_
      refine o_y (y_move rfl) ?_
      refine o_y (y_assign rfl) ?_
      refine o_nil ?_
      refine x_seq ?_
      refine x_regionQ mixed (by kernel_rfl) rfl ?_
      refine q_y (y_move rfl) ?_
      refine q_y (y_move rfl) ?_
      obtain ⟨ce18, ae18, re18⟩ := RdL.at h _ k hk
      have se18 := AtS.isSl ae18
      have te18 := re18
      obtain ⟨u18_3, z18, q18_0, q18_1, q18_2, q18_3⟩ := re18
      subst z18
      have w18 := Rep.one te18
      refine q_y (y_idxL h k hk Go.Proofs.Tryd.underlying27 ti72 rfl rfl (by omega)) ?_
      refine q_y (y_loadS ti72 rfl (by assumption) rfl (fun e => by cases e)) ?_
      refine q_y (y_move rfl) ?_
      refine q_y (y_move rfl) ?_
      obtain ⟨ce22, ae22, re22⟩ := RdL.at hu _ k hk2
      have se22 := AtS.isSl ae22
      have te22 := re22
      obtain ⟨u22_3, z22, q22_0, q22_1, q22_2, q22_3⟩ := re22
      subst z22
      have w22 := Rep.one te22
      refine q_y (y_idxL hu k hk2 Go.Proofs.Tryd.underlying27 ti72 rfl rfl (by omega)) ?_
      refine q_y (y_loadS ti72 rfl (by assumption) rfl (fun e => by cases e)) ?_
      refine q_call fn54 rfl (sameNode_ok te18 te22) ?_
      refine q_y (y_not rfl) ?_
      refine q_nil ?_
      refine x_cond rfl (fun hc2 => ?_) (fun hc2 => ?_)
      · try simp only [k1, k2, k3, k4, k5, k6, k7, k8, k9] at hc2
        refine x_seq ?_
        refine x_region rfl ?_
        refine o_y (y_assign rfl) ?_
        refine o_nil ?_
        refine x_ret ?_
        refine x_fin 0 (ret1 rfl rfl) ?_
        have hne : ¬ xs = ys := fun e => by subst e; exact absurd rfl hc2
        rw [decide_eq_false hne]; exact ⟨rfl, rfl, rfl⟩
      · try simp only [k1, k2, k3, k4, k5, k6, k7, k8, k9] at hc2
        refine x_skip ?_
        refine x_region rfl ?_
        refine o_y (y_addN rfl rfl (by omega) (by omega)) ?_
        refine o_y (y_move rfl) ?_
        refine o_nil ?_
        exact ⟨k + 1, 0, rfl, (.c rfl (.c rfl (.c rfl (.c rfl .n)))), rfl, ⟨by omega, by rw [take_next hk, take_next hk2, i2, hc2]⟩, by omega⟩
    · try simp only [k1, k2, k3, k4, k5, k6, k7, k8, k9] at hc1
      refine x_exit ?_
      refine x_seq ?_
      refine x_region rfl ?_
      refine o_y (y_assign rfl) ?_
      refine o_nil ?_
      refine x_ret ?_
      refine x_fin 0 (ret1 rfl rfl) ?_
      obtain rfl : k = xs.length := by omega
      rw [decide_eq_true (take_same (by omega) i2)]; exact ⟨rfl, rfl, rfl⟩
theorem sameTree_ok {B : World} {H : HM} {O : OL} {v u : Value} {xs ys : List Node} (h : RdL H v xs) (hu : RdL H u ys) : CallsM Go.Proofs.Tryd.prog 27 [.agg #[v], .agg #[u]].toArray B H O (Same (.bool (decide (xs = ys))) H O) := by
  refine enter Go.Proofs.Tryd.func27 rfl Go.Proofs.Tryd.ntmps27 (l := [(0, _), (1, _)]) rfl rfl ?_
  refine x_seq ?_
  refine x_region rfl ?_
  refine o_box rfl (cs := [_]) rfl (fun b2 => ?_)
  refine o_box rfl (cs := [_]) rfl (fun b3 => ?_)
  refine o_y (y_assign rfl) ?_
  refine o_nil ?_
  refine x_seq ?_
  refine x_region rfl ?_
  refine o_y (y_fieldAddr fd29_0 ti27 (by decide) rfl) ?_
  refine o_y (y_loadO ti27 rfl (by repeat (first | assumption | exact .z | apply In.s | apply In.a)) rfl) ?_
  refine o_y (y_fieldAddr fd29_0 ti27 (by decide) rfl) ?_
  refine o_y (y_loadO ti27 rfl (by repeat (first | assumption | exact .z | apply In.s | apply In.a)) rfl) ?_
  refine o_call fn46 rfl (sameNodes_ok h hu) ?_
  rintro _ _ _ ⟨rfl, rfl, rfl⟩
  refine o_y (y_assign rfl) ?_
  refine o_nil ?_
  refine x_ret ?_
  refine x_fin 2 (ret1 rfl rfl) ?_
  exact ⟨rfl, rfl, rfl⟩
theorem sameCommit_ok {B : World} {H : HM} {O : OL} {cs ds : List Value} {x y : Commit} (h : Rep.rd H cs x) (hu : Rep.rd H ds y) : CallsM Go.Proofs.Tryd.prog 13 [.agg cs.toArray, .agg ds.toArray].toArray B H O (Same (.bool (decide (x = y))) H O) := by
  obtain ⟨u6, u7, u8, u9, u12, rfl, h0, h1, h2, h3, h4, h5, h6, h7, h8, h9, h10, h11, h12, h13⟩ := h
  obtain ⟨v6, v7, v8, v9, v12, rfl, g0, g1, g2, g3, g4, g5, g6, g7, g8, g9, g10, g11, g12, g13⟩ := hu
  refine enter Go.Proofs.Tryd.func13 rfl Go.Proofs.Tryd.ntmps13 (l := [(0, _), (1, _)]) rfl rfl ?_
  refine x_seq ?_
  refine x_region rfl ?_
  refine o_box rfl (cs := [_, _, _, _, _, _, _, _, _, _, _, _, _, _, _]) rfl (fun b2 => ?_)
  refine o_box rfl (cs := [_, _, _, _, _, _, _, _, _, _, _, _, _, _, _]) rfl (fun b3 => ?_)
  refine o_y (y_assign rfl) ?_
  refine o_nil ?_
  refine x_seq ?_
  refine x_region rfl ?_
  refine o_y (y_fieldAddr fd31_0 ti3 (by decide) rfl) ?_
  refine o_y (y_loadO ti3 rfl (by repeat (first | assumption | exact .z | apply In.s | apply In.a)) rfl) ?_
  refine o_y (y_fieldAddr fd31_0 ti3 (by decide) rfl) ?_
  refine o_y (y_loadO ti3 rfl (by repeat (first | assumption | exact .z | apply In.s | apply In.a)) rfl) ?_
  refine o_y (y_eql rfl rfl) ?_
  refine o_y (y_move rfl) ?_
  refine o_split 10 rfl (fun hg1_10 => ?_) (fun hg1_10 => ?_)
  · try simp only [k1, k2, k3, k4, k5, k6, k7, k8, k9] at hg1_10
    refine o_gy 10 rfl rfl (y_fieldAddr fd31_1 ti3 (by decide) rfl) ?_
    refine o_gy 10 rfl rfl (y_loadO ti3 rfl (by repeat (first | assumption | exact .z | apply In.s | apply In.a)) rfl) ?_
    refine o_gy 10 rfl rfl (y_fieldAddr fd31_1 ti3 (by decide) rfl) ?_
    refine o_gy 10 rfl rfl (y_loadO ti3 rfl (by repeat (first | assumption | exact .z | apply In.s | apply In.a)) rfl) ?_
    refine o_gy 10 rfl rfl (y_eql rfl rfl) ?_
    refine o_y (y_pick rfl rfl) ?_
    refine o_y (y_move rfl) ?_
    refine o_split 17 rfl (fun hg1_17 => ?_) (fun hg1_17 => ?_)
    · try simp only [k1, k2, k3, k4, k5, k6, k7, k8, k9] at hg1_17
      refine o_gy 17 rfl rfl (y_fieldAddr fd31_2 ti3 (by decide) rfl) ?_
      refine o_gy 17 rfl rfl (y_loadO ti3 rfl (by repeat (first | assumption | exact .z | apply In.s | apply In.a)) rfl) ?_
      refine o_gy 17 rfl rfl (y_fieldAddr fd31_2 ti3 (by decide) rfl) ?_
      refine o_gy 17 rfl rfl (y_loadO ti3 rfl (by repeat (first | assumption | exact .z | apply In.s | apply In.a)) rfl) ?_
      refine o_gy 17 rfl rfl (y_eql rfl rfl) ?_
      refine o_y (y_pick rfl rfl) ?_
      refine o_y (y_move rfl) ?_
      refine o_split 24 rfl (fun hg1_24 => ?_) (fun hg1_24 => ?_)
      · try simp only [k1, k2, k3, k4, k5, k6, k7, k8, k9] at hg1_24
        refine o_gy 24 rfl rfl (y_fieldAddr fd31_3 ti3 (by decide) rfl) ?_
        refine o_gy 24 rfl rfl (y_loadO ti3 rfl (by repeat (first | assumption | exact .z | apply In.s | apply In.a)) rfl) ?_
        refine o_gy 24 rfl rfl (y_fieldAddr fd31_3 ti3 (by decide) rfl) ?_
        refine o_gy 24 rfl rfl (y_loadO ti3 rfl (by repeat (first | assumption | exact .z | apply In.s | apply In.a)) rfl) ?_
        refine o_gy 24 rfl rfl (y_eql rfl rfl) ?_
        refine o_y (y_pick rfl rfl) ?_
        refine o_y (y_move rfl) ?_
        refine o_split 31 rfl (fun hg1_31 => ?_) (fun hg1_31 => ?_)
        · try simp only [k1, k2, k3, k4, k5, k6, k7, k8, k9] at hg1_31
          refine o_gy 31 rfl rfl (y_fieldAddr fd31_4 ti3 (by decide) rfl) ?_
          refine o_gy 31 rfl rfl (y_loadO ti3 rfl (by repeat (first | assumption | exact .z | apply In.s | apply In.a)) rfl) ?_
          refine o_gy 31 rfl rfl (y_fieldAddr fd31_4 ti3 (by decide) rfl) ?_
          refine o_gy 31 rfl rfl (y_loadO ti3 rfl (by repeat (first | assumption | exact .z | apply In.s | apply In.a)) rfl) ?_
          refine o_gy 31 rfl rfl (y_eql rfl rfl) ?_
          refine o_y (y_pick rfl rfl) ?_
          refine o_y (y_move rfl) ?_
          refine o_split 38 rfl (fun hg1_38 => ?_) (fun hg1_38 => ?_)
          · try simp only [k1, k2, k3, k4, k5, k6, k7, k8, k9] at hg1_38
            refine o_gy 38 rfl rfl (y_fieldAddr fd31_5 ti4 (by decide) rfl) ?_
            refine o_gy 38 rfl rfl (y_loadO ti4 rfl (by repeat (first | assumption | exact .z | apply In.s | apply In.a)) rfl) ?_
            refine o_gy 38 rfl rfl (y_fieldAddr fd31_5 ti4 (by decide) rfl) ?_
            refine o_gy 38 rfl rfl (y_loadO ti4 rfl (by repeat (first | assumption | exact .z | apply In.s | apply In.a)) rfl) ?_
            refine o_gy 38 rfl rfl (y_beql Go.Proofs.Tryd.underlying4 rfl rfl) ?_
            refine o_y (y_pick rfl rfl) ?_
            refine o_y (y_move rfl) ?_
            refine o_split 45 rfl (fun hg1_45 => ?_) (fun hg1_45 => ?_)
            · try simp only [k1, k2, k3, k4, k5, k6, k7, k8, k9] at hg1_45
              refine o_gy 45 rfl rfl (y_fieldAddr fd31_10 ti3 (by decide) rfl) ?_
              refine o_gy 45 rfl rfl (y_loadO ti3 rfl (by repeat (first | assumption | exact .z | apply In.s | apply In.a)) rfl) ?_
              refine o_gy 45 rfl rfl (y_fieldAddr fd31_10 ti3 (by decide) rfl) ?_
              refine o_gy 45 rfl rfl (y_loadO ti3 rfl (by repeat (first | assumption | exact .z | apply In.s | apply In.a)) rfl) ?_
              refine o_gy 45 rfl rfl (y_eql rfl rfl) ?_
              refine o_y (y_pick rfl rfl) ?_
              refine o_y (y_move rfl) ?_
              refine o_split 52 rfl (fun hg1_52 => ?_) (fun hg1_52 => ?_)
              · try simp only [k1, k2, k3, k4, k5, k6, k7, k8, k9] at hg1_52
                refine o_gy 52 rfl rfl (y_fieldAddr fd31_11 ti3 (by decide) rfl) ?_
                refine o_gy 52 rfl rfl (y_loadO ti3 rfl (by repeat (first | assumption | exact .z | apply In.s | apply In.a)) rfl) ?_
                refine o_gy 52 rfl rfl (y_fieldAddr fd31_11 ti3 (by decide) rfl) ?_
                refine o_gy 52 rfl rfl (y_loadO ti3 rfl (by repeat (first | assumption | exact .z | apply In.s | apply In.a)) rfl) ?_
                refine o_gy 52 rfl rfl (y_eql rfl rfl) ?_
                refine o_y (y_pick rfl rfl) ?_
                refine o_y (y_move rfl) ?_
                refine o_split 59 rfl (fun hg1_59 => ?_) (fun hg1_59 => ?_)
                · try simp only [k1, k2, k3, k4, k5, k6, k7, k8, k9] at hg1_59
                  refine o_gy 59 rfl rfl (y_fieldAddr fd31_13 ti3 (by decide) rfl) ?_
                  refine o_gy 59 rfl rfl (y_loadO ti3 rfl (by repeat (first | assumption | exact .z | apply In.s | apply In.a)) rfl) ?_
                  refine o_gy 59 rfl rfl (y_fieldAddr fd31_13 ti3 (by decide) rfl) ?_
                  refine o_gy 59 rfl rfl (y_loadO ti3 rfl (by repeat (first | assumption | exact .z | apply In.s | apply In.a)) rfl) ?_
                  refine o_gy 59 rfl rfl (y_eql rfl rfl) ?_
                  refine o_y (y_pick rfl rfl) ?_
                  refine o_y (y_move rfl) ?_
                  refine o_split 66 rfl (fun hg1_66 => ?_) (fun hg1_66 => ?_)
                  · try simp only [k1, k2, k3, k4, k5, k6, k7, k8, k9] at hg1_66
                    refine o_gy 66 rfl rfl (y_fieldAddr fd31_14 ti3 (by decide) rfl) ?_
                    refine o_gy 66 rfl rfl (y_loadO ti3 rfl (by repeat (first | assumption | exact .z | apply In.s | apply In.a)) rfl) ?_
                    refine o_gy 66 rfl rfl (y_fieldAddr fd31_14 ti3 (by decide) rfl) ?_
                    refine o_gy 66 rfl rfl (y_loadO ti3 rfl (by repeat (first | assumption | exact .z | apply In.s | apply In.a)) rfl) ?_
                    refine o_gy 66 rfl rfl (y_eql rfl rfl) ?_
                    refine o_y (y_pick rfl rfl) ?_
                    refine o_y (y_move rfl) ?_
                    refine o_split 73 rfl (fun hg1_73 => ?_) (fun hg1_73 => ?_)
                    · try simp only [k1, k2, k3, k4, k5, k6, k7, k8, k9] at hg1_73
                      refine o_gy 73 rfl rfl (y_fieldAddr fd31_12 ti29 (by decide) rfl) ?_
                      refine o_gy 73 rfl rfl (y_loadP ti29 rfl (by repeat (first | assumption | exact .z | apply In.s | apply In.a)) (cs := [_]) rfl rfl) ?_
                      refine o_gy 73 rfl rfl (y_fieldAddr fd31_12 ti29 (by decide) rfl) ?_
                      refine o_gy 73 rfl rfl (y_loadP ti29 rfl (by repeat (first | assumption | exact .z | apply In.s | apply In.a)) (cs := [_]) rfl rfl) ?_
                      refine o_gcall 73 rfl rfl fn27 rfl (sameTree_ok h11 g11) ?_
                      rintro _ _ _ ⟨rfl, rfl, rfl⟩
                      refine o_y (y_pick rfl rfl) ?_
                      refine o_y (y_move rfl) ?_
                      refine o_split 80 rfl (fun hg1_80 => ?_) (fun hg1_80 => ?_)
                      · try simp only [k1, k2, k3, k4, k5, k6, k7, k8, k9] at hg1_80
                        refine o_gy 80 rfl rfl (y_fieldAddr fd31_6 ti23 (by decide) rfl) ?_
                        refine o_gy 80 rfl rfl (y_loadO ti23 rfl (by repeat (first | assumption | exact .z | apply In.s | apply In.a)) rfl) ?_
                        refine o_gy 80 rfl rfl (y_fieldAddr fd31_6 ti23 (by decide) rfl) ?_
                        refine o_gy 80 rfl rfl (y_loadO ti23 rfl (by repeat (first | assumption | exact .z | apply In.s | apply In.a)) rfl) ?_
                        refine o_gcall 80 rfl rfl fn28 rfl (sameAdds_ok h5 g5) ?_
                        rintro _ _ _ ⟨rfl, rfl, rfl⟩
                        refine o_y (y_pick rfl rfl) ?_
                        refine o_y (y_move rfl) ?_
                        refine o_split 87 rfl (fun hg1_87 => ?_) (fun hg1_87 => ?_)
                        · try simp only [k1, k2, k3, k4, k5, k6, k7, k8, k9] at hg1_87
                          refine o_gy 87 rfl rfl (y_fieldAddr fd31_7 ti24 (by decide) rfl) ?_
                          refine o_gy 87 rfl rfl (y_loadO ti24 rfl (by repeat (first | assumption | exact .z | apply In.s | apply In.a)) rfl) ?_
                          refine o_gy 87 rfl rfl (y_fieldAddr fd31_7 ti24 (by decide) rfl) ?_
                          refine o_gy 87 rfl rfl (y_loadO ti24 rfl (by repeat (first | assumption | exact .z | apply In.s | apply In.a)) rfl) ?_
                          refine o_gcall 87 rfl rfl fn21 rfl (sameNumbers_ok h6 g6) ?_
                          rintro _ _ _ ⟨rfl, rfl, rfl⟩
                          refine o_y (y_pick rfl rfl) ?_
                          refine o_y (y_move rfl) ?_
                          refine o_split 94 rfl (fun hg1_94 => ?_) (fun hg1_94 => ?_)
                          · try simp only [k1, k2, k3, k4, k5, k6, k7, k8, k9] at hg1_94
                            refine o_gy 94 rfl rfl (y_fieldAddr fd31_8 ti25 (by decide) rfl) ?_
                            refine o_gy 94 rfl rfl (y_loadO ti25 rfl (by repeat (first | assumption | exact .z | apply In.s | apply In.a)) rfl) ?_
                            refine o_gy 94 rfl rfl (y_fieldAddr fd31_8 ti25 (by decide) rfl) ?_
                            refine o_gy 94 rfl rfl (y_loadO ti25 rfl (by repeat (first | assumption | exact .z | apply In.s | apply In.a)) rfl) ?_
                            refine o_gcall 94 rfl rfl fn29 rfl (sameSeals_ok h7 g7) ?_
                            rintro _ _ _ ⟨rfl, rfl, rfl⟩
                            refine o_y (y_pick rfl rfl) ?_
                            refine o_y (y_move rfl) ?_
                            refine o_split 101 rfl (fun hg1_101 => ?_) (fun hg1_101 => ?_)
                            · try simp only [k1, k2, k3, k4, k5, k6, k7, k8, k9] at hg1_101
                              refine o_gy 101 rfl rfl (y_fieldAddr fd31_9 ti26 (by decide) rfl) ?_
                              refine o_gy 101 rfl rfl (y_loadO ti26 rfl (by repeat (first | assumption | exact .z | apply In.s | apply In.a)) rfl) ?_
                              refine o_gy 101 rfl rfl (y_fieldAddr fd31_9 ti26 (by decide) rfl) ?_
                              refine o_gy 101 rfl rfl (y_loadO ti26 rfl (by repeat (first | assumption | exact .z | apply In.s | apply In.a)) rfl) ?_
                              refine o_gcall 101 rfl rfl fn30 rfl (sameJoins_ok h8 g8) ?_
                              rintro _ _ _ ⟨rfl, rfl, rfl⟩
                              refine o_y (y_pick rfl rfl) ?_
                              refine o_y (y_assign rfl) ?_
                              refine o_nil ?_
                              refine x_ret ?_
                              refine x_fin 2 (ret1 rfl rfl) ?_
                              refine ⟨?_, rfl, rfl⟩
                              first
                                | (have hne : ¬ x = y := fun e => by
                                     subst e
                                     first | exact absurd rfl hg1_10 | exact absurd rfl hg1_17 | exact absurd rfl hg1_24 | exact absurd rfl hg1_31 | exact absurd rfl hg1_38 | (simp at hg1_45; done) | exact absurd rfl hg1_52 | exact absurd rfl hg1_59 | exact absurd rfl hg1_66 | exact absurd rfl hg1_73 | exact absurd rfl hg1_80 | exact absurd rfl hg1_87 | exact absurd rfl hg1_94 | exact absurd rfl hg1_101
                                   rw [decide_eq_false hne]; done)
                                | (congr 2; apply propext; constructor
                                   · intro e
                                     obtain ⟨⟨_⟩⟩ : Nonempty Unit := ⟨()⟩
                                     cases x with | mk a0 a1 a2 a3 a4 a5 a6 a7 a8 a9 a10 a11 t a13 a14 => cases t; cases y with | mk b0 b1 b2 b3 b4 b5 b6 b7 b8 b9 b10 b11 s b13 b14 => cases s; simp_all
                                   · intro e; rw [e])
                            · try simp only [k1, k2, k3, k4, k5, k6, k7, k8, k9] at hg1_101
                              refine o_gn 101 rfl rfl rfl ?_
                              refine o_gn 101 rfl rfl rfl ?_
                              refine o_gn 101 rfl rfl rfl ?_
                              refine o_gn 101 rfl rfl rfl ?_
                              refine o_gn 101 rfl rfl rfl ?_
                              refine o_y (y_pick rfl rfl) ?_
                              refine o_y (y_assign rfl) ?_
                              refine o_nil ?_
                              refine x_ret ?_
                              refine x_fin 2 (ret1 rfl rfl) ?_
                              refine ⟨?_, rfl, rfl⟩
                              first
                                | (have hne : ¬ x = y := fun e => by
                                     subst e
                                     first | exact absurd rfl hg1_10 | exact absurd rfl hg1_17 | exact absurd rfl hg1_24 | exact absurd rfl hg1_31 | exact absurd rfl hg1_38 | (simp at hg1_45; done) | exact absurd rfl hg1_52 | exact absurd rfl hg1_59 | exact absurd rfl hg1_66 | exact absurd rfl hg1_73 | exact absurd rfl hg1_80 | exact absurd rfl hg1_87 | exact absurd rfl hg1_94 | exact absurd rfl hg1_101
                                   rw [decide_eq_false hne]; done)
                                | (congr 2; apply propext; constructor
                                   · intro e
                                     obtain ⟨⟨_⟩⟩ : Nonempty Unit := ⟨()⟩
                                     cases x with | mk a0 a1 a2 a3 a4 a5 a6 a7 a8 a9 a10 a11 t a13 a14 => cases t; cases y with | mk b0 b1 b2 b3 b4 b5 b6 b7 b8 b9 b10 b11 s b13 b14 => cases s; simp_all
                                   · intro e; rw [e])
                          · try simp only [k1, k2, k3, k4, k5, k6, k7, k8, k9] at hg1_94
                            refine o_gn 94 rfl rfl rfl ?_
                            refine o_gn 94 rfl rfl rfl ?_
                            refine o_gn 94 rfl rfl rfl ?_
                            refine o_gn 94 rfl rfl rfl ?_
                            refine o_gn 94 rfl rfl rfl ?_
                            refine o_y (y_pick rfl rfl) ?_
                            refine o_y (y_move rfl) ?_
                            refine o_gn 101 rfl rfl rfl ?_
                            refine o_gn 101 rfl rfl rfl ?_
                            refine o_gn 101 rfl rfl rfl ?_
                            refine o_gn 101 rfl rfl rfl ?_
                            refine o_gn 101 rfl rfl rfl ?_
                            refine o_y (y_pick rfl rfl) ?_
                            refine o_y (y_assign rfl) ?_
                            refine o_nil ?_
                            refine x_ret ?_
                            refine x_fin 2 (ret1 rfl rfl) ?_
                            refine ⟨?_, rfl, rfl⟩
                            first
                              | (have hne : ¬ x = y := fun e => by
                                   subst e
                                   first | exact absurd rfl hg1_10 | exact absurd rfl hg1_17 | exact absurd rfl hg1_24 | exact absurd rfl hg1_31 | exact absurd rfl hg1_38 | (simp at hg1_45; done) | exact absurd rfl hg1_52 | exact absurd rfl hg1_59 | exact absurd rfl hg1_66 | exact absurd rfl hg1_73 | exact absurd rfl hg1_80 | exact absurd rfl hg1_87 | exact absurd rfl hg1_94 | exact absurd rfl hg1_101
                                 rw [decide_eq_false hne]; done)
                              | (congr 2; apply propext; constructor
                                 · intro e
                                   obtain ⟨⟨_⟩⟩ : Nonempty Unit := ⟨()⟩
                                   cases x with | mk a0 a1 a2 a3 a4 a5 a6 a7 a8 a9 a10 a11 t a13 a14 => cases t; cases y with | mk b0 b1 b2 b3 b4 b5 b6 b7 b8 b9 b10 b11 s b13 b14 => cases s; simp_all
                                 · intro e; rw [e])
                        · try simp only [k1, k2, k3, k4, k5, k6, k7, k8, k9] at hg1_87
                          refine o_gn 87 rfl rfl rfl ?_
                          refine o_gn 87 rfl rfl rfl ?_
                          refine o_gn 87 rfl rfl rfl ?_
                          refine o_gn 87 rfl rfl rfl ?_
                          refine o_gn 87 rfl rfl rfl ?_
                          refine o_y (y_pick rfl rfl) ?_
                          refine o_y (y_move rfl) ?_
                          refine o_gn 94 rfl rfl rfl ?_
                          refine o_gn 94 rfl rfl rfl ?_
                          refine o_gn 94 rfl rfl rfl ?_
                          refine o_gn 94 rfl rfl rfl ?_
                          refine o_gn 94 rfl rfl rfl ?_
                          refine o_y (y_pick rfl rfl) ?_
                          refine o_y (y_move rfl) ?_
                          refine o_gn 101 rfl rfl rfl ?_
                          refine o_gn 101 rfl rfl rfl ?_
                          refine o_gn 101 rfl rfl rfl ?_
                          refine o_gn 101 rfl rfl rfl ?_
                          refine o_gn 101 rfl rfl rfl ?_
                          refine o_y (y_pick rfl rfl) ?_
                          refine o_y (y_assign rfl) ?_
                          refine o_nil ?_
                          refine x_ret ?_
                          refine x_fin 2 (ret1 rfl rfl) ?_
                          refine ⟨?_, rfl, rfl⟩
                          first
                            | (have hne : ¬ x = y := fun e => by
                                 subst e
                                 first | exact absurd rfl hg1_10 | exact absurd rfl hg1_17 | exact absurd rfl hg1_24 | exact absurd rfl hg1_31 | exact absurd rfl hg1_38 | (simp at hg1_45; done) | exact absurd rfl hg1_52 | exact absurd rfl hg1_59 | exact absurd rfl hg1_66 | exact absurd rfl hg1_73 | exact absurd rfl hg1_80 | exact absurd rfl hg1_87 | exact absurd rfl hg1_94 | exact absurd rfl hg1_101
                               rw [decide_eq_false hne]; done)
                            | (congr 2; apply propext; constructor
                               · intro e
                                 obtain ⟨⟨_⟩⟩ : Nonempty Unit := ⟨()⟩
                                 cases x with | mk a0 a1 a2 a3 a4 a5 a6 a7 a8 a9 a10 a11 t a13 a14 => cases t; cases y with | mk b0 b1 b2 b3 b4 b5 b6 b7 b8 b9 b10 b11 s b13 b14 => cases s; simp_all
                               · intro e; rw [e])
                      · try simp only [k1, k2, k3, k4, k5, k6, k7, k8, k9] at hg1_80
                        refine o_gn 80 rfl rfl rfl ?_
                        refine o_gn 80 rfl rfl rfl ?_
                        refine o_gn 80 rfl rfl rfl ?_
                        refine o_gn 80 rfl rfl rfl ?_
                        refine o_gn 80 rfl rfl rfl ?_
                        refine o_y (y_pick rfl rfl) ?_
                        refine o_y (y_move rfl) ?_
                        refine o_gn 87 rfl rfl rfl ?_
                        refine o_gn 87 rfl rfl rfl ?_
                        refine o_gn 87 rfl rfl rfl ?_
                        refine o_gn 87 rfl rfl rfl ?_
                        refine o_gn 87 rfl rfl rfl ?_
                        refine o_y (y_pick rfl rfl) ?_
                        refine o_y (y_move rfl) ?_
                        refine o_gn 94 rfl rfl rfl ?_
                        refine o_gn 94 rfl rfl rfl ?_
                        refine o_gn 94 rfl rfl rfl ?_
                        refine o_gn 94 rfl rfl rfl ?_
                        refine o_gn 94 rfl rfl rfl ?_
                        refine o_y (y_pick rfl rfl) ?_
                        refine o_y (y_move rfl) ?_
                        refine o_gn 101 rfl rfl rfl ?_
                        refine o_gn 101 rfl rfl rfl ?_
                        refine o_gn 101 rfl rfl rfl ?_
                        refine o_gn 101 rfl rfl rfl ?_
                        refine o_gn 101 rfl rfl rfl ?_
                        refine o_y (y_pick rfl rfl) ?_
                        refine o_y (y_assign rfl) ?_
                        refine o_nil ?_
                        refine x_ret ?_
                        refine x_fin 2 (ret1 rfl rfl) ?_
                        refine ⟨?_, rfl, rfl⟩
                        first
                          | (have hne : ¬ x = y := fun e => by
                               subst e
                               first | exact absurd rfl hg1_10 | exact absurd rfl hg1_17 | exact absurd rfl hg1_24 | exact absurd rfl hg1_31 | exact absurd rfl hg1_38 | (simp at hg1_45; done) | exact absurd rfl hg1_52 | exact absurd rfl hg1_59 | exact absurd rfl hg1_66 | exact absurd rfl hg1_73 | exact absurd rfl hg1_80 | exact absurd rfl hg1_87 | exact absurd rfl hg1_94 | exact absurd rfl hg1_101
                             rw [decide_eq_false hne]; done)
                          | (congr 2; apply propext; constructor
                             · intro e
                               obtain ⟨⟨_⟩⟩ : Nonempty Unit := ⟨()⟩
                               cases x with | mk a0 a1 a2 a3 a4 a5 a6 a7 a8 a9 a10 a11 t a13 a14 => cases t; cases y with | mk b0 b1 b2 b3 b4 b5 b6 b7 b8 b9 b10 b11 s b13 b14 => cases s; simp_all
                             · intro e; rw [e])
                    · try simp only [k1, k2, k3, k4, k5, k6, k7, k8, k9] at hg1_73
                      refine o_gn 73 rfl rfl rfl ?_
                      refine o_gn 73 rfl rfl rfl ?_
                      refine o_gn 73 rfl rfl rfl ?_
                      refine o_gn 73 rfl rfl rfl ?_
                      refine o_gn 73 rfl rfl rfl ?_
                      refine o_y (y_pick rfl rfl) ?_
                      refine o_y (y_move rfl) ?_
                      refine o_gn 80 rfl rfl rfl ?_
                      refine o_gn 80 rfl rfl rfl ?_
                      refine o_gn 80 rfl rfl rfl ?_
                      refine o_gn 80 rfl rfl rfl ?_
                      refine o_gn 80 rfl rfl rfl ?_
                      refine o_y (y_pick rfl rfl) ?_
                      refine o_y (y_move rfl) ?_
                      refine o_gn 87 rfl rfl rfl ?_
                      refine o_gn 87 rfl rfl rfl ?_
                      refine o_gn 87 rfl rfl rfl ?_
                      refine o_gn 87 rfl rfl rfl ?_
                      refine o_gn 87 rfl rfl rfl ?_
                      refine o_y (y_pick rfl rfl) ?_
                      refine o_y (y_move rfl) ?_
                      refine o_gn 94 rfl rfl rfl ?_
                      refine o_gn 94 rfl rfl rfl ?_
                      refine o_gn 94 rfl rfl rfl ?_
                      refine o_gn 94 rfl rfl rfl ?_
                      refine o_gn 94 rfl rfl rfl ?_
                      refine o_y (y_pick rfl rfl) ?_
                      refine o_y (y_move rfl) ?_
                      refine o_gn 101 rfl rfl rfl ?_
                      refine o_gn 101 rfl rfl rfl ?_
                      refine o_gn 101 rfl rfl rfl ?_
                      refine o_gn 101 rfl rfl rfl ?_
                      refine o_gn 101 rfl rfl rfl ?_
                      refine o_y (y_pick rfl rfl) ?_
                      refine o_y (y_assign rfl) ?_
                      refine o_nil ?_
                      refine x_ret ?_
                      refine x_fin 2 (ret1 rfl rfl) ?_
                      refine ⟨?_, rfl, rfl⟩
                      first
                        | (have hne : ¬ x = y := fun e => by
                             subst e
                             first | exact absurd rfl hg1_10 | exact absurd rfl hg1_17 | exact absurd rfl hg1_24 | exact absurd rfl hg1_31 | exact absurd rfl hg1_38 | (simp at hg1_45; done) | exact absurd rfl hg1_52 | exact absurd rfl hg1_59 | exact absurd rfl hg1_66 | exact absurd rfl hg1_73 | exact absurd rfl hg1_80 | exact absurd rfl hg1_87 | exact absurd rfl hg1_94 | exact absurd rfl hg1_101
                           rw [decide_eq_false hne]; done)
                        | (congr 2; apply propext; constructor
                           · intro e
                             obtain ⟨⟨_⟩⟩ : Nonempty Unit := ⟨()⟩
                             cases x with | mk a0 a1 a2 a3 a4 a5 a6 a7 a8 a9 a10 a11 t a13 a14 => cases t; cases y with | mk b0 b1 b2 b3 b4 b5 b6 b7 b8 b9 b10 b11 s b13 b14 => cases s; simp_all
                           · intro e; rw [e])
                  · try simp only [k1, k2, k3, k4, k5, k6, k7, k8, k9] at hg1_66
                    refine o_gn 66 rfl rfl rfl ?_
                    refine o_gn 66 rfl rfl rfl ?_
                    refine o_gn 66 rfl rfl rfl ?_
                    refine o_gn 66 rfl rfl rfl ?_
                    refine o_gn 66 rfl rfl rfl ?_
                    refine o_y (y_pick rfl rfl) ?_
                    refine o_y (y_move rfl) ?_
                    refine o_gn 73 rfl rfl rfl ?_
                    refine o_gn 73 rfl rfl rfl ?_
                    refine o_gn 73 rfl rfl rfl ?_
                    refine o_gn 73 rfl rfl rfl ?_
                    refine o_gn 73 rfl rfl rfl ?_
                    refine o_y (y_pick rfl rfl) ?_
                    refine o_y (y_move rfl) ?_
                    refine o_gn 80 rfl rfl rfl ?_
                    refine o_gn 80 rfl rfl rfl ?_
                    refine o_gn 80 rfl rfl rfl ?_
                    refine o_gn 80 rfl rfl rfl ?_
                    refine o_gn 80 rfl rfl rfl ?_
                    refine o_y (y_pick rfl rfl) ?_
                    refine o_y (y_move rfl) ?_
                    refine o_gn 87 rfl rfl rfl ?_
                    refine o_gn 87 rfl rfl rfl ?_
                    refine o_gn 87 rfl rfl rfl ?_
                    refine o_gn 87 rfl rfl rfl ?_
                    refine o_gn 87 rfl rfl rfl ?_
                    refine o_y (y_pick rfl rfl) ?_
                    refine o_y (y_move rfl) ?_
                    refine o_gn 94 rfl rfl rfl ?_
                    refine o_gn 94 rfl rfl rfl ?_
                    refine o_gn 94 rfl rfl rfl ?_
                    refine o_gn 94 rfl rfl rfl ?_
                    refine o_gn 94 rfl rfl rfl ?_
                    refine o_y (y_pick rfl rfl) ?_
                    refine o_y (y_move rfl) ?_
                    refine o_gn 101 rfl rfl rfl ?_
                    refine o_gn 101 rfl rfl rfl ?_
                    refine o_gn 101 rfl rfl rfl ?_
                    refine o_gn 101 rfl rfl rfl ?_
                    refine o_gn 101 rfl rfl rfl ?_
                    refine o_y (y_pick rfl rfl) ?_
                    refine o_y (y_assign rfl) ?_
                    refine o_nil ?_
                    refine x_ret ?_
                    refine x_fin 2 (ret1 rfl rfl) ?_
                    refine ⟨?_, rfl, rfl⟩
                    first
                      | (have hne : ¬ x = y := fun e => by
                           subst e
                           first | exact absurd rfl hg1_10 | exact absurd rfl hg1_17 | exact absurd rfl hg1_24 | exact absurd rfl hg1_31 | exact absurd rfl hg1_38 | (simp at hg1_45; done) | exact absurd rfl hg1_52 | exact absurd rfl hg1_59 | exact absurd rfl hg1_66 | exact absurd rfl hg1_73 | exact absurd rfl hg1_80 | exact absurd rfl hg1_87 | exact absurd rfl hg1_94 | exact absurd rfl hg1_101
                         rw [decide_eq_false hne]; done)
                      | (congr 2; apply propext; constructor
                         · intro e
                           obtain ⟨⟨_⟩⟩ : Nonempty Unit := ⟨()⟩
                           cases x with | mk a0 a1 a2 a3 a4 a5 a6 a7 a8 a9 a10 a11 t a13 a14 => cases t; cases y with | mk b0 b1 b2 b3 b4 b5 b6 b7 b8 b9 b10 b11 s b13 b14 => cases s; simp_all
                         · intro e; rw [e])
                · try simp only [k1, k2, k3, k4, k5, k6, k7, k8, k9] at hg1_59
                  refine o_gn 59 rfl rfl rfl ?_
                  refine o_gn 59 rfl rfl rfl ?_
                  refine o_gn 59 rfl rfl rfl ?_
                  refine o_gn 59 rfl rfl rfl ?_
                  refine o_gn 59 rfl rfl rfl ?_
                  refine o_y (y_pick rfl rfl) ?_
                  refine o_y (y_move rfl) ?_
                  refine o_gn 66 rfl rfl rfl ?_
                  refine o_gn 66 rfl rfl rfl ?_
                  refine o_gn 66 rfl rfl rfl ?_
                  refine o_gn 66 rfl rfl rfl ?_
                  refine o_gn 66 rfl rfl rfl ?_
                  refine o_y (y_pick rfl rfl) ?_
                  refine o_y (y_move rfl) ?_
                  refine o_gn 73 rfl rfl rfl ?_
                  refine o_gn 73 rfl rfl rfl ?_
                  refine o_gn 73 rfl rfl rfl ?_
                  refine o_gn 73 rfl rfl rfl ?_
                  refine o_gn 73 rfl rfl rfl ?_
                  refine o_y (y_pick rfl rfl) ?_
                  refine o_y (y_move rfl) ?_
                  refine o_gn 80 rfl rfl rfl ?_
                  refine o_gn 80 rfl rfl rfl ?_
                  refine o_gn 80 rfl rfl rfl ?_
                  refine o_gn 80 rfl rfl rfl ?_
                  refine o_gn 80 rfl rfl rfl ?_
                  refine o_y (y_pick rfl rfl) ?_
                  refine o_y (y_move rfl) ?_
                  refine o_gn 87 rfl rfl rfl ?_
                  refine o_gn 87 rfl rfl rfl ?_
                  refine o_gn 87 rfl rfl rfl ?_
                  refine o_gn 87 rfl rfl rfl ?_
                  refine o_gn 87 rfl rfl rfl ?_
                  refine o_y (y_pick rfl rfl) ?_
                  refine o_y (y_move rfl) ?_
                  refine o_gn 94 rfl rfl rfl ?_
                  refine o_gn 94 rfl rfl rfl ?_
                  refine o_gn 94 rfl rfl rfl ?_
                  refine o_gn 94 rfl rfl rfl ?_
                  refine o_gn 94 rfl rfl rfl ?_
                  refine o_y (y_pick rfl rfl) ?_
                  refine o_y (y_move rfl) ?_
                  refine o_gn 101 rfl rfl rfl ?_
                  refine o_gn 101 rfl rfl rfl ?_
                  refine o_gn 101 rfl rfl rfl ?_
                  refine o_gn 101 rfl rfl rfl ?_
                  refine o_gn 101 rfl rfl rfl ?_
                  refine o_y (y_pick rfl rfl) ?_
                  refine o_y (y_assign rfl) ?_
                  refine o_nil ?_
                  refine x_ret ?_
                  refine x_fin 2 (ret1 rfl rfl) ?_
                  refine ⟨?_, rfl, rfl⟩
                  first
                    | (have hne : ¬ x = y := fun e => by
                         subst e
                         first | exact absurd rfl hg1_10 | exact absurd rfl hg1_17 | exact absurd rfl hg1_24 | exact absurd rfl hg1_31 | exact absurd rfl hg1_38 | (simp at hg1_45; done) | exact absurd rfl hg1_52 | exact absurd rfl hg1_59 | exact absurd rfl hg1_66 | exact absurd rfl hg1_73 | exact absurd rfl hg1_80 | exact absurd rfl hg1_87 | exact absurd rfl hg1_94 | exact absurd rfl hg1_101
                       rw [decide_eq_false hne]; done)
                    | (congr 2; apply propext; constructor
                       · intro e
                         obtain ⟨⟨_⟩⟩ : Nonempty Unit := ⟨()⟩
                         cases x with | mk a0 a1 a2 a3 a4 a5 a6 a7 a8 a9 a10 a11 t a13 a14 => cases t; cases y with | mk b0 b1 b2 b3 b4 b5 b6 b7 b8 b9 b10 b11 s b13 b14 => cases s; simp_all
                       · intro e; rw [e])
              · try simp only [k1, k2, k3, k4, k5, k6, k7, k8, k9] at hg1_52
                refine o_gn 52 rfl rfl rfl ?_
                refine o_gn 52 rfl rfl rfl ?_
                refine o_gn 52 rfl rfl rfl ?_
                refine o_gn 52 rfl rfl rfl ?_
                refine o_gn 52 rfl rfl rfl ?_
                refine o_y (y_pick rfl rfl) ?_
                refine o_y (y_move rfl) ?_
                refine o_gn 59 rfl rfl rfl ?_
                refine o_gn 59 rfl rfl rfl ?_
                refine o_gn 59 rfl rfl rfl ?_
                refine o_gn 59 rfl rfl rfl ?_
                refine o_gn 59 rfl rfl rfl ?_
                refine o_y (y_pick rfl rfl) ?_
                refine o_y (y_move rfl) ?_
                refine o_gn 66 rfl rfl rfl ?_
                refine o_gn 66 rfl rfl rfl ?_
                refine o_gn 66 rfl rfl rfl ?_
                refine o_gn 66 rfl rfl rfl ?_
                refine o_gn 66 rfl rfl rfl ?_
                refine o_y (y_pick rfl rfl) ?_
                refine o_y (y_move rfl) ?_
                refine o_gn 73 rfl rfl rfl ?_
                refine o_gn 73 rfl rfl rfl ?_
                refine o_gn 73 rfl rfl rfl ?_
                refine o_gn 73 rfl rfl rfl ?_
                refine o_gn 73 rfl rfl rfl ?_
                refine o_y (y_pick rfl rfl) ?_
                refine o_y (y_move rfl) ?_
                refine o_gn 80 rfl rfl rfl ?_
                refine o_gn 80 rfl rfl rfl ?_
                refine o_gn 80 rfl rfl rfl ?_
                refine o_gn 80 rfl rfl rfl ?_
                refine o_gn 80 rfl rfl rfl ?_
                refine o_y (y_pick rfl rfl) ?_
                refine o_y (y_move rfl) ?_
                refine o_gn 87 rfl rfl rfl ?_
                refine o_gn 87 rfl rfl rfl ?_
                refine o_gn 87 rfl rfl rfl ?_
                refine o_gn 87 rfl rfl rfl ?_
                refine o_gn 87 rfl rfl rfl ?_
                refine o_y (y_pick rfl rfl) ?_
                refine o_y (y_move rfl) ?_
                refine o_gn 94 rfl rfl rfl ?_
                refine o_gn 94 rfl rfl rfl ?_
                refine o_gn 94 rfl rfl rfl ?_
                refine o_gn 94 rfl rfl rfl ?_
                refine o_gn 94 rfl rfl rfl ?_
                refine o_y (y_pick rfl rfl) ?_
                refine o_y (y_move rfl) ?_
                refine o_gn 101 rfl rfl rfl ?_
                refine o_gn 101 rfl rfl rfl ?_
                refine o_gn 101 rfl rfl rfl ?_
                refine o_gn 101 rfl rfl rfl ?_
                refine o_gn 101 rfl rfl rfl ?_
                refine o_y (y_pick rfl rfl) ?_
                refine o_y (y_assign rfl) ?_
                refine o_nil ?_
                refine x_ret ?_
                refine x_fin 2 (ret1 rfl rfl) ?_
                refine ⟨?_, rfl, rfl⟩
                first
                  | (have hne : ¬ x = y := fun e => by
                       subst e
                       first | exact absurd rfl hg1_10 | exact absurd rfl hg1_17 | exact absurd rfl hg1_24 | exact absurd rfl hg1_31 | exact absurd rfl hg1_38 | (simp at hg1_45; done) | exact absurd rfl hg1_52 | exact absurd rfl hg1_59 | exact absurd rfl hg1_66 | exact absurd rfl hg1_73 | exact absurd rfl hg1_80 | exact absurd rfl hg1_87 | exact absurd rfl hg1_94 | exact absurd rfl hg1_101
                     rw [decide_eq_false hne]; done)
                  | (congr 2; apply propext; constructor
                     · intro e
                       obtain ⟨⟨_⟩⟩ : Nonempty Unit := ⟨()⟩
                       cases x with | mk a0 a1 a2 a3 a4 a5 a6 a7 a8 a9 a10 a11 t a13 a14 => cases t; cases y with | mk b0 b1 b2 b3 b4 b5 b6 b7 b8 b9 b10 b11 s b13 b14 => cases s; simp_all
                     · intro e; rw [e])
            · try simp only [k1, k2, k3, k4, k5, k6, k7, k8, k9] at hg1_45
              refine o_gn 45 rfl rfl rfl ?_
              refine o_gn 45 rfl rfl rfl ?_
              refine o_gn 45 rfl rfl rfl ?_
              refine o_gn 45 rfl rfl rfl ?_
              refine o_gn 45 rfl rfl rfl ?_
              refine o_y (y_pick rfl rfl) ?_
              refine o_y (y_move rfl) ?_
              refine o_gn 52 rfl rfl rfl ?_
              refine o_gn 52 rfl rfl rfl ?_
              refine o_gn 52 rfl rfl rfl ?_
              refine o_gn 52 rfl rfl rfl ?_
              refine o_gn 52 rfl rfl rfl ?_
              refine o_y (y_pick rfl rfl) ?_
              refine o_y (y_move rfl) ?_
              refine o_gn 59 rfl rfl rfl ?_
              refine o_gn 59 rfl rfl rfl ?_
              refine o_gn 59 rfl rfl rfl ?_
              refine o_gn 59 rfl rfl rfl ?_
              refine o_gn 59 rfl rfl rfl ?_
              refine o_y (y_pick rfl rfl) ?_
              refine o_y (y_move rfl) ?_
              refine o_gn 66 rfl rfl rfl ?_
              refine o_gn 66 rfl rfl rfl ?_
              refine o_gn 66 rfl rfl rfl ?_
              refine o_gn 66 rfl rfl rfl ?_
              refine o_gn 66 rfl rfl rfl ?_
              refine o_y (y_pick rfl rfl) ?_
              refine o_y (y_move rfl) ?_
              refine o_gn 73 rfl rfl rfl ?_
              refine o_gn 73 rfl rfl rfl ?_
              refine o_gn 73 rfl rfl rfl ?_
              refine o_gn 73 rfl rfl rfl ?_
              refine o_gn 73 rfl rfl rfl ?_
              refine o_y (y_pick rfl rfl) ?_
              refine o_y (y_move rfl) ?_
              refine o_gn 80 rfl rfl rfl ?_
              refine o_gn 80 rfl rfl rfl ?_
              refine o_gn 80 rfl rfl rfl ?_
              refine o_gn 80 rfl rfl rfl ?_
              refine o_gn 80 rfl rfl rfl ?_
              refine o_y (y_pick rfl rfl) ?_
              refine o_y (y_move rfl) ?_
              refine o_gn 87 rfl rfl rfl ?_
              refine o_gn 87 rfl rfl rfl ?_
              refine o_gn 87 rfl rfl rfl ?_
              refine o_gn 87 rfl rfl rfl ?_
              refine o_gn 87 rfl rfl rfl ?_
              refine o_y (y_pick rfl rfl) ?_
              refine o_y (y_move rfl) ?_
              refine o_gn 94 rfl rfl rfl ?_
              refine o_gn 94 rfl rfl rfl ?_
              refine o_gn 94 rfl rfl rfl ?_
              refine o_gn 94 rfl rfl rfl ?_
              refine o_gn 94 rfl rfl rfl ?_
              refine o_y (y_pick rfl rfl) ?_
              refine o_y (y_move rfl) ?_
              refine o_gn 101 rfl rfl rfl ?_
              refine o_gn 101 rfl rfl rfl ?_
              refine o_gn 101 rfl rfl rfl ?_
              refine o_gn 101 rfl rfl rfl ?_
              refine o_gn 101 rfl rfl rfl ?_
              refine o_y (y_pick rfl rfl) ?_
              refine o_y (y_assign rfl) ?_
              refine o_nil ?_
              refine x_ret ?_
              refine x_fin 2 (ret1 rfl rfl) ?_
              refine ⟨?_, rfl, rfl⟩
              first
                | (have hne : ¬ x = y := fun e => by
                     subst e
                     first | exact absurd rfl hg1_10 | exact absurd rfl hg1_17 | exact absurd rfl hg1_24 | exact absurd rfl hg1_31 | exact absurd rfl hg1_38 | (simp at hg1_45; done) | exact absurd rfl hg1_52 | exact absurd rfl hg1_59 | exact absurd rfl hg1_66 | exact absurd rfl hg1_73 | exact absurd rfl hg1_80 | exact absurd rfl hg1_87 | exact absurd rfl hg1_94 | exact absurd rfl hg1_101
                   rw [decide_eq_false hne]; done)
                | (congr 2; apply propext; constructor
                   · intro e
                     obtain ⟨⟨_⟩⟩ : Nonempty Unit := ⟨()⟩
                     cases x with | mk a0 a1 a2 a3 a4 a5 a6 a7 a8 a9 a10 a11 t a13 a14 => cases t; cases y with | mk b0 b1 b2 b3 b4 b5 b6 b7 b8 b9 b10 b11 s b13 b14 => cases s; simp_all
                   · intro e; rw [e])
          · try simp only [k1, k2, k3, k4, k5, k6, k7, k8, k9] at hg1_38
            refine o_gn 38 rfl rfl rfl ?_
            refine o_gn 38 rfl rfl rfl ?_
            refine o_gn 38 rfl rfl rfl ?_
            refine o_gn 38 rfl rfl rfl ?_
            refine o_gn 38 rfl rfl rfl ?_
            refine o_y (y_pick rfl rfl) ?_
            refine o_y (y_move rfl) ?_
            refine o_gn 45 rfl rfl rfl ?_
            refine o_gn 45 rfl rfl rfl ?_
            refine o_gn 45 rfl rfl rfl ?_
            refine o_gn 45 rfl rfl rfl ?_
            refine o_gn 45 rfl rfl rfl ?_
            refine o_y (y_pick rfl rfl) ?_
            refine o_y (y_move rfl) ?_
            refine o_gn 52 rfl rfl rfl ?_
            refine o_gn 52 rfl rfl rfl ?_
            refine o_gn 52 rfl rfl rfl ?_
            refine o_gn 52 rfl rfl rfl ?_
            refine o_gn 52 rfl rfl rfl ?_
            refine o_y (y_pick rfl rfl) ?_
            refine o_y (y_move rfl) ?_
            refine o_gn 59 rfl rfl rfl ?_
            refine o_gn 59 rfl rfl rfl ?_
            refine o_gn 59 rfl rfl rfl ?_
            refine o_gn 59 rfl rfl rfl ?_
            refine o_gn 59 rfl rfl rfl ?_
            refine o_y (y_pick rfl rfl) ?_
            refine o_y (y_move rfl) ?_
            refine o_gn 66 rfl rfl rfl ?_
            refine o_gn 66 rfl rfl rfl ?_
            refine o_gn 66 rfl rfl rfl ?_
            refine o_gn 66 rfl rfl rfl ?_
            refine o_gn 66 rfl rfl rfl ?_
            refine o_y (y_pick rfl rfl) ?_
            refine o_y (y_move rfl) ?_
            refine o_gn 73 rfl rfl rfl ?_
            refine o_gn 73 rfl rfl rfl ?_
            refine o_gn 73 rfl rfl rfl ?_
            refine o_gn 73 rfl rfl rfl ?_
            refine o_gn 73 rfl rfl rfl ?_
            refine o_y (y_pick rfl rfl) ?_
            refine o_y (y_move rfl) ?_
            refine o_gn 80 rfl rfl rfl ?_
            refine o_gn 80 rfl rfl rfl ?_
            refine o_gn 80 rfl rfl rfl ?_
            refine o_gn 80 rfl rfl rfl ?_
            refine o_gn 80 rfl rfl rfl ?_
            refine o_y (y_pick rfl rfl) ?_
            refine o_y (y_move rfl) ?_
            refine o_gn 87 rfl rfl rfl ?_
            refine o_gn 87 rfl rfl rfl ?_
            refine o_gn 87 rfl rfl rfl ?_
            refine o_gn 87 rfl rfl rfl ?_
            refine o_gn 87 rfl rfl rfl ?_
            refine o_y (y_pick rfl rfl) ?_
            refine o_y (y_move rfl) ?_
            refine o_gn 94 rfl rfl rfl ?_
            refine o_gn 94 rfl rfl rfl ?_
            refine o_gn 94 rfl rfl rfl ?_
            refine o_gn 94 rfl rfl rfl ?_
            refine o_gn 94 rfl rfl rfl ?_
            refine o_y (y_pick rfl rfl) ?_
            refine o_y (y_move rfl) ?_
            refine o_gn 101 rfl rfl rfl ?_
            refine o_gn 101 rfl rfl rfl ?_
            refine o_gn 101 rfl rfl rfl ?_
            refine o_gn 101 rfl rfl rfl ?_
            refine o_gn 101 rfl rfl rfl ?_
            refine o_y (y_pick rfl rfl) ?_
            refine o_y (y_assign rfl) ?_
            refine o_nil ?_
            refine x_ret ?_
            refine x_fin 2 (ret1 rfl rfl) ?_
            refine ⟨?_, rfl, rfl⟩
            first
              | (have hne : ¬ x = y := fun e => by
                   subst e
                   first | exact absurd rfl hg1_10 | exact absurd rfl hg1_17 | exact absurd rfl hg1_24 | exact absurd rfl hg1_31 | exact absurd rfl hg1_38 | (simp at hg1_45; done) | exact absurd rfl hg1_52 | exact absurd rfl hg1_59 | exact absurd rfl hg1_66 | exact absurd rfl hg1_73 | exact absurd rfl hg1_80 | exact absurd rfl hg1_87 | exact absurd rfl hg1_94 | exact absurd rfl hg1_101
                 rw [decide_eq_false hne]; done)
              | (congr 2; apply propext; constructor
                 · intro e
                   obtain ⟨⟨_⟩⟩ : Nonempty Unit := ⟨()⟩
                   cases x with | mk a0 a1 a2 a3 a4 a5 a6 a7 a8 a9 a10 a11 t a13 a14 => cases t; cases y with | mk b0 b1 b2 b3 b4 b5 b6 b7 b8 b9 b10 b11 s b13 b14 => cases s; simp_all
                 · intro e; rw [e])
        · try simp only [k1, k2, k3, k4, k5, k6, k7, k8, k9] at hg1_31
          refine o_gn 31 rfl rfl rfl ?_
          refine o_gn 31 rfl rfl rfl ?_
          refine o_gn 31 rfl rfl rfl ?_
          refine o_gn 31 rfl rfl rfl ?_
          refine o_gn 31 rfl rfl rfl ?_
          refine o_y (y_pick rfl rfl) ?_
          refine o_y (y_move rfl) ?_
          refine o_gn 38 rfl rfl rfl ?_
          refine o_gn 38 rfl rfl rfl ?_
          refine o_gn 38 rfl rfl rfl ?_
          refine o_gn 38 rfl rfl rfl ?_
          refine o_gn 38 rfl rfl rfl ?_
          refine o_y (y_pick rfl rfl) ?_
          refine o_y (y_move rfl) ?_
          refine o_gn 45 rfl rfl rfl ?_
          refine o_gn 45 rfl rfl rfl ?_
          refine o_gn 45 rfl rfl rfl ?_
          refine o_gn 45 rfl rfl rfl ?_
          refine o_gn 45 rfl rfl rfl ?_
          refine o_y (y_pick rfl rfl) ?_
          refine o_y (y_move rfl) ?_
          refine o_gn 52 rfl rfl rfl ?_
          refine o_gn 52 rfl rfl rfl ?_
          refine o_gn 52 rfl rfl rfl ?_
          refine o_gn 52 rfl rfl rfl ?_
          refine o_gn 52 rfl rfl rfl ?_
          refine o_y (y_pick rfl rfl) ?_
          refine o_y (y_move rfl) ?_
          refine o_gn 59 rfl rfl rfl ?_
          refine o_gn 59 rfl rfl rfl ?_
          refine o_gn 59 rfl rfl rfl ?_
          refine o_gn 59 rfl rfl rfl ?_
          refine o_gn 59 rfl rfl rfl ?_
          refine o_y (y_pick rfl rfl) ?_
          refine o_y (y_move rfl) ?_
          refine o_gn 66 rfl rfl rfl ?_
          refine o_gn 66 rfl rfl rfl ?_
          refine o_gn 66 rfl rfl rfl ?_
          refine o_gn 66 rfl rfl rfl ?_
          refine o_gn 66 rfl rfl rfl ?_
          refine o_y (y_pick rfl rfl) ?_
          refine o_y (y_move rfl) ?_
          refine o_gn 73 rfl rfl rfl ?_
          refine o_gn 73 rfl rfl rfl ?_
          refine o_gn 73 rfl rfl rfl ?_
          refine o_gn 73 rfl rfl rfl ?_
          refine o_gn 73 rfl rfl rfl ?_
          refine o_y (y_pick rfl rfl) ?_
          refine o_y (y_move rfl) ?_
          refine o_gn 80 rfl rfl rfl ?_
          refine o_gn 80 rfl rfl rfl ?_
          refine o_gn 80 rfl rfl rfl ?_
          refine o_gn 80 rfl rfl rfl ?_
          refine o_gn 80 rfl rfl rfl ?_
          refine o_y (y_pick rfl rfl) ?_
          refine o_y (y_move rfl) ?_
          refine o_gn 87 rfl rfl rfl ?_
          refine o_gn 87 rfl rfl rfl ?_
          refine o_gn 87 rfl rfl rfl ?_
          refine o_gn 87 rfl rfl rfl ?_
          refine o_gn 87 rfl rfl rfl ?_
          refine o_y (y_pick rfl rfl) ?_
          refine o_y (y_move rfl) ?_
          refine o_gn 94 rfl rfl rfl ?_
          refine o_gn 94 rfl rfl rfl ?_
          refine o_gn 94 rfl rfl rfl ?_
          refine o_gn 94 rfl rfl rfl ?_
          refine o_gn 94 rfl rfl rfl ?_
          refine o_y (y_pick rfl rfl) ?_
          refine o_y (y_move rfl) ?_
          refine o_gn 101 rfl rfl rfl ?_
          refine o_gn 101 rfl rfl rfl ?_
          refine o_gn 101 rfl rfl rfl ?_
          refine o_gn 101 rfl rfl rfl ?_
          refine o_gn 101 rfl rfl rfl ?_
          refine o_y (y_pick rfl rfl) ?_
          refine o_y (y_assign rfl) ?_
          refine o_nil ?_
          refine x_ret ?_
          refine x_fin 2 (ret1 rfl rfl) ?_
          refine ⟨?_, rfl, rfl⟩
          first
            | (have hne : ¬ x = y := fun e => by
                 subst e
                 first | exact absurd rfl hg1_10 | exact absurd rfl hg1_17 | exact absurd rfl hg1_24 | exact absurd rfl hg1_31 | exact absurd rfl hg1_38 | (simp at hg1_45; done) | exact absurd rfl hg1_52 | exact absurd rfl hg1_59 | exact absurd rfl hg1_66 | exact absurd rfl hg1_73 | exact absurd rfl hg1_80 | exact absurd rfl hg1_87 | exact absurd rfl hg1_94 | exact absurd rfl hg1_101
               rw [decide_eq_false hne]; done)
            | (congr 2; apply propext; constructor
               · intro e
                 obtain ⟨⟨_⟩⟩ : Nonempty Unit := ⟨()⟩
                 cases x with | mk a0 a1 a2 a3 a4 a5 a6 a7 a8 a9 a10 a11 t a13 a14 => cases t; cases y with | mk b0 b1 b2 b3 b4 b5 b6 b7 b8 b9 b10 b11 s b13 b14 => cases s; simp_all
               · intro e; rw [e])
      · try simp only [k1, k2, k3, k4, k5, k6, k7, k8, k9] at hg1_24
        refine o_gn 24 rfl rfl rfl ?_
        refine o_gn 24 rfl rfl rfl ?_
        refine o_gn 24 rfl rfl rfl ?_
        refine o_gn 24 rfl rfl rfl ?_
        refine o_gn 24 rfl rfl rfl ?_
        refine o_y (y_pick rfl rfl) ?_
        refine o_y (y_move rfl) ?_
        refine o_gn 31 rfl rfl rfl ?_
        refine o_gn 31 rfl rfl rfl ?_
        refine o_gn 31 rfl rfl rfl ?_
        refine o_gn 31 rfl rfl rfl ?_
        refine o_gn 31 rfl rfl rfl ?_
        refine o_y (y_pick rfl rfl) ?_
        refine o_y (y_move rfl) ?_
        refine o_gn 38 rfl rfl rfl ?_
        refine o_gn 38 rfl rfl rfl ?_
        refine o_gn 38 rfl rfl rfl ?_
        refine o_gn 38 rfl rfl rfl ?_
        refine o_gn 38 rfl rfl rfl ?_
        refine o_y (y_pick rfl rfl) ?_
        refine o_y (y_move rfl) ?_
        refine o_gn 45 rfl rfl rfl ?_
        refine o_gn 45 rfl rfl rfl ?_
        refine o_gn 45 rfl rfl rfl ?_
        refine o_gn 45 rfl rfl rfl ?_
        refine o_gn 45 rfl rfl rfl ?_
        refine o_y (y_pick rfl rfl) ?_
        refine o_y (y_move rfl) ?_
        refine o_gn 52 rfl rfl rfl ?_
        refine o_gn 52 rfl rfl rfl ?_
        refine o_gn 52 rfl rfl rfl ?_
        refine o_gn 52 rfl rfl rfl ?_
        refine o_gn 52 rfl rfl rfl ?_
        refine o_y (y_pick rfl rfl) ?_
        refine o_y (y_move rfl) ?_
        refine o_gn 59 rfl rfl rfl ?_
        refine o_gn 59 rfl rfl rfl ?_
        refine o_gn 59 rfl rfl rfl ?_
        refine o_gn 59 rfl rfl rfl ?_
        refine o_gn 59 rfl rfl rfl ?_
        refine o_y (y_pick rfl rfl) ?_
        refine o_y (y_move rfl) ?_
        refine o_gn 66 rfl rfl rfl ?_
        refine o_gn 66 rfl rfl rfl ?_
        refine o_gn 66 rfl rfl rfl ?_
        refine o_gn 66 rfl rfl rfl ?_
        refine o_gn 66 rfl rfl rfl ?_
        refine o_y (y_pick rfl rfl) ?_
        refine o_y (y_move rfl) ?_
        refine o_gn 73 rfl rfl rfl ?_
        refine o_gn 73 rfl rfl rfl ?_
        refine o_gn 73 rfl rfl rfl ?_
        refine o_gn 73 rfl rfl rfl ?_
        refine o_gn 73 rfl rfl rfl ?_
        refine o_y (y_pick rfl rfl) ?_
        refine o_y (y_move rfl) ?_
        refine o_gn 80 rfl rfl rfl ?_
        refine o_gn 80 rfl rfl rfl ?_
        refine o_gn 80 rfl rfl rfl ?_
        refine o_gn 80 rfl rfl rfl ?_
        refine o_gn 80 rfl rfl rfl ?_
        refine o_y (y_pick rfl rfl) ?_
        refine o_y (y_move rfl) ?_
        refine o_gn 87 rfl rfl rfl ?_
        refine o_gn 87 rfl rfl rfl ?_
        refine o_gn 87 rfl rfl rfl ?_
        refine o_gn 87 rfl rfl rfl ?_
        refine o_gn 87 rfl rfl rfl ?_
        refine o_y (y_pick rfl rfl) ?_
        refine o_y (y_move rfl) ?_
        refine o_gn 94 rfl rfl rfl ?_
        refine o_gn 94 rfl rfl rfl ?_
        refine o_gn 94 rfl rfl rfl ?_
        refine o_gn 94 rfl rfl rfl ?_
        refine o_gn 94 rfl rfl rfl ?_
        refine o_y (y_pick rfl rfl) ?_
        refine o_y (y_move rfl) ?_
        refine o_gn 101 rfl rfl rfl ?_
        refine o_gn 101 rfl rfl rfl ?_
        refine o_gn 101 rfl rfl rfl ?_
        refine o_gn 101 rfl rfl rfl ?_
        refine o_gn 101 rfl rfl rfl ?_
        refine o_y (y_pick rfl rfl) ?_
        refine o_y (y_assign rfl) ?_
        refine o_nil ?_
        refine x_ret ?_
        refine x_fin 2 (ret1 rfl rfl) ?_
        refine ⟨?_, rfl, rfl⟩
        first
          | (have hne : ¬ x = y := fun e => by
               subst e
               first | exact absurd rfl hg1_10 | exact absurd rfl hg1_17 | exact absurd rfl hg1_24 | exact absurd rfl hg1_31 | exact absurd rfl hg1_38 | (simp at hg1_45; done) | exact absurd rfl hg1_52 | exact absurd rfl hg1_59 | exact absurd rfl hg1_66 | exact absurd rfl hg1_73 | exact absurd rfl hg1_80 | exact absurd rfl hg1_87 | exact absurd rfl hg1_94 | exact absurd rfl hg1_101
             rw [decide_eq_false hne]; done)
          | (congr 2; apply propext; constructor
             · intro e
               obtain ⟨⟨_⟩⟩ : Nonempty Unit := ⟨()⟩
               cases x with | mk a0 a1 a2 a3 a4 a5 a6 a7 a8 a9 a10 a11 t a13 a14 => cases t; cases y with | mk b0 b1 b2 b3 b4 b5 b6 b7 b8 b9 b10 b11 s b13 b14 => cases s; simp_all
             · intro e; rw [e])
    · try simp only [k1, k2, k3, k4, k5, k6, k7, k8, k9] at hg1_17
      refine o_gn 17 rfl rfl rfl ?_
      refine o_gn 17 rfl rfl rfl ?_
      refine o_gn 17 rfl rfl rfl ?_
      refine o_gn 17 rfl rfl rfl ?_
      refine o_gn 17 rfl rfl rfl ?_
      refine o_y (y_pick rfl rfl) ?_
      refine o_y (y_move rfl) ?_
      refine o_gn 24 rfl rfl rfl ?_
      refine o_gn 24 rfl rfl rfl ?_
      refine o_gn 24 rfl rfl rfl ?_
      refine o_gn 24 rfl rfl rfl ?_
      refine o_gn 24 rfl rfl rfl ?_
      refine o_y (y_pick rfl rfl) ?_
      refine o_y (y_move rfl) ?_
      refine o_gn 31 rfl rfl rfl ?_
      refine o_gn 31 rfl rfl rfl ?_
      refine o_gn 31 rfl rfl rfl ?_
      refine o_gn 31 rfl rfl rfl ?_
      refine o_gn 31 rfl rfl rfl ?_
      refine o_y (y_pick rfl rfl) ?_
      refine o_y (y_move rfl) ?_
      refine o_gn 38 rfl rfl rfl ?_
      refine o_gn 38 rfl rfl rfl ?_
      refine o_gn 38 rfl rfl rfl ?_
      refine o_gn 38 rfl rfl rfl ?_
      refine o_gn 38 rfl rfl rfl ?_
      refine o_y (y_pick rfl rfl) ?_
      refine o_y (y_move rfl) ?_
      refine o_gn 45 rfl rfl rfl ?_
      refine o_gn 45 rfl rfl rfl ?_
      refine o_gn 45 rfl rfl rfl ?_
      refine o_gn 45 rfl rfl rfl ?_
      refine o_gn 45 rfl rfl rfl ?_
      refine o_y (y_pick rfl rfl) ?_
      refine o_y (y_move rfl) ?_
      refine o_gn 52 rfl rfl rfl ?_
      refine o_gn 52 rfl rfl rfl ?_
      refine o_gn 52 rfl rfl rfl ?_
      refine o_gn 52 rfl rfl rfl ?_
      refine o_gn 52 rfl rfl rfl ?_
      refine o_y (y_pick rfl rfl) ?_
      refine o_y (y_move rfl) ?_
      refine o_gn 59 rfl rfl rfl ?_
      refine o_gn 59 rfl rfl rfl ?_
      refine o_gn 59 rfl rfl rfl ?_
      refine o_gn 59 rfl rfl rfl ?_
      refine o_gn 59 rfl rfl rfl ?_
      refine o_y (y_pick rfl rfl) ?_
      refine o_y (y_move rfl) ?_
      refine o_gn 66 rfl rfl rfl ?_
      refine o_gn 66 rfl rfl rfl ?_
      refine o_gn 66 rfl rfl rfl ?_
      refine o_gn 66 rfl rfl rfl ?_
      refine o_gn 66 rfl rfl rfl ?_
      refine o_y (y_pick rfl rfl) ?_
      refine o_y (y_move rfl) ?_
      refine o_gn 73 rfl rfl rfl ?_
      refine o_gn 73 rfl rfl rfl ?_
      refine o_gn 73 rfl rfl rfl ?_
      refine o_gn 73 rfl rfl rfl ?_
      refine o_gn 73 rfl rfl rfl ?_
      refine o_y (y_pick rfl rfl) ?_
      refine o_y (y_move rfl) ?_
      refine o_gn 80 rfl rfl rfl ?_
      refine o_gn 80 rfl rfl rfl ?_
      refine o_gn 80 rfl rfl rfl ?_
      refine o_gn 80 rfl rfl rfl ?_
      refine o_gn 80 rfl rfl rfl ?_
      refine o_y (y_pick rfl rfl) ?_
      refine o_y (y_move rfl) ?_
      refine o_gn 87 rfl rfl rfl ?_
      refine o_gn 87 rfl rfl rfl ?_
      refine o_gn 87 rfl rfl rfl ?_
      refine o_gn 87 rfl rfl rfl ?_
      refine o_gn 87 rfl rfl rfl ?_
      refine o_y (y_pick rfl rfl) ?_
      refine o_y (y_move rfl) ?_
      refine o_gn 94 rfl rfl rfl ?_
      refine o_gn 94 rfl rfl rfl ?_
      refine o_gn 94 rfl rfl rfl ?_
      refine o_gn 94 rfl rfl rfl ?_
      refine o_gn 94 rfl rfl rfl ?_
      refine o_y (y_pick rfl rfl) ?_
      refine o_y (y_move rfl) ?_
      refine o_gn 101 rfl rfl rfl ?_
      refine o_gn 101 rfl rfl rfl ?_
      refine o_gn 101 rfl rfl rfl ?_
      refine o_gn 101 rfl rfl rfl ?_
      refine o_gn 101 rfl rfl rfl ?_
      refine o_y (y_pick rfl rfl) ?_
      refine o_y (y_assign rfl) ?_
      refine o_nil ?_
      refine x_ret ?_
      refine x_fin 2 (ret1 rfl rfl) ?_
      refine ⟨?_, rfl, rfl⟩
      first
        | (have hne : ¬ x = y := fun e => by
             subst e
             first | exact absurd rfl hg1_10 | exact absurd rfl hg1_17 | exact absurd rfl hg1_24 | exact absurd rfl hg1_31 | exact absurd rfl hg1_38 | (simp at hg1_45; done) | exact absurd rfl hg1_52 | exact absurd rfl hg1_59 | exact absurd rfl hg1_66 | exact absurd rfl hg1_73 | exact absurd rfl hg1_80 | exact absurd rfl hg1_87 | exact absurd rfl hg1_94 | exact absurd rfl hg1_101
           rw [decide_eq_false hne]; done)
        | (congr 2; apply propext; constructor
           · intro e
             obtain ⟨⟨_⟩⟩ : Nonempty Unit := ⟨()⟩
             cases x with | mk a0 a1 a2 a3 a4 a5 a6 a7 a8 a9 a10 a11 t a13 a14 => cases t; cases y with | mk b0 b1 b2 b3 b4 b5 b6 b7 b8 b9 b10 b11 s b13 b14 => cases s; simp_all
           · intro e; rw [e])
  · try simp only [k1, k2, k3, k4, k5, k6, k7, k8, k9] at hg1_10
    refine o_gn 10 rfl rfl rfl ?_
    refine o_gn 10 rfl rfl rfl ?_
    refine o_gn 10 rfl rfl rfl ?_
    refine o_gn 10 rfl rfl rfl ?_
    refine o_gn 10 rfl rfl rfl ?_
    refine o_y (y_pick rfl rfl) ?_
    refine o_y (y_move rfl) ?_
    refine o_gn 17 rfl rfl rfl ?_
    refine o_gn 17 rfl rfl rfl ?_
    refine o_gn 17 rfl rfl rfl ?_
    refine o_gn 17 rfl rfl rfl ?_
    refine o_gn 17 rfl rfl rfl ?_
    refine o_y (y_pick rfl rfl) ?_
    refine o_y (y_move rfl) ?_
    refine o_gn 24 rfl rfl rfl ?_
    refine o_gn 24 rfl rfl rfl ?_
    refine o_gn 24 rfl rfl rfl ?_
    refine o_gn 24 rfl rfl rfl ?_
    refine o_gn 24 rfl rfl rfl ?_
    refine o_y (y_pick rfl rfl) ?_
    refine o_y (y_move rfl) ?_
    refine o_gn 31 rfl rfl rfl ?_
    refine o_gn 31 rfl rfl rfl ?_
    refine o_gn 31 rfl rfl rfl ?_
    refine o_gn 31 rfl rfl rfl ?_
    refine o_gn 31 rfl rfl rfl ?_
    refine o_y (y_pick rfl rfl) ?_
    refine o_y (y_move rfl) ?_
    refine o_gn 38 rfl rfl rfl ?_
    refine o_gn 38 rfl rfl rfl ?_
    refine o_gn 38 rfl rfl rfl ?_
    refine o_gn 38 rfl rfl rfl ?_
    refine o_gn 38 rfl rfl rfl ?_
    refine o_y (y_pick rfl rfl) ?_
    refine o_y (y_move rfl) ?_
    refine o_gn 45 rfl rfl rfl ?_
    refine o_gn 45 rfl rfl rfl ?_
    refine o_gn 45 rfl rfl rfl ?_
    refine o_gn 45 rfl rfl rfl ?_
    refine o_gn 45 rfl rfl rfl ?_
    refine o_y (y_pick rfl rfl) ?_
    refine o_y (y_move rfl) ?_
    refine o_gn 52 rfl rfl rfl ?_
    refine o_gn 52 rfl rfl rfl ?_
    refine o_gn 52 rfl rfl rfl ?_
    refine o_gn 52 rfl rfl rfl ?_
    refine o_gn 52 rfl rfl rfl ?_
    refine o_y (y_pick rfl rfl) ?_
    refine o_y (y_move rfl) ?_
    refine o_gn 59 rfl rfl rfl ?_
    refine o_gn 59 rfl rfl rfl ?_
    refine o_gn 59 rfl rfl rfl ?_
    refine o_gn 59 rfl rfl rfl ?_
    refine o_gn 59 rfl rfl rfl ?_
    refine o_y (y_pick rfl rfl) ?_
    refine o_y (y_move rfl) ?_
    refine o_gn 66 rfl rfl rfl ?_
    refine o_gn 66 rfl rfl rfl ?_
    refine o_gn 66 rfl rfl rfl ?_
    refine o_gn 66 rfl rfl rfl ?_
    refine o_gn 66 rfl rfl rfl ?_
    refine o_y (y_pick rfl rfl) ?_
    refine o_y (y_move rfl) ?_
    refine o_gn 73 rfl rfl rfl ?_
    refine o_gn 73 rfl rfl rfl ?_
    refine o_gn 73 rfl rfl rfl ?_
    refine o_gn 73 rfl rfl rfl ?_
    refine o_gn 73 rfl rfl rfl ?_
    refine o_y (y_pick rfl rfl) ?_
    refine o_y (y_move rfl) ?_
    refine o_gn 80 rfl rfl rfl ?_
    refine o_gn 80 rfl rfl rfl ?_
    refine o_gn 80 rfl rfl rfl ?_
    refine o_gn 80 rfl rfl rfl ?_
    refine o_gn 80 rfl rfl rfl ?_
    refine o_y (y_pick rfl rfl) ?_
    refine o_y (y_move rfl) ?_
    refine o_gn 87 rfl rfl rfl ?_
    refine o_gn 87 rfl rfl rfl ?_
    refine o_gn 87 rfl rfl rfl ?_
    refine o_gn 87 rfl rfl rfl ?_
    refine o_gn 87 rfl rfl rfl ?_
    refine o_y (y_pick rfl rfl) ?_
    refine o_y (y_move rfl) ?_
    refine o_gn 94 rfl rfl rfl ?_
    refine o_gn 94 rfl rfl rfl ?_
    refine o_gn 94 rfl rfl rfl ?_
    refine o_gn 94 rfl rfl rfl ?_
    refine o_gn 94 rfl rfl rfl ?_
    refine o_y (y_pick rfl rfl) ?_
    refine o_y (y_move rfl) ?_
    refine o_gn 101 rfl rfl rfl ?_
    refine o_gn 101 rfl rfl rfl ?_
    refine o_gn 101 rfl rfl rfl ?_
    refine o_gn 101 rfl rfl rfl ?_
    refine o_gn 101 rfl rfl rfl ?_
    refine o_y (y_pick rfl rfl) ?_
    refine o_y (y_assign rfl) ?_
    refine o_nil ?_
    refine x_ret ?_
    refine x_fin 2 (ret1 rfl rfl) ?_
    refine ⟨?_, rfl, rfl⟩
    first
      | (have hne : ¬ x = y := fun e => by
           subst e
           first | exact absurd rfl hg1_10 | exact absurd rfl hg1_17 | exact absurd rfl hg1_24 | exact absurd rfl hg1_31 | exact absurd rfl hg1_38 | (simp at hg1_45; done) | exact absurd rfl hg1_52 | exact absurd rfl hg1_59 | exact absurd rfl hg1_66 | exact absurd rfl hg1_73 | exact absurd rfl hg1_80 | exact absurd rfl hg1_87 | exact absurd rfl hg1_94 | exact absurd rfl hg1_101
         rw [decide_eq_false hne]; done)
      | (congr 2; apply propext; constructor
         · intro e
           obtain ⟨⟨_⟩⟩ : Nonempty Unit := ⟨()⟩
           cases x with | mk a0 a1 a2 a3 a4 a5 a6 a7 a8 a9 a10 a11 t a13 a14 => cases t; cases y with | mk b0 b1 b2 b3 b4 b5 b6 b7 b8 b9 b10 b11 s b13 b14 => cases s; simp_all
         · intro e; rw [e])
end Go.Ph
