/- The ledger's check; a group's commits; how many; one of them. -/
import Derived.Test.YtmgnagpgnoikfaaDoorLedger1
set_option linter.unusedVariables false
set_option linter.unusedSimpArgs false
set_option maxRecDepth 100000
namespace Go.Ph
open Go Go.RowKit Go.Proofs.YtmgnagpgnoikfaaDoor

def comAt (x : Log) (j : Nat) : Commit := x.commits.getD j default
def comOk (x : Log) (j : Nat) : Bool := decide ((comAt x j).group = x.group) && (decide ((comAt x j).epoch = j) && takeB (comAt x j))
def comsOk (x : Log) : Bool := (List.range x.commits.length).all (comOk x)
def logAt (xs : List Log) (i : Nat) : Log := xs.getD i default
def logOk (xs : List Log) (i : Nat) : Bool := decide (0 < (logAt xs i).commits.length) && ((decide (i = 0) || decide (grpAt xs (i - 1) < grpAt xs i)) && comsOk (logAt xs i))
def lcheckB (xs : List Log) : Bool := decide (xs.length ≤ 16) && (List.range xs.length).all (logOk xs)
theorem comAt_eq {x : Log} {j : Nat} (h : j < x.commits.length) : comAt x j = x.commits[j] := by simp [comAt, List.getD_eq_getElem?_getD, h]
theorem logAt_eq {xs : List Log} {j : Nat} (h : j < xs.length) : logAt xs j = xs[j] := by simp [logAt, List.getD_eq_getElem?_getD, h]
theorem comOk_spec {x : Log} {j : Nat} (h : j < x.commits.length) : comOk x j = (decide (x.commits[j].group = x.group) && (decide (x.commits[j].epoch = j) && takeB x.commits[j])) := by rw [comOk, comAt_eq h]
theorem comsOk_no {x : Log} {j : Nat} (hj : j < x.commits.length) (h : comOk x j = false) : comsOk x = false := by
  rw [comsOk, List.all_eq_false]; exact ⟨j, List.mem_range.2 hj, by simp [h]⟩
theorem comsOk_yes {x : Log} (h : ∀ j, j < x.commits.length → comOk x j = true) : comsOk x = true := by
  rw [comsOk, List.all_eq_true]; exact fun j hj => h j (List.mem_range.1 hj)
theorem lcheckB_no {xs : List Log} {k : Nat} (hk : k < xs.length) (h : logOk xs k = false) : lcheckB xs = false := by
  have : (List.range xs.length).all (logOk xs) = false := by rw [List.all_eq_false]; exact ⟨k, List.mem_range.2 hk, by simp [h]⟩
  rw [lcheckB, this, Bool.and_false]
theorem lcheckB_yes {xs : List Log} (h : xs.length ≤ 16) (h2 : ∀ j, j < xs.length → logOk xs j = true) : lcheckB xs = true := by
  have : (List.range xs.length).all (logOk xs) = true := by rw [List.all_eq_true]; exact fun j hj => h2 j (List.mem_range.1 hj)
  rw [lcheckB, this, decide_eq_true h]; rfl
theorem lcheck_ok {B : World} {H : HM} {O : OL} {v : Value} {xs : List Log} (hT : TabAt H) (h : RdL H v xs) : CallsM Go.Proofs.Tryd.prog 14 [v].toArray B H O (Same (.int .i64 (errI (lcheckB xs))) H O) := by
  have hs := h.lenle
  refine enter Go.Proofs.Tryd.func14 rfl Go.Proofs.Tryd.ntmps14 (l := [(0, _)]) rfl rfl ?_
  refine x_seq ?_
  refine x_region rfl ?_
  refine o_y (y_assign rfl) ?_
  refine o_nil ?_
  refine x_seq ?_
  refine x_seq ?_
  refine x_region rfl ?_
  refine o_y (y_move rfl) ?_
  first | refine o_y (y_lenL (by assumption) Go.Proofs.Tryd.underlying22 rfl) ?_ | refine o_y (y_lenR (by assumption) Go.Proofs.Tryd.underlying22 rfl) ?_ | refine o_y (y_len Go.Proofs.Tryd.underlying22 rfl) ?_
  refine o_y (y_gtr rfl rfl) ?_
  refine o_nil ?_
  refine x_cond rfl (fun hc0 => ?_) (fun hc0 => ?_)
  · try simp only [k1, k2, k3, k4, k5, k6, k7, k8, k9] at hc0
    refine x_seq ?_
    refine x_region rfl ?_
    refine o_y (y_assign rfl) ?_
    refine o_nil ?_
    refine x_ret ?_
    refine x_fin 0 (ret1 rfl rfl) ?_
    rw [lcheckB, decide_eq_false (by omega)]; exact ⟨rfl, rfl, rfl⟩
  · try simp only [k1, k2, k3, k4, k5, k6, k7, k8, k9] at hc0
    refine x_skip ?_
    refine x_seq ?_
    refine x_seq ?_
    refine x_region rfl ?_
    refine o_y (y_move rfl) ?_
    first | refine o_y (y_lenL (by assumption) Go.Proofs.Tryd.underlying22 rfl) ?_ | refine o_y (y_lenR (by assumption) Go.Proofs.Tryd.underlying22 rfl) ?_ | refine o_y (y_len Go.Proofs.Tryd.underlying22 rfl) ?_
    refine o_y (y_move rfl) ?_
    refine o_nil ?_
    refine x_block ?_
    refine x_loopf (σ := Nat) (fun s => [(12, .int .i64 (s : Int)), (11, .int .i64 (xs.length : Int)), (10, v), (0, v)]) (fun s => O) (fun s => s ≤ xs.length ∧ ∀ j, j < s → logOk xs j = true) (fun s => xs.length - s) 0 ⟨by simp, fun j hj => by omega⟩ (.c rfl (.c rfl (.c rfl (.c rfl .n)))) rfl ?_
    rintro k ⟨i1, i2⟩
    refine x_seq ?_
    refine x_region rfl ?_
    refine o_y (y_lss rfl rfl) ?_
    refine o_nil ?_
    refine x_seq ?_
    refine x_cond rfl (fun hc1 => ?_) (fun hc1 => ?_)
    · try simp only [k1, k2, k3, k4, k5, k6, k7, k8, k9] at hc1
      have hk : k < xs.length := by omega
      have el := logAt_eq hk
      have eg := grpAt_eq hk
      refine x_skip ?_
      refine x_seq ?_
      refine x_block ?_
      refine x_seq ?_
      refine x_region rfl ?_
      refine o_y (y_move rfl) ?_
      obtain ⟨ce15, ae15, re15⟩ := RdL.at h _ k hk
      have se15 := AtS.isSl ae15
      have te15 := re15
      obtain ⟨u15_1, z15, q15_0, q15_1⟩ := re15
      subst z15
      have w15 := Rep.one te15
      refine o_y (y_idxL h k hk Go.Proofs.Tryd.underlying22 ti48 rfl rfl (by omega)) ?_
      refine o_y (y_loadS ti48 rfl (by assumption) rfl (fun e => by cases e)) ?_
      refine o_alloc ti48 rfl (fun b4 => ?_)
      refine o_y (y_assign rfl) ?_
      refine o_store (u := [_, _]) (C' := [_, _]) ti48 rfl rfl rfl rfl (by first | rfl | assumption | (simp only [ones, List.all_cons, List.all_nil, Bool.and_true, one_of (by assumption)]; done)) (by repeat (first | exact .z | apply Upd.s | apply Upd.a)) (by exact Nat.le_of_ble_eq_true rfl) (by rfl) ?_
      refine o_nil ?_
      refine x_seq ?_
      refine x_seq ?_
      refine x_regionQ mixed (by kernel_rfl) rfl ?_
      refine q_y (y_fieldAddr fd48_1 ti46 (by decide) rfl) ?_
      refine q_y (y_loadO ti46 rfl (by repeat (first | assumption | exact .z | apply In.s | apply In.a)) rfl) ?_
      first | refine q_y (y_lenL (by assumption) Go.Proofs.Tryd.underlying46 rfl) ?_ | refine q_y (y_lenR (by assumption) Go.Proofs.Tryd.underlying46 rfl) ?_ | refine q_y (y_len Go.Proofs.Tryd.underlying46 rfl) ?_
      refine q_y (y_eql rfl rfl) ?_
      refine q_y (y_move rfl) ?_
      refine q_split 21 rfl (fun hg6_21 => ?_) (fun hg6_21 => ?_)
      · try simp only [k1, k2, k3, k4, k5, k6, k7, k8, k9] at hg6_21
        refine q_gn 21 rfl rfl rfl ?_
        refine q_gn 21 rfl rfl rfl ?_
        refine q_gn 21 rfl rfl rfl ?_
        refine q_gu 24 rfl rfl ?_
        refine q_gu 24 rfl rfl ?_
        refine q_gu 24 rfl rfl ?_
        refine q_gu 24 rfl rfl ?_
        refine q_gu 24 rfl rfl ?_
        refine q_gu 24 rfl rfl ?_
        refine q_gu 24 rfl rfl ?_
        refine q_gu 24 rfl rfl ?_
        refine q_gu 24 rfl rfl ?_
        refine q_gn 21 rfl rfl rfl ?_
        refine q_y (y_pick rfl rfl) ?_
        refine q_nil ?_
        refine x_condT rfl ?_
        refine x_seq ?_
        refine x_region rfl ?_
        refine o_y (y_assign rfl) ?_
        refine o_nil ?_
        refine x_ret ?_
        refine x_fin 1 (ret1 rfl rfl) ?_
        have hb : logOk xs k = false := by
          unfold logOk
          rw [el]
          first
            | (rw [decide_eq_false (show ¬ 0 < xs[k].commits.length by omega)]; rfl)
            | (have e9 : ¬ grpAt xs (k - 1) < grpAt xs k := by rw [grpAt_eq hk, grpAt_eq (show k - 1 < xs.length by omega)]; omega
               rw [decide_eq_false (show ¬ k = 0 by omega), decide_eq_false e9]; cases decide (0 < xs[k].commits.length) <;> rfl)
        rw [lcheckB_no hk hb]; exact ⟨rfl, rfl, rfl⟩
      · try simp only [k1, k2, k3, k4, k5, k6, k7, k8, k9] at hg6_21
        refine q_gy 21 rfl rfl (y_move rfl) ?_
        refine q_gy 21 rfl rfl (y_gtr rfl rfl) ?_
        refine q_gy 21 rfl rfl (y_move rfl) ?_
        refine q_split 24 rfl (fun hg6_24 => ?_) (fun hg6_24 => ?_)
        · try simp only [k1, k2, k3, k4, k5, k6, k7, k8, k9] at hg6_24
          refine q_gy 24 rfl rfl (y_fieldAddr fd48_0 ti3 (by decide) rfl) ?_
          refine q_gy 24 rfl rfl (y_loadO ti3 rfl (by repeat (first | assumption | exact .z | apply In.s | apply In.a)) rfl) ?_
          refine q_gy 24 rfl rfl (y_move rfl) ?_
          refine q_gy 24 rfl rfl (y_move rfl) ?_
          refine q_gy 24 rfl rfl (y_subN rfl rfl (by omega) (by omega)) ?_
          obtain ⟨ce30, ae30, re30⟩ := RdL.at h _ (k - 1) (by omega)
          have se30 := AtS.isSl ae30
          have te30 := re30
          obtain ⟨u30_1, z30, q30_0, q30_1⟩ := re30
          subst z30
          have w30 := Rep.one te30
          refine q_gy 24 rfl rfl (y_idxL h (k - 1) (by omega) Go.Proofs.Tryd.underlying22 ti48 rfl rfl (by omega)) ?_
          refine q_gy 24 rfl rfl (y_fieldAddrP fd48_0 ti3 (by decide) (by assumption) rfl) ?_
          refine q_gy 24 rfl rfl (y_loadS1 ti3 rfl (by assumption) rfl) ?_
          refine q_gy 24 rfl rfl (y_leq rfl rfl) ?_
          refine q_gy 21 rfl rfl (y_pick rfl rfl) ?_
          refine q_y (y_pick rfl rfl) ?_
          refine q_nil ?_
          refine x_cond rfl (fun hc2 => ?_) (fun hc2 => ?_)
          · try simp only [k1, k2, k3, k4, k5, k6, k7, k8, k9] at hc2
            refine x_seq ?_
            refine x_region rfl ?_
            refine o_y (y_assign rfl) ?_
            refine o_nil ?_
            refine x_ret ?_
            refine x_fin 1 (ret1 rfl rfl) ?_
            have hb : logOk xs k = false := by
              unfold logOk
              rw [el]
              first
                | (rw [decide_eq_false (show ¬ 0 < xs[k].commits.length by omega)]; rfl)
                | (have e9 : ¬ grpAt xs (k - 1) < grpAt xs k := by rw [grpAt_eq hk, grpAt_eq (show k - 1 < xs.length by omega)]; omega
                   rw [decide_eq_false (show ¬ k = 0 by omega), decide_eq_false e9]; cases decide (0 < xs[k].commits.length) <;> rfl)
            rw [lcheckB_no hk hb]; exact ⟨rfl, rfl, rfl⟩
          · try simp only [k1, k2, k3, k4, k5, k6, k7, k8, k9] at hc2
            refine x_skip ?_
            refine x_seq ?_
            refine x_region rfl ?_
            refine o_y (y_fieldAddr fd48_1 ti46 (by decide) rfl) ?_
            refine o_y (y_loadO ti46 rfl (by repeat (first | assumption | exact .z | apply In.s | apply In.a)) rfl) ?_
            first | refine o_y (y_lenL (by assumption) Go.Proofs.Tryd.underlying46 rfl) ?_ | refine o_y (y_lenR (by assumption) Go.Proofs.Tryd.underlying46 rfl) ?_ | refine o_y (y_len Go.Proofs.Tryd.underlying46 rfl) ?_
            refine o_y (y_move rfl) ?_
            refine o_nil ?_
            refine x_block ?_
            refine x_loopf (σ := Nat) (fun s => [(39, .int .i64 (s : Int)), (38, .int .i64 (xs[k].commits.length : Int)), (37, u15_1), (12, .int .i64 (k : Int)), (11, .int .i64 (xs.length : Int)), (10, v), (0, v), (4, .pointer (some ⟨b4, 0, none⟩))]) (fun s => _) (fun s => s ≤ xs[k].commits.length ∧ ∀ j, j < s → comOk xs[k] j = true) (fun s => xs[k].commits.length - s) 0 ⟨by simp, fun j hj => by omega⟩ (.c rfl (.c rfl (.c rfl (.c rfl (.c rfl (.c rfl (.c rfl (.c rfl .n)))))))) rfl ?_
            rintro m ⟨i3, i4⟩
            refine x_seq ?_
            refine x_region rfl ?_
            refine o_y (y_lss rfl rfl) ?_
            refine o_nil ?_
            refine x_seq ?_
            refine x_cond rfl (fun hc3 => ?_) (fun hc3 => ?_)
            · try simp only [k1, k2, k3, k4, k5, k6, k7, k8, k9] at hc3
              have hml := q15_1.lenle
              have hm : m < xs[k].commits.length := by omega
              have em := comOk_spec hm
              refine x_skip ?_
              refine x_seq ?_
              refine x_block ?_
              refine x_seq ?_
              refine x_region rfl ?_
              refine o_y (y_move rfl) ?_
              obtain ⟨ce42, ae42, re42⟩ := RdL.at q15_1 _ m hm
              have se42 := AtS.isSl ae42
              have te42 := re42
              obtain ⟨u42_6, u42_7, u42_8, u42_9, u42_12, z42, q42_0, q42_1, q42_2, q42_3, q42_4, q42_5, q42_6, q42_7, q42_8, q42_9, q42_10, q42_11, q42_12, q42_13⟩ := re42
              subst z42
              have w42 := Rep.one te42
              refine o_y (y_idxL q15_1 m hm Go.Proofs.Tryd.underlying46 ti31 rfl rfl (by omega)) ?_
              refine o_y (y_loadS ti31 rfl (by assumption) rfl (fun e => by cases e)) ?_
              refine o_alloc ti31 rfl (fun b6 => ?_)
              refine o_y (y_assign rfl) ?_
              refine o_store (u := [_, _, _, _, _, _, _, _, _, _, _, _, _, _, _]) (C' := [_, _, _, _, _, _, _, _, _, _, _, _, _, _, _]) ti31 rfl rfl rfl rfl (by first | rfl | assumption | (simp only [ones, List.all_cons, List.all_nil, Bool.and_true, one_of (by assumption)]; done)) (by repeat (first | exact .z | apply Upd.s | apply Upd.a)) (by exact Nat.le_of_ble_eq_true rfl) (by rfl) ?_
              refine o_nil ?_
              refine x_seq ?_
              refine x_region rfl ?_
              refine o_y (y_fieldAddr fd31_0 ti3 (by decide) rfl) ?_
              refine o_y (y_loadO ti3 rfl (by repeat (first | assumption | exact .z | apply In.s | apply In.a)) rfl) ?_
              refine o_y (y_fieldAddr fd48_0 ti3 (by decide) rfl) ?_
              refine o_y (y_loadO ti3 rfl (by repeat (first | assumption | exact .z | apply In.s | apply In.a)) rfl) ?_
              refine o_y (y_neq rfl rfl) ?_
              refine o_y (y_move rfl) ?_
              refine o_split 49 rfl (fun hg11_49 => ?_) (fun hg11_49 => ?_)
              · try simp only [k1, k2, k3, k4, k5, k6, k7, k8, k9] at hg11_49
                refine o_gn 49 rfl rfl rfl ?_
                refine o_gn 49 rfl rfl rfl ?_
                refine o_gn 49 rfl rfl rfl ?_
                refine o_gn 49 rfl rfl rfl ?_
                refine o_y (y_pick rfl rfl) ?_
                refine o_y (y_move rfl) ?_
                refine o_gn 55 rfl rfl rfl ?_
                refine o_gn 55 rfl rfl rfl ?_
                refine o_gn 55 rfl rfl rfl ?_
                refine o_y (y_pick rfl rfl) ?_
                refine o_nil ?_
                refine x_condT rfl ?_
                refine x_seq ?_
                refine x_region rfl ?_
                refine o_y (y_assign rfl) ?_
                refine o_nil ?_
                refine x_ret ?_
                refine x_fin 2 (ret1 rfl rfl) ?_
                have hb : comOk xs[k] m = false := by
                  rw [em]
                  first
                    | (rw [decide_eq_false (show ¬ xs[k].commits[m].group = xs[k].group by omega)]; rfl)
                    | (rw [decide_eq_false (show ¬ xs[k].commits[m].epoch = m by omega)]; simp; done)
                    | (rw [show takeB xs[k].commits[m] = false by assumption]; simp)
                have hb2 : logOk xs k = false := by
                  unfold logOk
                  rw [el, comsOk_no hm hb]; simp
                rw [lcheckB_no hk hb2]; exact ⟨rfl, rfl, rfl⟩
              · try simp only [k1, k2, k3, k4, k5, k6, k7, k8, k9] at hg11_49
                refine o_gy 49 rfl rfl (y_fieldAddr fd31_1 ti3 (by decide) rfl) ?_
                refine o_gy 49 rfl rfl (y_loadO ti3 rfl (by repeat (first | assumption | exact .z | apply In.s | apply In.a)) rfl) ?_
                refine o_gy 49 rfl rfl (y_move rfl) ?_
                refine o_gy 49 rfl rfl (y_neq rfl rfl) ?_
                refine o_y (y_pick rfl rfl) ?_
                refine o_y (y_move rfl) ?_
                refine o_split 55 rfl (fun hg11_55 => ?_) (fun hg11_55 => ?_)
                · try simp only [k1, k2, k3, k4, k5, k6, k7, k8, k9] at hg11_55
                  refine o_gn 55 rfl rfl rfl ?_
                  refine o_gn 55 rfl rfl rfl ?_
                  refine o_gn 55 rfl rfl rfl ?_
                  refine o_y (y_pick rfl rfl) ?_
                  refine o_nil ?_
                  refine x_condT rfl ?_
                  refine x_seq ?_
                  refine x_region rfl ?_
                  refine o_y (y_assign rfl) ?_
                  refine o_nil ?_
                  refine x_ret ?_
                  refine x_fin 2 (ret1 rfl rfl) ?_
                  have hb : comOk xs[k] m = false := by
                    rw [em]
                    first
                      | (rw [decide_eq_false (show ¬ xs[k].commits[m].group = xs[k].group by omega)]; rfl)
                      | (rw [decide_eq_false (show ¬ xs[k].commits[m].epoch = m by omega)]; simp; done)
                      | (rw [show takeB xs[k].commits[m] = false by assumption]; simp)
                  have hb2 : logOk xs k = false := by
                    unfold logOk
                    rw [el, comsOk_no hm hb]; simp
                  rw [lcheckB_no hk hb2]; exact ⟨rfl, rfl, rfl⟩
                · try simp only [k1, k2, k3, k4, k5, k6, k7, k8, k9] at hg11_55
                  refine o_gy 55 rfl rfl (y_loadA ti31 rfl (by repeat (first | assumption | exact .z | apply In.s | apply In.a)) rfl) ?_
                  refine o_gcall 55 rfl rfl fn22 rfl (takeable_ok hT te42) ?_
                  rintro _ _ _ ⟨rfl, rfl, rfl⟩
                  refine o_gy 55 rfl rfl (y_not rfl) ?_
                  refine o_y (y_pick rfl rfl) ?_
                  refine o_nil ?_
                  refine x_cond rfl (fun hc4 => ?_) (fun hc4 => ?_)
                  · try simp only [k1, k2, k3, k4, k5, k6, k7, k8, k9] at hc4
                    refine x_seq ?_
                    refine x_region rfl ?_
                    refine o_y (y_assign rfl) ?_
                    refine o_nil ?_
                    refine x_ret ?_
                    refine x_fin 2 (ret1 rfl rfl) ?_
                    have hb : comOk xs[k] m = false := by
                      rw [em]
                      first
                        | (rw [decide_eq_false (show ¬ xs[k].commits[m].group = xs[k].group by omega)]; rfl)
                        | (rw [decide_eq_false (show ¬ xs[k].commits[m].epoch = m by omega)]; simp; done)
                        | (rw [show takeB xs[k].commits[m] = false by assumption]; simp)
                    have hb2 : logOk xs k = false := by
                      unfold logOk
                      rw [el, comsOk_no hm hb]; simp
                    rw [lcheckB_no hk hb2]; exact ⟨rfl, rfl, rfl⟩
                  · try simp only [k1, k2, k3, k4, k5, k6, k7, k8, k9] at hc4
                    refine x_skip ?_
                    refine x_region rfl ?_
                    refine o_y (y_addN rfl rfl (by omega) (by omega)) ?_
                    refine o_y (y_move rfl) ?_
                    refine o_nil ?_
                    have hb : comOk xs[k] m = true := by
                      rw [em, decide_eq_true (show xs[k].commits[m].group = xs[k].group by omega), decide_eq_true (show xs[k].commits[m].epoch = m by omega), show takeB xs[k].commits[m] = true by assumption]; rfl
                    exact ⟨m + 1, 1, rfl, (.c rfl (.c rfl (.c rfl (.c rfl (.c rfl (.c rfl (.c rfl (.c rfl .n)))))))), rfl, ⟨by omega, upto_succ i4 hb⟩, by omega⟩
            · try simp only [k1, k2, k3, k4, k5, k6, k7, k8, k9] at hc3
              refine x_exit ?_
              refine x_region rfl ?_
              refine o_y (y_addN rfl rfl (by omega) (by omega)) ?_
              refine o_y (y_move rfl) ?_
              refine o_nil ?_
              have hb : logOk xs k = true := by
                unfold logOk
                rw [el, comsOk_yes (fun j hj => i4 j (by omega)), decide_eq_true (show 0 < xs[k].commits.length by omega)]
                first
                  | (rw [decide_eq_true (show k = 0 by omega)]; rfl)
                  | (have e9 : grpAt xs (k - 1) < grpAt xs k := by rw [grpAt_eq hk, grpAt_eq (show k - 1 < xs.length by omega)]; omega
                     rw [decide_eq_true e9]; cases decide (k = 0) <;> rfl)
              exact ⟨k + 1, 1, rfl, (.c rfl (.c rfl (.c rfl (.c rfl .n)))), rfl, ⟨by omega, upto_succ i2 hb⟩, by omega⟩
        · try simp only [k1, k2, k3, k4, k5, k6, k7, k8, k9] at hg6_24
          refine q_gn 24 rfl rfl rfl ?_
          refine q_gn 24 rfl rfl rfl ?_
          refine q_gn 24 rfl rfl rfl ?_
          refine q_gn 24 rfl rfl rfl ?_
          refine q_gn 24 rfl rfl rfl ?_
          refine q_gn 24 rfl rfl rfl ?_
          refine q_gn 24 rfl rfl rfl ?_
          refine q_gn 24 rfl rfl rfl ?_
          refine q_gn 24 rfl rfl rfl ?_
          refine q_gy 21 rfl rfl (y_pick rfl rfl) ?_
          refine q_y (y_pick rfl rfl) ?_
          refine q_nil ?_
          refine x_condF rfl ?_
          refine x_skip ?_
          refine x_seq ?_
          refine x_region rfl ?_
          refine o_y (y_fieldAddr fd48_1 ti46 (by decide) rfl) ?_
          refine o_y (y_loadO ti46 rfl (by repeat (first | assumption | exact .z | apply In.s | apply In.a)) rfl) ?_
          first | refine o_y (y_lenL (by assumption) Go.Proofs.Tryd.underlying46 rfl) ?_ | refine o_y (y_lenR (by assumption) Go.Proofs.Tryd.underlying46 rfl) ?_ | refine o_y (y_len Go.Proofs.Tryd.underlying46 rfl) ?_
          refine o_y (y_move rfl) ?_
          refine o_nil ?_
          refine x_block ?_
          refine x_loopf (σ := Nat) (fun s => [(39, .int .i64 (s : Int)), (38, .int .i64 (xs[k].commits.length : Int)), (37, u15_1), (12, .int .i64 (k : Int)), (11, .int .i64 (xs.length : Int)), (10, v), (0, v), (4, .pointer (some ⟨b4, 0, none⟩))]) (fun s => _) (fun s => s ≤ xs[k].commits.length ∧ ∀ j, j < s → comOk xs[k] j = true) (fun s => xs[k].commits.length - s) 0 ⟨by simp, fun j hj => by omega⟩ (.c rfl (.c rfl (.c rfl (.c rfl (.c rfl (.c rfl (.c rfl (.c rfl .n)))))))) rfl ?_
          rintro m ⟨i3, i4⟩
          refine x_seq ?_
          refine x_region rfl ?_
          refine o_y (y_lss rfl rfl) ?_
          refine o_nil ?_
          refine x_seq ?_
          refine x_cond rfl (fun hc3 => ?_) (fun hc3 => ?_)
          · try simp only [k1, k2, k3, k4, k5, k6, k7, k8, k9] at hc3
            have hml := q15_1.lenle
            have hm : m < xs[k].commits.length := by omega
            have em := comOk_spec hm
            refine x_skip ?_
            refine x_seq ?_
            refine x_block ?_
            refine x_seq ?_
            refine x_region rfl ?_
            refine o_y (y_move rfl) ?_
            obtain ⟨ce42, ae42, re42⟩ := RdL.at q15_1 _ m hm
            have se42 := AtS.isSl ae42
            have te42 := re42
            obtain ⟨u42_6, u42_7, u42_8, u42_9, u42_12, z42, q42_0, q42_1, q42_2, q42_3, q42_4, q42_5, q42_6, q42_7, q42_8, q42_9, q42_10, q42_11, q42_12, q42_13⟩ := re42
            subst z42
            have w42 := Rep.one te42
            refine o_y (y_idxL q15_1 m hm Go.Proofs.Tryd.underlying46 ti31 rfl rfl (by omega)) ?_
            refine o_y (y_loadS ti31 rfl (by assumption) rfl (fun e => by cases e)) ?_
            refine o_alloc ti31 rfl (fun b6 => ?_)
            refine o_y (y_assign rfl) ?_
            refine o_store (u := [_, _, _, _, _, _, _, _, _, _, _, _, _, _, _]) (C' := [_, _, _, _, _, _, _, _, _, _, _, _, _, _, _]) ti31 rfl rfl rfl rfl (by first | rfl | assumption | (simp only [ones, List.all_cons, List.all_nil, Bool.and_true, one_of (by assumption)]; done)) (by repeat (first | exact .z | apply Upd.s | apply Upd.a)) (by exact Nat.le_of_ble_eq_true rfl) (by rfl) ?_
            refine o_nil ?_
            refine x_seq ?_
            refine x_region rfl ?_
            refine o_y (y_fieldAddr fd31_0 ti3 (by decide) rfl) ?_
            refine o_y (y_loadO ti3 rfl (by repeat (first | assumption | exact .z | apply In.s | apply In.a)) rfl) ?_
            refine o_y (y_fieldAddr fd48_0 ti3 (by decide) rfl) ?_
            refine o_y (y_loadO ti3 rfl (by repeat (first | assumption | exact .z | apply In.s | apply In.a)) rfl) ?_
            refine o_y (y_neq rfl rfl) ?_
            refine o_y (y_move rfl) ?_
            refine o_split 49 rfl (fun hg11_49 => ?_) (fun hg11_49 => ?_)
            · try simp only [k1, k2, k3, k4, k5, k6, k7, k8, k9] at hg11_49
              refine o_gn 49 rfl rfl rfl ?_
              refine o_gn 49 rfl rfl rfl ?_
              refine o_gn 49 rfl rfl rfl ?_
              refine o_gn 49 rfl rfl rfl ?_
              refine o_y (y_pick rfl rfl) ?_
              refine o_y (y_move rfl) ?_
              refine o_gn 55 rfl rfl rfl ?_
              refine o_gn 55 rfl rfl rfl ?_
              refine o_gn 55 rfl rfl rfl ?_
              refine o_y (y_pick rfl rfl) ?_
              refine o_nil ?_
              refine x_condT rfl ?_
              refine x_seq ?_
              refine x_region rfl ?_
              refine o_y (y_assign rfl) ?_
              refine o_nil ?_
              refine x_ret ?_
              refine x_fin 2 (ret1 rfl rfl) ?_
              have hb : comOk xs[k] m = false := by
                rw [em]
                first
                  | (rw [decide_eq_false (show ¬ xs[k].commits[m].group = xs[k].group by omega)]; rfl)
                  | (rw [decide_eq_false (show ¬ xs[k].commits[m].epoch = m by omega)]; simp; done)
                  | (rw [show takeB xs[k].commits[m] = false by assumption]; simp)
              have hb2 : logOk xs k = false := by
                unfold logOk
                rw [el, comsOk_no hm hb]; simp
              rw [lcheckB_no hk hb2]; exact ⟨rfl, rfl, rfl⟩
            · try simp only [k1, k2, k3, k4, k5, k6, k7, k8, k9] at hg11_49
              refine o_gy 49 rfl rfl (y_fieldAddr fd31_1 ti3 (by decide) rfl) ?_
              refine o_gy 49 rfl rfl (y_loadO ti3 rfl (by repeat (first | assumption | exact .z | apply In.s | apply In.a)) rfl) ?_
              refine o_gy 49 rfl rfl (y_move rfl) ?_
              refine o_gy 49 rfl rfl (y_neq rfl rfl) ?_
              refine o_y (y_pick rfl rfl) ?_
              refine o_y (y_move rfl) ?_
              refine o_split 55 rfl (fun hg11_55 => ?_) (fun hg11_55 => ?_)
              · try simp only [k1, k2, k3, k4, k5, k6, k7, k8, k9] at hg11_55
                refine o_gn 55 rfl rfl rfl ?_
                refine o_gn 55 rfl rfl rfl ?_
                refine o_gn 55 rfl rfl rfl ?_
                refine o_y (y_pick rfl rfl) ?_
                refine o_nil ?_
                refine x_condT rfl ?_
                refine x_seq ?_
                refine x_region rfl ?_
                refine o_y (y_assign rfl) ?_
                refine o_nil ?_
                refine x_ret ?_
                refine x_fin 2 (ret1 rfl rfl) ?_
                have hb : comOk xs[k] m = false := by
                  rw [em]
                  first
                    | (rw [decide_eq_false (show ¬ xs[k].commits[m].group = xs[k].group by omega)]; rfl)
                    | (rw [decide_eq_false (show ¬ xs[k].commits[m].epoch = m by omega)]; simp; done)
                    | (rw [show takeB xs[k].commits[m] = false by assumption]; simp)
                have hb2 : logOk xs k = false := by
                  unfold logOk
                  rw [el, comsOk_no hm hb]; simp
                rw [lcheckB_no hk hb2]; exact ⟨rfl, rfl, rfl⟩
              · try simp only [k1, k2, k3, k4, k5, k6, k7, k8, k9] at hg11_55
                refine o_gy 55 rfl rfl (y_loadA ti31 rfl (by repeat (first | assumption | exact .z | apply In.s | apply In.a)) rfl) ?_
                refine o_gcall 55 rfl rfl fn22 rfl (takeable_ok hT te42) ?_
                rintro _ _ _ ⟨rfl, rfl, rfl⟩
                refine o_gy 55 rfl rfl (y_not rfl) ?_
                refine o_y (y_pick rfl rfl) ?_
                refine o_nil ?_
                refine x_cond rfl (fun hc4 => ?_) (fun hc4 => ?_)
                · try simp only [k1, k2, k3, k4, k5, k6, k7, k8, k9] at hc4
                  refine x_seq ?_
                  refine x_region rfl ?_
                  refine o_y (y_assign rfl) ?_
                  refine o_nil ?_
                  refine x_ret ?_
                  refine x_fin 2 (ret1 rfl rfl) ?_
                  have hb : comOk xs[k] m = false := by
                    rw [em]
                    first
                      | (rw [decide_eq_false (show ¬ xs[k].commits[m].group = xs[k].group by omega)]; rfl)
                      | (rw [decide_eq_false (show ¬ xs[k].commits[m].epoch = m by omega)]; simp; done)
                      | (rw [show takeB xs[k].commits[m] = false by assumption]; simp)
                  have hb2 : logOk xs k = false := by
                    unfold logOk
                    rw [el, comsOk_no hm hb]; simp
                  rw [lcheckB_no hk hb2]; exact ⟨rfl, rfl, rfl⟩
                · try simp only [k1, k2, k3, k4, k5, k6, k7, k8, k9] at hc4
                  refine x_skip ?_
                  refine x_region rfl ?_
                  refine o_y (y_addN rfl rfl (by omega) (by omega)) ?_
                  refine o_y (y_move rfl) ?_
                  refine o_nil ?_
                  have hb : comOk xs[k] m = true := by
                    rw [em, decide_eq_true (show xs[k].commits[m].group = xs[k].group by omega), decide_eq_true (show xs[k].commits[m].epoch = m by omega), show takeB xs[k].commits[m] = true by assumption]; rfl
                  exact ⟨m + 1, 1, rfl, (.c rfl (.c rfl (.c rfl (.c rfl (.c rfl (.c rfl (.c rfl (.c rfl .n)))))))), rfl, ⟨by omega, upto_succ i4 hb⟩, by omega⟩
          · try simp only [k1, k2, k3, k4, k5, k6, k7, k8, k9] at hc3
            refine x_exit ?_
            refine x_region rfl ?_
            refine o_y (y_addN rfl rfl (by omega) (by omega)) ?_
            refine o_y (y_move rfl) ?_
            refine o_nil ?_
            have hb : logOk xs k = true := by
              unfold logOk
              rw [el, comsOk_yes (fun j hj => i4 j (by omega)), decide_eq_true (show 0 < xs[k].commits.length by omega)]
              first
                | (rw [decide_eq_true (show k = 0 by omega)]; rfl)
                | (have e9 : grpAt xs (k - 1) < grpAt xs k := by rw [grpAt_eq hk, grpAt_eq (show k - 1 < xs.length by omega)]; omega
                   rw [decide_eq_true e9]; cases decide (k = 0) <;> rfl)
            exact ⟨k + 1, 1, rfl, (.c rfl (.c rfl (.c rfl (.c rfl .n)))), rfl, ⟨by omega, upto_succ i2 hb⟩, by omega⟩
    · try simp only [k1, k2, k3, k4, k5, k6, k7, k8, k9] at hc1
      refine x_exit ?_
      refine x_seq ?_
      refine x_region rfl ?_
      refine o_y (y_assign rfl) ?_
      refine o_nil ?_
      refine x_ret ?_
      refine x_fin 0 (ret1 rfl rfl) ?_
      rw [lcheckB_yes (by omega) (fun j hj => i2 j (by omega))]; exact ⟨rfl, rfl, rfl⟩
end Go.Ph
