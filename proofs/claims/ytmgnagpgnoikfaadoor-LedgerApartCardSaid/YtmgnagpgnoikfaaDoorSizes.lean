/- The laws' guard: sizes, summed up to a limit. -/
import Derived.Test.YtmgnagpgnoikfaaDoorTreeA
set_option linter.unusedVariables false
set_option linter.unusedSimpArgs false
set_option maxRecDepth 100000
namespace Go.Ph
open Go Go.RowKit Go.Proofs.YtmgnagpgnoikfaaDoor

def capSum (lim : Nat) : List Nat → Nat → Nat
  | [], n => n
  | x :: xs, n => if n ≤ lim then capSum lim xs (n + x) else n
theorem capSum_over {lim n : Nat} (h : ¬ n ≤ lim) : ∀ ls, capSum lim ls n = n
  | [] => rfl
  | x :: xs => by rw [capSum, if_neg h]
theorem capSum_ge {lim : Nat} : ∀ (ls : List Nat) (n : Nat), n ≤ capSum lim ls n
  | [], n => Nat.le_refl _
  | x :: xs, n => by
    rw [capSum]; split
    · exact Nat.le_trans (Nat.le_add_right _ _) (capSum_ge xs _)
    · exact Nat.le_refl _
theorem capSum_le {lim M : Nat} : ∀ (ls : List Nat) (n : Nat), (∀ x ∈ ls, x ≤ M) → n ≤ lim + M → capSum lim ls n ≤ lim + M
  | [], n, _, h => h
  | x :: xs, n, hx, h => by
    rw [capSum]; split
    · exact capSum_le xs _ (fun y hy => hx y (List.mem_cons_of_mem _ hy)) (by have := hx x List.mem_cons_self; omega)
    · exact h
theorem capSum_eq {lim : Nat} : ∀ (ls : List Nat) (n : Nat), capSum lim ls n ≤ lim → capSum lim ls n = n + ls.sum
  | [], n, _ => by simp [capSum]
  | x :: xs, n, h => by
    rw [capSum] at h ⊢; split at h
    · rename_i hn; rw [if_pos hn, capSum_eq xs _ h, List.sum_cons]; omega
    · exact absurd h (by assumption)
theorem capSum_step {lim n i : Nat} {ls : List Nat} (h : i < ls.length) (hn : n ≤ lim) : capSum lim (ls.drop i) n = capSum lim (ls.drop (i + 1)) (n + ls[i]) := by
  rw [List.drop_eq_getElem_cons h, capSum, if_pos hn]
theorem capSum_end {lim n i : Nat} {ls : List Nat} (h : ls.length ≤ i ∨ ¬ n ≤ lim) : capSum lim (ls.drop i) n = n := by
  rcases h with h | h
  · rw [List.drop_eq_nil_of_le h]; rfl
  · exact capSum_over h _

def treeSize (t : Tree) : Nat := capSum 262144 (t.nodes.map fun n => n.unmerged.length) t.nodes.length
theorem treeSize_ok {B : World} {H : HM} {O : OL} {v : Value} {xs : List Node} (h : RdL H v xs) : CallsM Go.Proofs.Tryd.prog 19 [.agg #[v]].toArray B H O (Same (.int .i64 (treeSize ⟨xs⟩)) H O) := by
  have hs := h.lenle
  refine enter Go.Proofs.Tryd.func19 rfl Go.Proofs.Tryd.ntmps19 (l := [(0, _)]) rfl rfl ?_
  refine x_seq ?_
  refine x_region rfl ?_
  refine o_box rfl (cs := [_]) rfl (fun b1 => ?_)
  refine o_y (y_assign rfl) ?_
  refine o_nil ?_
  refine x_seq ?_
  refine x_region rfl ?_
  refine o_y (y_fieldAddr fd29_0 ti27 (by decide) rfl) ?_
  refine o_y (y_loadO ti27 rfl (by repeat (first | assumption | exact .z | apply In.s | apply In.a)) rfl) ?_
  first | refine o_y (y_lenL (by assumption) Go.Proofs.Tryd.underlying27 rfl) ?_ | refine o_y (y_lenR (by assumption) Go.Proofs.Tryd.underlying27 rfl) ?_ | refine o_y (y_len Go.Proofs.Tryd.underlying27 rfl) ?_
  refine o_y (y_assign rfl) ?_
  refine o_nil ?_
  refine x_seq ?_
  refine x_seq ?_
  refine x_region rfl ?_
  refine o_y (y_assign rfl) ?_
  refine o_nil ?_
  refine x_block ?_
  refine x_loopf (σ := Nat × Nat) (fun s => [(4, .int .i64 (s.1 : Int)), (3, .int .i64 (s.2 : Int)), (1, .pointer (some ⟨b1, 0, none⟩))]) (fun s => (b1, cl [v] 29) :: O) (fun s => s.1 ≤ xs.length ∧ s.2 ≤ 140737488355328 + 262144 ∧ capSum 262144 ((xs.map fun n => n.unmerged.length).drop s.1) s.2 = treeSize ⟨xs⟩) (fun s => xs.length - s.1) (0, xs.length) ⟨by simp, by omega, rfl⟩ (.c rfl (.c rfl (.c rfl .n))) rfl ?_
  rintro ⟨k, n⟩ ⟨i1, i2, i3⟩
  simp only at i1 i2 i3
  refine x_seq ?_
  refine x_seq ?_
  refine x_region rfl ?_
  refine o_y (y_move rfl) ?_
  refine o_y (y_fieldAddr fd29_0 ti27 (by decide) rfl) ?_
  refine o_y (y_loadO ti27 rfl (by repeat (first | assumption | exact .z | apply In.s | apply In.a)) rfl) ?_
  first | refine o_y (y_lenL (by assumption) Go.Proofs.Tryd.underlying27 rfl) ?_ | refine o_y (y_lenR (by assumption) Go.Proofs.Tryd.underlying27 rfl) ?_ | refine o_y (y_len Go.Proofs.Tryd.underlying27 rfl) ?_
  refine o_y (y_lss rfl rfl) ?_
  refine o_y (y_move rfl) ?_
  refine o_split 13 rfl (fun hg3_13 => ?_) (fun hg3_13 => ?_)
  · try simp only [k1, k2, k3, k4, k5, k6, k7, k8, k9] at hg3_13
    refine o_gy 13 rfl rfl (y_move rfl) ?_
    refine o_gy 13 rfl rfl (y_leq rfl rfl) ?_
    refine o_y (y_pick rfl rfl) ?_
    refine o_nil ?_
    refine x_cond rfl (fun hc0 => ?_) (fun hc0 => ?_)
    · try simp only [k1, k2, k3, k4, k5, k6, k7, k8, k9] at hc0
      have hk : k < xs.length := by omega
      have hn : n ≤ 262144 := by omega
      refine x_skip ?_
      refine x_seq ?_
      refine x_block ?_
      refine x_region rfl ?_
      refine o_y (y_move rfl) ?_
      refine o_y (y_fieldAddr fd29_0 ti27 (by decide) rfl) ?_
      refine o_y (y_loadO ti27 rfl (by repeat (first | assumption | exact .z | apply In.s | apply In.a)) rfl) ?_
      refine o_y (y_move rfl) ?_
      obtain ⟨ce23, ae23, re23⟩ := RdL.at h _ k hk
      have se23 := AtS.isSl ae23
      have te23 := re23
      obtain ⟨u23_3, z23, q23_0, q23_1, q23_2, q23_3⟩ := re23
      subst z23
      have w23 := Rep.one te23
      refine o_y (y_idxL h k hk Go.Proofs.Tryd.underlying27 ti72 rfl rfl (by omega)) ?_
      have hu := q23_3.lenle
      rw [capSum_step (by simpa using hk) hn] at i3
      simp only [List.getElem_map] at i3
      refine o_y (y_fieldAddrP fd72_3 ti24 (by decide) (by assumption) rfl) ?_
      refine o_y (y_loadS1 ti24 rfl (by assumption) rfl) ?_
      first | refine o_y (y_lenL (by assumption) Go.Proofs.Tryd.underlying24 rfl) ?_ | refine o_y (y_lenR (by assumption) Go.Proofs.Tryd.underlying24 rfl) ?_ | refine o_y (y_len Go.Proofs.Tryd.underlying24 rfl) ?_
      refine o_y (y_addN rfl rfl (by omega) (by omega)) ?_
      refine o_y (y_assign rfl) ?_
      refine o_nil ?_
      refine x_region rfl ?_
      refine o_y (y_move rfl) ?_
      refine o_y (y_addN rfl rfl (by omega) (by omega)) ?_
      refine o_y (y_assign rfl) ?_
      refine o_nil ?_
      exact ⟨(k + 1, n + xs[k].unmerged.length), 0, rfl, (.c rfl (.c rfl (.c rfl .n))), rfl, ⟨by omega, by omega, i3⟩, by simp only; omega⟩
    · try simp only [k1, k2, k3, k4, k5, k6, k7, k8, k9] at hc0
      refine x_exit ?_
      refine x_seq ?_
      refine x_region rfl ?_
      refine o_y (y_move rfl) ?_
      refine o_y (y_assign rfl) ?_
      refine o_nil ?_
      have hf := capSum_end (lim := 262144) (n := n) (i := k) (ls := xs.map fun n => n.unmerged.length) (by simp only [List.length_map]; omega)
      rw [hf] at i3
      refine x_ret ?_
      refine x_fin 1 (ret1 rfl rfl) ?_
      rw [i3]; exact ⟨rfl, rfl, rfl⟩
  · try simp only [k1, k2, k3, k4, k5, k6, k7, k8, k9] at hg3_13
    refine o_gn 13 rfl rfl rfl ?_
    refine o_gn 13 rfl rfl rfl ?_
    refine o_y (y_pick rfl rfl) ?_
    refine o_nil ?_
    refine x_condF rfl ?_
    refine x_exit ?_
    refine x_seq ?_
    refine x_region rfl ?_
    refine o_y (y_move rfl) ?_
    refine o_y (y_assign rfl) ?_
    refine o_nil ?_
    have hf := capSum_end (lim := 262144) (n := n) (i := k) (ls := xs.map fun n => n.unmerged.length) (by simp only [List.length_map]; omega)
    rw [hf] at i3
    refine x_ret ?_
    refine x_fin 1 (ret1 rfl rfl) ?_
    rw [i3]; exact ⟨rfl, rfl, rfl⟩
theorem treeSize_le {H : HM} {v : Value} {xs : List Node} (h : RdL H v xs) : treeSize ⟨xs⟩ ≤ 140737488617472 := by
  unfold treeSize
  have hs := h.lenle
  refine Nat.le_trans (capSum_le (M := 140737488355328) _ _ ?_ (by simp only; omega)) (by omega)
  intro x hx
  obtain ⟨n, hn, rfl⟩ := List.mem_map.1 hx
  obtain ⟨j, hj, rfl⟩ := List.getElem_of_mem hn
  obtain ⟨cs, _, _, _, _, _, _, h1⟩ := h.at [] j hj
  exact Nat.le_trans h1.lenle (by omega)
def commitSize (c : Commit) : Nat := 1 + c.adds.length + c.removes.length + c.seals.length + c.joins.length + treeSize c.next_
theorem commitSize_le {H : HM} {cs : List Value} {c : Commit} (h : Rep.rd H cs c) : commitSize c ≤ 1125899906842624 := by
  obtain ⟨u6, u7, u8, u9, u12, rfl, h0, h1, h2, h3, h4, h5, h6, h7, h8, h9, h10, h11, h12, h13⟩ := h
  have h14 := treeSize_le h11
  have := h5.lenle
  have := h6.lenle
  have := h7.lenle
  have := h8.lenle
  unfold commitSize
  have e : (⟨c.next_.nodes⟩ : Tree) = c.next_ := rfl
  rw [e] at h14
  omega
theorem commitSize_ok {B : World} {H : HM} {O : OL} {cs : List Value} {c : Commit} (h : Rep.rd H cs c) : CallsM Go.Proofs.Tryd.prog 8 [.agg cs.toArray].toArray B H O (Same (.int .i64 (commitSize c)) H O) := by
  have hle := commitSize_le h
  unfold commitSize at hle
  obtain ⟨u6, u7, u8, u9, u12, rfl, h0, h1, h2, h3, h4, h5, h6, h7, h8, h9, h10, h11, h12, h13⟩ := h
  refine enter Go.Proofs.Tryd.func8 rfl Go.Proofs.Tryd.ntmps8 (l := [(0, _)]) rfl rfl ?_
  refine x_seq ?_
  refine x_region rfl ?_
  refine o_box rfl (cs := [_, _, _, _, _, _, _, _, _, _, _, _, _, _, _]) rfl (fun b1 => ?_)
  refine o_y (y_assign rfl) ?_
  refine o_nil ?_
  refine x_seq ?_
  refine x_regionQ mixed (by kernel_rfl) rfl ?_
  refine q_y (y_fieldAddr fd31_6 ti23 (by decide) rfl) ?_
  refine q_y (y_loadO ti23 rfl (by repeat (first | assumption | exact .z | apply In.s | apply In.a)) rfl) ?_
  first | refine q_y (y_lenL (by assumption) Go.Proofs.Tryd.underlying23 rfl) ?_ | refine q_y (y_lenR (by assumption) Go.Proofs.Tryd.underlying23 rfl) ?_ | refine q_y (y_len Go.Proofs.Tryd.underlying23 rfl) ?_
  refine q_y (y_addN rfl rfl (by omega) (by omega)) ?_
  refine q_y (y_fieldAddr fd31_7 ti24 (by decide) rfl) ?_
  refine q_y (y_loadO ti24 rfl (by repeat (first | assumption | exact .z | apply In.s | apply In.a)) rfl) ?_
  first | refine q_y (y_lenL (by assumption) Go.Proofs.Tryd.underlying24 rfl) ?_ | refine q_y (y_lenR (by assumption) Go.Proofs.Tryd.underlying24 rfl) ?_ | refine q_y (y_len Go.Proofs.Tryd.underlying24 rfl) ?_
  refine q_y (y_addN rfl rfl (by omega) (by omega)) ?_
  refine q_y (y_fieldAddr fd31_8 ti25 (by decide) rfl) ?_
  refine q_y (y_loadO ti25 rfl (by repeat (first | assumption | exact .z | apply In.s | apply In.a)) rfl) ?_
  first | refine q_y (y_lenL (by assumption) Go.Proofs.Tryd.underlying25 rfl) ?_ | refine q_y (y_lenR (by assumption) Go.Proofs.Tryd.underlying25 rfl) ?_ | refine q_y (y_len Go.Proofs.Tryd.underlying25 rfl) ?_
  refine q_y (y_addN rfl rfl (by omega) (by omega)) ?_
  refine q_y (y_fieldAddr fd31_9 ti26 (by decide) rfl) ?_
  refine q_y (y_loadO ti26 rfl (by repeat (first | assumption | exact .z | apply In.s | apply In.a)) rfl) ?_
  first | refine q_y (y_lenL (by assumption) Go.Proofs.Tryd.underlying26 rfl) ?_ | refine q_y (y_lenR (by assumption) Go.Proofs.Tryd.underlying26 rfl) ?_ | refine q_y (y_len Go.Proofs.Tryd.underlying26 rfl) ?_
  refine q_y (y_addN rfl rfl (by omega) (by omega)) ?_
  refine q_y (y_fieldAddr fd31_12 ti29 (by decide) rfl) ?_
  refine q_y (y_loadP ti29 rfl (by repeat (first | assumption | exact .z | apply In.s | apply In.a)) (cs := [_]) rfl rfl) ?_
  refine q_call fn19 rfl (treeSize_ok (xs := c.next_.nodes) h11) ?_
  have e : (⟨c.next_.nodes⟩ : Tree) = c.next_ := rfl
  rw [e]
  refine q_y (y_addN rfl rfl (by omega) (by omega)) ?_
  refine q_y (y_assign rfl) ?_
  refine q_nil ?_
  refine x_ret ?_
  refine x_fin 1 (ret1 rfl rfl) ?_
  unfold commitSize; exact ⟨by simp only [Int.natCast_add]; rfl, rfl, rfl⟩
def logSize (x : Log) : Nat := capSum 262144 (x.commits.map commitSize) (1 + x.commits.length)
theorem logSize_le {H : HM} {cs : List Value} {x : Log} (h : Rep.rd H cs x) : logSize x ≤ 1125899907104768 := by
  obtain ⟨u, rfl, h0, h1⟩ := h
  have := h1.lenle
  refine capSum_le (M := 1125899906842624) _ _ ?_ (by omega)
  intro y hy
  obtain ⟨n, hn, rfl⟩ := List.mem_map.1 hy
  obtain ⟨j, hj, rfl⟩ := List.getElem_of_mem hn
  obtain ⟨cs, _, h1⟩ := h1.at [] j hj
  exact commitSize_le h1
theorem logSize_ok {B : World} {H : HM} {O : OL} {cs : List Value} {x : Log} (h : Rep.rd H cs x) : CallsM Go.Proofs.Tryd.prog 18 [.agg cs.toArray].toArray B H O (Same (.int .i64 (logSize x)) H O) := by
  obtain ⟨u, rfl, h0, h1⟩ := h
  have hs := h1.lenle
  refine enter Go.Proofs.Tryd.func18 rfl Go.Proofs.Tryd.ntmps18 (l := [(0, _)]) rfl rfl ?_
  refine x_seq ?_
  refine x_region rfl ?_
  refine o_box rfl (cs := [_, _]) rfl (fun b1 => ?_)
  refine o_y (y_assign rfl) ?_
  refine o_nil ?_
  refine x_seq ?_
  refine x_region rfl ?_
  refine o_y (y_fieldAddr fd48_1 ti46 (by decide) rfl) ?_
  refine o_y (y_loadO ti46 rfl (by repeat (first | assumption | exact .z | apply In.s | apply In.a)) rfl) ?_
  first | refine o_y (y_lenL (by assumption) Go.Proofs.Tryd.underlying46 rfl) ?_ | refine o_y (y_lenR (by assumption) Go.Proofs.Tryd.underlying46 rfl) ?_ | refine o_y (y_len Go.Proofs.Tryd.underlying46 rfl) ?_
  refine o_y (y_addN rfl rfl (by omega) (by omega)) ?_
  refine o_y (y_assign rfl) ?_
  refine o_nil ?_
  refine x_seq ?_
  refine x_seq ?_
  refine x_region rfl ?_
  refine o_y (y_assign rfl) ?_
  refine o_nil ?_
  refine x_block ?_
  refine x_loopf (σ := Nat × Nat) (fun s => [(4, .int .i64 (s.1 : Int)), (3, .int .i64 (s.2 : Int)), (1, .pointer (some ⟨b1, 0, none⟩))]) (fun s => _) (fun s => s.1 ≤ x.commits.length ∧ s.2 ≤ 1125899906842624 + 262144 ∧ capSum 262144 ((x.commits.map commitSize).drop s.1) s.2 = logSize x) (fun s => x.commits.length - s.1) (0, 1 + x.commits.length) ⟨by simp, by omega, rfl⟩ (.c rfl (.c rfl (.c rfl .n))) rfl ?_
  rintro ⟨k, n⟩ ⟨i1, i2, i3⟩
  simp only at i1 i2 i3
  refine x_seq ?_
  refine x_seq ?_
  refine x_region rfl ?_
  refine o_y (y_move rfl) ?_
  refine o_y (y_fieldAddr fd48_1 ti46 (by decide) rfl) ?_
  refine o_y (y_loadO ti46 rfl (by repeat (first | assumption | exact .z | apply In.s | apply In.a)) rfl) ?_
  first | refine o_y (y_lenL (by assumption) Go.Proofs.Tryd.underlying46 rfl) ?_ | refine o_y (y_lenR (by assumption) Go.Proofs.Tryd.underlying46 rfl) ?_ | refine o_y (y_len Go.Proofs.Tryd.underlying46 rfl) ?_
  refine o_y (y_lss rfl rfl) ?_
  refine o_y (y_move rfl) ?_
  refine o_split 14 rfl (fun hg3_14 => ?_) (fun hg3_14 => ?_)
  · try simp only [k1, k2, k3, k4, k5, k6, k7, k8, k9] at hg3_14
    refine o_gy 14 rfl rfl (y_move rfl) ?_
    refine o_gy 14 rfl rfl (y_leq rfl rfl) ?_
    refine o_y (y_pick rfl rfl) ?_
    refine o_nil ?_
    refine x_cond rfl (fun hc0 => ?_) (fun hc0 => ?_)
    · try simp only [k1, k2, k3, k4, k5, k6, k7, k8, k9] at hc0
      have hk : k < x.commits.length := by omega
      have hn : n ≤ 262144 := by omega
      refine x_skip ?_
      refine x_seq ?_
      refine x_block ?_
      refine x_region rfl ?_
      refine o_y (y_move rfl) ?_
      refine o_y (y_fieldAddr fd48_1 ti46 (by decide) rfl) ?_
      refine o_y (y_loadO ti46 rfl (by repeat (first | assumption | exact .z | apply In.s | apply In.a)) rfl) ?_
      refine o_y (y_move rfl) ?_
      obtain ⟨ce24, ae24, re24⟩ := RdL.at h1 _ k hk
      have se24 := AtS.isSl ae24
      have te24 := re24
      obtain ⟨u24_6, u24_7, u24_8, u24_9, u24_12, z24, q24_0, q24_1, q24_2, q24_3, q24_4, q24_5, q24_6, q24_7, q24_8, q24_9, q24_10, q24_11, q24_12, q24_13⟩ := re24
      subst z24
      have w24 := Rep.one te24
      refine o_y (y_idxL h1 k hk Go.Proofs.Tryd.underlying46 ti31 rfl rfl (by omega)) ?_
      have hu := commitSize_le te24
      rw [capSum_step (by simpa using hk) hn] at i3
      simp only [List.getElem_map] at i3
      refine o_y (y_loadS ti31 rfl (by assumption) rfl (fun e => by cases e)) ?_
      refine o_call fn8 rfl (commitSize_ok te24) ?_
      rintro _ _ _ ⟨rfl, rfl, rfl⟩
      refine o_y (y_addN rfl rfl (by omega) (by omega)) ?_
      refine o_y (y_assign rfl) ?_
      refine o_nil ?_
      refine x_region rfl ?_
      refine o_y (y_move rfl) ?_
      refine o_y (y_addN rfl rfl (by omega) (by omega)) ?_
      refine o_y (y_assign rfl) ?_
      refine o_nil ?_
      exact ⟨(k + 1, n + commitSize x.commits[k]), 0, rfl, (.c rfl (.c rfl (.c rfl .n))), rfl, ⟨by omega, by omega, i3⟩, by simp only; omega⟩
    · try simp only [k1, k2, k3, k4, k5, k6, k7, k8, k9] at hc0
      refine x_exit ?_
      refine x_seq ?_
      refine x_region rfl ?_
      refine o_y (y_move rfl) ?_
      refine o_y (y_assign rfl) ?_
      refine o_nil ?_
      have hf := capSum_end (lim := 262144) (n := n) (i := k) (ls := x.commits.map commitSize) (by simp only [List.length_map]; omega)
      rw [hf] at i3
      refine x_ret ?_
      refine x_fin 1 (ret1 rfl rfl) ?_
      rw [i3]; exact ⟨rfl, rfl, rfl⟩
  · try simp only [k1, k2, k3, k4, k5, k6, k7, k8, k9] at hg3_14
    refine o_gn 14 rfl rfl rfl ?_
    refine o_gn 14 rfl rfl rfl ?_
    refine o_y (y_pick rfl rfl) ?_
    refine o_nil ?_
    refine x_condF rfl ?_
    refine x_exit ?_
    refine x_seq ?_
    refine x_region rfl ?_
    refine o_y (y_move rfl) ?_
    refine o_y (y_assign rfl) ?_
    refine o_nil ?_
    have hf := capSum_end (lim := 262144) (n := n) (i := k) (ls := x.commits.map commitSize) (by simp only [List.length_map]; omega)
    rw [hf] at i3
    refine x_ret ?_
    refine x_fin 1 (ret1 rfl rfl) ?_
    rw [i3]; exact ⟨rfl, rfl, rfl⟩
def logsSize (g : List Log) : Nat := capSum 1048575 (g.map logSize) g.length
theorem logsSize_le {H : HM} {v : Value} {xs : List Log} (h : RdL H v xs) : logsSize xs ≤ 1125899908153343 := by
  have := h.lenle
  refine capSum_le (M := 1125899907104768) _ _ ?_ (by omega)
  intro y hy
  obtain ⟨n, hn, rfl⟩ := List.mem_map.1 hy
  obtain ⟨j, hj, rfl⟩ := List.getElem_of_mem hn
  obtain ⟨cs, _, h1⟩ := h.at [] j hj
  exact logSize_le h1
theorem logsSize_ok {B : World} {H : HM} {O : OL} {v : Value} {xs : List Log} (h : RdL H v xs) : CallsM Go.Proofs.Tryd.prog 7 [v].toArray B H O (Same (.int .i64 (logsSize xs)) H O) := by
  have hs := h.lenle
  refine enter Go.Proofs.Tryd.func7 rfl Go.Proofs.Tryd.ntmps7 (l := [(0, _)]) rfl rfl ?_
  refine x_seq ?_
  refine x_region rfl ?_
  refine o_y (y_assign rfl) ?_
  refine o_nil ?_
  refine x_seq ?_
  refine x_region rfl ?_
  refine o_y (y_move rfl) ?_
  first | refine o_y (y_lenL (by assumption) Go.Proofs.Tryd.underlying22 rfl) ?_ | refine o_y (y_lenR (by assumption) Go.Proofs.Tryd.underlying22 rfl) ?_ | refine o_y (y_len Go.Proofs.Tryd.underlying22 rfl) ?_
  refine o_y (y_assign rfl) ?_
  refine o_nil ?_
  refine x_seq ?_
  refine x_seq ?_
  refine x_region rfl ?_
  refine o_y (y_assign rfl) ?_
  refine o_nil ?_
  refine x_block ?_
  refine x_loopf (σ := Nat × Nat) (fun s => [(4, .int .i64 (s.1 : Int)), (3, .int .i64 (s.2 : Int)), (0, v)]) (fun s => O) (fun s => s.1 ≤ xs.length ∧ s.2 ≤ 1125899908153343 ∧ capSum 1048575 ((xs.map logSize).drop s.1) s.2 = logsSize xs) (fun s => xs.length - s.1) (0, xs.length) ⟨by simp, by omega, rfl⟩ (.c rfl (.c rfl (.c rfl .n))) rfl ?_
  rintro ⟨k, n⟩ ⟨i1, i2, i3⟩
  simp only at i1 i2 i3
  refine x_seq ?_
  refine x_seq ?_
  refine x_region rfl ?_
  refine o_y (y_move rfl) ?_
  refine o_y (y_move rfl) ?_
  first | refine o_y (y_lenL (by assumption) Go.Proofs.Tryd.underlying22 rfl) ?_ | refine o_y (y_lenR (by assumption) Go.Proofs.Tryd.underlying22 rfl) ?_ | refine o_y (y_len Go.Proofs.Tryd.underlying22 rfl) ?_
  refine o_y (y_lss rfl rfl) ?_
  refine o_y (y_move rfl) ?_
  refine o_split 11 rfl (fun hg3_11 => ?_) (fun hg3_11 => ?_)
  · try simp only [k1, k2, k3, k4, k5, k6, k7, k8, k9] at hg3_11
    refine o_gy 11 rfl rfl (y_move rfl) ?_
    refine o_gy 11 rfl rfl (y_lss rfl rfl) ?_
    refine o_y (y_pick rfl rfl) ?_
    refine o_nil ?_
    refine x_cond rfl (fun hc0 => ?_) (fun hc0 => ?_)
    · try simp only [k1, k2, k3, k4, k5, k6, k7, k8, k9] at hc0
      have hk : k < xs.length := by omega
      have hn : n ≤ 1048575 := by omega
      refine x_skip ?_
      refine x_seq ?_
      refine x_block ?_
      refine x_region rfl ?_
      refine o_y (y_move rfl) ?_
      refine o_y (y_move rfl) ?_
      refine o_y (y_move rfl) ?_
      obtain ⟨ce20, ae20, re20⟩ := RdL.at h _ k hk
      have se20 := AtS.isSl ae20
      have te20 := re20
      obtain ⟨u20_1, z20, q20_0, q20_1⟩ := re20
      subst z20
      have w20 := Rep.one te20
      refine o_y (y_idxL h k hk Go.Proofs.Tryd.underlying22 ti48 rfl rfl (by omega)) ?_
      have hu := logSize_le te20
      rw [capSum_step (by simpa using hk) hn] at i3
      simp only [List.getElem_map] at i3
      refine o_y (y_loadS ti48 rfl (by assumption) rfl (fun e => by cases e)) ?_
      refine o_call fn18 rfl (logSize_ok te20) ?_
      rintro _ _ _ ⟨rfl, rfl, rfl⟩
      refine o_y (y_addN rfl rfl (by omega) (by omega)) ?_
      refine o_y (y_assign rfl) ?_
      refine o_nil ?_
      refine x_region rfl ?_
      refine o_y (y_move rfl) ?_
      refine o_y (y_addN rfl rfl (by omega) (by omega)) ?_
      refine o_y (y_assign rfl) ?_
      refine o_nil ?_
      exact ⟨(k + 1, n + logSize xs[k]), 0, rfl, (.c rfl (.c rfl (.c rfl .n))), rfl, ⟨by omega, by omega, i3⟩, by simp only; omega⟩
    · try simp only [k1, k2, k3, k4, k5, k6, k7, k8, k9] at hc0
      refine x_exit ?_
      refine x_seq ?_
      refine x_region rfl ?_
      refine o_y (y_move rfl) ?_
      refine o_y (y_assign rfl) ?_
      refine o_nil ?_
      have hf := capSum_end (lim := 1048575) (n := n) (i := k) (ls := xs.map logSize) (by simp only [List.length_map]; omega)
      rw [hf] at i3
      refine x_ret ?_
      refine x_fin 0 (ret1 rfl rfl) ?_
      rw [i3]; exact ⟨rfl, rfl, rfl⟩
  · try simp only [k1, k2, k3, k4, k5, k6, k7, k8, k9] at hg3_11
    refine o_gn 11 rfl rfl rfl ?_
    refine o_gn 11 rfl rfl rfl ?_
    refine o_y (y_pick rfl rfl) ?_
    refine o_nil ?_
    refine x_condF rfl ?_
    refine x_exit ?_
    refine x_seq ?_
    refine x_region rfl ?_
    refine o_y (y_move rfl) ?_
    refine o_y (y_assign rfl) ?_
    refine o_nil ?_
    have hf := capSum_end (lim := 1048575) (n := n) (i := k) (ls := xs.map logSize) (by simp only [List.length_map]; omega)
    rw [hf] at i3
    refine x_ret ?_
    refine x_fin 0 (ret1 rfl rfl) ?_
    rw [i3]; exact ⟨rfl, rfl, rfl⟩
end Go.Ph
