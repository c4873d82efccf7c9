/- The ledger's reading: the guard's sum; what may be taken; the search for a group's place. -/
import Derived.Test.YtmgnagpgnoikfaaDoorCopied
import Derived.Test.YtmgnagpgnoikfaaDoorSizes
set_option linter.unusedVariables false
set_option linter.unusedSimpArgs false
set_option maxRecDepth 100000
namespace Go.Ph
open Go Go.RowKit Go.Proofs.YtmgnagpgnoikfaaDoor

def beyondI : List Int → Int → Bool
  | [], _ => false
  | x :: xs, n => if x < 0 ∨ 262144 < x then true else if 262144 < n + x then true else beyondI xs (n + x)
theorem beyondI_step {xs : List Int} {k : Nat} (h : k < xs.length) (n : Int) : beyondI (xs.drop k) n = if xs[k] < 0 ∨ 262144 < xs[k] then true else if 262144 < n + xs[k] then true else beyondI (xs.drop (k + 1)) (n + xs[k]) := by
  rw [List.drop_eq_getElem_cons h, beyondI]
theorem beyond_ok {B : World} {H : HM} {O : OL} {v : Value} {xs : List Int} (h : RdL H v xs) : CallsM Go.Proofs.Tryd.prog 6 [v].toArray B H O (Same (.bool (beyondI xs 0)) H O) := by
  have hs := h.lenle
  refine enter Go.Proofs.Tryd.func6 rfl Go.Proofs.Tryd.ntmps6 (l := [(0, _)]) rfl rfl ?_
  refine x_seq ?_
  refine x_region rfl ?_
  refine o_y (y_assign rfl) ?_
  refine o_nil ?_
  refine x_seq ?_
  refine x_region rfl ?_
  refine o_y (y_assign rfl) ?_
  refine o_nil ?_
  refine x_seq ?_
  refine x_seq ?_
  refine x_region rfl ?_
  refine o_y (y_assign rfl) ?_
  refine o_nil ?_
  refine x_block ?_
  refine x_loopf (σ := Nat × Int) (fun s => [(4, .int .i64 (s.1 : Int)), (3, .int .i64 s.2), (0, v)]) (fun s => O) (fun s => s.1 ≤ xs.length ∧ 0 ≤ s.2 ∧ s.2 ≤ 262144 ∧ beyondI (xs.drop s.1) s.2 = beyondI xs 0) (fun s => xs.length - s.1) (0, 0) ⟨by simp, by decide, by decide, rfl⟩ (.c rfl (.c rfl (.c rfl .n))) rfl ?_
  rintro ⟨k, n⟩ ⟨i1, i2, i3, i4⟩
  simp only at i1 i2 i3 i4
  refine x_seq ?_
  refine x_seq ?_
  refine x_region rfl ?_
  refine o_y (y_move rfl) ?_
  refine o_y (y_move rfl) ?_
  first | refine o_y (y_lenL (by assumption) Go.Proofs.Tryd.underlying24 rfl) ?_ | refine o_y (y_lenR (by assumption) Go.Proofs.Tryd.underlying24 rfl) ?_ | refine o_y (y_len Go.Proofs.Tryd.underlying24 rfl) ?_
  refine o_y (y_lss rfl rfl) ?_
  refine o_nil ?_
  refine x_cond rfl (fun hc0 => ?_) (fun hc0 => ?_)
  · try simp only [k1, k2, k3, k4, k5, k6, k7, k8, k9] at hc0
    have hk : k < xs.length := by omega
    rw [beyondI_step hk] at i4
    refine x_skip ?_
    refine x_seq ?_
    refine x_block ?_
    refine x_seq ?_
    refine x_seq ?_
    refine x_region rfl ?_
    refine o_y (y_move rfl) ?_
    refine o_y (y_move rfl) ?_
    obtain ⟨ce13, ae13, re13⟩ := RdL.at h _ k hk
    have se13 := AtS.isSl ae13
    obtain ⟨rfl, q13⟩ := re13
    refine o_y (y_idxL h k hk Go.Proofs.Tryd.underlying24 ti3 rfl rfl (by omega)) ?_
    refine o_y (y_loadS ti3 rfl (by assumption) rfl (fun _ => rfl)) ?_
    refine o_y (y_lss rfl rfl) ?_
    refine o_y (y_move rfl) ?_
    refine o_split 16 rfl (fun hg5_16 => ?_) (fun hg5_16 => ?_)
    · try simp only [k1, k2, k3, k4, k5, k6, k7, k8, k9] at hg5_16
      refine o_gn 16 rfl rfl rfl ?_
      refine o_gn 16 rfl rfl rfl ?_
      refine o_gn 16 rfl rfl rfl ?_
      refine o_gn 16 rfl rfl rfl ?_
      refine o_gn 16 rfl rfl rfl ?_
      refine o_y (y_pick rfl rfl) ?_
      refine o_nil ?_
      refine x_condT rfl ?_
      refine x_seq ?_
      refine x_region rfl ?_
      refine o_y (y_assign rfl) ?_
      refine o_nil ?_
      refine x_ret ?_
      refine x_fin 0 (ret1 rfl rfl) ?_
      rw [← i4, if_pos (by omega)]; exact ⟨rfl, rfl, rfl⟩
    · try simp only [k1, k2, k3, k4, k5, k6, k7, k8, k9] at hg5_16
      refine o_gy 16 rfl rfl (y_move rfl) ?_
      refine o_gy 16 rfl rfl (y_move rfl) ?_
      obtain ⟨ce19, ae19, re19⟩ := RdL.at h _ k hk
      have se19 := AtS.isSl ae19
      obtain ⟨rfl, q19⟩ := re19
      refine o_gy 16 rfl rfl (y_idxL h k hk Go.Proofs.Tryd.underlying24 ti3 rfl rfl (by omega)) ?_
      refine o_gy 16 rfl rfl (y_loadS ti3 rfl (by assumption) rfl (fun _ => rfl)) ?_
      refine o_gy 16 rfl rfl (y_gtr rfl rfl) ?_
      refine o_y (y_pick rfl rfl) ?_
      refine o_nil ?_
      refine x_cond rfl (fun hc1 => ?_) (fun hc1 => ?_)
      · try simp only [k1, k2, k3, k4, k5, k6, k7, k8, k9] at hc1
        refine x_seq ?_
        refine x_region rfl ?_
        refine o_y (y_assign rfl) ?_
        refine o_nil ?_
        refine x_ret ?_
        refine x_fin 0 (ret1 rfl rfl) ?_
        rw [← i4, if_pos (by omega)]; exact ⟨rfl, rfl, rfl⟩
      · try simp only [k1, k2, k3, k4, k5, k6, k7, k8, k9] at hc1
        refine x_skip ?_
        refine x_seq ?_
        refine x_region rfl ?_
        refine o_y (y_move rfl) ?_
        refine o_y (y_move rfl) ?_
        refine o_y (y_move rfl) ?_
        obtain ⟨ce26, ae26, re26⟩ := RdL.at h _ k hk
        have se26 := AtS.isSl ae26
        obtain ⟨rfl, q26⟩ := re26
        refine o_y (y_idxL h k hk Go.Proofs.Tryd.underlying24 ti3 rfl rfl (by omega)) ?_
        refine o_y (y_loadS ti3 rfl (by assumption) rfl (fun _ => rfl)) ?_
        refine o_y (y_addN rfl rfl (by omega) (by omega)) ?_
        refine o_y (y_assign rfl) ?_
        refine o_nil ?_
        refine x_seq ?_
        refine x_region rfl ?_
        refine o_y (y_move rfl) ?_
        refine o_y (y_gtr rfl rfl) ?_
        refine o_nil ?_
        refine x_cond rfl (fun hc2 => ?_) (fun hc2 => ?_)
        · try simp only [k1, k2, k3, k4, k5, k6, k7, k8, k9] at hc2
          refine x_seq ?_
          refine x_region rfl ?_
          refine o_y (y_assign rfl) ?_
          refine o_nil ?_
          refine x_ret ?_
          refine x_fin 0 (ret1 rfl rfl) ?_
          rw [← i4, if_neg (by omega), if_pos (by omega)]; exact ⟨rfl, rfl, rfl⟩
        · try simp only [k1, k2, k3, k4, k5, k6, k7, k8, k9] at hc2
          refine x_skip ?_
          refine x_region rfl ?_
          refine o_y (y_move rfl) ?_
          refine o_y (y_addN rfl rfl (by omega) (by omega)) ?_
          refine o_y (y_assign rfl) ?_
          refine o_nil ?_
          rw [if_neg (by omega), if_neg (by omega)] at i4
          exact ⟨(k + 1, n + xs[k]), 0, rfl, (.c rfl (.c rfl (.c rfl .n))), rfl, ⟨by omega, by omega, by omega, i4⟩, by simp only; omega⟩
  · try simp only [k1, k2, k3, k4, k5, k6, k7, k8, k9] at hc0
    refine x_exit ?_
    refine x_seq ?_
    refine x_region rfl ?_
    refine o_y (y_assign rfl) ?_
    refine o_nil ?_
    refine x_ret ?_
    refine x_fin 0 (ret1 rfl rfl) ?_
    rw [← i4, List.drop_eq_nil_of_le (by omega)]; exact ⟨rfl, rfl, rfl⟩
def takeB (c : Commit) : Bool := decide (0 ≤ c.epoch) && (decide (0 < c.next_.nodes.length) && checkB c.next_.nodes)
theorem takeable_ok {B : World} {H : HM} {O : OL} {cs : List Value} {c : Commit} (hT : TabAt H) (h : Rep.rd H cs c) : CallsM Go.Proofs.Tryd.prog 22 [.agg cs.toArray].toArray B H O (Same (.bool (takeB c)) H O) := by
  obtain ⟨u6, u7, u8, u9, u12, rfl, h0, h1, h2, h3, h4, h5, h6, h7, h8, h9, h10, h11, h12, h13⟩ := h
  have hc := errI_cases (checkB c.next_.nodes)
  refine enter Go.Proofs.Tryd.func22 rfl Go.Proofs.Tryd.ntmps22 (l := [(0, _)]) rfl rfl ?_
  refine x_seq ?_
  refine x_region rfl ?_
  refine o_box rfl (cs := [_, _, _, _, _, _, _, _, _, _, _, _, _, _, _]) rfl (fun b1 => ?_)
  refine o_y (y_assign rfl) ?_
  refine o_nil ?_
  refine x_seq ?_
  refine x_region rfl ?_
  refine o_y (y_fieldAddr fd31_1 ti3 (by decide) rfl) ?_
  refine o_y (y_loadO ti3 rfl (by repeat (first | assumption | exact .z | apply In.s | apply In.a)) rfl) ?_
  refine o_y (y_geq rfl rfl) ?_
  refine o_y (y_move rfl) ?_
  refine o_split 6 rfl (fun hg1_6 => ?_) (fun hg1_6 => ?_)
  · try simp only [k1, k2, k3, k4, k5, k6, k7, k8, k9] at hg1_6
    refine o_gy 6 rfl rfl (y_fieldAddr fd31_12 ti29 (by decide) rfl) ?_
    refine o_gy 6 rfl rfl (y_fieldAddr fd29_0 ti27 (by decide) rfl) ?_
    refine o_gy 6 rfl rfl (y_loadO ti27 rfl (by repeat (first | assumption | exact .z | apply In.s | apply In.a)) rfl) ?_
    first | refine o_gy 6 rfl rfl (y_lenL (by assumption) Go.Proofs.Tryd.underlying27 rfl) ?_ | refine o_gy 6 rfl rfl (y_lenR (by assumption) Go.Proofs.Tryd.underlying27 rfl) ?_ | refine o_gy 6 rfl rfl (y_len Go.Proofs.Tryd.underlying27 rfl) ?_
    refine o_gy 6 rfl rfl (y_gtr rfl rfl) ?_
    refine o_y (y_pick rfl rfl) ?_
    refine o_y (y_move rfl) ?_
    refine o_split 13 rfl (fun hg1_13 => ?_) (fun hg1_13 => ?_)
    · try simp only [k1, k2, k3, k4, k5, k6, k7, k8, k9] at hg1_13
      refine o_gy 13 rfl rfl (y_fieldAddr fd31_12 ti29 (by decide) rfl) ?_
      refine o_gy 13 rfl rfl (y_loadP ti29 rfl (by repeat (first | assumption | exact .z | apply In.s | apply In.a)) (cs := [_]) rfl rfl) ?_
      refine o_gcall 13 rfl rfl fn35 rfl (check_ok hT h11) ?_
      rintro _ _ _ ⟨rfl, rfl, rfl⟩
      refine o_gy 13 rfl rfl (y_eql rfl rfl) ?_
      refine o_y (y_pick rfl rfl) ?_
      refine o_y (y_assign rfl) ?_
      refine o_nil ?_
      refine x_ret ?_
      refine x_fin 1 (ret1 rfl rfl) ?_
      refine ⟨?_, rfl, rfl⟩
      unfold takeB
      first
        | (rw [decide_eq_false (show ¬ 0 ≤ c.epoch by omega)]; rfl)
        | (rw [decide_eq_true (show 0 ≤ c.epoch by omega), decide_eq_false (show ¬ 0 < c.next_.nodes.length by omega)]; rfl)
        | (rw [decide_eq_true (show 0 ≤ c.epoch by omega), decide_eq_true (show 0 < c.next_.nodes.length by omega)]; rcases hc with ⟨e1, e2⟩ | ⟨e1, e2⟩ <;> rw [e1] <;> rfl)
    · try simp only [k1, k2, k3, k4, k5, k6, k7, k8, k9] at hg1_13
      refine o_gn 13 rfl rfl rfl ?_
      refine o_gn 13 rfl rfl rfl ?_
      refine o_gn 13 rfl rfl rfl ?_
      refine o_gn 13 rfl rfl rfl ?_
      refine o_y (y_pick rfl rfl) ?_
      refine o_y (y_assign rfl) ?_
      refine o_nil ?_
      refine x_ret ?_
      refine x_fin 1 (ret1 rfl rfl) ?_
      refine ⟨?_, rfl, rfl⟩
      unfold takeB
      first
        | (rw [decide_eq_false (show ¬ 0 ≤ c.epoch by omega)]; rfl)
        | (rw [decide_eq_true (show 0 ≤ c.epoch by omega), decide_eq_false (show ¬ 0 < c.next_.nodes.length by omega)]; rfl)
        | (rw [decide_eq_true (show 0 ≤ c.epoch by omega), decide_eq_true (show 0 < c.next_.nodes.length by omega)]; rcases hc with ⟨e1, e2⟩ | ⟨e1, e2⟩ <;> rw [e1] <;> rfl)
  · try simp only [k1, k2, k3, k4, k5, k6, k7, k8, k9] at hg1_6
    refine o_gn 6 rfl rfl rfl ?_
    refine o_gn 6 rfl rfl rfl ?_
    refine o_gn 6 rfl rfl rfl ?_
    refine o_gn 6 rfl rfl rfl ?_
    refine o_gn 6 rfl rfl rfl ?_
    refine o_y (y_pick rfl rfl) ?_
    refine o_y (y_move rfl) ?_
    refine o_gn 13 rfl rfl rfl ?_
    refine o_gn 13 rfl rfl rfl ?_
    refine o_gn 13 rfl rfl rfl ?_
    refine o_gn 13 rfl rfl rfl ?_
    refine o_y (y_pick rfl rfl) ?_
    refine o_y (y_assign rfl) ?_
    refine o_nil ?_
    refine x_ret ?_
    refine x_fin 1 (ret1 rfl rfl) ?_
    refine ⟨?_, rfl, rfl⟩
    unfold takeB
    first
      | (rw [decide_eq_false (show ¬ 0 ≤ c.epoch by omega)]; rfl)
      | (rw [decide_eq_true (show 0 ≤ c.epoch by omega), decide_eq_false (show ¬ 0 < c.next_.nodes.length by omega)]; rfl)
      | (rw [decide_eq_true (show 0 ≤ c.epoch by omega), decide_eq_true (show 0 < c.next_.nodes.length by omega)]; rcases hc with ⟨e1, e2⟩ | ⟨e1, e2⟩ <;> rw [e1] <;> rfl)
/-- What the library's search comes to. -/
def searchN (p : Nat → Bool) (i j : Nat) : Nat :=
  if h : i < j then (if p ((i + j) / 2) = true then searchN p i ((i + j) / 2) else searchN p ((i + j) / 2 + 1) j) else i
termination_by j - i
decreasing_by all_goals omega
theorem half_ok (m : Nat) (h : m ≤ 1125899906842624) : IntKind.i64.wrap (ishr .u64 (IntKind.u64.wrap (m : Int)) 1) = ((m / 2 : Nat) : Int) := by
  have e1 : IntKind.u64.wrap (m : Int) = m := by
    unfold IntKind.wrap
    simp [IntKind.bits, IntKind.signed]
    omega
  rw [e1]
  unfold ishr
  have e2 : (m : Int).fdiv (2 ^ (min (1 : Int).toNat IntKind.u64.bits)) = ((m / 2 : Nat) : Int) := by
    rw [show (2 : Int) ^ (min (1 : Int).toNat IntKind.u64.bits) = ((2 : Nat) : Int) from rfl]
    rw [Int.fdiv_eq_ediv_of_nonneg _ (by decide)]
    exact (Int.natCast_ediv m 2).symm
  rw [e2]
  exact wrap_id (by omega) (by omega)
theorem search_ok {B : World} {H : HM} {O : OL} {F : FuncId} {us cs : Array Value} {n : Nat} {p : Nat → Bool} (hn : n ≤ 140737488355328) (hF : FnOk Go.Proofs.Tryd.prog F) (hp : ∀ i, i < n → CallsM Go.Proofs.Tryd.prog F (us ++ ([.int .i64 (i : Int)] : List Value).reverse.toArray ++ cs) B H O (Same (.bool (p i)) H O)) :
    CallsM Go.Proofs.Tryd.prog 36 [.int .i64 (n : Int), .func (.func F) us cs].toArray B H O (Same (.int .i64 (searchN p 0 n : Nat)) H O) := by
  refine enter Go.Proofs.Tryd.func36 rfl Go.Proofs.Tryd.ntmps36 (l := [(0, _), (1, _)]) rfl rfl ?_
  refine x_seq ?_
  refine x_region rfl ?_
  refine o_y (y_assign rfl) ?_
  refine o_nil ?_
  refine x_seq ?_
  refine x_region rfl ?_
  refine o_y (y_move rfl) ?_
  refine o_y (y_assign rfl) ?_
  refine o_y (y_assign rfl) ?_
  refine o_nil ?_
  refine x_seq ?_
  refine x_block ?_
  refine x_loopf (σ := Nat × Nat) (fun s => [(6, .int .i64 (s.2 : Int)), (5, .int .i64 (s.1 : Int)), (1, .func (.func F) us cs)]) (fun s => O) (fun s => s.1 ≤ s.2 ∧ s.2 ≤ n ∧ searchN p s.1 s.2 = searchN p 0 n) (fun s => s.2 - s.1) (0, n) ⟨by simp, by simp, rfl⟩ (.c rfl (.c rfl (.c rfl .n))) rfl ?_
  rintro ⟨i, j⟩ ⟨i1, i2, i3⟩
  simp only at i1 i2 i3
  refine x_seq ?_
  refine x_seq ?_
  refine x_region rfl ?_
  refine o_y (y_move rfl) ?_
  refine o_y (y_move rfl) ?_
  refine o_y (y_lss rfl rfl) ?_
  refine o_nil ?_
  refine x_cond rfl (fun hc0 => ?_) (fun hc0 => ?_)
  · try simp only [k1, k2, k3, k4, k5, k6, k7, k8, k9] at hc0
    have hij : i < j := by omega
    have hh : IntKind.i64.wrap (ishr .u64 (IntKind.u64.wrap (((i, j).fst + (i, j).snd : Int))) 1) = (((i + j) / 2 : Nat) : Int) := half_ok (i + j) (by omega)
    rw [searchN, dif_pos hij] at i3
    obtain ⟨h, hhe⟩ : ∃ h, h = (i + j) / 2 := ⟨_, rfl⟩
    have hr : i ≤ h ∧ h < j := by omega
    rw [← hhe] at i3 hh
    clear hhe
    refine x_skip ?_
    refine x_block ?_
    refine x_seq ?_
    refine x_region rfl ?_
    refine o_y (y_move rfl) ?_
    refine o_y (y_move rfl) ?_
    refine o_y (y_addN rfl rfl (by omega) (by omega)) ?_
    refine o_y (y_conv Go.Proofs.Tryd.underlying3 Go.Proofs.Tryd.underlying92 rfl) ?_
    refine o_y (y_shr rfl rfl (by omega)) ?_
    refine o_y (y_conv Go.Proofs.Tryd.underlying92 Go.Proofs.Tryd.underlying3 rfl) ?_
    rw [hh]
    refine o_y (y_assign rfl) ?_
    refine o_nil ?_
    refine x_seq ?_
    refine x_region rfl ?_
    refine o_y (y_move rfl) ?_
    refine o_y (y_move rfl) ?_
    refine o_callV (by assumption) rfl rfl (hp h (by omega)) ?_
    rintro _ _ _ ⟨rfl, rfl, rfl⟩
    refine o_y (y_not rfl) ?_
    refine o_nil ?_
    refine x_cond rfl (fun hc1 => ?_) (fun hc1 => ?_)
    · try simp only [k1, k2, k3, k4, k5, k6, k7, k8, k9] at hc1
      refine x_region rfl ?_
      refine o_y (y_move rfl) ?_
      refine o_y (y_addN rfl rfl (by omega) (by omega)) ?_
      refine o_y (y_assign rfl) ?_
      refine o_nil ?_
      rcases hph : p h with _ | _
      · first
        | (exfalso; simp_all; done)
        | (rw [if_neg (by simp [hph])] at i3
           exact ⟨(h + 1, j), 0, rfl, (.c rfl (.c rfl (.c rfl .n))), rfl, ⟨by simp only; omega, i2, i3⟩, by simp only; omega⟩)
      · first
        | (exfalso; simp_all; done)
        | (rw [if_pos (by simp [hph])] at i3
           exact ⟨(i, h), 0, rfl, (.c rfl (.c rfl (.c rfl .n))), rfl, ⟨by simp only; omega, by simp only; omega, i3⟩, by simp only; omega⟩)
    · try simp only [k1, k2, k3, k4, k5, k6, k7, k8, k9] at hc1
      refine x_region rfl ?_
      refine o_y (y_move rfl) ?_
      refine o_y (y_assign rfl) ?_
      refine o_nil ?_
      rcases hph : p h with _ | _
      · first
        | (exfalso; simp_all; done)
        | (rw [if_neg (by simp [hph])] at i3
           exact ⟨(h + 1, j), 0, rfl, (.c rfl (.c rfl (.c rfl .n))), rfl, ⟨by simp only; omega, i2, i3⟩, by simp only; omega⟩)
      · first
        | (exfalso; simp_all; done)
        | (rw [if_pos (by simp [hph])] at i3
           exact ⟨(i, h), 0, rfl, (.c rfl (.c rfl (.c rfl .n))), rfl, ⟨by simp only; omega, by simp only; omega, i3⟩, by simp only; omega⟩)
  · try simp only [k1, k2, k3, k4, k5, k6, k7, k8, k9] at hc0
    refine x_exit ?_
    refine x_seq ?_
    refine x_region rfl ?_
    refine o_y (y_move rfl) ?_
    refine o_y (y_assign rfl) ?_
    refine o_nil ?_
    refine x_ret ?_
    refine x_fin 0 (ret1 rfl rfl) ?_
    rw [searchN, dif_neg (by omega)] at i3
    rw [i3]; exact ⟨rfl, rfl, rfl⟩
theorem searchN_le (p : Nat → Bool) (i j : Nat) (h : i ≤ j) : i ≤ searchN p i j ∧ searchN p i j ≤ j := by
  rw [searchN]; split
  · split
    · have := searchN_le p i ((i + j) / 2) (by omega); omega
    · have := searchN_le p ((i + j) / 2 + 1) j (by omega); omega
  · omega
termination_by j - i
theorem searchN_spec (p : Nat → Bool) (n : Nat) (hm : ∀ a b, a ≤ b → b < n → p a = true → p b = true) (i j : Nat) (hij : i ≤ j) (hj : j ≤ n) (h1 : ∀ k, k < i → p k = false) (h2 : ∀ k, j ≤ k → k < n → p k = true) :
    (∀ k, k < searchN p i j → p k = false) ∧ (∀ k, searchN p i j ≤ k → k < n → p k = true) := by
  rw [searchN]; split
  · split
    · exact searchN_spec p n hm i ((i + j) / 2) (by omega) (by omega) h1 (fun k hk hn => hm _ _ hk hn (by assumption))
    · refine searchN_spec p n hm ((i + j) / 2 + 1) j (by omega) (by omega) (fun k hk => ?_) h2
      cases hp : p k with
      | false => rfl
      | true => exact absurd (hm k ((i + j) / 2) (by omega) (by omega) hp) (by assumption)
  · have : i = j := by omega
    subst this; exact ⟨h1, h2⟩
termination_by j - i
def grpAt (xs : List Log) (k : Nat) : Int := (xs.getD k default).group
def placeP (xs : List Log) (g : Int) (k : Nat) : Bool := decide (g ≤ grpAt xs k)
def placeN (xs : List Log) (g : Int) : Nat := searchN (placeP xs g) 0 xs.length
def foundB (xs : List Log) (g : Int) : Bool := decide (placeN xs g < xs.length ∧ grpAt xs (placeN xs g) = g)
theorem grpAt_eq {xs : List Log} {k : Nat} (h : k < xs.length) : grpAt xs k = xs[k].group := by simp [grpAt, List.getD_eq_getElem?_getD, h]
theorem place1_ok {B : World} {H : HM} {O : OL} {v : Value} {xs : List Log} {g : Int} {b2 b3 : Nat} (h : RdL H v xs) (hg : InR g) (hb2 : In O b2 (cl [v] 22)) (hb3 : In O b3 (cl [.int .i64 g] 3)) (i : Nat) (hi : i < xs.length) :
    CallsM Go.Proofs.Tryd.prog 37 [.int .i64 (i : Int), .pointer (some ⟨b2, 0, none⟩), .pointer (some ⟨b3, 0, none⟩)].toArray B H O (Same (.bool (placeP xs g i)) H O) := by
  have hs := h.lenle
  refine enter Go.Proofs.Tryd.func37 rfl Go.Proofs.Tryd.ntmps37 (l := [(0, _), (1, _), (2, _)]) rfl rfl ?_
  refine x_seq ?_
  refine x_region rfl ?_
  refine o_y (y_assign rfl) ?_
  refine o_nil ?_
  refine x_seq ?_
  refine x_regionQ mixed (by kernel_rfl) rfl ?_
  refine q_y (y_loadO ti22 rfl (by repeat (first | assumption | exact .z | apply In.s | apply In.a)) rfl) ?_
  refine q_y (y_move rfl) ?_
  obtain ⟨ce7, ae7, re7⟩ := RdL.at h _ i hi
  have se7 := AtS.isSl ae7
  have te7 := re7
  obtain ⟨u7_1, z7, q7_0, q7_1⟩ := re7
  subst z7
  have w7 := Rep.one te7
  refine q_y (y_idxL h i hi Go.Proofs.Tryd.underlying22 ti48 rfl rfl (by omega)) ?_
  refine q_y (y_fieldAddrP fd48_0 ti3 (by decide) (by assumption) rfl) ?_
  refine q_y (y_loadS1 ti3 rfl (by assumption) rfl) ?_
  refine q_y (y_loadO ti3 rfl (by repeat (first | assumption | exact .z | apply In.s | apply In.a)) rfl) ?_
  refine q_y (y_geq rfl rfl) ?_
  refine q_y (y_assign rfl) ?_
  refine q_nil ?_
  refine x_ret ?_
  refine x_fin 0 (ret1 rfl rfl) ?_
  rw [placeP, grpAt_eq hi]; exact ⟨rfl, rfl, rfl⟩
theorem place_ok {B : World} {H : HM} {O : OL} {v : Value} {xs : List Log} {g : Int} (h : RdL H v xs) (hg : InR g) : CallsM Go.Proofs.Tryd.prog 23 [v, .int .i64 g].toArray B H O (Same (.tuple #[.int .i64 (placeN xs g : Nat), .bool (foundB xs g)]) H O) := by
  have hs := h.lenle
  have hle := (searchN_le (placeP xs g) 0 xs.length (by omega)).2
  have e : placeN xs g = searchN (placeP xs g) 0 xs.length := rfl
  rw [← e] at hle
  obtain ⟨pv, cv, rfl⟩ := h.shape
  refine enter Go.Proofs.Tryd.func23 rfl Go.Proofs.Tryd.ntmps23 (l := [(0, _), (1, _)]) rfl rfl ?_
  refine x_seq ?_
  refine x_region rfl ?_
  refine o_box rfl (cs := [_]) rfl (fun b2 => ?_)
  refine o_box rfl (cs := [_]) rfl (fun b3 => ?_)
  refine o_y (y_assign rfl) ?_
  refine o_y (y_assign rfl) ?_
  refine o_nil ?_
  refine x_seq ?_
  refine x_region rfl ?_
  refine o_y (y_loadO ti22 rfl (by repeat (first | assumption | exact .z | apply In.s | apply In.a)) rfl) ?_
  first | refine o_y (y_lenL (by assumption) Go.Proofs.Tryd.underlying22 rfl) ?_ | refine o_y (y_lenR (by assumption) Go.Proofs.Tryd.underlying22 rfl) ?_ | refine o_y (y_len Go.Proofs.Tryd.underlying22 rfl) ?_
  refine o_y (y_func rfl rfl) ?_
  refine o_call fn36 rfl (search_ok (p := placeP xs g) (by omega) fn37 (fun i hi => place1_ok h hg (.s .z) .z i hi)) ?_
  rintro _ _ _ ⟨rfl, rfl, rfl⟩
  rw [← e]
  refine o_y (y_assign rfl) ?_
  refine o_nil ?_
  refine x_seq ?_
  refine x_regionQ mixed (by kernel_rfl) rfl ?_
  refine q_y (y_move rfl) ?_
  refine q_y (y_move rfl) ?_
  refine q_y (y_loadO ti22 rfl (by repeat (first | assumption | exact .z | apply In.s | apply In.a)) rfl) ?_
  first | refine q_y (y_lenL (by assumption) Go.Proofs.Tryd.underlying22 rfl) ?_ | refine q_y (y_lenR (by assumption) Go.Proofs.Tryd.underlying22 rfl) ?_ | refine q_y (y_len Go.Proofs.Tryd.underlying22 rfl) ?_
  refine q_y (y_lss rfl rfl) ?_
  refine q_y (y_move rfl) ?_
  refine q_split 16 rfl (fun hg2_16 => ?_) (fun hg2_16 => ?_)
  · try simp only [k1, k2, k3, k4, k5, k6, k7, k8, k9] at hg2_16
    have hk : placeN xs g < xs.length := by omega
    refine q_gy 16 rfl rfl (y_loadO ti22 rfl (by repeat (first | assumption | exact .z | apply In.s | apply In.a)) rfl) ?_
    refine q_gy 16 rfl rfl (y_move rfl) ?_
    obtain ⟨ce19, ae19, re19⟩ := RdL.at h _ (placeN xs g) hk
    have se19 := AtS.isSl ae19
    have te19 := re19
    obtain ⟨u19_1, z19, q19_0, q19_1⟩ := re19
    subst z19
    have w19 := Rep.one te19
    refine q_gy 16 rfl rfl (y_idxL h (placeN xs g) hk Go.Proofs.Tryd.underlying22 ti48 rfl rfl (by omega)) ?_
    refine q_gy 16 rfl rfl (y_fieldAddrP fd48_0 ti3 (by decide) (by assumption) rfl) ?_
    refine q_gy 16 rfl rfl (y_loadS1 ti3 rfl (by assumption) rfl) ?_
    refine q_gy 16 rfl rfl (y_loadO ti3 rfl (by repeat (first | assumption | exact .z | apply In.s | apply In.a)) rfl) ?_
    refine q_gy 16 rfl rfl (y_eql rfl rfl) ?_
    refine q_y (y_pick rfl rfl) ?_
    refine q_y (y_assign rfl) ?_
    refine q_y (y_assign rfl) ?_
    refine q_nil ?_
    refine x_ret ?_
    refine x_fin 2 (ret2 rfl rfl rfl) ?_
    refine ⟨?_, rfl, rfl⟩
    first
      | (rw [foundB, grpAt_eq hk]; simp [hk]; done)
      | (rw [foundB, decide_eq_false (fun hh => absurd hh.1 (by omega))]; done)
  · try simp only [k1, k2, k3, k4, k5, k6, k7, k8, k9] at hg2_16
    refine q_gn 16 rfl rfl rfl ?_
    refine q_gn 16 rfl rfl rfl ?_
    refine q_gn 16 rfl rfl rfl ?_
    refine q_gn 16 rfl rfl rfl ?_
    refine q_gn 16 rfl rfl rfl ?_
    refine q_gn 16 rfl rfl rfl ?_
    refine q_gn 16 rfl rfl rfl ?_
    refine q_y (y_pick rfl rfl) ?_
    refine q_y (y_assign rfl) ?_
    refine q_y (y_assign rfl) ?_
    refine q_nil ?_
    refine x_ret ?_
    refine x_fin 2 (ret2 rfl rfl rfl) ?_
    refine ⟨?_, rfl, rfl⟩
    first
      | (rw [foundB, grpAt_eq hk]; simp [hk]; done)
      | (rw [foundB, decide_eq_false (fun hh => absurd hh.1 (by omega))]; done)
end Go.Ph
