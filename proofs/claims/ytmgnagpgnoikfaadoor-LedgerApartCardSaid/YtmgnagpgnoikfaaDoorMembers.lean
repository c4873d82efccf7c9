/- How many leaves a tree has, and its members. -/
import Derived.Test.YtmgnagpgnoikfaaDoorClone
set_option linter.unusedVariables false
set_option linter.unusedSimpArgs false
set_option maxRecDepth 100000
namespace Go.Ph
open Go Go.RowKit Go.Proofs.YtmgnagpgnoikfaaDoor

def sizeN (xs : List Node) : Nat := if checkB xs then leavesN xs.length else 0
theorem errI_cases (b : Bool) : (b = true ∧ errI b = 0) ∨ (b = false ∧ errI b = 1) := by cases b <;> simp [errI]
theorem size_ok {B : World} {H : HM} {O : OL} {v : Value} {xs : List Node} (hT : TabAt H) (h : RdL H v xs) : CallsM Go.Proofs.Tryd.prog 47 [.agg #[v]].toArray B H O (Same (.int .i64 (sizeN xs)) H O) := by
  have hc := errI_cases (checkB xs)
  refine enter Go.Proofs.Tryd.func47 rfl Go.Proofs.Tryd.ntmps47 (l := [(0, _)]) rfl rfl ?_
  refine x_seq ?_
  refine x_region rfl ?_
  refine o_box rfl (cs := [_]) rfl (fun b1 => ?_)
  refine o_y (y_assign rfl) ?_
  refine o_nil ?_
  refine x_seq ?_
  refine x_seq ?_
  refine x_region rfl ?_
  refine o_y (y_loadA ti29 rfl (by repeat (first | assumption | exact .z | apply In.s | apply In.a)) rfl) ?_
  refine o_call fn35 rfl (check_ok hT h) ?_
  rintro _ _ _ ⟨rfl, rfl, rfl⟩
  refine o_y (y_neq rfl rfl) ?_
  refine o_nil ?_
  refine x_cond rfl (fun hc0 => ?_) (fun hc0 => ?_)
  · try simp only [k1, k2, k3, k4, k5, k6, k7, k8, k9] at hc0
    refine x_seq ?_
    refine x_region rfl ?_
    refine o_y (y_assign rfl) ?_
    refine o_nil ?_
    refine x_ret ?_
    refine x_fin 1 (ret1 rfl rfl) ?_
    rcases hc with ⟨h1, h2⟩ | ⟨h1, h2⟩
    · omega
    · simp only [sizeN, h1]; exact ⟨rfl, rfl, rfl⟩
  · try simp only [k1, k2, k3, k4, k5, k6, k7, k8, k9] at hc0
    refine x_skip ?_
    refine x_seq ?_
    refine x_region rfl ?_
    refine o_y (y_loadA ti29 rfl (by repeat (first | assumption | exact .z | apply In.s | apply In.a)) rfl) ?_
    refine o_call fn50 rfl (leaves_ok h) ?_
    rintro _ _ _ ⟨rfl, rfl, rfl⟩
    refine o_y (y_assign rfl) ?_
    refine o_nil ?_
    refine x_ret ?_
    refine x_fin 1 (ret1 rfl rfl) ?_
    rcases hc with ⟨h1, h2⟩ | ⟨h1, h2⟩
    · simp only [sizeN, h1]; exact ⟨rfl, rfl, rfl⟩
    · omega
/-- The members of a tree, from the left. -/
def membersL (xs : List Node) : List Int := if checkB xs then memsTo xs xs.length else []
theorem checkB_spec {xs : List Node} (h : checkB xs = true) : xs.length = 0 ∨ (leavesN xs.length ≠ 0 ∧ (∀ j, j < xs.length → goodAt xs j = true) ∧ ((leavesN xs.length : Nat) : Int) / 2 ≤ lastTo xs xs.length) := by
  simp only [checkB, Bool.or_eq_true, Bool.and_eq_true, decide_eq_true_eq, List.all_eq_true, List.mem_range] at h
  rcases h with h | ⟨⟨h1, h2⟩, h3⟩
  · exact .inl h
  · exact .inr ⟨h1, h2, h3⟩
theorem sizeN_len {xs : List Node} {k : Nat} (h : k < sizeN xs) : checkB xs = true ∧ 2 * k < xs.length ∧ xs.length = 2 * sizeN xs - 1 ∧ sizeN xs ≤ 8 := by
  unfold sizeN at h ⊢
  split at h
  · rename_i hc
    rw [if_pos hc]
    unfold leavesN at h ⊢
    refine ⟨hc, ?_⟩
    (repeat' split at h) <;> (repeat' split) <;> omega
  · omega
theorem leaf_pub {xs : List Node} (hc : checkB xs = true) {j : Nat} (hj : j < xs.length) (h2 : j % 2 = 0) : isLeaf xs j = decide (0 < (nodeAt xs j).pub) := by
  have h0 : xs.length ≠ 0 := by omega
  rcases checkB_spec hc with h | ⟨_, h, _⟩
  · exact absurd h h0
  · have := h j hj
    unfold goodAt at this
    rw [if_neg (by omega)] at this
    unfold isLeaf
    have e : Nat.beq (j % 2) 0 = true := by rw [h2]; rfl
    rw [e]
    cases hb : (nodeAt xs j).blankB with
    | true =>
      simp only [Node.blankB, Bool.and_eq_true, decide_eq_true_eq] at hb
      simp [show ¬ 0 < (nodeAt xs j).pub by omega]
    | false =>
      rw [hb] at this
      simp only [Bool.false_or, Bool.and_eq_true, decide_eq_true_eq] at this
      simp [show 0 < (nodeAt xs j).pub by omega]
theorem memsTo_two {xs : List Node} (hc : checkB xs = true) {k : Nat} (hk : 2 * k < xs.length) : memsTo xs (2 * (k + 1)) = memsTo xs (2 * k) ++ (if 0 < (nodeAt xs (2 * k)).pub then [(nodeAt xs (2 * k)).member] else []) := by
  rw [show 2 * (k + 1) = 2 * k + 1 + 1 by omega, memsTo_no (isLeaf_odd (by omega))]
  rw [memsTo, leaf_pub hc hk (by omega)]
  simp
theorem memsTo_over {xs : List Node} : ∀ (m : Nat), memsTo xs (xs.length + m) = memsTo xs xs.length
  | 0 => rfl
  | m + 1 => by
    rw [← Nat.add_assoc, memsTo_no, memsTo_over m]
    have : nodeAt xs (xs.length + m) = default := by simp [nodeAt, List.getD_eq_getElem?_getD]
    simp [isLeaf, this]
    intro _; rfl
theorem membersL_eq {xs : List Node} : membersL xs = memsTo xs (2 * sizeN xs) := by
  unfold membersL
  by_cases hc : checkB xs = true
  · rw [if_pos hc]
    by_cases h0 : 0 < sizeN xs
    · have := sizeN_len h0
      rw [show 2 * sizeN xs = xs.length + 1 by omega, memsTo_over]
    · have h1 : sizeN xs = 0 := by omega
      rw [h1]
      rcases checkB_spec hc with h | ⟨h, _⟩
      · rw [h]
      · simp [sizeN, hc] at h1; exact absurd h1 h
  · rw [if_neg hc]
    have : sizeN xs = 0 := by simp [sizeN, hc]
    rw [this]; rfl
theorem memsTo_two' (xs : List Node) : ∀ k, (memsTo xs (2 * k)).length ≤ k
  | 0 => Nat.le_refl _
  | k + 1 => by
    rw [show 2 * (k + 1) = 2 * k + 1 + 1 by omega, memsTo_no (isLeaf_odd (by omega)), memsTo]
    have := memsTo_two' xs k
    split
    all_goals simp only [List.length_append, List.length_cons, List.length_nil]
    all_goals omega
theorem InR_mem {H : HM} {v : Value} {xs : List Node} (h : RdL H v xs) {j : Nat} (hj : j < xs.length) : InR (xs[j]).member := by
  obtain ⟨cs, _, u, _, _, h1, _⟩ := h.at [] j hj
  exact h1
theorem membersR_ok {B : World} {H : HM} {O : OL} {v : Value} {xs : List Node} (hT : TabAt H) (h : RdL H v xs) : CallsM Go.Proofs.Tryd.prog 32 [.agg #[v]].toArray B H O (MadeR (membersL xs) 3 H O) := by
  have hs := h.lenle
  refine enter Go.Proofs.Tryd.func32 rfl Go.Proofs.Tryd.ntmps32 (l := [(0, _)]) rfl rfl ?_
  refine x_seq ?_
  refine x_region rfl ?_
  refine o_box rfl (cs := [_]) rfl (fun b1 => ?_)
  refine o_y (y_assign rfl) ?_
  refine o_nil ?_
  refine x_seq ?_
  refine x_region rfl ?_
  refine o_y (y_assign rfl) ?_
  refine o_nil ?_
  refine x_seq ?_
  refine x_seq ?_
  refine x_region rfl ?_
  refine o_y (y_loadA ti29 rfl (by repeat (first | assumption | exact .z | apply In.s | apply In.a)) rfl) ?_
  refine o_call fn47 rfl (size_ok hT h) ?_
  rintro _ _ _ ⟨rfl, rfl, rfl⟩
  refine o_y (y_move rfl) ?_
  refine o_nil ?_
  refine x_block ?_
  refine x_loopf (σ := Nat × Value × OL) (fun s => [(8, .int .i64 (s.1 : Int)), (7, .int .i64 (sizeN xs : Int)), (3, s.2.1), (1, .pointer (some ⟨b1, 0, none⟩))]) (fun s => s.2.2 ++ ((b1, cl [v] 29) :: O)) (fun s => s.1 ≤ sizeN xs ∧ ∃ cs, Row s.2.1 (memsTo xs (2 * s.1)).length cs 3 1 s.2.2 ∧ El H cs (memsTo xs (2 * s.1))) (fun s => sizeN xs - s.1) (0, .slice none 0 0, []) ⟨by simp, [], Row.nil _ _, .n⟩ (.c rfl (.c rfl (.c rfl (.c rfl .n)))) rfl ?_
  rintro ⟨k, v3, R⟩ ⟨i1, cs, i2, i3⟩
  simp only at i1 i2 i3
  refine x_seq ?_
  refine x_region rfl ?_
  refine o_y (y_lss rfl rfl) ?_
  refine o_nil ?_
  refine x_seq ?_
  refine x_cond rfl (fun hc0 => ?_) (fun hc0 => ?_)
  · try simp only [k1, k2, k3, k4, k5, k6, k7, k8, k9] at hc0
    obtain ⟨hc, hk2, hk3, hk4⟩ := sizeN_len (xs := xs) (k := k) (by omega)
    have hml := memsTo_len xs (2 * k)
    have en := nodeAt_eq hk2
    refine x_skip ?_
    refine x_seq ?_
    refine x_block ?_
    refine x_seq ?_
    refine x_region rfl ?_
    refine o_y (y_move rfl) ?_
    refine o_y (y_assign rfl) ?_
    refine o_nil ?_
    refine x_seq ?_
    refine x_region rfl ?_
    refine o_y (y_fieldAddr fd29_0 ti27 (by decide) rfl) ?_
    refine o_y (y_loadO ti27 rfl (by repeat (first | assumption | exact .z | apply In.s | apply In.a)) rfl) ?_
    refine o_y (y_move rfl) ?_
    refine o_y (y_mulN rfl rfl (by omega) (by omega)) ?_
    obtain ⟨ce15, ae15, re15⟩ := RdL.at h _ (2 * k) hk2
    have se15 := AtS.isSl ae15
    have te15 := re15
    obtain ⟨u15_3, z15, q15_0, q15_1, q15_2, q15_3⟩ := re15
    subst z15
    have w15 := Rep.one te15
    refine o_y (y_idxL h (2 * k) hk2 Go.Proofs.Tryd.underlying27 ti72 rfl rfl (by omega)) ?_
    refine o_y (y_loadS ti72 rfl (by assumption) rfl (fun e => by cases e)) ?_
    refine o_alloc ti72 rfl (fun b5 => ?_)
    refine o_store (u := [_, _, _, _]) (C' := [_, _, _, _]) ti72 rfl rfl rfl rfl (by first | rfl | assumption | (simp only [ones, List.all_cons, List.all_nil, Bool.and_true, one_of (by assumption)]; done)) (by repeat (first | exact .z | apply Upd.s | apply Upd.a)) (by exact Nat.le_of_ble_eq_true rfl) (by rfl) ?_
    refine o_nil ?_
    refine x_seq ?_
    refine x_region rfl ?_
    refine o_y (y_fieldAddr fd72_0 ti3 (by decide) rfl) ?_
    refine o_y (y_loadO ti3 rfl (by repeat (first | assumption | exact .z | apply In.s | apply In.a)) rfl) ?_
    refine o_y (y_gtr rfl rfl) ?_
    refine o_nil ?_
    refine x_cond rfl (fun hc1 => ?_) (fun hc1 => ?_)
    · try simp only [k1, k2, k3, k4, k5, k6, k7, k8, k9] at hc1
      refine x_region rfl ?_
      refine o_y (y_move rfl) ?_
      refine o_y (y_fieldAddr fd72_1 ti3 (by decide) rfl) ?_
      refine o_y (y_loadO ti3 rfl (by repeat (first | assumption | exact .z | apply In.s | apply In.a)) rfl) ?_
      refine o_slice1 Go.Proofs.Tryd.underlying24 ti3 (by decide) (by decide) rfl rfl (C := [_]) rfl rfl (fun b23 => ?_)
      refine o_append Go.Proofs.Tryd.underlying24 ti3 rfl (by decide) rfl i2 rfl (At.all (by repeat (first | assumption | exact .z | apply In.s | apply In.a))) rfl rfl (by omega) (by omega) (by repeat (first | exact .o | exact .z | exact .e | apply Hole.s | apply Hole.g)) (fun v' R' j1 => ?_)
      refine o_y (y_assign rfl) ?_
      refine o_nil ?_
      refine x_region rfl ?_
      refine o_y (y_addN rfl rfl (by omega) (by omega)) ?_
      refine o_y (y_move rfl) ?_
      refine o_nil ?_
      first
      | exact ⟨(k + 1, v', R'), 2, rfl, (.c rfl (.c rfl (.c rfl (.c rfl .n)))), rfl, ⟨by omega, _, by rw [memsTo_two hc hk2, if_pos (by rw [en]; omega), List.length_append]; exact j1, by rw [memsTo_two hc hk2, if_pos (by rw [en]; omega), en]; exact i3.snoc ⟨rfl, by assumption⟩⟩, by simp only; omega⟩
      | exact ⟨(k + 1, v3, R), 1, rfl, (.c rfl (.c rfl (.c rfl (.c rfl .n)))), rfl, ⟨by omega, _, by rw [memsTo_two hc hk2, if_neg (by rw [en]; omega), List.append_nil]; exact i2, by rw [memsTo_two hc hk2, if_neg (by rw [en]; omega), List.append_nil]; exact i3⟩, by simp only; omega⟩
    · try simp only [k1, k2, k3, k4, k5, k6, k7, k8, k9] at hc1
      refine x_skip ?_
      refine x_region rfl ?_
      refine o_y (y_addN rfl rfl (by omega) (by omega)) ?_
      refine o_y (y_move rfl) ?_
      refine o_nil ?_
      first
      | exact ⟨(k + 1, v', R'), 2, rfl, (.c rfl (.c rfl (.c rfl (.c rfl .n)))), rfl, ⟨by omega, _, by rw [memsTo_two hc hk2, if_pos (by rw [en]; omega), List.length_append]; exact j1, by rw [memsTo_two hc hk2, if_pos (by rw [en]; omega), en]; exact i3.snoc ⟨rfl, by assumption⟩⟩, by simp only; omega⟩
      | exact ⟨(k + 1, v3, R), 1, rfl, (.c rfl (.c rfl (.c rfl (.c rfl .n)))), rfl, ⟨by omega, _, by rw [memsTo_two hc hk2, if_neg (by rw [en]; omega), List.append_nil]; exact i2, by rw [memsTo_two hc hk2, if_neg (by rw [en]; omega), List.append_nil]; exact i3⟩, by simp only; omega⟩
  · try simp only [k1, k2, k3, k4, k5, k6, k7, k8, k9] at hc0
    refine x_exit ?_
    refine x_seq ?_
    refine x_region rfl ?_
    refine o_y (y_move rfl) ?_
    refine o_y (y_assign rfl) ?_
    refine o_nil ?_
    have hk0 : k = sizeN xs := by omega
    subst hk0
    rw [← membersL_eq] at i2 i3
    refine x_pick (sub_mid R O _) ?_
    refine x_ret ?_
    refine x_fin 0 (ret1 rfl rfl) ?_
    exact ⟨rfl, R, cs, rfl, i2, i3⟩
theorem membersL_small {H : HM} {v : Value} {xs : List Node} (h : RdL H v xs) : (membersL xs).length ≤ 8 := by
  have h1 := memsTo_len xs (2 * sizeN xs)
  rw [← membersL_eq] at h1
  by_cases h0 : 0 < sizeN xs
  · have := sizeN_len h0
    have h2 := memsTo_two' xs (sizeN xs)
    rw [← membersL_eq] at h2; omega
  · have : sizeN xs = 0 := by omega
    rw [this] at h1; omega
theorem members_ok {B : World} {H : HM} {O : OL} {v : Value} {xs : List Node} (hT : TabAt H) (h : RdL H v xs) : CallsM Go.Proofs.Tryd.prog 32 [.agg #[v]].toArray B H O (Made (membersL xs) H O) :=
  (membersR_ok hT h).freeze (by have := membersL_small h; have e : Rep.bytes Int = 8 := rfl; rw [e]; omega)
end Go.Ph
