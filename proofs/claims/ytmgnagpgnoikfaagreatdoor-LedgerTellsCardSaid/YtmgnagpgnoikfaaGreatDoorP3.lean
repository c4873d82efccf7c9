/- What the claim stands on, part 3. -/
import Derived.Test.YtmgnagpgnoikfaaGreatDoorP2
set_option linter.unusedVariables false
set_option linter.unusedSimpArgs false
set_option maxRecDepth 100000
namespace Go.Ph
open Go Go.RowKit Go.Proofs.YtmgnagpgnoikfaaGreatDoor Go.Proofs.Tryz
theorem parts {xs : List Log} (hs : Sorted xs) (g : Int) : ∃ A D, (∀ x ∈ A, x.group < g) ∧ (∀ x ∈ D, g < x.group) ∧ A = xs.take (placeN xs g) ∧
    ((foundB xs g = true ∧ ∃ x, x.group = g ∧ xs = A ++ x :: D ∧ logAt xs (placeN xs g) = x ∧ D = xs.drop (placeN xs g + 1)) ∨ (foundB xs g = false ∧ xs = A ++ D ∧ D = xs.drop (placeN xs g))) := by
  obtain ⟨h1, h2⟩ := place_spec hs g
  have hA : ∀ x ∈ xs.take (placeN xs g), x.group < g := fun x hx => by
    obtain ⟨k, hk, rfl⟩ := List.getElem_of_mem hx
    rw [List.length_take] at hk
    rw [List.getElem_take]
    exact h1 k (by omega) (by omega)
  by_cases hf : foundB xs g = true
  · have hl := (of_decide_eq_true hf).1
    have hg := (of_decide_eq_true hf).2
    rw [grpAt_eq hl] at hg
    refine ⟨_, xs.drop (placeN xs g + 1), hA, fun x hx => ?_, rfl, .inl ⟨hf, xs[placeN xs g], hg, ?_, logAt_eq hl, rfl⟩⟩
    · obtain ⟨k, hk, rfl⟩ := List.getElem_of_mem hx
      rw [List.length_drop] at hk
      rw [List.getElem_drop]
      have := List.pairwise_iff_getElem.1 hs (placeN xs g) (placeN xs g + 1 + k) hl (by omega) (by omega)
      omega
    rw [← List.drop_eq_getElem_cons hl, List.take_append_drop]
  rw [Bool.not_eq_true] at hf
  refine ⟨_, xs.drop (placeN xs g), hA, fun x hx => ?_, rfl, .inr ⟨hf, (List.take_append_drop _ _).symm, rfl⟩⟩
  obtain ⟨k, hk, rfl⟩ := List.getElem_of_mem hx
  rw [List.length_drop] at hk
  rw [List.getElem_drop]
  have h3 := h2 (placeN xs g + k) (by omega) (by omega)
  by_cases e : k = 0
  · subst e
    have h4 : xs[placeN xs g + 0].group ≠ g := fun e => by
      have : foundB xs g = true := decide_eq_true ⟨by omega, by rw [grpAt_eq (by omega)]; exact e⟩
      rw [hf] at this; cases this
    omega
  have := List.pairwise_iff_getElem.1 hs (placeN xs g) (placeN xs g + k) (by omega) (by omega) (by omega)
  have h5 := h2 (placeN xs g) (Nat.le_refl _) (by omega)
  omega
theorem commitsOf_spec {xs : List Log} (h : lcheckB xs = true) (g : Int) : (∀ x ∈ xs, x.group = g → commitsOf xs g = x.commits) ∧ ((∀ x ∈ xs, x.group ≠ g) → commitsOf xs g = []) ∧ (foundB xs g = true ↔ ∃ x ∈ xs, x.group = g) := by
  obtain ⟨A, D, hA, hD, _, hh⟩ := parts (lcheck_spec.1 h).2.1 g
  rcases hh with ⟨hf, x, hx, hxs, hl, _⟩ | ⟨hf, hxs, _⟩
  · have e : commitsOf xs g = x.commits := by rw [commitsOf, if_pos ⟨hf, h⟩, hl]
    refine ⟨fun y hy hg => ?_, fun hn => absurd hx (hn x (by rw [hxs]; simp)), ⟨fun _ => ⟨x, by rw [hxs]; simp, hx⟩, fun _ => hf⟩⟩
    rw [hxs] at hy
    rcases List.mem_append.1 hy with hy | hy
    · have := hA y hy; omega
    rcases List.mem_cons.1 hy with rfl | hy
    · exact e
    have := hD y hy; omega
  have hn : ∀ y ∈ xs, y.group ≠ g := fun y hy => by
    rw [hxs] at hy
    rcases List.mem_append.1 hy with hy | hy
    · have := hA y hy; omega
    have := hD y hy; omega
  refine ⟨fun y hy hg => absurd hg (hn y hy), fun _ => by rw [commitsOf, if_neg (by rw [hf]; simp)], ⟨fun h => (by rw [hf] at h; cases h), fun ⟨y, hy, hg⟩ => absurd hg (hn y hy)⟩⟩
theorem sum_mem : ∀ {l : List Nat} {x : Nat}, x ∈ l → x ≤ l.sum
  | y :: l, x, h => by
    rw [List.sum_cons]
    rcases List.mem_cons.1 h with rfl | h
    · omega
    have := sum_mem h; omega
end Go.Ph
set_option linter.unusedVariables false
set_option linter.unusedSimpArgs false
set_option maxRecDepth 100000
namespace Go.Ph
open Go Go.RowKit Go.Proofs.YtmgnagpgnoikfaaGreatDoor Go.Proofs.Tryz
theorem add_eq (x y : AddE) : ([x.member, x.epoch, x.pub] : List Int) = [y.member, y.epoch, y.pub] ↔ x = y := by cases x; cases y; simp
theorem seal_eq (x y : Seal) : ([x.at_, x.to_, x.term_] : List Int) = [y.at_, y.to_, y.term_] ↔ x = y := by cases x; cases y; simp
theorem join_eq (x y : Join) : ([x.member, x.term_] : List Int) = [y.member, y.term_] ↔ x = y := by cases x; cases y; simp
theorem take_same {α : Type} {xs ys : List α} (h : xs.length = ys.length) (h2 : xs.take xs.length = ys.take xs.length) : xs = ys := by
  rw [List.take_length, List.take_of_length_le (by omega)] at h2; exact h2
theorem sameAdds_ok {B : World} {H : HM} {O : OL} {v u : Value} {xs ys : List AddE} (h : RdL H v xs) (hu : RdL H u ys) : CallsM prog 168 [v, u].toArray B H O (Same (.bool (decide (xs = ys))) H O) := by
  have hs := h.lenle
  have hs2 := hu.lenle
  refine enter func168 rfl ntmps168 (l := [(0, _), (1, _)]) rfl rfl ?_
  refine x_seq ?_
  refine x_region rfl ?_
  refine o_y (y_assign rfl) ?_
  refine o_nil ?_
  refine x_seq ?_
  refine x_seq ?_
  refine x_region rfl ?_
  refine o_y (y_move rfl) ?_
  refine o_y (y_lenA underlying23 rfl) ?_
  refine o_y (y_move rfl) ?_
  refine o_y (y_lenA underlying23 rfl) ?_
  refine o_y (y_neq rfl rfl) ?_
  refine o_nil ?_
  refine x_cond rfl (fun hc0 => ?_) (fun hc0 => ?_)
  · try simp only [kk] at hc0
    refine x_seq ?_
    refine x_region rfl ?_
    refine o_y (y_assign rfl) ?_
    refine o_nil ?_
    refine x_ret ?_
    refine x_fin 0 (ret1 rfl rfl) ?_
    have hne : ¬ xs = ys := fun e => by subst e; omega
    rw [decide_eq_false hne]; exact ⟨rfl, rfl, rfl⟩
  try simp only [kk] at hc0
  refine x_skip ?_
  refine x_seq ?_
  refine x_seq ?_
  refine x_region rfl ?_
  refine o_y (y_move rfl) ?_
  refine o_y (y_lenA underlying23 rfl) ?_
  refine o_y (y_move rfl) ?_
  refine o_nil ?_
  refine x_block ?_
  refine x_loopf (σ := Nat) (fun s => [(13, .int .i64 (s : Int)), (12, .int .i64 (xs.length : Int)), (0, v), (1, u)]) (fun s => O) (fun s => s ≤ xs.length ∧ xs.take s = ys.take s) (fun s => xs.length - s) 0 ⟨by simp, by simp⟩ (.c rfl (.c rfl (.c rfl (.c rfl .n)))) rfl ?_
  rintro k ⟨i1, i2⟩
  refine x_seq ?_
  refine x_region rfl ?_
  refine o_y (y_lss rfl rfl) ?_
  refine o_nil ?_
  refine x_seq ?_
  refine x_cond rfl (fun hc1 => ?_) (fun hc1 => ?_)
  · try simp only [kk] at hc1
    have hk : k < xs.length := by omega
    have hk2 : k < ys.length := by omega
    refine x_skip ?_
    refine x_seq ?_
    refine x_block ?_
    refine x_seq ?_
    refine x_region rfl ?_
    refine o_y (y_move rfl) ?_
    refine o_y (y_assign rfl) ?_
    refine o_nil ?_
    refine x_seq ?_
    refine x_regionQ mixed (by kernel_rfl) rfl ?_
    refine q_y (y_move rfl) ?_
    refine q_y (y_move rfl) ?_
    obtain ⟨ce18, ae18, re18⟩ := RdL.at h _ k hk
    have se18 := AtS.isSl ae18
    have te18 := re18
    obtain ⟨z18, q18_0, q18_1, q18_2⟩ := re18
    subst z18
    have w18 := Rep.one te18
    refine q_y (y_idxL h k hk underlying23 ti131 rfl rfl (by omega)) ?_
    refine q_y (y_loadS ti131 rfl (by assumption) rfl (fun e => by cases e)) ?_
    refine q_y (y_move rfl) ?_
    refine q_y (y_move rfl) ?_
    obtain ⟨ce22, ae22, re22⟩ := RdL.at hu _ k hk2
    have se22 := AtS.isSl ae22
    have te22 := re22
    obtain ⟨z22, q22_0, q22_1, q22_2⟩ := re22
    subst z22
    have w22 := Rep.one te22
    refine q_y (y_idxL hu k hk2 underlying23 ti131 rfl rfl (by omega)) ?_
    refine q_y (y_loadS ti131 rfl (by assumption) rfl (fun e => by cases e)) ?_
    refine q_y (y_neqS ei131 (ps := [_, _, _]) (qs := [_, _, _]) rfl rfl rfl rfl) ?_
    refine q_nil ?_
    refine x_cond rfl (fun hc2 => ?_) (fun hc2 => ?_)
    · try simp only [kk] at hc2
      refine x_seq ?_
      refine x_region rfl ?_
      refine o_y (y_assign rfl) ?_
      refine o_nil ?_
      refine x_ret ?_
      refine x_fin 0 (ret1 rfl rfl) ?_
      have hne : ¬ xs = ys := fun e => by subst e; exact absurd rfl hc2
      rw [decide_eq_false hne]; exact ⟨rfl, rfl, rfl⟩
    try simp only [kk] at hc2
    refine x_skip ?_
    refine x_region rfl ?_
    refine o_y (y_addN rfl rfl (by omega) (by omega)) ?_
    refine o_y (y_move rfl) ?_
    refine o_nil ?_
    exact ⟨k + 1, 0, rfl, (.c rfl (.c rfl (.c rfl (.c rfl .n)))), rfl, ⟨by omega, by rw [take_next hk, take_next hk2, i2, (add_eq _ _).1 hc2]⟩, by omega⟩
  try simp only [kk] at hc1
  refine x_exit ?_
  refine x_seq ?_
  refine x_region rfl ?_
  refine o_y (y_assign rfl) ?_
  refine o_nil ?_
  refine x_ret ?_
  refine x_fin 0 (ret1 rfl rfl) ?_
  obtain rfl : k = xs.length := by omega
  rw [decide_eq_true (take_same (by omega) i2)]; exact ⟨rfl, rfl, rfl⟩
theorem sameSeals_ok {B : World} {H : HM} {O : OL} {v u : Value} {xs ys : List Seal} (h : RdL H v xs) (hu : RdL H u ys) : CallsM prog 169 [v, u].toArray B H O (Same (.bool (decide (xs = ys))) H O) := by
  have hs := h.lenle
  have hs2 := hu.lenle
  refine enter func169 rfl ntmps169 (l := [(0, _), (1, _)]) rfl rfl ?_
  refine x_seq ?_
  refine x_region rfl ?_
  refine o_y (y_assign rfl) ?_
  refine o_nil ?_
  refine x_seq ?_
  refine x_seq ?_
  refine x_region rfl ?_
  refine o_y (y_move rfl) ?_
  refine o_y (y_lenA underlying25 rfl) ?_
  refine o_y (y_move rfl) ?_
  refine o_y (y_lenA underlying25 rfl) ?_
  refine o_y (y_neq rfl rfl) ?_
  refine o_nil ?_
  refine x_cond rfl (fun hc0 => ?_) (fun hc0 => ?_)
  · try simp only [kk] at hc0
    refine x_seq ?_
    refine x_region rfl ?_
    refine o_y (y_assign rfl) ?_
    refine o_nil ?_
    refine x_ret ?_
    refine x_fin 0 (ret1 rfl rfl) ?_
    have hne : ¬ xs = ys := fun e => by subst e; omega
    rw [decide_eq_false hne]; exact ⟨rfl, rfl, rfl⟩
  try simp only [kk] at hc0
  refine x_skip ?_
  refine x_seq ?_
  refine x_seq ?_
  refine x_region rfl ?_
  refine o_y (y_move rfl) ?_
  refine o_y (y_lenA underlying25 rfl) ?_
  refine o_y (y_move rfl) ?_
  refine o_nil ?_
  refine x_block ?_
  refine x_loopf (σ := Nat) (fun s => [(13, .int .i64 (s : Int)), (12, .int .i64 (xs.length : Int)), (0, v), (1, u)]) (fun s => O) (fun s => s ≤ xs.length ∧ xs.take s = ys.take s) (fun s => xs.length - s) 0 ⟨by simp, by simp⟩ (.c rfl (.c rfl (.c rfl (.c rfl .n)))) rfl ?_
  rintro k ⟨i1, i2⟩
  refine x_seq ?_
  refine x_region rfl ?_
  refine o_y (y_lss rfl rfl) ?_
  refine o_nil ?_
  refine x_seq ?_
  refine x_cond rfl (fun hc1 => ?_) (fun hc1 => ?_)
  · try simp only [kk] at hc1
    have hk : k < xs.length := by omega
    have hk2 : k < ys.length := by omega
    refine x_skip ?_
    refine x_seq ?_
    refine x_block ?_
    refine x_seq ?_
    refine x_region rfl ?_
    refine o_y (y_move rfl) ?_
    refine o_y (y_assign rfl) ?_
    refine o_nil ?_
    refine x_seq ?_
    refine x_regionQ mixed (by kernel_rfl) rfl ?_
    refine q_y (y_move rfl) ?_
    refine q_y (y_move rfl) ?_
    obtain ⟨ce18, ae18, re18⟩ := RdL.at h _ k hk
    have se18 := AtS.isSl ae18
    have te18 := re18
    obtain ⟨z18, q18_0, q18_1, q18_2⟩ := re18
    subst z18
    have w18 := Rep.one te18
    refine q_y (y_idxL h k hk underlying25 ti135 rfl rfl (by omega)) ?_
    refine q_y (y_loadS ti135 rfl (by assumption) rfl (fun e => by cases e)) ?_
    refine q_y (y_move rfl) ?_
    refine q_y (y_move rfl) ?_
    obtain ⟨ce22, ae22, re22⟩ := RdL.at hu _ k hk2
    have se22 := AtS.isSl ae22
    have te22 := re22
    obtain ⟨z22, q22_0, q22_1, q22_2⟩ := re22
    subst z22
    have w22 := Rep.one te22
    refine q_y (y_idxL hu k hk2 underlying25 ti135 rfl rfl (by omega)) ?_
    refine q_y (y_loadS ti135 rfl (by assumption) rfl (fun e => by cases e)) ?_
    refine q_y (y_neqS ei135 (ps := [_, _, _]) (qs := [_, _, _]) rfl rfl rfl rfl) ?_
    refine q_nil ?_
    refine x_cond rfl (fun hc2 => ?_) (fun hc2 => ?_)
    · try simp only [kk] at hc2
      refine x_seq ?_
      refine x_region rfl ?_
      refine o_y (y_assign rfl) ?_
      refine o_nil ?_
      refine x_ret ?_
      refine x_fin 0 (ret1 rfl rfl) ?_
      have hne : ¬ xs = ys := fun e => by subst e; exact absurd rfl hc2
      rw [decide_eq_false hne]; exact ⟨rfl, rfl, rfl⟩
    try simp only [kk] at hc2
    refine x_skip ?_
    refine x_region rfl ?_
    refine o_y (y_addN rfl rfl (by omega) (by omega)) ?_
    refine o_y (y_move rfl) ?_
    refine o_nil ?_
    exact ⟨k + 1, 0, rfl, (.c rfl (.c rfl (.c rfl (.c rfl .n)))), rfl, ⟨by omega, by rw [take_next hk, take_next hk2, i2, (seal_eq _ _).1 hc2]⟩, by omega⟩
  try simp only [kk] at hc1
  refine x_exit ?_
  refine x_seq ?_
  refine x_region rfl ?_
  refine o_y (y_assign rfl) ?_
  refine o_nil ?_
  refine x_ret ?_
  refine x_fin 0 (ret1 rfl rfl) ?_
  obtain rfl : k = xs.length := by omega
  rw [decide_eq_true (take_same (by omega) i2)]; exact ⟨rfl, rfl, rfl⟩
theorem sameJoins_ok {B : World} {H : HM} {O : OL} {v u : Value} {xs ys : List Join} (h : RdL H v xs) (hu : RdL H u ys) : CallsM prog 170 [v, u].toArray B H O (Same (.bool (decide (xs = ys))) H O) := by
  have hs := h.lenle
  have hs2 := hu.lenle
  refine enter func170 rfl ntmps170 (l := [(0, _), (1, _)]) rfl rfl ?_
  refine x_seq ?_
  refine x_region rfl ?_
  refine o_y (y_assign rfl) ?_
  refine o_nil ?_
  refine x_seq ?_
  refine x_seq ?_
  refine x_region rfl ?_
  refine o_y (y_move rfl) ?_
  refine o_y (y_lenA underlying26 rfl) ?_
  refine o_y (y_move rfl) ?_
  refine o_y (y_lenA underlying26 rfl) ?_
  refine o_y (y_neq rfl rfl) ?_
  refine o_nil ?_
  refine x_cond rfl (fun hc0 => ?_) (fun hc0 => ?_)
  · try simp only [kk] at hc0
    refine x_seq ?_
    refine x_region rfl ?_
    refine o_y (y_assign rfl) ?_
    refine o_nil ?_
    refine x_ret ?_
    refine x_fin 0 (ret1 rfl rfl) ?_
    have hne : ¬ xs = ys := fun e => by subst e; omega
    rw [decide_eq_false hne]; exact ⟨rfl, rfl, rfl⟩
  try simp only [kk] at hc0
  refine x_skip ?_
  refine x_seq ?_
  refine x_seq ?_
  refine x_region rfl ?_
  refine o_y (y_move rfl) ?_
  refine o_y (y_lenA underlying26 rfl) ?_
  refine o_y (y_move rfl) ?_
  refine o_nil ?_
  refine x_block ?_
  refine x_loopf (σ := Nat) (fun s => [(13, .int .i64 (s : Int)), (12, .int .i64 (xs.length : Int)), (0, v), (1, u)]) (fun s => O) (fun s => s ≤ xs.length ∧ xs.take s = ys.take s) (fun s => xs.length - s) 0 ⟨by simp, by simp⟩ (.c rfl (.c rfl (.c rfl (.c rfl .n)))) rfl ?_
  rintro k ⟨i1, i2⟩
  refine x_seq ?_
  refine x_region rfl ?_
  refine o_y (y_lss rfl rfl) ?_
  refine o_nil ?_
  refine x_seq ?_
  refine x_cond rfl (fun hc1 => ?_) (fun hc1 => ?_)
  · try simp only [kk] at hc1
    have hk : k < xs.length := by omega
    have hk2 : k < ys.length := by omega
    refine x_skip ?_
    refine x_seq ?_
    refine x_block ?_
    refine x_seq ?_
    refine x_region rfl ?_
    refine o_y (y_move rfl) ?_
    refine o_y (y_assign rfl) ?_
    refine o_nil ?_
    refine x_seq ?_
    refine x_regionQ mixed (by kernel_rfl) rfl ?_
    refine q_y (y_move rfl) ?_
    refine q_y (y_move rfl) ?_
    obtain ⟨ce18, ae18, re18⟩ := RdL.at h _ k hk
    have se18 := AtS.isSl ae18
    have te18 := re18
    obtain ⟨z18, q18_0, q18_1⟩ := re18
    subst z18
    have w18 := Rep.one te18
    refine q_y (y_idxL h k hk underlying26 ti138 rfl rfl (by omega)) ?_
    refine q_y (y_loadS ti138 rfl (by assumption) rfl (fun e => by cases e)) ?_
    refine q_y (y_move rfl) ?_
    refine q_y (y_move rfl) ?_
    obtain ⟨ce22, ae22, re22⟩ := RdL.at hu _ k hk2
    have se22 := AtS.isSl ae22
    have te22 := re22
    obtain ⟨z22, q22_0, q22_1⟩ := re22
    subst z22
    have w22 := Rep.one te22
    refine q_y (y_idxL hu k hk2 underlying26 ti138 rfl rfl (by omega)) ?_
    refine q_y (y_loadS ti138 rfl (by assumption) rfl (fun e => by cases e)) ?_
    refine q_y (y_neqS ei138 (ps := [_, _]) (qs := [_, _]) rfl rfl rfl rfl) ?_
    refine q_nil ?_
    refine x_cond rfl (fun hc2 => ?_) (fun hc2 => ?_)
    · try simp only [kk] at hc2
      refine x_seq ?_
      refine x_region rfl ?_
      refine o_y (y_assign rfl) ?_
      refine o_nil ?_
      refine x_ret ?_
      refine x_fin 0 (ret1 rfl rfl) ?_
      have hne : ¬ xs = ys := fun e => by subst e; exact absurd rfl hc2
      rw [decide_eq_false hne]; exact ⟨rfl, rfl, rfl⟩
    try simp only [kk] at hc2
    refine x_skip ?_
    refine x_region rfl ?_
    refine o_y (y_addN rfl rfl (by omega) (by omega)) ?_
    refine o_y (y_move rfl) ?_
    refine o_nil ?_
    exact ⟨k + 1, 0, rfl, (.c rfl (.c rfl (.c rfl (.c rfl .n)))), rfl, ⟨by omega, by rw [take_next hk, take_next hk2, i2, (join_eq _ _).1 hc2]⟩, by omega⟩
  try simp only [kk] at hc1
  refine x_exit ?_
  refine x_seq ?_
  refine x_region rfl ?_
  refine o_y (y_assign rfl) ?_
  refine o_nil ?_
  refine x_ret ?_
  refine x_fin 0 (ret1 rfl rfl) ?_
  obtain rfl : k = xs.length := by omega
  rw [decide_eq_true (take_same (by omega) i2)]; exact ⟨rfl, rfl, rfl⟩
end Go.Ph
set_option linter.unusedVariables false
set_option linter.unusedSimpArgs false
set_option maxRecDepth 100000
namespace Go.Ph
open Go Go.RowKit Go.Proofs.YtmgnagpgnoikfaaGreatDoor Go.Proofs.Tryz
theorem sameNode_ok {B : World} {H : HM} {O : OL} {cs ds : List Value} {x y : Node} (h : Rep.rd H cs x) (hu : Rep.rd H ds y) : CallsM prog 288 [.agg cs.toArray, .agg ds.toArray].toArray B H O (Same (.bool (decide (x = y))) H O) := by
  obtain ⟨u3, rfl, h0, h1, h2, h3⟩ := h
  obtain ⟨v3, rfl, g0, g1, g2, g3⟩ := hu
  refine enter func288 rfl ntmps288 (l := [(0, _), (1, _)]) rfl rfl ?_
  refine x_seq ?_
  refine x_region rfl ?_
  refine o_box rfl (cs := [_, _, _, _]) rfl (fun b2 => ?_)
  refine o_box rfl (cs := [_, _, _, _]) rfl (fun b3 => ?_)
  refine o_y (y_assign rfl) ?_
  refine o_nil ?_
  refine x_seq ?_
  refine x_region rfl ?_
  refine o_y (y_fieldAddr fd127_0 ti3 (by decide) rfl) ?_
  refine o_y (y_loadO ti3 rfl inn rfl) ?_
  refine o_y (y_fieldAddr fd127_0 ti3 (by decide) rfl) ?_
  refine o_y (y_loadO ti3 rfl inn rfl) ?_
  refine o_y (y_eql rfl rfl) ?_
  refine o_y (y_move rfl) ?_
  refine o_split 10 rfl (fun hg1_10 => ?_) (fun hg1_10 => ?_)
  · try simp only [kk] at hg1_10
    refine o_gy 10 rfl rfl (y_fieldAddr fd127_1 ti3 (by decide) rfl) ?_
    refine o_gy 10 rfl rfl (y_loadO ti3 rfl inn rfl) ?_
    refine o_gy 10 rfl rfl (y_fieldAddr fd127_1 ti3 (by decide) rfl) ?_
    refine o_gy 10 rfl rfl (y_loadO ti3 rfl inn rfl) ?_
    refine o_gy 10 rfl rfl (y_eql rfl rfl) ?_
    refine o_y (y_pick rfl rfl) ?_
    refine o_y (y_move rfl) ?_
    refine o_split 17 rfl (fun hg1_17 => ?_) (fun hg1_17 => ?_)
    · try simp only [kk] at hg1_17
      refine o_gy 17 rfl rfl (y_fieldAddr fd127_2 ti3 (by decide) rfl) ?_
      refine o_gy 17 rfl rfl (y_loadO ti3 rfl inn rfl) ?_
      refine o_gy 17 rfl rfl (y_fieldAddr fd127_2 ti3 (by decide) rfl) ?_
      refine o_gy 17 rfl rfl (y_loadO ti3 rfl inn rfl) ?_
      refine o_gy 17 rfl rfl (y_eql rfl rfl) ?_
      refine o_y (y_pick rfl rfl) ?_
      refine o_y (y_move rfl) ?_
      refine o_split 24 rfl (fun hg1_24 => ?_) (fun hg1_24 => ?_)
      · try simp only [kk] at hg1_24
        refine o_gy 24 rfl rfl (y_fieldAddr fd127_3 ti24 (by decide) rfl) ?_
        refine o_gy 24 rfl rfl (y_loadO ti24 rfl inn rfl) ?_
        refine o_gy 24 rfl rfl (y_fieldAddr fd127_3 ti24 (by decide) rfl) ?_
        refine o_gy 24 rfl rfl (y_loadO ti24 rfl inn rfl) ?_
        refine o_gcall 24 rfl rfl fn30 rfl (sameNumbers_ok h3 g3) ?_
        rintro _ _ _ ⟨rfl, rfl, rfl⟩
        refine o_y (y_pick rfl rfl) ?_
        refine o_y (y_assign rfl) ?_
        refine o_nil ?_
        refine x_ret ?_
        refine x_fin 2 (ret1 rfl rfl) ?_
        refine ⟨?_, rfl, rfl⟩
        first
          | (have hne : ¬ x = y := fun e => by
               subst e
               first | exact absurd rfl hg1_10 | exact absurd rfl hg1_17 | exact absurd rfl hg1_24
             rw [decide_eq_false hne]; done)
          | (congr 2; apply propext; constructor
             · intro e; cases x; cases y; simp_all
             intro e; rw [e])
      try simp only [kk] at hg1_24
      refine o_gn 24 rfl rfl rfl ?_
      refine o_gn 24 rfl rfl rfl ?_
      refine o_gn 24 rfl rfl rfl ?_
      refine o_gn 24 rfl rfl rfl ?_
      refine o_gn 24 rfl rfl rfl ?_
      refine o_y (y_pick rfl rfl) ?_
      refine o_y (y_assign rfl) ?_
      refine o_nil ?_
      refine x_ret ?_
      refine x_fin 2 (ret1 rfl rfl) ?_
      refine ⟨?_, rfl, rfl⟩
      first
        | (have hne : ¬ x = y := fun e => by
             subst e
             first | exact absurd rfl hg1_10 | exact absurd rfl hg1_17 | exact absurd rfl hg1_24
           rw [decide_eq_false hne]; done)
        | (congr 2; apply propext; constructor
           · intro e; cases x; cases y; simp_all
           intro e; rw [e])
    try simp only [kk] at hg1_17
    refine o_gn 17 rfl rfl rfl ?_
    refine o_gn 17 rfl rfl rfl ?_
    refine o_gn 17 rfl rfl rfl ?_
    refine o_gn 17 rfl rfl rfl ?_
    refine o_gn 17 rfl rfl rfl ?_
    refine o_y (y_pick rfl rfl) ?_
    refine o_y (y_move rfl) ?_
    refine o_gn 24 rfl rfl rfl ?_
    refine o_gn 24 rfl rfl rfl ?_
    refine o_gn 24 rfl rfl rfl ?_
    refine o_gn 24 rfl rfl rfl ?_
    refine o_gn 24 rfl rfl rfl ?_
    refine o_y (y_pick rfl rfl) ?_
    refine o_y (y_assign rfl) ?_
    refine o_nil ?_
    refine x_ret ?_
    refine x_fin 2 (ret1 rfl rfl) ?_
    refine ⟨?_, rfl, rfl⟩
    first
      | (have hne : ¬ x = y := fun e => by
           subst e
           first | exact absurd rfl hg1_10 | exact absurd rfl hg1_17 | exact absurd rfl hg1_24
         rw [decide_eq_false hne]; done)
      | (congr 2; apply propext; constructor
         · intro e; cases x; cases y; simp_all
         intro e; rw [e])
  try simp only [kk] at hg1_10
  refine o_gn 10 rfl rfl rfl ?_
  refine o_gn 10 rfl rfl rfl ?_
  refine o_gn 10 rfl rfl rfl ?_
  refine o_gn 10 rfl rfl rfl ?_
  refine o_gn 10 rfl rfl rfl ?_
  refine o_y (y_pick rfl rfl) ?_
  refine o_y (y_move rfl) ?_
  refine o_gn 17 rfl rfl rfl ?_
  refine o_gn 17 rfl rfl rfl ?_
  refine o_gn 17 rfl rfl rfl ?_
  refine o_gn 17 rfl rfl rfl ?_
  refine o_gn 17 rfl rfl rfl ?_
  refine o_y (y_pick rfl rfl) ?_
  refine o_y (y_move rfl) ?_
  refine o_gn 24 rfl rfl rfl ?_
  refine o_gn 24 rfl rfl rfl ?_
  refine o_gn 24 rfl rfl rfl ?_
  refine o_gn 24 rfl rfl rfl ?_
  refine o_gn 24 rfl rfl rfl ?_
  refine o_y (y_pick rfl rfl) ?_
  refine o_y (y_assign rfl) ?_
  refine o_nil ?_
  refine x_ret ?_
  refine x_fin 2 (ret1 rfl rfl) ?_
  refine ⟨?_, rfl, rfl⟩
  first
    | (have hne : ¬ x = y := fun e => by
         subst e
         first | exact absurd rfl hg1_10 | exact absurd rfl hg1_17 | exact absurd rfl hg1_24
       rw [decide_eq_false hne]; done)
    | (congr 2; apply propext; constructor
       · intro e; cases x; cases y; simp_all
       intro e; rw [e])
theorem sameNodes_ok {B : World} {H : HM} {O : OL} {v u : Value} {xs ys : List Node} (h : RdL H v xs) (hu : RdL H u ys) : CallsM prog 261 [v, u].toArray B H O (Same (.bool (decide (xs = ys))) H O) := by
  have hs := h.lenle
  have hs2 := hu.lenle
  refine enter func261 rfl ntmps261 (l := [(0, _), (1, _)]) rfl rfl ?_
  refine x_seq ?_
  refine x_region rfl ?_
  refine o_y (y_assign rfl) ?_
  refine o_nil ?_
  refine x_seq ?_
  refine x_seq ?_
  refine x_region rfl ?_
  refine o_y (y_move rfl) ?_
  refine o_y (y_lenA underlying27 rfl) ?_
  refine o_y (y_move rfl) ?_
  refine o_y (y_lenA underlying27 rfl) ?_
  refine o_y (y_neq rfl rfl) ?_
  refine o_nil ?_
  refine x_cond rfl (fun hc0 => ?_) (fun hc0 => ?_)
  · try simp only [kk] at hc0
    refine x_seq ?_
    refine x_region rfl ?_
    refine o_y (y_assign rfl) ?_
    refine o_nil ?_
    refine x_ret ?_
    refine x_fin 0 (ret1 rfl rfl) ?_
    have hne : ¬ xs = ys := fun e => by subst e; omega
    rw [decide_eq_false hne]; exact ⟨rfl, rfl, rfl⟩
  try simp only [kk] at hc0
  refine x_skip ?_
  refine x_seq ?_
  refine x_seq ?_
  refine x_region rfl ?_
  refine o_y (y_move rfl) ?_
  refine o_y (y_lenA underlying27 rfl) ?_
  refine o_y (y_move rfl) ?_
  refine o_nil ?_
  refine x_block ?_
  refine x_loopf (σ := Nat) (fun s => [(13, .int .i64 (s : Int)), (12, .int .i64 (xs.length : Int)), (0, v), (1, u)]) (fun s => O) (fun s => s ≤ xs.length ∧ xs.take s = ys.take s) (fun s => xs.length - s) 0 ⟨by simp, by simp⟩ (.c rfl (.c rfl (.c rfl (.c rfl .n)))) rfl ?_
  rintro k ⟨i1, i2⟩
  refine x_seq ?_
  refine x_region rfl ?_
  refine o_y (y_lss rfl rfl) ?_
  refine o_nil ?_
  refine x_seq ?_
  refine x_cond rfl (fun hc1 => ?_) (fun hc1 => ?_)
  · try simp only [kk] at hc1
    have hk : k < xs.length := by omega
    have hk2 : k < ys.length := by omega
    refine x_skip ?_
    refine x_seq ?_
    refine x_block ?_
    refine x_seq ?_
    refine x_region rfl ?_
    refine o_y (y_move rfl) ?_
    refine o_y (y_assign rfl) ?_
    refine o_nil ?_
    refine x_seq ?_
    refine x_regionQ mixed (by kernel_rfl) rfl ?_
    refine q_y (y_move rfl) ?_
    refine q_y (y_move rfl) ?_
    obtain ⟨ce18, ae18, re18⟩ := RdL.at h _ k hk
    have se18 := AtS.isSl ae18
    have te18 := re18
    obtain ⟨u18_3, z18, q18_0, q18_1, q18_2, q18_3⟩ := re18
    subst z18
    have w18 := Rep.one te18
    refine q_y (y_idxL h k hk underlying27 ti127 rfl rfl (by omega)) ?_
    refine q_y (y_loadS ti127 rfl (by assumption) rfl (fun e => by cases e)) ?_
    refine q_y (y_move rfl) ?_
    refine q_y (y_move rfl) ?_
    obtain ⟨ce22, ae22, re22⟩ := RdL.at hu _ k hk2
    have se22 := AtS.isSl ae22
    have te22 := re22
    obtain ⟨u22_3, z22, q22_0, q22_1, q22_2, q22_3⟩ := re22
    subst z22
    have w22 := Rep.one te22
    refine q_y (y_idxL hu k hk2 underlying27 ti127 rfl rfl (by omega)) ?_
    refine q_y (y_loadS ti127 rfl (by assumption) rfl (fun e => by cases e)) ?_
    refine q_call fn288 rfl (sameNode_ok te18 te22) ?_
    refine q_y (y_not rfl) ?_
    refine q_nil ?_
    refine x_cond rfl (fun hc2 => ?_) (fun hc2 => ?_)
    · try simp only [kk] at hc2
      refine x_seq ?_
      refine x_region rfl ?_
      refine o_y (y_assign rfl) ?_
      refine o_nil ?_
      refine x_ret ?_
      refine x_fin 0 (ret1 rfl rfl) ?_
      have hne : ¬ xs = ys := fun e => by subst e; exact absurd rfl hc2
      rw [decide_eq_false hne]; exact ⟨rfl, rfl, rfl⟩
    try simp only [kk] at hc2
    refine x_skip ?_
    refine x_region rfl ?_
    refine o_y (y_addN rfl rfl (by omega) (by omega)) ?_
    refine o_y (y_move rfl) ?_
    refine o_nil ?_
    exact ⟨k + 1, 0, rfl, (.c rfl (.c rfl (.c rfl (.c rfl .n)))), rfl, ⟨by omega, by rw [take_next hk, take_next hk2, i2, hc2]⟩, by omega⟩
  try simp only [kk] at hc1
  refine x_exit ?_
  refine x_seq ?_
  refine x_region rfl ?_
  refine o_y (y_assign rfl) ?_
  refine o_nil ?_
  refine x_ret ?_
  refine x_fin 0 (ret1 rfl rfl) ?_
  obtain rfl : k = xs.length := by omega
  rw [decide_eq_true (take_same (by omega) i2)]; exact ⟨rfl, rfl, rfl⟩
theorem sameTree_ok {B : World} {H : HM} {O : OL} {v u : Value} {xs ys : List Node} (h : RdL H v xs) (hu : RdL H u ys) : CallsM prog 167 [.agg #[v], .agg #[u]].toArray B H O (Same (.bool (decide (xs = ys))) H O) := by
  refine enter func167 rfl ntmps167 (l := [(0, _), (1, _)]) rfl rfl ?_
  refine x_seq ?_
  refine x_region rfl ?_
  refine o_box rfl (cs := [_]) rfl (fun b2 => ?_)
  refine o_box rfl (cs := [_]) rfl (fun b3 => ?_)
  refine o_y (y_assign rfl) ?_
  refine o_nil ?_
  refine x_seq ?_
  refine x_region rfl ?_
  refine o_y (y_fieldAddr fd29_0 ti27 (by decide) rfl) ?_
  refine o_y (y_loadO ti27 rfl inn rfl) ?_
  refine o_y (y_fieldAddr fd29_0 ti27 (by decide) rfl) ?_
  refine o_y (y_loadO ti27 rfl inn rfl) ?_
  refine o_call fn261 rfl (sameNodes_ok h hu) ?_
  rintro _ _ _ ⟨rfl, rfl, rfl⟩
  refine o_y (y_assign rfl) ?_
  refine o_nil ?_
  refine x_ret ?_
  refine x_fin 2 (ret1 rfl rfl) ?_
  exact ⟨rfl, rfl, rfl⟩
theorem sameCommit_ok {B : World} {H : HM} {O : OL} {cs ds : List Value} {x y : Commit} (h : Rep.rd H cs x) (hu : Rep.rd H ds y) : CallsM prog 29 [.agg cs.toArray, .agg ds.toArray].toArray B H O (Same (.bool (decide (x = y))) H O) := by
  obtain ⟨u6, u7, u8, u9, u12, rfl, h0, h1, h2, h3, h4, h5, h6, h7, h8, h9, h10, h11, h12, h13⟩ := h
  obtain ⟨v6, v7, v8, v9, v12, rfl, g0, g1, g2, g3, g4, g5, g6, g7, g8, g9, g10, g11, g12, g13⟩ := hu
  refine enter func29 rfl ntmps29 (l := [(0, _), (1, _)]) rfl rfl ?_
  refine x_seq ?_
  refine x_region rfl ?_
  refine o_box rfl (cs := [_, _, _, _, _, _, _, _, _, _, _, _, _, _, _]) rfl (fun b2 => ?_)
  refine o_box rfl (cs := [_, _, _, _, _, _, _, _, _, _, _, _, _, _, _]) rfl (fun b3 => ?_)
  refine o_y (y_assign rfl) ?_
  refine o_nil ?_
  refine x_seq ?_
  refine x_region rfl ?_
  refine o_y (y_fieldAddr fd31_0 ti3 (by decide) rfl) ?_
  refine o_y (y_loadO ti3 rfl inn rfl) ?_
  refine o_y (y_fieldAddr fd31_0 ti3 (by decide) rfl) ?_
  refine o_y (y_loadO ti3 rfl inn rfl) ?_
  refine o_y (y_eql rfl rfl) ?_
  refine o_y (y_move rfl) ?_
  refine o_split 10 rfl (fun hg1_10 => ?_) (fun hg1_10 => ?_)
  · try simp only [kk] at hg1_10
    refine o_gy 10 rfl rfl (y_fieldAddr fd31_1 ti3 (by decide) rfl) ?_
    refine o_gy 10 rfl rfl (y_loadO ti3 rfl inn rfl) ?_
    refine o_gy 10 rfl rfl (y_fieldAddr fd31_1 ti3 (by decide) rfl) ?_
    refine o_gy 10 rfl rfl (y_loadO ti3 rfl inn rfl) ?_
    refine o_gy 10 rfl rfl (y_eql rfl rfl) ?_
    refine o_y (y_pick rfl rfl) ?_
    refine o_y (y_move rfl) ?_
    refine o_split 17 rfl (fun hg1_17 => ?_) (fun hg1_17 => ?_)
    · try simp only [kk] at hg1_17
      refine o_gy 17 rfl rfl (y_fieldAddr fd31_2 ti3 (by decide) rfl) ?_
      refine o_gy 17 rfl rfl (y_loadO ti3 rfl inn rfl) ?_
      refine o_gy 17 rfl rfl (y_fieldAddr fd31_2 ti3 (by decide) rfl) ?_
      refine o_gy 17 rfl rfl (y_loadO ti3 rfl inn rfl) ?_
      refine o_gy 17 rfl rfl (y_eql rfl rfl) ?_
      refine o_y (y_pick rfl rfl) ?_
      refine o_y (y_move rfl) ?_
      refine o_split 24 rfl (fun hg1_24 => ?_) (fun hg1_24 => ?_)
      · try simp only [kk] at hg1_24
        refine o_gy 24 rfl rfl (y_fieldAddr fd31_3 ti3 (by decide) rfl) ?_
        refine o_gy 24 rfl rfl (y_loadO ti3 rfl inn rfl) ?_
        refine o_gy 24 rfl rfl (y_fieldAddr fd31_3 ti3 (by decide) rfl) ?_
        refine o_gy 24 rfl rfl (y_loadO ti3 rfl inn rfl) ?_
        refine o_gy 24 rfl rfl (y_eql rfl rfl) ?_
        refine o_y (y_pick rfl rfl) ?_
        refine o_y (y_move rfl) ?_
        refine o_split 31 rfl (fun hg1_31 => ?_) (fun hg1_31 => ?_)
        · try simp only [kk] at hg1_31
          refine o_gy 31 rfl rfl (y_fieldAddr fd31_4 ti3 (by decide) rfl) ?_
          refine o_gy 31 rfl rfl (y_loadO ti3 rfl inn rfl) ?_
          refine o_gy 31 rfl rfl (y_fieldAddr fd31_4 ti3 (by decide) rfl) ?_
          refine o_gy 31 rfl rfl (y_loadO ti3 rfl inn rfl) ?_
          refine o_gy 31 rfl rfl (y_eql rfl rfl) ?_
          refine o_y (y_pick rfl rfl) ?_
          refine o_y (y_move rfl) ?_
          refine o_split 38 rfl (fun hg1_38 => ?_) (fun hg1_38 => ?_)
          · try simp only [kk] at hg1_38
            refine o_gy 38 rfl rfl (y_fieldAddr fd31_5 ti4 (by decide) rfl) ?_
            refine o_gy 38 rfl rfl (y_loadO ti4 rfl inn rfl) ?_
            refine o_gy 38 rfl rfl (y_fieldAddr fd31_5 ti4 (by decide) rfl) ?_
            refine o_gy 38 rfl rfl (y_loadO ti4 rfl inn rfl) ?_
            refine o_gy 38 rfl rfl (y_beql underlying4 rfl rfl) ?_
            refine o_y (y_pick rfl rfl) ?_
            refine o_y (y_move rfl) ?_
            refine o_split 45 rfl (fun hg1_45 => ?_) (fun hg1_45 => ?_)
            · try simp only [kk] at hg1_45
              refine o_gy 45 rfl rfl (y_fieldAddr fd31_10 ti3 (by decide) rfl) ?_
              refine o_gy 45 rfl rfl (y_loadO ti3 rfl inn rfl) ?_
              refine o_gy 45 rfl rfl (y_fieldAddr fd31_10 ti3 (by decide) rfl) ?_
              refine o_gy 45 rfl rfl (y_loadO ti3 rfl inn rfl) ?_
              refine o_gy 45 rfl rfl (y_eql rfl rfl) ?_
              refine o_y (y_pick rfl rfl) ?_
              refine o_y (y_move rfl) ?_
              refine o_split 52 rfl (fun hg1_52 => ?_) (fun hg1_52 => ?_)
              · try simp only [kk] at hg1_52
                refine o_gy 52 rfl rfl (y_fieldAddr fd31_11 ti3 (by decide) rfl) ?_
                refine o_gy 52 rfl rfl (y_loadO ti3 rfl inn rfl) ?_
                refine o_gy 52 rfl rfl (y_fieldAddr fd31_11 ti3 (by decide) rfl) ?_
                refine o_gy 52 rfl rfl (y_loadO ti3 rfl inn rfl) ?_
                refine o_gy 52 rfl rfl (y_eql rfl rfl) ?_
                refine o_y (y_pick rfl rfl) ?_
                refine o_y (y_move rfl) ?_
                refine o_split 59 rfl (fun hg1_59 => ?_) (fun hg1_59 => ?_)
                · try simp only [kk] at hg1_59
                  refine o_gy 59 rfl rfl (y_fieldAddr fd31_13 ti3 (by decide) rfl) ?_
                  refine o_gy 59 rfl rfl (y_loadO ti3 rfl inn rfl) ?_
                  refine o_gy 59 rfl rfl (y_fieldAddr fd31_13 ti3 (by decide) rfl) ?_
                  refine o_gy 59 rfl rfl (y_loadO ti3 rfl inn rfl) ?_
                  refine o_gy 59 rfl rfl (y_eql rfl rfl) ?_
                  refine o_y (y_pick rfl rfl) ?_
                  refine o_y (y_move rfl) ?_
                  refine o_split 66 rfl (fun hg1_66 => ?_) (fun hg1_66 => ?_)
                  · try simp only [kk] at hg1_66
                    refine o_gy 66 rfl rfl (y_fieldAddr fd31_14 ti3 (by decide) rfl) ?_
                    refine o_gy 66 rfl rfl (y_loadO ti3 rfl inn rfl) ?_
                    refine o_gy 66 rfl rfl (y_fieldAddr fd31_14 ti3 (by decide) rfl) ?_
                    refine o_gy 66 rfl rfl (y_loadO ti3 rfl inn rfl) ?_
                    refine o_gy 66 rfl rfl (y_eql rfl rfl) ?_
                    refine o_y (y_pick rfl rfl) ?_
                    refine o_y (y_move rfl) ?_
                    refine o_split 73 rfl (fun hg1_73 => ?_) (fun hg1_73 => ?_)
                    · try simp only [kk] at hg1_73
                      refine o_gy 73 rfl rfl (y_fieldAddr fd31_12 ti29 (by decide) rfl) ?_
                      refine o_gy 73 rfl rfl (y_loadP ti29 rfl inn (cs := [_]) rfl rfl) ?_
                      refine o_gy 73 rfl rfl (y_fieldAddr fd31_12 ti29 (by decide) rfl) ?_
                      refine o_gy 73 rfl rfl (y_loadP ti29 rfl inn (cs := [_]) rfl rfl) ?_
                      refine o_gcall 73 rfl rfl fn167 rfl (sameTree_ok h11 g11) ?_
                      rintro _ _ _ ⟨rfl, rfl, rfl⟩
                      refine o_y (y_pick rfl rfl) ?_
                      refine o_y (y_move rfl) ?_
                      refine o_split 80 rfl (fun hg1_80 => ?_) (fun hg1_80 => ?_)
                      · try simp only [kk] at hg1_80
                        refine o_gy 80 rfl rfl (y_fieldAddr fd31_6 ti23 (by decide) rfl) ?_
                        refine o_gy 80 rfl rfl (y_loadO ti23 rfl inn rfl) ?_
                        refine o_gy 80 rfl rfl (y_fieldAddr fd31_6 ti23 (by decide) rfl) ?_
                        refine o_gy 80 rfl rfl (y_loadO ti23 rfl inn rfl) ?_
                        refine o_gcall 80 rfl rfl fn168 rfl (sameAdds_ok h5 g5) ?_
                        rintro _ _ _ ⟨rfl, rfl, rfl⟩
                        refine o_y (y_pick rfl rfl) ?_
                        refine o_y (y_move rfl) ?_
                        refine o_split 87 rfl (fun hg1_87 => ?_) (fun hg1_87 => ?_)
                        · try simp only [kk] at hg1_87
                          refine o_gy 87 rfl rfl (y_fieldAddr fd31_7 ti24 (by decide) rfl) ?_
                          refine o_gy 87 rfl rfl (y_loadO ti24 rfl inn rfl) ?_
                          refine o_gy 87 rfl rfl (y_fieldAddr fd31_7 ti24 (by decide) rfl) ?_
                          refine o_gy 87 rfl rfl (y_loadO ti24 rfl inn rfl) ?_
                          refine o_gcall 87 rfl rfl fn30 rfl (sameNumbers_ok h6 g6) ?_
                          rintro _ _ _ ⟨rfl, rfl, rfl⟩
                          refine o_y (y_pick rfl rfl) ?_
                          refine o_y (y_move rfl) ?_
                          refine o_split 94 rfl (fun hg1_94 => ?_) (fun hg1_94 => ?_)
                          · try simp only [kk] at hg1_94
                            refine o_gy 94 rfl rfl (y_fieldAddr fd31_8 ti25 (by decide) rfl) ?_
                            refine o_gy 94 rfl rfl (y_loadO ti25 rfl inn rfl) ?_
                            refine o_gy 94 rfl rfl (y_fieldAddr fd31_8 ti25 (by decide) rfl) ?_
                            refine o_gy 94 rfl rfl (y_loadO ti25 rfl inn rfl) ?_
                            refine o_gcall 94 rfl rfl fn169 rfl (sameSeals_ok h7 g7) ?_
                            rintro _ _ _ ⟨rfl, rfl, rfl⟩
                            refine o_y (y_pick rfl rfl) ?_
                            refine o_y (y_move rfl) ?_
                            refine o_split 101 rfl (fun hg1_101 => ?_) (fun hg1_101 => ?_)
                            · try simp only [kk] at hg1_101
                              refine o_gy 101 rfl rfl (y_fieldAddr fd31_9 ti26 (by decide) rfl) ?_
                              refine o_gy 101 rfl rfl (y_loadO ti26 rfl inn rfl) ?_
                              refine o_gy 101 rfl rfl (y_fieldAddr fd31_9 ti26 (by decide) rfl) ?_
                              refine o_gy 101 rfl rfl (y_loadO ti26 rfl inn rfl) ?_
                              refine o_gcall 101 rfl rfl fn170 rfl (sameJoins_ok h8 g8) ?_
                              rintro _ _ _ ⟨rfl, rfl, rfl⟩
                              refine o_y (y_pick rfl rfl) ?_
                              refine o_y (y_assign rfl) ?_
                              refine o_nil ?_
                              refine x_ret ?_
                              refine x_fin 2 (ret1 rfl rfl) ?_
                              refine ⟨?_, rfl, rfl⟩
                              first
                                | (have hne : ¬ x = y := fun e => by
                                     subst e
                                     first | exact absurd rfl hg1_10 | exact absurd rfl hg1_17 | exact absurd rfl hg1_24 | exact absurd rfl hg1_31 | exact absurd rfl hg1_38 | (simp at hg1_45; done) | exact absurd rfl hg1_52 | exact absurd rfl hg1_59 | exact absurd rfl hg1_66 | exact absurd rfl hg1_73 | exact absurd rfl hg1_80 | exact absurd rfl hg1_87 | exact absurd rfl hg1_94 | exact absurd rfl hg1_101
                                   rw [decide_eq_false hne]; done)
                                | (congr 2; apply propext; constructor
                                   · intro e
                                     obtain ⟨⟨_⟩⟩ : Nonempty Unit := ⟨()⟩
                                     cases x with | mk a0 a1 a2 a3 a4 a5 a6 a7 a8 a9 a10 a11 t a13 a14 => cases t; cases y with | mk b0 b1 b2 b3 b4 b5 b6 b7 b8 b9 b10 b11 s b13 b14 => cases s; simp_all
                                   intro e; rw [e])
                            try simp only [kk] at hg1_101
                            refine o_gn 101 rfl rfl rfl ?_
                            refine o_gn 101 rfl rfl rfl ?_
                            refine o_gn 101 rfl rfl rfl ?_
                            refine o_gn 101 rfl rfl rfl ?_
                            refine o_gn 101 rfl rfl rfl ?_
                            refine o_y (y_pick rfl rfl) ?_
                            refine o_y (y_assign rfl) ?_
                            refine o_nil ?_
                            refine x_ret ?_
                            refine x_fin 2 (ret1 rfl rfl) ?_
                            refine ⟨?_, rfl, rfl⟩
                            first
                              | (have hne : ¬ x = y := fun e => by
                                   subst e
                                   first | exact absurd rfl hg1_10 | exact absurd rfl hg1_17 | exact absurd rfl hg1_24 | exact absurd rfl hg1_31 | exact absurd rfl hg1_38 | (simp at hg1_45; done) | exact absurd rfl hg1_52 | exact absurd rfl hg1_59 | exact absurd rfl hg1_66 | exact absurd rfl hg1_73 | exact absurd rfl hg1_80 | exact absurd rfl hg1_87 | exact absurd rfl hg1_94 | exact absurd rfl hg1_101
                                 rw [decide_eq_false hne]; done)
                              | (congr 2; apply propext; constructor
                                 · intro e
                                   obtain ⟨⟨_⟩⟩ : Nonempty Unit := ⟨()⟩
                                   cases x with | mk a0 a1 a2 a3 a4 a5 a6 a7 a8 a9 a10 a11 t a13 a14 => cases t; cases y with | mk b0 b1 b2 b3 b4 b5 b6 b7 b8 b9 b10 b11 s b13 b14 => cases s; simp_all
                                 intro e; rw [e])
                          try simp only [kk] at hg1_94
                          refine o_gn 94 rfl rfl rfl ?_
                          refine o_gn 94 rfl rfl rfl ?_
                          refine o_gn 94 rfl rfl rfl ?_
                          refine o_gn 94 rfl rfl rfl ?_
                          refine o_gn 94 rfl rfl rfl ?_
                          refine o_y (y_pick rfl rfl) ?_
                          refine o_y (y_move rfl) ?_
                          refine o_gn 101 rfl rfl rfl ?_
                          refine o_gn 101 rfl rfl rfl ?_
                          refine o_gn 101 rfl rfl rfl ?_
                          refine o_gn 101 rfl rfl rfl ?_
                          refine o_gn 101 rfl rfl rfl ?_
                          refine o_y (y_pick rfl rfl) ?_
                          refine o_y (y_assign rfl) ?_
                          refine o_nil ?_
                          refine x_ret ?_
                          refine x_fin 2 (ret1 rfl rfl) ?_
                          refine ⟨?_, rfl, rfl⟩
                          first
                            | (have hne : ¬ x = y := fun e => by
                                 subst e
                                 first | exact absurd rfl hg1_10 | exact absurd rfl hg1_17 | exact absurd rfl hg1_24 | exact absurd rfl hg1_31 | exact absurd rfl hg1_38 | (simp at hg1_45; done) | exact absurd rfl hg1_52 | exact absurd rfl hg1_59 | exact absurd rfl hg1_66 | exact absurd rfl hg1_73 | exact absurd rfl hg1_80 | exact absurd rfl hg1_87 | exact absurd rfl hg1_94 | exact absurd rfl hg1_101
                               rw [decide_eq_false hne]; done)
                            | (congr 2; apply propext; constructor
                               · intro e
                                 obtain ⟨⟨_⟩⟩ : Nonempty Unit := ⟨()⟩
                                 cases x with | mk a0 a1 a2 a3 a4 a5 a6 a7 a8 a9 a10 a11 t a13 a14 => cases t; cases y with | mk b0 b1 b2 b3 b4 b5 b6 b7 b8 b9 b10 b11 s b13 b14 => cases s; simp_all
                               intro e; rw [e])
                        try simp only [kk] at hg1_87
                        refine o_gn 87 rfl rfl rfl ?_
                        refine o_gn 87 rfl rfl rfl ?_
                        refine o_gn 87 rfl rfl rfl ?_
                        refine o_gn 87 rfl rfl rfl ?_
                        refine o_gn 87 rfl rfl rfl ?_
                        refine o_y (y_pick rfl rfl) ?_
                        refine o_y (y_move rfl) ?_
                        refine o_gn 94 rfl rfl rfl ?_
                        refine o_gn 94 rfl rfl rfl ?_
                        refine o_gn 94 rfl rfl rfl ?_
                        refine o_gn 94 rfl rfl rfl ?_
                        refine o_gn 94 rfl rfl rfl ?_
                        refine o_y (y_pick rfl rfl) ?_
                        refine o_y (y_move rfl) ?_
                        refine o_gn 101 rfl rfl rfl ?_
                        refine o_gn 101 rfl rfl rfl ?_
                        refine o_gn 101 rfl rfl rfl ?_
                        refine o_gn 101 rfl rfl rfl ?_
                        refine o_gn 101 rfl rfl rfl ?_
                        refine o_y (y_pick rfl rfl) ?_
                        refine o_y (y_assign rfl) ?_
                        refine o_nil ?_
                        refine x_ret ?_
                        refine x_fin 2 (ret1 rfl rfl) ?_
                        refine ⟨?_, rfl, rfl⟩
                        first
                          | (have hne : ¬ x = y := fun e => by
                               subst e
                               first | exact absurd rfl hg1_10 | exact absurd rfl hg1_17 | exact absurd rfl hg1_24 | exact absurd rfl hg1_31 | exact absurd rfl hg1_38 | (simp at hg1_45; done) | exact absurd rfl hg1_52 | exact absurd rfl hg1_59 | exact absurd rfl hg1_66 | exact absurd rfl hg1_73 | exact absurd rfl hg1_80 | exact absurd rfl hg1_87 | exact absurd rfl hg1_94 | exact absurd rfl hg1_101
                             rw [decide_eq_false hne]; done)
                          | (congr 2; apply propext; constructor
                             · intro e
                               obtain ⟨⟨_⟩⟩ : Nonempty Unit := ⟨()⟩
                               cases x with | mk a0 a1 a2 a3 a4 a5 a6 a7 a8 a9 a10 a11 t a13 a14 => cases t; cases y with | mk b0 b1 b2 b3 b4 b5 b6 b7 b8 b9 b10 b11 s b13 b14 => cases s; simp_all
                             intro e; rw [e])
                      try simp only [kk] at hg1_80
                      refine o_gn 80 rfl rfl rfl ?_
                      refine o_gn 80 rfl rfl rfl ?_
                      refine o_gn 80 rfl rfl rfl ?_
                      refine o_gn 80 rfl rfl rfl ?_
                      refine o_gn 80 rfl rfl rfl ?_
                      refine o_y (y_pick rfl rfl) ?_
                      refine o_y (y_move rfl) ?_
                      refine o_gn 87 rfl rfl rfl ?_
                      refine o_gn 87 rfl rfl rfl ?_
                      refine o_gn 87 rfl rfl rfl ?_
                      refine o_gn 87 rfl rfl rfl ?_
                      refine o_gn 87 rfl rfl rfl ?_
                      refine o_y (y_pick rfl rfl) ?_
                      refine o_y (y_move rfl) ?_
                      refine o_gn 94 rfl rfl rfl ?_
                      refine o_gn 94 rfl rfl rfl ?_
                      refine o_gn 94 rfl rfl rfl ?_
                      refine o_gn 94 rfl rfl rfl ?_
                      refine o_gn 94 rfl rfl rfl ?_
                      refine o_y (y_pick rfl rfl) ?_
                      refine o_y (y_move rfl) ?_
                      refine o_gn 101 rfl rfl rfl ?_
                      refine o_gn 101 rfl rfl rfl ?_
                      refine o_gn 101 rfl rfl rfl ?_
                      refine o_gn 101 rfl rfl rfl ?_
                      refine o_gn 101 rfl rfl rfl ?_
                      refine o_y (y_pick rfl rfl) ?_
                      refine o_y (y_assign rfl) ?_
                      refine o_nil ?_
                      refine x_ret ?_
                      refine x_fin 2 (ret1 rfl rfl) ?_
                      refine ⟨?_, rfl, rfl⟩
                      first
                        | (have hne : ¬ x = y := fun e => by
                             subst e
                             first | exact absurd rfl hg1_10 | exact absurd rfl hg1_17 | exact absurd rfl hg1_24 | exact absurd rfl hg1_31 | exact absurd rfl hg1_38 | (simp at hg1_45; done) | exact absurd rfl hg1_52 | exact absurd rfl hg1_59 | exact absurd rfl hg1_66 | exact absurd rfl hg1_73 | exact absurd rfl hg1_80 | exact absurd rfl hg1_87 | exact absurd rfl hg1_94 | exact absurd rfl hg1_101
                           rw [decide_eq_false hne]; done)
                        | (congr 2; apply propext; constructor
                           · intro e
                             obtain ⟨⟨_⟩⟩ : Nonempty Unit := ⟨()⟩
                             cases x with | mk a0 a1 a2 a3 a4 a5 a6 a7 a8 a9 a10 a11 t a13 a14 => cases t; cases y with | mk b0 b1 b2 b3 b4 b5 b6 b7 b8 b9 b10 b11 s b13 b14 => cases s; simp_all
                           intro e; rw [e])
                    try simp only [kk] at hg1_73
                    refine o_gn 73 rfl rfl rfl ?_
                    refine o_gn 73 rfl rfl rfl ?_
                    refine o_gn 73 rfl rfl rfl ?_
                    refine o_gn 73 rfl rfl rfl ?_
                    refine o_gn 73 rfl rfl rfl ?_
                    refine o_y (y_pick rfl rfl) ?_
                    refine o_y (y_move rfl) ?_
                    refine o_gn 80 rfl rfl rfl ?_
                    refine o_gn 80 rfl rfl rfl ?_
                    refine o_gn 80 rfl rfl rfl ?_
                    refine o_gn 80 rfl rfl rfl ?_
                    refine o_gn 80 rfl rfl rfl ?_
                    refine o_y (y_pick rfl rfl) ?_
                    refine o_y (y_move rfl) ?_
                    refine o_gn 87 rfl rfl rfl ?_
                    refine o_gn 87 rfl rfl rfl ?_
                    refine o_gn 87 rfl rfl rfl ?_
                    refine o_gn 87 rfl rfl rfl ?_
                    refine o_gn 87 rfl rfl rfl ?_
                    refine o_y (y_pick rfl rfl) ?_
                    refine o_y (y_move rfl) ?_
                    refine o_gn 94 rfl rfl rfl ?_
                    refine o_gn 94 rfl rfl rfl ?_
                    refine o_gn 94 rfl rfl rfl ?_
                    refine o_gn 94 rfl rfl rfl ?_
                    refine o_gn 94 rfl rfl rfl ?_
                    refine o_y (y_pick rfl rfl) ?_
                    refine o_y (y_move rfl) ?_
                    refine o_gn 101 rfl rfl rfl ?_
                    refine o_gn 101 rfl rfl rfl ?_
                    refine o_gn 101 rfl rfl rfl ?_
                    refine o_gn 101 rfl rfl rfl ?_
                    refine o_gn 101 rfl rfl rfl ?_
                    refine o_y (y_pick rfl rfl) ?_
                    refine o_y (y_assign rfl) ?_
                    refine o_nil ?_
                    refine x_ret ?_
                    refine x_fin 2 (ret1 rfl rfl) ?_
                    refine ⟨?_, rfl, rfl⟩
                    first
                      | (have hne : ¬ x = y := fun e => by
                           subst e
                           first | exact absurd rfl hg1_10 | exact absurd rfl hg1_17 | exact absurd rfl hg1_24 | exact absurd rfl hg1_31 | exact absurd rfl hg1_38 | (simp at hg1_45; done) | exact absurd rfl hg1_52 | exact absurd rfl hg1_59 | exact absurd rfl hg1_66 | exact absurd rfl hg1_73 | exact absurd rfl hg1_80 | exact absurd rfl hg1_87 | exact absurd rfl hg1_94 | exact absurd rfl hg1_101
                         rw [decide_eq_false hne]; done)
                      | (congr 2; apply propext; constructor
                         · intro e
                           obtain ⟨⟨_⟩⟩ : Nonempty Unit := ⟨()⟩
                           cases x with | mk a0 a1 a2 a3 a4 a5 a6 a7 a8 a9 a10 a11 t a13 a14 => cases t; cases y with | mk b0 b1 b2 b3 b4 b5 b6 b7 b8 b9 b10 b11 s b13 b14 => cases s; simp_all
                         intro e; rw [e])
                  try simp only [kk] at hg1_66
                  refine o_gn 66 rfl rfl rfl ?_
                  refine o_gn 66 rfl rfl rfl ?_
                  refine o_gn 66 rfl rfl rfl ?_
                  refine o_gn 66 rfl rfl rfl ?_
                  refine o_gn 66 rfl rfl rfl ?_
                  refine o_y (y_pick rfl rfl) ?_
                  refine o_y (y_move rfl) ?_
                  refine o_gn 73 rfl rfl rfl ?_
                  refine o_gn 73 rfl rfl rfl ?_
                  refine o_gn 73 rfl rfl rfl ?_
                  refine o_gn 73 rfl rfl rfl ?_
                  refine o_gn 73 rfl rfl rfl ?_
                  refine o_y (y_pick rfl rfl) ?_
                  refine o_y (y_move rfl) ?_
                  refine o_gn 80 rfl rfl rfl ?_
                  refine o_gn 80 rfl rfl rfl ?_
                  refine o_gn 80 rfl rfl rfl ?_
                  refine o_gn 80 rfl rfl rfl ?_
                  refine o_gn 80 rfl rfl rfl ?_
                  refine o_y (y_pick rfl rfl) ?_
                  refine o_y (y_move rfl) ?_
                  refine o_gn 87 rfl rfl rfl ?_
                  refine o_gn 87 rfl rfl rfl ?_
                  refine o_gn 87 rfl rfl rfl ?_
                  refine o_gn 87 rfl rfl rfl ?_
                  refine o_gn 87 rfl rfl rfl ?_
                  refine o_y (y_pick rfl rfl) ?_
                  refine o_y (y_move rfl) ?_
                  refine o_gn 94 rfl rfl rfl ?_
                  refine o_gn 94 rfl rfl rfl ?_
                  refine o_gn 94 rfl rfl rfl ?_
                  refine o_gn 94 rfl rfl rfl ?_
                  refine o_gn 94 rfl rfl rfl ?_
                  refine o_y (y_pick rfl rfl) ?_
                  refine o_y (y_move rfl) ?_
                  refine o_gn 101 rfl rfl rfl ?_
                  refine o_gn 101 rfl rfl rfl ?_
                  refine o_gn 101 rfl rfl rfl ?_
                  refine o_gn 101 rfl rfl rfl ?_
                  refine o_gn 101 rfl rfl rfl ?_
                  refine o_y (y_pick rfl rfl) ?_
                  refine o_y (y_assign rfl) ?_
                  refine o_nil ?_
                  refine x_ret ?_
                  refine x_fin 2 (ret1 rfl rfl) ?_
                  refine ⟨?_, rfl, rfl⟩
                  first
                    | (have hne : ¬ x = y := fun e => by
                         subst e
                         first | exact absurd rfl hg1_10 | exact absurd rfl hg1_17 | exact absurd rfl hg1_24 | exact absurd rfl hg1_31 | exact absurd rfl hg1_38 | (simp at hg1_45; done) | exact absurd rfl hg1_52 | exact absurd rfl hg1_59 | exact absurd rfl hg1_66 | exact absurd rfl hg1_73 | exact absurd rfl hg1_80 | exact absurd rfl hg1_87 | exact absurd rfl hg1_94 | exact absurd rfl hg1_101
                       rw [decide_eq_false hne]; done)
                    | (congr 2; apply propext; constructor
                       · intro e
                         obtain ⟨⟨_⟩⟩ : Nonempty Unit := ⟨()⟩
                         cases x with | mk a0 a1 a2 a3 a4 a5 a6 a7 a8 a9 a10 a11 t a13 a14 => cases t; cases y with | mk b0 b1 b2 b3 b4 b5 b6 b7 b8 b9 b10 b11 s b13 b14 => cases s; simp_all
                       intro e; rw [e])
                try simp only [kk] at hg1_59
                refine o_gn 59 rfl rfl rfl ?_
                refine o_gn 59 rfl rfl rfl ?_
                refine o_gn 59 rfl rfl rfl ?_
                refine o_gn 59 rfl rfl rfl ?_
                refine o_gn 59 rfl rfl rfl ?_
                refine o_y (y_pick rfl rfl) ?_
                refine o_y (y_move rfl) ?_
                refine o_gn 66 rfl rfl rfl ?_
                refine o_gn 66 rfl rfl rfl ?_
                refine o_gn 66 rfl rfl rfl ?_
                refine o_gn 66 rfl rfl rfl ?_
                refine o_gn 66 rfl rfl rfl ?_
                refine o_y (y_pick rfl rfl) ?_
                refine o_y (y_move rfl) ?_
                refine o_gn 73 rfl rfl rfl ?_
                refine o_gn 73 rfl rfl rfl ?_
                refine o_gn 73 rfl rfl rfl ?_
                refine o_gn 73 rfl rfl rfl ?_
                refine o_gn 73 rfl rfl rfl ?_
                refine o_y (y_pick rfl rfl) ?_
                refine o_y (y_move rfl) ?_
                refine o_gn 80 rfl rfl rfl ?_
                refine o_gn 80 rfl rfl rfl ?_
                refine o_gn 80 rfl rfl rfl ?_
                refine o_gn 80 rfl rfl rfl ?_
                refine o_gn 80 rfl rfl rfl ?_
                refine o_y (y_pick rfl rfl) ?_
                refine o_y (y_move rfl) ?_
                refine o_gn 87 rfl rfl rfl ?_
                refine o_gn 87 rfl rfl rfl ?_
                refine o_gn 87 rfl rfl rfl ?_
                refine o_gn 87 rfl rfl rfl ?_
                refine o_gn 87 rfl rfl rfl ?_
                refine o_y (y_pick rfl rfl) ?_
                refine o_y (y_move rfl) ?_
                refine o_gn 94 rfl rfl rfl ?_
                refine o_gn 94 rfl rfl rfl ?_
                refine o_gn 94 rfl rfl rfl ?_
                refine o_gn 94 rfl rfl rfl ?_
                refine o_gn 94 rfl rfl rfl ?_
                refine o_y (y_pick rfl rfl) ?_
                refine o_y (y_move rfl) ?_
                refine o_gn 101 rfl rfl rfl ?_
                refine o_gn 101 rfl rfl rfl ?_
                refine o_gn 101 rfl rfl rfl ?_
                refine o_gn 101 rfl rfl rfl ?_
                refine o_gn 101 rfl rfl rfl ?_
                refine o_y (y_pick rfl rfl) ?_
                refine o_y (y_assign rfl) ?_
                refine o_nil ?_
                refine x_ret ?_
                refine x_fin 2 (ret1 rfl rfl) ?_
                refine ⟨?_, rfl, rfl⟩
                first
                  | (have hne : ¬ x = y := fun e => by
                       subst e
                       first | exact absurd rfl hg1_10 | exact absurd rfl hg1_17 | exact absurd rfl hg1_24 | exact absurd rfl hg1_31 | exact absurd rfl hg1_38 | (simp at hg1_45; done) | exact absurd rfl hg1_52 | exact absurd rfl hg1_59 | exact absurd rfl hg1_66 | exact absurd rfl hg1_73 | exact absurd rfl hg1_80 | exact absurd rfl hg1_87 | exact absurd rfl hg1_94 | exact absurd rfl hg1_101
                     rw [decide_eq_false hne]; done)
                  | (congr 2; apply propext; constructor
                     · intro e
                       obtain ⟨⟨_⟩⟩ : Nonempty Unit := ⟨()⟩
                       cases x with | mk a0 a1 a2 a3 a4 a5 a6 a7 a8 a9 a10 a11 t a13 a14 => cases t; cases y with | mk b0 b1 b2 b3 b4 b5 b6 b7 b8 b9 b10 b11 s b13 b14 => cases s; simp_all
                     intro e; rw [e])
              try simp only [kk] at hg1_52
              refine o_gn 52 rfl rfl rfl ?_
              refine o_gn 52 rfl rfl rfl ?_
              refine o_gn 52 rfl rfl rfl ?_
              refine o_gn 52 rfl rfl rfl ?_
              refine o_gn 52 rfl rfl rfl ?_
              refine o_y (y_pick rfl rfl) ?_
              refine o_y (y_move rfl) ?_
              refine o_gn 59 rfl rfl rfl ?_
              refine o_gn 59 rfl rfl rfl ?_
              refine o_gn 59 rfl rfl rfl ?_
              refine o_gn 59 rfl rfl rfl ?_
              refine o_gn 59 rfl rfl rfl ?_
              refine o_y (y_pick rfl rfl) ?_
              refine o_y (y_move rfl) ?_
              refine o_gn 66 rfl rfl rfl ?_
              refine o_gn 66 rfl rfl rfl ?_
              refine o_gn 66 rfl rfl rfl ?_
              refine o_gn 66 rfl rfl rfl ?_
              refine o_gn 66 rfl rfl rfl ?_
              refine o_y (y_pick rfl rfl) ?_
              refine o_y (y_move rfl) ?_
              refine o_gn 73 rfl rfl rfl ?_
              refine o_gn 73 rfl rfl rfl ?_
              refine o_gn 73 rfl rfl rfl ?_
              refine o_gn 73 rfl rfl rfl ?_
              refine o_gn 73 rfl rfl rfl ?_
              refine o_y (y_pick rfl rfl) ?_
              refine o_y (y_move rfl) ?_
              refine o_gn 80 rfl rfl rfl ?_
              refine o_gn 80 rfl rfl rfl ?_
              refine o_gn 80 rfl rfl rfl ?_
              refine o_gn 80 rfl rfl rfl ?_
              refine o_gn 80 rfl rfl rfl ?_
              refine o_y (y_pick rfl rfl) ?_
              refine o_y (y_move rfl) ?_
              refine o_gn 87 rfl rfl rfl ?_
              refine o_gn 87 rfl rfl rfl ?_
              refine o_gn 87 rfl rfl rfl ?_
              refine o_gn 87 rfl rfl rfl ?_
              refine o_gn 87 rfl rfl rfl ?_
              refine o_y (y_pick rfl rfl) ?_
              refine o_y (y_move rfl) ?_
              refine o_gn 94 rfl rfl rfl ?_
              refine o_gn 94 rfl rfl rfl ?_
              refine o_gn 94 rfl rfl rfl ?_
              refine o_gn 94 rfl rfl rfl ?_
              refine o_gn 94 rfl rfl rfl ?_
              refine o_y (y_pick rfl rfl) ?_
              refine o_y (y_move rfl) ?_
              refine o_gn 101 rfl rfl rfl ?_
              refine o_gn 101 rfl rfl rfl ?_
              refine o_gn 101 rfl rfl rfl ?_
              refine o_gn 101 rfl rfl rfl ?_
              refine o_gn 101 rfl rfl rfl ?_
              refine o_y (y_pick rfl rfl) ?_
              refine o_y (y_assign rfl) ?_
              refine o_nil ?_
              refine x_ret ?_
              refine x_fin 2 (ret1 rfl rfl) ?_
              refine ⟨?_, rfl, rfl⟩
              first
                | (have hne : ¬ x = y := fun e => by
                     subst e
                     first | exact absurd rfl hg1_10 | exact absurd rfl hg1_17 | exact absurd rfl hg1_24 | exact absurd rfl hg1_31 | exact absurd rfl hg1_38 | (simp at hg1_45; done) | exact absurd rfl hg1_52 | exact absurd rfl hg1_59 | exact absurd rfl hg1_66 | exact absurd rfl hg1_73 | exact absurd rfl hg1_80 | exact absurd rfl hg1_87 | exact absurd rfl hg1_94 | exact absurd rfl hg1_101
                   rw [decide_eq_false hne]; done)
                | (congr 2; apply propext; constructor
                   · intro e
                     obtain ⟨⟨_⟩⟩ : Nonempty Unit := ⟨()⟩
                     cases x with | mk a0 a1 a2 a3 a4 a5 a6 a7 a8 a9 a10 a11 t a13 a14 => cases t; cases y with | mk b0 b1 b2 b3 b4 b5 b6 b7 b8 b9 b10 b11 s b13 b14 => cases s; simp_all
                   intro e; rw [e])
            try simp only [kk] at hg1_45
            refine o_gn 45 rfl rfl rfl ?_
            refine o_gn 45 rfl rfl rfl ?_
            refine o_gn 45 rfl rfl rfl ?_
            refine o_gn 45 rfl rfl rfl ?_
            refine o_gn 45 rfl rfl rfl ?_
            refine o_y (y_pick rfl rfl) ?_
            refine o_y (y_move rfl) ?_
            refine o_gn 52 rfl rfl rfl ?_
            refine o_gn 52 rfl rfl rfl ?_
            refine o_gn 52 rfl rfl rfl ?_
            refine o_gn 52 rfl rfl rfl ?_
            refine o_gn 52 rfl rfl rfl ?_
            refine o_y (y_pick rfl rfl) ?_
            refine o_y (y_move rfl) ?_
            refine o_gn 59 rfl rfl rfl ?_
            refine o_gn 59 rfl rfl rfl ?_
            refine o_gn 59 rfl rfl rfl ?_
            refine o_gn 59 rfl rfl rfl ?_
            refine o_gn 59 rfl rfl rfl ?_
            refine o_y (y_pick rfl rfl) ?_
            refine o_y (y_move rfl) ?_
            refine o_gn 66 rfl rfl rfl ?_
            refine o_gn 66 rfl rfl rfl ?_
            refine o_gn 66 rfl rfl rfl ?_
            refine o_gn 66 rfl rfl rfl ?_
            refine o_gn 66 rfl rfl rfl ?_
            refine o_y (y_pick rfl rfl) ?_
            refine o_y (y_move rfl) ?_
            refine o_gn 73 rfl rfl rfl ?_
            refine o_gn 73 rfl rfl rfl ?_
            refine o_gn 73 rfl rfl rfl ?_
            refine o_gn 73 rfl rfl rfl ?_
            refine o_gn 73 rfl rfl rfl ?_
            refine o_y (y_pick rfl rfl) ?_
            refine o_y (y_move rfl) ?_
            refine o_gn 80 rfl rfl rfl ?_
            refine o_gn 80 rfl rfl rfl ?_
            refine o_gn 80 rfl rfl rfl ?_
            refine o_gn 80 rfl rfl rfl ?_
            refine o_gn 80 rfl rfl rfl ?_
            refine o_y (y_pick rfl rfl) ?_
            refine o_y (y_move rfl) ?_
            refine o_gn 87 rfl rfl rfl ?_
            refine o_gn 87 rfl rfl rfl ?_
            refine o_gn 87 rfl rfl rfl ?_
            refine o_gn 87 rfl rfl rfl ?_
            refine o_gn 87 rfl rfl rfl ?_
            refine o_y (y_pick rfl rfl) ?_
            refine o_y (y_move rfl) ?_
            refine o_gn 94 rfl rfl rfl ?_
            refine o_gn 94 rfl rfl rfl ?_
            refine o_gn 94 rfl rfl rfl ?_
            refine o_gn 94 rfl rfl rfl ?_
            refine o_gn 94 rfl rfl rfl ?_
            refine o_y (y_pick rfl rfl) ?_
            refine o_y (y_move rfl) ?_
            refine o_gn 101 rfl rfl rfl ?_
            refine o_gn 101 rfl rfl rfl ?_
            refine o_gn 101 rfl rfl rfl ?_
            refine o_gn 101 rfl rfl rfl ?_
            refine o_gn 101 rfl rfl rfl ?_
            refine o_y (y_pick rfl rfl) ?_
            refine o_y (y_assign rfl) ?_
            refine o_nil ?_
            refine x_ret ?_
            refine x_fin 2 (ret1 rfl rfl) ?_
            refine ⟨?_, rfl, rfl⟩
            first
              | (have hne : ¬ x = y := fun e => by
                   subst e
                   first | exact absurd rfl hg1_10 | exact absurd rfl hg1_17 | exact absurd rfl hg1_24 | exact absurd rfl hg1_31 | exact absurd rfl hg1_38 | (simp at hg1_45; done) | exact absurd rfl hg1_52 | exact absurd rfl hg1_59 | exact absurd rfl hg1_66 | exact absurd rfl hg1_73 | exact absurd rfl hg1_80 | exact absurd rfl hg1_87 | exact absurd rfl hg1_94 | exact absurd rfl hg1_101
                 rw [decide_eq_false hne]; done)
              | (congr 2; apply propext; constructor
                 · intro e
                   obtain ⟨⟨_⟩⟩ : Nonempty Unit := ⟨()⟩
                   cases x with | mk a0 a1 a2 a3 a4 a5 a6 a7 a8 a9 a10 a11 t a13 a14 => cases t; cases y with | mk b0 b1 b2 b3 b4 b5 b6 b7 b8 b9 b10 b11 s b13 b14 => cases s; simp_all
                 intro e; rw [e])
          try simp only [kk] at hg1_38
          refine o_gn 38 rfl rfl rfl ?_
          refine o_gn 38 rfl rfl rfl ?_
          refine o_gn 38 rfl rfl rfl ?_
          refine o_gn 38 rfl rfl rfl ?_
          refine o_gn 38 rfl rfl rfl ?_
          refine o_y (y_pick rfl rfl) ?_
          refine o_y (y_move rfl) ?_
          refine o_gn 45 rfl rfl rfl ?_
          refine o_gn 45 rfl rfl rfl ?_
          refine o_gn 45 rfl rfl rfl ?_
          refine o_gn 45 rfl rfl rfl ?_
          refine o_gn 45 rfl rfl rfl ?_
          refine o_y (y_pick rfl rfl) ?_
          refine o_y (y_move rfl) ?_
          refine o_gn 52 rfl rfl rfl ?_
          refine o_gn 52 rfl rfl rfl ?_
          refine o_gn 52 rfl rfl rfl ?_
          refine o_gn 52 rfl rfl rfl ?_
          refine o_gn 52 rfl rfl rfl ?_
          refine o_y (y_pick rfl rfl) ?_
          refine o_y (y_move rfl) ?_
          refine o_gn 59 rfl rfl rfl ?_
          refine o_gn 59 rfl rfl rfl ?_
          refine o_gn 59 rfl rfl rfl ?_
          refine o_gn 59 rfl rfl rfl ?_
          refine o_gn 59 rfl rfl rfl ?_
          refine o_y (y_pick rfl rfl) ?_
          refine o_y (y_move rfl) ?_
          refine o_gn 66 rfl rfl rfl ?_
          refine o_gn 66 rfl rfl rfl ?_
          refine o_gn 66 rfl rfl rfl ?_
          refine o_gn 66 rfl rfl rfl ?_
          refine o_gn 66 rfl rfl rfl ?_
          refine o_y (y_pick rfl rfl) ?_
          refine o_y (y_move rfl) ?_
          refine o_gn 73 rfl rfl rfl ?_
          refine o_gn 73 rfl rfl rfl ?_
          refine o_gn 73 rfl rfl rfl ?_
          refine o_gn 73 rfl rfl rfl ?_
          refine o_gn 73 rfl rfl rfl ?_
          refine o_y (y_pick rfl rfl) ?_
          refine o_y (y_move rfl) ?_
          refine o_gn 80 rfl rfl rfl ?_
          refine o_gn 80 rfl rfl rfl ?_
          refine o_gn 80 rfl rfl rfl ?_
          refine o_gn 80 rfl rfl rfl ?_
          refine o_gn 80 rfl rfl rfl ?_
          refine o_y (y_pick rfl rfl) ?_
          refine o_y (y_move rfl) ?_
          refine o_gn 87 rfl rfl rfl ?_
          refine o_gn 87 rfl rfl rfl ?_
          refine o_gn 87 rfl rfl rfl ?_
          refine o_gn 87 rfl rfl rfl ?_
          refine o_gn 87 rfl rfl rfl ?_
          refine o_y (y_pick rfl rfl) ?_
          refine o_y (y_move rfl) ?_
          refine o_gn 94 rfl rfl rfl ?_
          refine o_gn 94 rfl rfl rfl ?_
          refine o_gn 94 rfl rfl rfl ?_
          refine o_gn 94 rfl rfl rfl ?_
          refine o_gn 94 rfl rfl rfl ?_
          refine o_y (y_pick rfl rfl) ?_
          refine o_y (y_move rfl) ?_
          refine o_gn 101 rfl rfl rfl ?_
          refine o_gn 101 rfl rfl rfl ?_
          refine o_gn 101 rfl rfl rfl ?_
          refine o_gn 101 rfl rfl rfl ?_
          refine o_gn 101 rfl rfl rfl ?_
          refine o_y (y_pick rfl rfl) ?_
          refine o_y (y_assign rfl) ?_
          refine o_nil ?_
          refine x_ret ?_
          refine x_fin 2 (ret1 rfl rfl) ?_
          refine ⟨?_, rfl, rfl⟩
          first
            | (have hne : ¬ x = y := fun e => by
                 subst e
                 first | exact absurd rfl hg1_10 | exact absurd rfl hg1_17 | exact absurd rfl hg1_24 | exact absurd rfl hg1_31 | exact absurd rfl hg1_38 | (simp at hg1_45; done) | exact absurd rfl hg1_52 | exact absurd rfl hg1_59 | exact absurd rfl hg1_66 | exact absurd rfl hg1_73 | exact absurd rfl hg1_80 | exact absurd rfl hg1_87 | exact absurd rfl hg1_94 | exact absurd rfl hg1_101
               rw [decide_eq_false hne]; done)
            | (congr 2; apply propext; constructor
               · intro e
                 obtain ⟨⟨_⟩⟩ : Nonempty Unit := ⟨()⟩
                 cases x with | mk a0 a1 a2 a3 a4 a5 a6 a7 a8 a9 a10 a11 t a13 a14 => cases t; cases y with | mk b0 b1 b2 b3 b4 b5 b6 b7 b8 b9 b10 b11 s b13 b14 => cases s; simp_all
               intro e; rw [e])
        try simp only [kk] at hg1_31
        refine o_gn 31 rfl rfl rfl ?_
        refine o_gn 31 rfl rfl rfl ?_
        refine o_gn 31 rfl rfl rfl ?_
        refine o_gn 31 rfl rfl rfl ?_
        refine o_gn 31 rfl rfl rfl ?_
        refine o_y (y_pick rfl rfl) ?_
        refine o_y (y_move rfl) ?_
        refine o_gn 38 rfl rfl rfl ?_
        refine o_gn 38 rfl rfl rfl ?_
        refine o_gn 38 rfl rfl rfl ?_
        refine o_gn 38 rfl rfl rfl ?_
        refine o_gn 38 rfl rfl rfl ?_
        refine o_y (y_pick rfl rfl) ?_
        refine o_y (y_move rfl) ?_
        refine o_gn 45 rfl rfl rfl ?_
        refine o_gn 45 rfl rfl rfl ?_
        refine o_gn 45 rfl rfl rfl ?_
        refine o_gn 45 rfl rfl rfl ?_
        refine o_gn 45 rfl rfl rfl ?_
        refine o_y (y_pick rfl rfl) ?_
        refine o_y (y_move rfl) ?_
        refine o_gn 52 rfl rfl rfl ?_
        refine o_gn 52 rfl rfl rfl ?_
        refine o_gn 52 rfl rfl rfl ?_
        refine o_gn 52 rfl rfl rfl ?_
        refine o_gn 52 rfl rfl rfl ?_
        refine o_y (y_pick rfl rfl) ?_
        refine o_y (y_move rfl) ?_
        refine o_gn 59 rfl rfl rfl ?_
        refine o_gn 59 rfl rfl rfl ?_
        refine o_gn 59 rfl rfl rfl ?_
        refine o_gn 59 rfl rfl rfl ?_
        refine o_gn 59 rfl rfl rfl ?_
        refine o_y (y_pick rfl rfl) ?_
        refine o_y (y_move rfl) ?_
        refine o_gn 66 rfl rfl rfl ?_
        refine o_gn 66 rfl rfl rfl ?_
        refine o_gn 66 rfl rfl rfl ?_
        refine o_gn 66 rfl rfl rfl ?_
        refine o_gn 66 rfl rfl rfl ?_
        refine o_y (y_pick rfl rfl) ?_
        refine o_y (y_move rfl) ?_
        refine o_gn 73 rfl rfl rfl ?_
        refine o_gn 73 rfl rfl rfl ?_
        refine o_gn 73 rfl rfl rfl ?_
        refine o_gn 73 rfl rfl rfl ?_
        refine o_gn 73 rfl rfl rfl ?_
        refine o_y (y_pick rfl rfl) ?_
        refine o_y (y_move rfl) ?_
        refine o_gn 80 rfl rfl rfl ?_
        refine o_gn 80 rfl rfl rfl ?_
        refine o_gn 80 rfl rfl rfl ?_
        refine o_gn 80 rfl rfl rfl ?_
        refine o_gn 80 rfl rfl rfl ?_
        refine o_y (y_pick rfl rfl) ?_
        refine o_y (y_move rfl) ?_
        refine o_gn 87 rfl rfl rfl ?_
        refine o_gn 87 rfl rfl rfl ?_
        refine o_gn 87 rfl rfl rfl ?_
        refine o_gn 87 rfl rfl rfl ?_
        refine o_gn 87 rfl rfl rfl ?_
        refine o_y (y_pick rfl rfl) ?_
        refine o_y (y_move rfl) ?_
        refine o_gn 94 rfl rfl rfl ?_
        refine o_gn 94 rfl rfl rfl ?_
        refine o_gn 94 rfl rfl rfl ?_
        refine o_gn 94 rfl rfl rfl ?_
        refine o_gn 94 rfl rfl rfl ?_
        refine o_y (y_pick rfl rfl) ?_
        refine o_y (y_move rfl) ?_
        refine o_gn 101 rfl rfl rfl ?_
        refine o_gn 101 rfl rfl rfl ?_
        refine o_gn 101 rfl rfl rfl ?_
        refine o_gn 101 rfl rfl rfl ?_
        refine o_gn 101 rfl rfl rfl ?_
        refine o_y (y_pick rfl rfl) ?_
        refine o_y (y_assign rfl) ?_
        refine o_nil ?_
        refine x_ret ?_
        refine x_fin 2 (ret1 rfl rfl) ?_
        refine ⟨?_, rfl, rfl⟩
        first
          | (have hne : ¬ x = y := fun e => by
               subst e
               first | exact absurd rfl hg1_10 | exact absurd rfl hg1_17 | exact absurd rfl hg1_24 | exact absurd rfl hg1_31 | exact absurd rfl hg1_38 | (simp at hg1_45; done) | exact absurd rfl hg1_52 | exact absurd rfl hg1_59 | exact absurd rfl hg1_66 | exact absurd rfl hg1_73 | exact absurd rfl hg1_80 | exact absurd rfl hg1_87 | exact absurd rfl hg1_94 | exact absurd rfl hg1_101
             rw [decide_eq_false hne]; done)
          | (congr 2; apply propext; constructor
             · intro e
               obtain ⟨⟨_⟩⟩ : Nonempty Unit := ⟨()⟩
               cases x with | mk a0 a1 a2 a3 a4 a5 a6 a7 a8 a9 a10 a11 t a13 a14 => cases t; cases y with | mk b0 b1 b2 b3 b4 b5 b6 b7 b8 b9 b10 b11 s b13 b14 => cases s; simp_all
             intro e; rw [e])
      try simp only [kk] at hg1_24
      refine o_gn 24 rfl rfl rfl ?_
      refine o_gn 24 rfl rfl rfl ?_
      refine o_gn 24 rfl rfl rfl ?_
      refine o_gn 24 rfl rfl rfl ?_
      refine o_gn 24 rfl rfl rfl ?_
      refine o_y (y_pick rfl rfl) ?_
      refine o_y (y_move rfl) ?_
      refine o_gn 31 rfl rfl rfl ?_
      refine o_gn 31 rfl rfl rfl ?_
      refine o_gn 31 rfl rfl rfl ?_
      refine o_gn 31 rfl rfl rfl ?_
      refine o_gn 31 rfl rfl rfl ?_
      refine o_y (y_pick rfl rfl) ?_
      refine o_y (y_move rfl) ?_
      refine o_gn 38 rfl rfl rfl ?_
      refine o_gn 38 rfl rfl rfl ?_
      refine o_gn 38 rfl rfl rfl ?_
      refine o_gn 38 rfl rfl rfl ?_
      refine o_gn 38 rfl rfl rfl ?_
      refine o_y (y_pick rfl rfl) ?_
      refine o_y (y_move rfl) ?_
      refine o_gn 45 rfl rfl rfl ?_
      refine o_gn 45 rfl rfl rfl ?_
      refine o_gn 45 rfl rfl rfl ?_
      refine o_gn 45 rfl rfl rfl ?_
      refine o_gn 45 rfl rfl rfl ?_
      refine o_y (y_pick rfl rfl) ?_
      refine o_y (y_move rfl) ?_
      refine o_gn 52 rfl rfl rfl ?_
      refine o_gn 52 rfl rfl rfl ?_
      refine o_gn 52 rfl rfl rfl ?_
      refine o_gn 52 rfl rfl rfl ?_
      refine o_gn 52 rfl rfl rfl ?_
      refine o_y (y_pick rfl rfl) ?_
      refine o_y (y_move rfl) ?_
      refine o_gn 59 rfl rfl rfl ?_
      refine o_gn 59 rfl rfl rfl ?_
      refine o_gn 59 rfl rfl rfl ?_
      refine o_gn 59 rfl rfl rfl ?_
      refine o_gn 59 rfl rfl rfl ?_
      refine o_y (y_pick rfl rfl) ?_
      refine o_y (y_move rfl) ?_
      refine o_gn 66 rfl rfl rfl ?_
      refine o_gn 66 rfl rfl rfl ?_
      refine o_gn 66 rfl rfl rfl ?_
      refine o_gn 66 rfl rfl rfl ?_
      refine o_gn 66 rfl rfl rfl ?_
      refine o_y (y_pick rfl rfl) ?_
      refine o_y (y_move rfl) ?_
      refine o_gn 73 rfl rfl rfl ?_
      refine o_gn 73 rfl rfl rfl ?_
      refine o_gn 73 rfl rfl rfl ?_
      refine o_gn 73 rfl rfl rfl ?_
      refine o_gn 73 rfl rfl rfl ?_
      refine o_y (y_pick rfl rfl) ?_
      refine o_y (y_move rfl) ?_
      refine o_gn 80 rfl rfl rfl ?_
      refine o_gn 80 rfl rfl rfl ?_
      refine o_gn 80 rfl rfl rfl ?_
      refine o_gn 80 rfl rfl rfl ?_
      refine o_gn 80 rfl rfl rfl ?_
      refine o_y (y_pick rfl rfl) ?_
      refine o_y (y_move rfl) ?_
      refine o_gn 87 rfl rfl rfl ?_
      refine o_gn 87 rfl rfl rfl ?_
      refine o_gn 87 rfl rfl rfl ?_
      refine o_gn 87 rfl rfl rfl ?_
      refine o_gn 87 rfl rfl rfl ?_
      refine o_y (y_pick rfl rfl) ?_
      refine o_y (y_move rfl) ?_
      refine o_gn 94 rfl rfl rfl ?_
      refine o_gn 94 rfl rfl rfl ?_
      refine o_gn 94 rfl rfl rfl ?_
      refine o_gn 94 rfl rfl rfl ?_
      refine o_gn 94 rfl rfl rfl ?_
      refine o_y (y_pick rfl rfl) ?_
      refine o_y (y_move rfl) ?_
      refine o_gn 101 rfl rfl rfl ?_
      refine o_gn 101 rfl rfl rfl ?_
      refine o_gn 101 rfl rfl rfl ?_
      refine o_gn 101 rfl rfl rfl ?_
      refine o_gn 101 rfl rfl rfl ?_
      refine o_y (y_pick rfl rfl) ?_
      refine o_y (y_assign rfl) ?_
      refine o_nil ?_
      refine x_ret ?_
      refine x_fin 2 (ret1 rfl rfl) ?_
      refine ⟨?_, rfl, rfl⟩
      first
        | (have hne : ¬ x = y := fun e => by
             subst e
             first | exact absurd rfl hg1_10 | exact absurd rfl hg1_17 | exact absurd rfl hg1_24 | exact absurd rfl hg1_31 | exact absurd rfl hg1_38 | (simp at hg1_45; done) | exact absurd rfl hg1_52 | exact absurd rfl hg1_59 | exact absurd rfl hg1_66 | exact absurd rfl hg1_73 | exact absurd rfl hg1_80 | exact absurd rfl hg1_87 | exact absurd rfl hg1_94 | exact absurd rfl hg1_101
           rw [decide_eq_false hne]; done)
        | (congr 2; apply propext; constructor
           · intro e
             obtain ⟨⟨_⟩⟩ : Nonempty Unit := ⟨()⟩
             cases x with | mk a0 a1 a2 a3 a4 a5 a6 a7 a8 a9 a10 a11 t a13 a14 => cases t; cases y with | mk b0 b1 b2 b3 b4 b5 b6 b7 b8 b9 b10 b11 s b13 b14 => cases s; simp_all
           intro e; rw [e])
    try simp only [kk] at hg1_17
    refine o_gn 17 rfl rfl rfl ?_
    refine o_gn 17 rfl rfl rfl ?_
    refine o_gn 17 rfl rfl rfl ?_
    refine o_gn 17 rfl rfl rfl ?_
    refine o_gn 17 rfl rfl rfl ?_
    refine o_y (y_pick rfl rfl) ?_
    refine o_y (y_move rfl) ?_
    refine o_gn 24 rfl rfl rfl ?_
    refine o_gn 24 rfl rfl rfl ?_
    refine o_gn 24 rfl rfl rfl ?_
    refine o_gn 24 rfl rfl rfl ?_
    refine o_gn 24 rfl rfl rfl ?_
    refine o_y (y_pick rfl rfl) ?_
    refine o_y (y_move rfl) ?_
    refine o_gn 31 rfl rfl rfl ?_
    refine o_gn 31 rfl rfl rfl ?_
    refine o_gn 31 rfl rfl rfl ?_
    refine o_gn 31 rfl rfl rfl ?_
    refine o_gn 31 rfl rfl rfl ?_
    refine o_y (y_pick rfl rfl) ?_
    refine o_y (y_move rfl) ?_
    refine o_gn 38 rfl rfl rfl ?_
    refine o_gn 38 rfl rfl rfl ?_
    refine o_gn 38 rfl rfl rfl ?_
    refine o_gn 38 rfl rfl rfl ?_
    refine o_gn 38 rfl rfl rfl ?_
    refine o_y (y_pick rfl rfl) ?_
    refine o_y (y_move rfl) ?_
    refine o_gn 45 rfl rfl rfl ?_
    refine o_gn 45 rfl rfl rfl ?_
    refine o_gn 45 rfl rfl rfl ?_
    refine o_gn 45 rfl rfl rfl ?_
    refine o_gn 45 rfl rfl rfl ?_
    refine o_y (y_pick rfl rfl) ?_
    refine o_y (y_move rfl) ?_
    refine o_gn 52 rfl rfl rfl ?_
    refine o_gn 52 rfl rfl rfl ?_
    refine o_gn 52 rfl rfl rfl ?_
    refine o_gn 52 rfl rfl rfl ?_
    refine o_gn 52 rfl rfl rfl ?_
    refine o_y (y_pick rfl rfl) ?_
    refine o_y (y_move rfl) ?_
    refine o_gn 59 rfl rfl rfl ?_
    refine o_gn 59 rfl rfl rfl ?_
    refine o_gn 59 rfl rfl rfl ?_
    refine o_gn 59 rfl rfl rfl ?_
    refine o_gn 59 rfl rfl rfl ?_
    refine o_y (y_pick rfl rfl) ?_
    refine o_y (y_move rfl) ?_
    refine o_gn 66 rfl rfl rfl ?_
    refine o_gn 66 rfl rfl rfl ?_
    refine o_gn 66 rfl rfl rfl ?_
    refine o_gn 66 rfl rfl rfl ?_
    refine o_gn 66 rfl rfl rfl ?_
    refine o_y (y_pick rfl rfl) ?_
    refine o_y (y_move rfl) ?_
    refine o_gn 73 rfl rfl rfl ?_
    refine o_gn 73 rfl rfl rfl ?_
    refine o_gn 73 rfl rfl rfl ?_
    refine o_gn 73 rfl rfl rfl ?_
    refine o_gn 73 rfl rfl rfl ?_
    refine o_y (y_pick rfl rfl) ?_
    refine o_y (y_move rfl) ?_
    refine o_gn 80 rfl rfl rfl ?_
    refine o_gn 80 rfl rfl rfl ?_
    refine o_gn 80 rfl rfl rfl ?_
    refine o_gn 80 rfl rfl rfl ?_
    refine o_gn 80 rfl rfl rfl ?_
    refine o_y (y_pick rfl rfl) ?_
    refine o_y (y_move rfl) ?_
    refine o_gn 87 rfl rfl rfl ?_
    refine o_gn 87 rfl rfl rfl ?_
    refine o_gn 87 rfl rfl rfl ?_
    refine o_gn 87 rfl rfl rfl ?_
    refine o_gn 87 rfl rfl rfl ?_
    refine o_y (y_pick rfl rfl) ?_
    refine o_y (y_move rfl) ?_
    refine o_gn 94 rfl rfl rfl ?_
    refine o_gn 94 rfl rfl rfl ?_
    refine o_gn 94 rfl rfl rfl ?_
    refine o_gn 94 rfl rfl rfl ?_
    refine o_gn 94 rfl rfl rfl ?_
    refine o_y (y_pick rfl rfl) ?_
    refine o_y (y_move rfl) ?_
    refine o_gn 101 rfl rfl rfl ?_
    refine o_gn 101 rfl rfl rfl ?_
    refine o_gn 101 rfl rfl rfl ?_
    refine o_gn 101 rfl rfl rfl ?_
    refine o_gn 101 rfl rfl rfl ?_
    refine o_y (y_pick rfl rfl) ?_
    refine o_y (y_assign rfl) ?_
    refine o_nil ?_
    refine x_ret ?_
    refine x_fin 2 (ret1 rfl rfl) ?_
    refine ⟨?_, rfl, rfl⟩
    first
      | (have hne : ¬ x = y := fun e => by
           subst e
           first | exact absurd rfl hg1_10 | exact absurd rfl hg1_17 | exact absurd rfl hg1_24 | exact absurd rfl hg1_31 | exact absurd rfl hg1_38 | (simp at hg1_45; done) | exact absurd rfl hg1_52 | exact absurd rfl hg1_59 | exact absurd rfl hg1_66 | exact absurd rfl hg1_73 | exact absurd rfl hg1_80 | exact absurd rfl hg1_87 | exact absurd rfl hg1_94 | exact absurd rfl hg1_101
         rw [decide_eq_false hne]; done)
      | (congr 2; apply propext; constructor
         · intro e
           obtain ⟨⟨_⟩⟩ : Nonempty Unit := ⟨()⟩
           cases x with | mk a0 a1 a2 a3 a4 a5 a6 a7 a8 a9 a10 a11 t a13 a14 => cases t; cases y with | mk b0 b1 b2 b3 b4 b5 b6 b7 b8 b9 b10 b11 s b13 b14 => cases s; simp_all
         intro e; rw [e])
  try simp only [kk] at hg1_10
  refine o_gn 10 rfl rfl rfl ?_
  refine o_gn 10 rfl rfl rfl ?_
  refine o_gn 10 rfl rfl rfl ?_
  refine o_gn 10 rfl rfl rfl ?_
  refine o_gn 10 rfl rfl rfl ?_
  refine o_y (y_pick rfl rfl) ?_
  refine o_y (y_move rfl) ?_
  refine o_gn 17 rfl rfl rfl ?_
  refine o_gn 17 rfl rfl rfl ?_
  refine o_gn 17 rfl rfl rfl ?_
  refine o_gn 17 rfl rfl rfl ?_
  refine o_gn 17 rfl rfl rfl ?_
  refine o_y (y_pick rfl rfl) ?_
  refine o_y (y_move rfl) ?_
  refine o_gn 24 rfl rfl rfl ?_
  refine o_gn 24 rfl rfl rfl ?_
  refine o_gn 24 rfl rfl rfl ?_
  refine o_gn 24 rfl rfl rfl ?_
  refine o_gn 24 rfl rfl rfl ?_
  refine o_y (y_pick rfl rfl) ?_
  refine o_y (y_move rfl) ?_
  refine o_gn 31 rfl rfl rfl ?_
  refine o_gn 31 rfl rfl rfl ?_
  refine o_gn 31 rfl rfl rfl ?_
  refine o_gn 31 rfl rfl rfl ?_
  refine o_gn 31 rfl rfl rfl ?_
  refine o_y (y_pick rfl rfl) ?_
  refine o_y (y_move rfl) ?_
  refine o_gn 38 rfl rfl rfl ?_
  refine o_gn 38 rfl rfl rfl ?_
  refine o_gn 38 rfl rfl rfl ?_
  refine o_gn 38 rfl rfl rfl ?_
  refine o_gn 38 rfl rfl rfl ?_
  refine o_y (y_pick rfl rfl) ?_
  refine o_y (y_move rfl) ?_
  refine o_gn 45 rfl rfl rfl ?_
  refine o_gn 45 rfl rfl rfl ?_
  refine o_gn 45 rfl rfl rfl ?_
  refine o_gn 45 rfl rfl rfl ?_
  refine o_gn 45 rfl rfl rfl ?_
  refine o_y (y_pick rfl rfl) ?_
  refine o_y (y_move rfl) ?_
  refine o_gn 52 rfl rfl rfl ?_
  refine o_gn 52 rfl rfl rfl ?_
  refine o_gn 52 rfl rfl rfl ?_
  refine o_gn 52 rfl rfl rfl ?_
  refine o_gn 52 rfl rfl rfl ?_
  refine o_y (y_pick rfl rfl) ?_
  refine o_y (y_move rfl) ?_
  refine o_gn 59 rfl rfl rfl ?_
  refine o_gn 59 rfl rfl rfl ?_
  refine o_gn 59 rfl rfl rfl ?_
  refine o_gn 59 rfl rfl rfl ?_
  refine o_gn 59 rfl rfl rfl ?_
  refine o_y (y_pick rfl rfl) ?_
  refine o_y (y_move rfl) ?_
  refine o_gn 66 rfl rfl rfl ?_
  refine o_gn 66 rfl rfl rfl ?_
  refine o_gn 66 rfl rfl rfl ?_
  refine o_gn 66 rfl rfl rfl ?_
  refine o_gn 66 rfl rfl rfl ?_
  refine o_y (y_pick rfl rfl) ?_
  refine o_y (y_move rfl) ?_
  refine o_gn 73 rfl rfl rfl ?_
  refine o_gn 73 rfl rfl rfl ?_
  refine o_gn 73 rfl rfl rfl ?_
  refine o_gn 73 rfl rfl rfl ?_
  refine o_gn 73 rfl rfl rfl ?_
  refine o_y (y_pick rfl rfl) ?_
  refine o_y (y_move rfl) ?_
  refine o_gn 80 rfl rfl rfl ?_
  refine o_gn 80 rfl rfl rfl ?_
  refine o_gn 80 rfl rfl rfl ?_
  refine o_gn 80 rfl rfl rfl ?_
  refine o_gn 80 rfl rfl rfl ?_
  refine o_y (y_pick rfl rfl) ?_
  refine o_y (y_move rfl) ?_
  refine o_gn 87 rfl rfl rfl ?_
  refine o_gn 87 rfl rfl rfl ?_
  refine o_gn 87 rfl rfl rfl ?_
  refine o_gn 87 rfl rfl rfl ?_
  refine o_gn 87 rfl rfl rfl ?_
  refine o_y (y_pick rfl rfl) ?_
  refine o_y (y_move rfl) ?_
  refine o_gn 94 rfl rfl rfl ?_
  refine o_gn 94 rfl rfl rfl ?_
  refine o_gn 94 rfl rfl rfl ?_
  refine o_gn 94 rfl rfl rfl ?_
  refine o_gn 94 rfl rfl rfl ?_
  refine o_y (y_pick rfl rfl) ?_
  refine o_y (y_move rfl) ?_
  refine o_gn 101 rfl rfl rfl ?_
  refine o_gn 101 rfl rfl rfl ?_
  refine o_gn 101 rfl rfl rfl ?_
  refine o_gn 101 rfl rfl rfl ?_
  refine o_gn 101 rfl rfl rfl ?_
  refine o_y (y_pick rfl rfl) ?_
  refine o_y (y_assign rfl) ?_
  refine o_nil ?_
  refine x_ret ?_
  refine x_fin 2 (ret1 rfl rfl) ?_
  refine ⟨?_, rfl, rfl⟩
  first
    | (have hne : ¬ x = y := fun e => by
         subst e
         first | exact absurd rfl hg1_10 | exact absurd rfl hg1_17 | exact absurd rfl hg1_24 | exact absurd rfl hg1_31 | exact absurd rfl hg1_38 | (simp at hg1_45; done) | exact absurd rfl hg1_52 | exact absurd rfl hg1_59 | exact absurd rfl hg1_66 | exact absurd rfl hg1_73 | exact absurd rfl hg1_80 | exact absurd rfl hg1_87 | exact absurd rfl hg1_94 | exact absurd rfl hg1_101
       rw [decide_eq_false hne]; done)
    | (congr 2; apply propext; constructor
       · intro e
         obtain ⟨⟨_⟩⟩ : Nonempty Unit := ⟨()⟩
         cases x with | mk a0 a1 a2 a3 a4 a5 a6 a7 a8 a9 a10 a11 t a13 a14 => cases t; cases y with | mk b0 b1 b2 b3 b4 b5 b6 b7 b8 b9 b10 b11 s b13 b14 => cases s; simp_all
       intro e; rw [e])
end Go.Ph
set_option linter.unusedVariables false
set_option linter.unusedSimpArgs false
set_option maxRecDepth 100000
namespace Go.Ph
open Go Go.RowKit Go.Proofs.YtmgnagpgnoikfaaGreatDoor Go.Proofs.Tryz
end Go.Ph
set_option linter.unusedVariables false
set_option linter.unusedSimpArgs false
set_option maxRecDepth 100000
namespace Go.Ph
open Go Go.RowKit Go.Proofs.YtmgnagpgnoikfaaGreatDoor Go.Proofs.Tryz
def mkNumber (n : Int) : List Value := [.int .i64 (-1000 - (n : Int))]
theorem markNumber_ok {B : World} {H : HM} {O : OL} (n : Nat) (hn : n ≤ 4611686018427387904) : CallsM prog 175 [.int .i64 (n : Int)].toArray B H O (Same (.int .i64 (-1000 - (n : Int))) H O) := by
  refine enter func175 rfl ntmps175 (l := [(0, _)]) rfl rfl ?_
  refine x_seq ?_
  refine x_region rfl ?_
  refine o_y (y_assign rfl) ?_
  refine o_nil ?_
  refine x_seq ?_
  refine x_region rfl ?_
  refine o_y (y_move rfl) ?_
  refine o_y (y_subN rfl rfl (by omega) (by omega)) ?_
  refine o_y (y_assign rfl) ?_
  refine o_nil ?_
  refine x_ret ?_
  refine x_fin 0 (ret1 rfl rfl) ?_
  exact ⟨rfl, rfl, rfl⟩
theorem isNumber_ok {B : World} {H : HM} {O : OL} (n : Nat) (hn : n ≤ 4611686018427387904) : CallsM prog 193 [.int .i64 (-1000 - (n : Int)), .int .i64 (n : Int)].toArray B H O (Same (.bool true) H O) := by
  refine enter func193 rfl ntmps193 (l := [(0, _), (1, _)]) rfl rfl ?_
  refine x_seq ?_
  refine x_region rfl ?_
  refine o_y (y_assign rfl) ?_
  refine o_nil ?_
  refine x_seq ?_
  refine x_region rfl ?_
  refine o_y (y_move rfl) ?_
  refine o_y (y_move rfl) ?_
  refine o_call fn175 rfl (markNumber_ok n hn) ?_
  rintro _ _ _ ⟨rfl, rfl, rfl⟩
  refine o_y (y_eql rfl rfl) ?_
  refine o_y (y_assign rfl) ?_
  refine o_nil ?_
  refine x_ret ?_
  refine x_fin 0 (ret1 rfl rfl) ?_
  exact ⟨by simp, rfl, rfl⟩
def mkSeal (n : Int) : List Value := [.int .i64 (-1000 - (n : Int)), .int .i64 0, .int .i64 0]
theorem markSeal_ok {B : World} {H : HM} {O : OL} (n : Nat) (hn : n ≤ 4611686018427387904) : CallsM prog 176 [.int .i64 (n : Int)].toArray B H O (Same (.agg [.int .i64 (-1000 - (n : Int)), .int .i64 0, .int .i64 0].toArray) H O) := by
  refine enter func176 rfl ntmps176 (l := [(0, _)]) rfl rfl ?_
  refine x_seq ?_
  refine x_region rfl ?_
  refine o_alloc ti135 rfl (fun b2 => ?_)
  refine o_nil ?_
  refine x_seq ?_
  refine x_region rfl ?_
  refine o_y (y_move rfl) ?_
  refine o_y (y_subN rfl rfl (by omega) (by omega)) ?_
  refine o_y (y_buildS bt135 rfl (C := [_, _, _]) rfl) ?_
  refine o_store (u := [_, _, _]) (C' := [_, _, _]) ti135 rfl rfl rfl rfl (by first | rfl | assumption | (simp only [ones, List.all_cons, List.all_nil, Bool.and_true, one_of (by assumption)]; done)) (by repeat (first | exact .z | apply Upd.s | apply Upd.a)) (by exact Nat.le_of_ble_eq_true rfl) (by rfl) ?_
  refine o_nil ?_
  refine x_ret ?_
  refine x_fin 1 (retC rfl rfl ti135 inn rfl) ?_
  exact ⟨rfl, rfl, rfl⟩
theorem isSeal_ok {B : World} {H : HM} {O : OL} (n : Nat) (hn : n ≤ 4611686018427387904) : CallsM prog 194 [.agg [.int .i64 (-1000 - (n : Int)), .int .i64 0, .int .i64 0].toArray, .int .i64 (n : Int)].toArray B H O (Same (.bool true) H O) := by
  refine enter func194 rfl ntmps194 (l := [(0, _), (1, _)]) rfl rfl ?_
  refine x_seq ?_
  refine x_region rfl ?_
  refine o_box rfl (cs := [_, _, _]) rfl (fun b2 => ?_)
  refine o_y (y_assign rfl) ?_
  refine o_nil ?_
  refine x_seq ?_
  refine x_regionQ mixed (by kernel_rfl) rfl ?_
  refine q_y (y_loadA ti135 rfl inn rfl) ?_
  refine q_y (y_move rfl) ?_
  refine q_call fn176 rfl (markSeal_ok n hn) ?_
  refine q_y (y_eqlS ei135 (ps := [_, _, _]) (qs := [_, _, _]) rfl rfl rfl rfl) ?_
  refine q_y (y_assign rfl) ?_
  refine q_nil ?_
  refine x_ret ?_
  refine x_fin 1 (ret1 rfl rfl) ?_
  exact ⟨by simp, rfl, rfl⟩
def mkAdd (n : Int) : List Value := [.int .i64 (-1000 - (n : Int)), .int .i64 0, .int .i64 0]
theorem markAdd_ok {B : World} {H : HM} {O : OL} (n : Nat) (hn : n ≤ 4611686018427387904) : CallsM prog 174 [.int .i64 (n : Int)].toArray B H O (Same (.agg [.int .i64 (-1000 - (n : Int)), .int .i64 0, .int .i64 0].toArray) H O) := by
  refine enter func174 rfl ntmps174 (l := [(0, _)]) rfl rfl ?_
  refine x_seq ?_
  refine x_region rfl ?_
  refine o_alloc ti131 rfl (fun b2 => ?_)
  refine o_nil ?_
  refine x_seq ?_
  refine x_region rfl ?_
  refine o_y (y_move rfl) ?_
  refine o_y (y_subN rfl rfl (by omega) (by omega)) ?_
  refine o_y (y_buildS bt131 rfl (C := [_, _, _]) rfl) ?_
  refine o_store (u := [_, _, _]) (C' := [_, _, _]) ti131 rfl rfl rfl rfl (by first | rfl | assumption | (simp only [ones, List.all_cons, List.all_nil, Bool.and_true, one_of (by assumption)]; done)) (by repeat (first | exact .z | apply Upd.s | apply Upd.a)) (by exact Nat.le_of_ble_eq_true rfl) (by rfl) ?_
  refine o_nil ?_
  refine x_ret ?_
  refine x_fin 1 (retC rfl rfl ti131 inn rfl) ?_
  exact ⟨rfl, rfl, rfl⟩
theorem isAdd_ok {B : World} {H : HM} {O : OL} (n : Nat) (hn : n ≤ 4611686018427387904) : CallsM prog 192 [.agg [.int .i64 (-1000 - (n : Int)), .int .i64 0, .int .i64 0].toArray, .int .i64 (n : Int)].toArray B H O (Same (.bool true) H O) := by
  refine enter func192 rfl ntmps192 (l := [(0, _), (1, _)]) rfl rfl ?_
  refine x_seq ?_
  refine x_region rfl ?_
  refine o_box rfl (cs := [_, _, _]) rfl (fun b2 => ?_)
  refine o_y (y_assign rfl) ?_
  refine o_nil ?_
  refine x_seq ?_
  refine x_regionQ mixed (by kernel_rfl) rfl ?_
  refine q_y (y_loadA ti131 rfl inn rfl) ?_
  refine q_y (y_move rfl) ?_
  refine q_call fn174 rfl (markAdd_ok n hn) ?_
  refine q_y (y_eqlS ei131 (ps := [_, _, _]) (qs := [_, _, _]) rfl rfl rfl rfl) ?_
  refine q_y (y_assign rfl) ?_
  refine q_nil ?_
  refine x_ret ?_
  refine x_fin 1 (ret1 rfl rfl) ?_
  exact ⟨by simp, rfl, rfl⟩
def mkJoin (n : Int) : List Value := [.int .i64 (-1000 - (n : Int)), .int .i64 0]
theorem markJoin_ok {B : World} {H : HM} {O : OL} (n : Nat) (hn : n ≤ 4611686018427387904) : CallsM prog 177 [.int .i64 (n : Int)].toArray B H O (Same (.agg [.int .i64 (-1000 - (n : Int)), .int .i64 0].toArray) H O) := by
  refine enter func177 rfl ntmps177 (l := [(0, _)]) rfl rfl ?_
  refine x_seq ?_
  refine x_region rfl ?_
  refine o_alloc ti138 rfl (fun b2 => ?_)
  refine o_nil ?_
  refine x_seq ?_
  refine x_region rfl ?_
  refine o_y (y_move rfl) ?_
  refine o_y (y_subN rfl rfl (by omega) (by omega)) ?_
  refine o_y (y_buildS bt138 rfl (C := [_, _]) rfl) ?_
  refine o_store (u := [_, _]) (C' := [_, _]) ti138 rfl rfl rfl rfl (by first | rfl | assumption | (simp only [ones, List.all_cons, List.all_nil, Bool.and_true, one_of (by assumption)]; done)) (by repeat (first | exact .z | apply Upd.s | apply Upd.a)) (by exact Nat.le_of_ble_eq_true rfl) (by rfl) ?_
  refine o_nil ?_
  refine x_ret ?_
  refine x_fin 1 (retC rfl rfl ti138 inn rfl) ?_
  exact ⟨rfl, rfl, rfl⟩
theorem isJoin_ok {B : World} {H : HM} {O : OL} (n : Nat) (hn : n ≤ 4611686018427387904) : CallsM prog 195 [.agg [.int .i64 (-1000 - (n : Int)), .int .i64 0].toArray, .int .i64 (n : Int)].toArray B H O (Same (.bool true) H O) := by
  refine enter func195 rfl ntmps195 (l := [(0, _), (1, _)]) rfl rfl ?_
  refine x_seq ?_
  refine x_region rfl ?_
  refine o_box rfl (cs := [_, _]) rfl (fun b2 => ?_)
  refine o_y (y_assign rfl) ?_
  refine o_nil ?_
  refine x_seq ?_
  refine x_regionQ mixed (by kernel_rfl) rfl ?_
  refine q_y (y_loadA ti138 rfl inn rfl) ?_
  refine q_y (y_move rfl) ?_
  refine q_call fn177 rfl (markJoin_ok n hn) ?_
  refine q_y (y_eqlS ei138 (ps := [_, _]) (qs := [_, _]) rfl rfl rfl rfl) ?_
  refine q_y (y_assign rfl) ?_
  refine q_nil ?_
  refine x_ret ?_
  refine x_fin 1 (ret1 rfl rfl) ?_
  exact ⟨by simp, rfl, rfl⟩
def mkNode (n : Int) : List Value := [.int .i64 (-1000 - (n : Int)), .int .i64 0, .int .i64 0, .slice none 0 0]
theorem markNode_ok {B : World} {H : HM} {O : OL} (n : Nat) (hn : n ≤ 4611686018427387904) : CallsM prog 214 [.int .i64 (n : Int)].toArray B H O (Same (.agg [.int .i64 (-1000 - (n : Int)), .int .i64 0, .int .i64 0, .slice none 0 0].toArray) H O) := by
  refine enter func214 rfl ntmps214 (l := [(0, _)]) rfl rfl ?_
  refine x_seq ?_
  refine x_region rfl ?_
  refine o_alloc ti127 rfl (fun b2 => ?_)
  refine o_nil ?_
  refine x_seq ?_
  refine x_region rfl ?_
  refine o_y (y_move rfl) ?_
  refine o_y (y_subN rfl rfl (by omega) (by omega)) ?_
  refine o_y (y_buildS bt127 rfl (C := [_, _, _, _]) rfl) ?_
  refine o_store (u := [_, _, _, _]) (C' := [_, _, _, _]) ti127 rfl rfl rfl rfl (by first | rfl | assumption | (simp only [ones, List.all_cons, List.all_nil, Bool.and_true, one_of (by assumption)]; done)) (by repeat (first | exact .z | apply Upd.s | apply Upd.a)) (by exact Nat.le_of_ble_eq_true rfl) (by rfl) ?_
  refine o_nil ?_
  refine x_ret ?_
  refine x_fin 1 (retC rfl rfl ti127 inn rfl) ?_
  exact ⟨rfl, rfl, rfl⟩
theorem isNode_ok {B : World} {H : HM} {O : OL} (n : Nat) (hn : n ≤ 4611686018427387904) : CallsM prog 242 [.agg [.int .i64 (-1000 - (n : Int)), .int .i64 0, .int .i64 0, .slice none 0 0].toArray, .int .i64 (n : Int)].toArray B H O (Same (.bool true) H O) := by
  refine enter func242 rfl ntmps242 (l := [(0, _), (1, _)]) rfl rfl ?_
  refine x_seq ?_
  refine x_region rfl ?_
  refine o_box rfl (cs := [_, _, _, _]) rfl (fun b2 => ?_)
  refine o_y (y_assign rfl) ?_
  refine o_nil ?_
  refine x_seq ?_
  refine x_region rfl ?_
  refine o_y (y_fieldAddr fd127_0 ti3 (by decide) rfl) ?_
  refine o_y (y_loadO ti3 rfl inn rfl) ?_
  refine o_y (y_move rfl) ?_
  refine o_y (y_subN rfl rfl (by omega) (by omega)) ?_
  refine o_y (y_eql rfl rfl) ?_
  refine o_y (y_move rfl) ?_
  refine o_split 10 rfl (fun hg1_10 => ?_) (fun hg1_10 => ?_)
  · try simp only [kk] at hg1_10
    refine o_gy 10 rfl rfl (y_fieldAddr fd127_3 ti24 (by decide) rfl) ?_
    refine o_gy 10 rfl rfl (y_loadO ti24 rfl inn rfl) ?_
    first | refine o_gy 10 rfl rfl (y_lenL (by assumption) underlying24 rfl) ?_ | refine o_gy 10 rfl rfl (y_lenR (by assumption) underlying24 rfl) ?_ | refine o_gy 10 rfl rfl (y_len underlying24 rfl) ?_
    refine o_gy 10 rfl rfl (y_eql rfl rfl) ?_
    refine o_y (y_pick rfl rfl) ?_
    refine o_y (y_assign rfl) ?_
    refine o_nil ?_
    refine x_ret ?_
    refine x_fin 1 (ret1 rfl rfl) ?_
    exact ⟨rfl, rfl, rfl⟩
  try simp only [kk] at hg1_10
  exfalso; simp at hg1_10
def mkCommit (n : Int) : List Value := [.int .i64 0, .int .i64 (-1000 - (n : Int)), .int .i64 0, .int .i64 0, .int .i64 0, .bool false, .slice none 0 0, .slice none 0 0, .slice none 0 0, .slice none 0 0, .int .i64 0, .int .i64 0, .slice none 0 0, .int .i64 0, .int .i64 0]
theorem markCommit_ok {B : World} {H : HM} {O : OL} (n : Nat) (hn : n ≤ 4611686018427387904) : CallsM prog 216 [.int .i64 (n : Int)].toArray B H O (Same (.agg [.int .i64 0, .int .i64 (-1000 - (n : Int)), .int .i64 0, .int .i64 0, .int .i64 0, .bool false, .slice none 0 0, .slice none 0 0, .slice none 0 0, .slice none 0 0, .int .i64 0, .int .i64 0, .slice none 0 0, .int .i64 0, .int .i64 0].toArray) H O) := by
  refine enter func216 rfl ntmps216 (l := [(0, _)]) rfl rfl ?_
  refine x_seq ?_
  refine x_region rfl ?_
  refine o_alloc ti31 rfl (fun b2 => ?_)
  refine o_nil ?_
  refine x_seq ?_
  refine x_region rfl ?_
  refine o_y (y_move rfl) ?_
  refine o_y (y_subN rfl rfl (by omega) (by omega)) ?_
  refine o_y (y_buildS bt31 rfl (C := [_, _, _, _, _, _, _, _, _, _, _, _, _, _, _]) rfl) ?_
  refine o_store (u := [_, _, _, _, _, _, _, _, _, _, _, _, _, _, _]) (C' := [_, _, _, _, _, _, _, _, _, _, _, _, _, _, _]) ti31 rfl rfl rfl rfl (by first | rfl | assumption | (simp only [ones, List.all_cons, List.all_nil, Bool.and_true, one_of (by assumption)]; done)) (by repeat (first | exact .z | apply Upd.s | apply Upd.a)) (by exact Nat.le_of_ble_eq_true rfl) (by rfl) ?_
  refine o_nil ?_
  refine x_ret ?_
  refine x_fin 1 (retC rfl rfl ti31 inn rfl) ?_
  exact ⟨rfl, rfl, rfl⟩
theorem isCommit_ok {B : World} {H : HM} {O : OL} (n : Nat) (hn : n ≤ 4611686018427387904) : CallsM prog 244 [.agg [.int .i64 0, .int .i64 (-1000 - (n : Int)), .int .i64 0, .int .i64 0, .int .i64 0, .bool false, .slice none 0 0, .slice none 0 0, .slice none 0 0, .slice none 0 0, .int .i64 0, .int .i64 0, .slice none 0 0, .int .i64 0, .int .i64 0].toArray, .int .i64 (n : Int)].toArray B H O (Same (.bool true) H O) := by
  refine enter func244 rfl ntmps244 (l := [(0, _), (1, _)]) rfl rfl ?_
  refine x_seq ?_
  refine x_region rfl ?_
  refine o_box rfl (cs := [_, _, _, _, _, _, _, _, _, _, _, _, _, _, _]) rfl (fun b2 => ?_)
  refine o_y (y_assign rfl) ?_
  refine o_nil ?_
  refine x_seq ?_
  refine x_region rfl ?_
  refine o_y (y_fieldAddr fd31_1 ti3 (by decide) rfl) ?_
  refine o_y (y_loadO ti3 rfl inn rfl) ?_
  refine o_y (y_move rfl) ?_
  refine o_y (y_subN rfl rfl (by omega) (by omega)) ?_
  refine o_y (y_eql rfl rfl) ?_
  refine o_y (y_move rfl) ?_
  refine o_split 10 rfl (fun hg1_10 => ?_) (fun hg1_10 => ?_)
  · try simp only [kk] at hg1_10
    refine o_gy 10 rfl rfl (y_fieldAddr fd31_6 ti23 (by decide) rfl) ?_
    refine o_gy 10 rfl rfl (y_loadO ti23 rfl inn rfl) ?_
    first | refine o_gy 10 rfl rfl (y_lenL (by assumption) underlying23 rfl) ?_ | refine o_gy 10 rfl rfl (y_lenR (by assumption) underlying23 rfl) ?_ | refine o_gy 10 rfl rfl (y_len underlying23 rfl) ?_
    refine o_gy 10 rfl rfl (y_eql rfl rfl) ?_
    refine o_y (y_pick rfl rfl) ?_
    refine o_y (y_assign rfl) ?_
    refine o_nil ?_
    refine x_ret ?_
    refine x_fin 1 (ret1 rfl rfl) ?_
    exact ⟨rfl, rfl, rfl⟩
  try simp only [kk] at hg1_10
  exfalso; simp at hg1_10
def mkLog (n : Int) : List Value := [.int .i64 (-1000 - (n : Int)), .slice none 0 0]
theorem markLog_ok {B : World} {H : HM} {O : OL} (n : Nat) (hn : n ≤ 4611686018427387904) : CallsM prog 35 [.int .i64 (n : Int)].toArray B H O (Same (.agg [.int .i64 (-1000 - (n : Int)), .slice none 0 0].toArray) H O) := by
  refine enter func35 rfl ntmps35 (l := [(0, _)]) rfl rfl ?_
  refine x_seq ?_
  refine x_region rfl ?_
  refine o_alloc ti95 rfl (fun b2 => ?_)
  refine o_nil ?_
  refine x_seq ?_
  refine x_region rfl ?_
  refine o_y (y_move rfl) ?_
  refine o_y (y_subN rfl rfl (by omega) (by omega)) ?_
  refine o_y (y_buildS bt95 rfl (C := [_, _]) rfl) ?_
  refine o_store (u := [_, _]) (C' := [_, _]) ti95 rfl rfl rfl rfl (by first | rfl | assumption | (simp only [ones, List.all_cons, List.all_nil, Bool.and_true, one_of (by assumption)]; done)) (by repeat (first | exact .z | apply Upd.s | apply Upd.a)) (by exact Nat.le_of_ble_eq_true rfl) (by rfl) ?_
  refine o_nil ?_
  refine x_ret ?_
  refine x_fin 1 (retC rfl rfl ti95 inn rfl) ?_
  exact ⟨rfl, rfl, rfl⟩
theorem isLog_ok {B : World} {H : HM} {O : OL} (n : Nat) (hn : n ≤ 4611686018427387904) : CallsM prog 48 [.agg [.int .i64 (-1000 - (n : Int)), .slice none 0 0].toArray, .int .i64 (n : Int)].toArray B H O (Same (.bool true) H O) := by
  refine enter func48 rfl ntmps48 (l := [(0, _), (1, _)]) rfl rfl ?_
  refine x_seq ?_
  refine x_region rfl ?_
  refine o_box rfl (cs := [_, _]) rfl (fun b2 => ?_)
  refine o_y (y_assign rfl) ?_
  refine o_nil ?_
  refine x_seq ?_
  refine x_region rfl ?_
  refine o_y (y_fieldAddr fd95_0 ti3 (by decide) rfl) ?_
  refine o_y (y_loadO ti3 rfl inn rfl) ?_
  refine o_y (y_move rfl) ?_
  refine o_y (y_subN rfl rfl (by omega) (by omega)) ?_
  refine o_y (y_eql rfl rfl) ?_
  refine o_y (y_move rfl) ?_
  refine o_split 10 rfl (fun hg1_10 => ?_) (fun hg1_10 => ?_)
  · try simp only [kk] at hg1_10
    refine o_gy 10 rfl rfl (y_fieldAddr fd95_1 ti93 (by decide) rfl) ?_
    refine o_gy 10 rfl rfl (y_loadO ti93 rfl inn rfl) ?_
    first | refine o_gy 10 rfl rfl (y_lenL (by assumption) underlying93 rfl) ?_ | refine o_gy 10 rfl rfl (y_lenR (by assumption) underlying93 rfl) ?_ | refine o_gy 10 rfl rfl (y_len underlying93 rfl) ?_
    refine o_gy 10 rfl rfl (y_eql rfl rfl) ?_
    refine o_y (y_pick rfl rfl) ?_
    refine o_y (y_assign rfl) ?_
    refine o_nil ?_
    refine x_ret ?_
    refine x_fin 1 (ret1 rfl rfl) ?_
    exact ⟨rfl, rfl, rfl⟩
  try simp only [kk] at hg1_10
  exfalso; simp at hg1_10
end Go.Ph
set_option linter.unusedVariables false
set_option linter.unusedSimpArgs false
set_option maxRecDepth 100000
namespace Go.Ph
open Go Go.RowKit Go.Proofs.YtmgnagpgnoikfaaGreatDoor Go.Proofs.Tryz
theorem fillNumber_ok {B : World} {H : HM} {O : OL} {bk : Nat} {C : List Value} {v : Value} {l : List (Value × Nat)} {Rv Rs : OL} {Z : Nat → Nat → List Value → Prop} {K : Nat} (hC : C[2]? = some v) (hv : Row v l.length (heldCells l) 157 2 Rv) (hh : Held 3 1 8 Z K l Rs) (hK : K ≤ 140737488351232) (hm : l.length ≤ 1000000000000) :
    CallsM prog 60 [.pointer (some ⟨bk, 0, none⟩)].toArray B H ((bk, cl C 77) :: (Rv ++ (Rs ++ O))) (fun _ H' O' => H = H' ∧ ∃ Rs', O' = (bk, cl C 77) :: (Rv ++ (Rs' ++ O)) ∧ Held 3 1 8 (Marked mkNumber) K l Rs') := by
  refine enter func60 rfl ntmps60 (l := [(0, _)]) rfl rfl ?_
  refine x_seq ?_
  refine x_region rfl ?_
  refine o_y (y_move rfl) ?_
  refine o_y (y_nilCheck rfl) ?_
  refine o_y (y_fieldAddr fd77_2 ti43 (by decide) rfl) ?_
  refine o_y (y_loadO ti43 rfl .z hC) ?_
  refine o_y (y_lenA underlying43 rfl) ?_
  refine o_y (y_move rfl) ?_
  refine o_nil ?_
  refine x_block ?_
  refine x_loopf (σ := Nat × OL × OL) (fun s => [(10, .int .i64 (s.1 : Int)), (9, .int .i64 (l.length : Int)), (0, .pointer (some ⟨bk, 0, none⟩))]) (fun s => (bk, cl C 77) :: (Rv ++ (s.2.1 ++ (s.2.2 ++ O)))) (fun s => s.1 ≤ l.length ∧ Held 3 1 8 (Marked mkNumber) K (l.take s.1) s.2.1 ∧ Held 3 1 8 Z K (l.drop s.1) s.2.2) (fun s => l.length - s.1) (0, [], Rs) ⟨by simp, .n, hh⟩ (.c rfl (.c rfl (.c rfl .n))) rfl ?_
  rintro ⟨i, RA, RB⟩ ⟨i1, i2, i3⟩
  simp only at i1 i2 i3
  refine x_seq ?_
  refine x_region rfl ?_
  refine o_y (y_lss rfl rfl) ?_
  refine o_nil ?_
  refine x_seq ?_
  refine x_cond rfl (fun hc0 => ?_) (fun hc0 => ?_)
  · try simp only [kk] at hc0
    have hi : i < l.length := by omega
    rw [List.drop_eq_getElem_cons hi] at i3
    obtain ⟨len, cs, R, RB, rfl, hs, hn, hl, hp, i3⟩ := i3.head
    have hcl := hs.len
    have sv := hv.sl (by omega)
    have aE : AtS H Rv v (i * 2) [l[i].1, .int .i64 (l[i].2 : Int)] := hv.at (fun p hp => hp) (by omega) (heldCells_get hi)
    simp only [List.append_assoc]
    refine x_skip ?_
    refine x_seq ?_
    refine x_block ?_
    refine x_seq ?_
    refine x_region rfl ?_
    refine o_y (y_move rfl) ?_
    refine o_y (y_assign rfl) ?_
    refine o_nil ?_
    refine x_seq ?_
    refine x_region rfl ?_
    refine o_y (y_move rfl) ?_
    refine o_y (y_nilCheck rfl) ?_
    refine o_y (y_fieldAddr fd77_2 ti43 (by decide) rfl) ?_
    refine o_y (y_loadO ti43 rfl .z hC) ?_
    refine o_y (y_move rfl) ?_
    refine o_y (y_idxR hv i hi underlying43 ti157 rfl rfl rfl) ?_
    refine o_y (y_assign rfl) ?_
    refine o_nil ?_
    refine x_seq ?_
    refine x_region rfl ?_
    refine o_y (y_move rfl) ?_
    refine o_y (y_nilCheckP (by assumption) rfl) ?_
    refine o_y (y_fieldAddrP fd157_0 ti24 (by decide) (by assumption) rfl) ?_
    refine o_y (y_loadS1 ti24 rfl (AtS.sub (by assumption) (fun p hp => by repeat (first | exact hp | exact List.mem_append_left _ hp | apply List.mem_cons_of_mem | apply List.mem_append_right))) rfl) ?_
    refine o_y (y_lenA underlying24 rfl) ?_
    refine o_y (y_move rfl) ?_
    refine o_nil ?_
    refine x_block ?_
    refine x_loopf (σ := Nat × List Value × OL) (fun s => [(24, .int .i64 (s.1 : Int)), (23, .int .i64 (len : Int)), (3, ptrAt v (i * 2)), (10, .int .i64 (i : Int)), (9, .int .i64 (l.length : Int)), (0, .pointer (some ⟨bk, 0, none⟩))]) (fun s => (bk, cl C 77) :: (Rv ++ (RA ++ (s.2.2 ++ (RB ++ O))))) (fun s => s.1 ≤ len ∧ Row l[i].1 len s.2.1 3 1 s.2.2 ∧ s.2.1 = (List.replicate s.1 (mkNumber (l[i].2 : Int))).flatten ++ cs.drop (s.1 * 1)) (fun s => len - s.1) (0, cs, R) ⟨by simp, hs, by simp⟩ (.c rfl (.c rfl (.c rfl (.c rfl (.c rfl (.c rfl .n)))))) rfl ?_
    rintro ⟨j, cs', R'⟩ ⟨j1, j2, j3⟩
    simp only at j1 j2 j3
    refine x_seq ?_
    refine x_region rfl ?_
    refine o_y (y_lss rfl rfl) ?_
    refine o_nil ?_
    refine x_seq ?_
    refine x_cond rfl (fun hc1 => ?_) (fun hc1 => ?_)
    · try simp only [kk] at hc1
      have hj : j < len := by omega
      have hcl' := j2.len
      refine x_skip ?_
      refine x_seq ?_
      refine x_block ?_
      refine x_seq ?_
      refine x_region rfl ?_
      refine o_y (y_move rfl) ?_
      refine o_y (y_assign rfl) ?_
      refine o_nil ?_
      refine x_regionP [(0, true), (1, true), (2, true), (3, true), (4, true), (5, true), (6, true), (7, true), (8, true), (9, false), (10, true), (11, false)] [0, 1, 2, 3, 4, 5, 6, 7, 8, 10] [11] mixed (by kernel_rfl) npa ?_
      have hE := Ext.refl H
      refine p_take rfl rfl (y_move rfl) ?_
      refine p_take rfl rfl (y_nilCheckP (by assumption) rfl) ?_
      refine p_take rfl rfl (y_fieldAddrP fd157_0 ti24 (by decide) (by assumption) rfl) ?_
      refine p_take rfl rfl (y_loadS1 ti24 rfl (AtS.sub (by assumption) (fun p hp => by repeat (first | exact hp | exact List.mem_append_left _ hp | apply List.mem_cons_of_mem | apply List.mem_append_right))) rfl) ?_
      refine p_take rfl rfl (y_move rfl) ?_
      refine p_take rfl rfl (y_move rfl) ?_
      refine p_take rfl rfl (y_nilCheckP (by assumption) rfl) ?_
      refine p_take rfl rfl (y_fieldAddrP fd157_1 ti3 (by decide) (by assumption) rfl) ?_
      refine p_take rfl rfl (y_loadS1 ti3 rfl (AtS.sub (by assumption) (fun p hp => by repeat (first | exact hp | exact List.mem_append_left _ hp | apply List.mem_cons_of_mem | apply List.mem_append_right))) rfl) ?_
      refine p_only rfl rfl ?_
      refine o_call fn175 rfl (markNumber_ok l[i].2 (by omega)) ?_
      rintro _ _ _ ⟨rfl, rfl, rfl⟩
      refine o_nil ?_
      refine ⟨.inr ⟨hE, hld⟩, ?_⟩
      refine p_take rfl rfl (y_idxR j2 j hj underlying24 ti3 rfl rfl rfl) ?_
      refine p_only rfl rfl ?_
      refine o_storeS (u := [_]) ti3 rfl rfl j2 rfl rfl (by first | rfl | assumption | (simp only [ones, List.all_cons, List.all_nil, Bool.and_true, one_of (by assumption)]; done)) (by omega) (by omega) hol (fun R7_11 j7_11 => ?_)
      refine o_nil ?_
      refine ⟨.inl rfl, ?_⟩
      refine p_nil ?_
      refine x_region rfl ?_
      refine o_y (y_addN rfl rfl (by omega) (by omega)) ?_
      refine o_y (y_move rfl) ?_
      refine o_nil ?_
      exact ⟨(j + 1, _, R7_11), 0, rfl, (.c rfl (.c rfl (.c rfl (.c rfl (.c rfl (.c rfl .n)))))), rfl, ⟨by omega, j7_11, by rw [j3]; exact put_mark (mk := mkNumber (l[i].2 : Int)) rfl hcl hj⟩, by simp only; omega⟩
    try simp only [kk] at hc1
    refine x_exit ?_
    refine x_region rfl ?_
    refine o_y (y_addN rfl rfl (by omega) (by omega)) ?_
    refine o_y (y_move rfl) ?_
    refine o_nil ?_
    have hjl : j = len := by omega
    subst hjl
    have hmk : Marked mkNumber l[i].2 j cs' := by rw [j3, List.drop_eq_nil_of_le (by omega), List.append_nil]; rfl
    exact ⟨(i + 1, RA ++ R', RB), 0, rfl, (.c rfl (.c rfl (.c rfl .n))), by simp only [List.drop_zero, List.append_assoc], ⟨by omega, by rw [take_next hi]; exact i2.snoc j2 hn hl hmk, i3⟩, by simp only; omega⟩
  try simp only [kk] at hc0
  refine x_exit ?_
  with_reducible repeat (first | refine q_exit_then ?_ | refine q_exit_block ?_ | refine q_exit_pass rfl ?_)
  refine x_finN (fn := Go.Proofs.Tryz.f60) 0 (ret0 rfl ) ?_
  have hil : i = l.length := by omega
  subst hil
  rw [List.take_length] at i2
  rw [List.drop_length] at i3
  have := i3.none
  subst this
  exact ⟨rfl, RA, rfl, i2⟩
theorem fillSeal_ok {B : World} {H : HM} {O : OL} {bk : Nat} {C : List Value} {v : Value} {l : List (Value × Nat)} {Rv Rs : OL} {Z : Nat → Nat → List Value → Prop} {K : Nat} (hC : C[6]? = some v) (hv : Row v l.length (heldCells l) 178 2 Rv) (hh : Held 135 3 24 Z K l Rs) (hK : K ≤ 140737488351232) (hm : l.length ≤ 1000000000000) :
    CallsM prog 64 [.pointer (some ⟨bk, 0, none⟩)].toArray B H ((bk, cl C 77) :: (Rv ++ (Rs ++ O))) (fun _ H' O' => H = H' ∧ ∃ Rs', O' = (bk, cl C 77) :: (Rv ++ (Rs' ++ O)) ∧ Held 135 3 24 (Marked mkSeal) K l Rs') := by
  refine enter func64 rfl ntmps64 (l := [(0, _)]) rfl rfl ?_
  refine x_seq ?_
  refine x_region rfl ?_
  refine o_y (y_move rfl) ?_
  refine o_y (y_nilCheck rfl) ?_
  refine o_y (y_fieldAddr fd77_6 ti47 (by decide) rfl) ?_
  refine o_y (y_loadO ti47 rfl .z hC) ?_
  refine o_y (y_lenA underlying47 rfl) ?_
  refine o_y (y_move rfl) ?_
  refine o_nil ?_
  refine x_block ?_
  refine x_loopf (σ := Nat × OL × OL) (fun s => [(10, .int .i64 (s.1 : Int)), (9, .int .i64 (l.length : Int)), (0, .pointer (some ⟨bk, 0, none⟩))]) (fun s => (bk, cl C 77) :: (Rv ++ (s.2.1 ++ (s.2.2 ++ O)))) (fun s => s.1 ≤ l.length ∧ Held 135 3 24 (Marked mkSeal) K (l.take s.1) s.2.1 ∧ Held 135 3 24 Z K (l.drop s.1) s.2.2) (fun s => l.length - s.1) (0, [], Rs) ⟨by simp, .n, hh⟩ (.c rfl (.c rfl (.c rfl .n))) rfl ?_
  rintro ⟨i, RA, RB⟩ ⟨i1, i2, i3⟩
  simp only at i1 i2 i3
  refine x_seq ?_
  refine x_region rfl ?_
  refine o_y (y_lss rfl rfl) ?_
  refine o_nil ?_
  refine x_seq ?_
  refine x_cond rfl (fun hc0 => ?_) (fun hc0 => ?_)
  · try simp only [kk] at hc0
    have hi : i < l.length := by omega
    rw [List.drop_eq_getElem_cons hi] at i3
    obtain ⟨len, cs, R, RB, rfl, hs, hn, hl, hp, i3⟩ := i3.head
    have hcl := hs.len
    have sv := hv.sl (by omega)
    have aE : AtS H Rv v (i * 2) [l[i].1, .int .i64 (l[i].2 : Int)] := hv.at (fun p hp => hp) (by omega) (heldCells_get hi)
    simp only [List.append_assoc]
    refine x_skip ?_
    refine x_seq ?_
    refine x_block ?_
    refine x_seq ?_
    refine x_region rfl ?_
    refine o_y (y_move rfl) ?_
    refine o_y (y_assign rfl) ?_
    refine o_nil ?_
    refine x_seq ?_
    refine x_region rfl ?_
    refine o_y (y_move rfl) ?_
    refine o_y (y_nilCheck rfl) ?_
    refine o_y (y_fieldAddr fd77_6 ti47 (by decide) rfl) ?_
    refine o_y (y_loadO ti47 rfl .z hC) ?_
    refine o_y (y_move rfl) ?_
    refine o_y (y_idxR hv i hi underlying47 ti178 rfl rfl rfl) ?_
    refine o_y (y_assign rfl) ?_
    refine o_nil ?_
    refine x_seq ?_
    refine x_region rfl ?_
    refine o_y (y_move rfl) ?_
    refine o_y (y_nilCheckP (by assumption) rfl) ?_
    refine o_y (y_fieldAddrP fd178_0 ti25 (by decide) (by assumption) rfl) ?_
    refine o_y (y_loadS1 ti25 rfl (AtS.sub (by assumption) (fun p hp => by repeat (first | exact hp | exact List.mem_append_left _ hp | apply List.mem_cons_of_mem | apply List.mem_append_right))) rfl) ?_
    refine o_y (y_lenA underlying25 rfl) ?_
    refine o_y (y_move rfl) ?_
    refine o_nil ?_
    refine x_block ?_
    refine x_loopf (σ := Nat × List Value × OL) (fun s => [(24, .int .i64 (s.1 : Int)), (23, .int .i64 (len : Int)), (3, ptrAt v (i * 2)), (10, .int .i64 (i : Int)), (9, .int .i64 (l.length : Int)), (0, .pointer (some ⟨bk, 0, none⟩))]) (fun s => (bk, cl C 77) :: (Rv ++ (RA ++ (s.2.2 ++ (RB ++ O))))) (fun s => s.1 ≤ len ∧ Row l[i].1 len s.2.1 135 3 s.2.2 ∧ s.2.1 = (List.replicate s.1 (mkSeal (l[i].2 : Int))).flatten ++ cs.drop (s.1 * 3)) (fun s => len - s.1) (0, cs, R) ⟨by simp, hs, by simp⟩ (.c rfl (.c rfl (.c rfl (.c rfl (.c rfl (.c rfl .n)))))) rfl ?_
    rintro ⟨j, cs', R'⟩ ⟨j1, j2, j3⟩
    simp only at j1 j2 j3
    refine x_seq ?_
    refine x_region rfl ?_
    refine o_y (y_lss rfl rfl) ?_
    refine o_nil ?_
    refine x_seq ?_
    refine x_cond rfl (fun hc1 => ?_) (fun hc1 => ?_)
    · try simp only [kk] at hc1
      have hj : j < len := by omega
      have hcl' := j2.len
      refine x_skip ?_
      refine x_seq ?_
      refine x_block ?_
      refine x_seq ?_
      refine x_region rfl ?_
      refine o_y (y_move rfl) ?_
      refine o_y (y_assign rfl) ?_
      refine o_nil ?_
      refine x_regionP [(0, true), (1, true), (2, true), (3, true), (4, true), (5, true), (6, true), (7, true), (8, true), (9, false), (10, true), (11, false)] [0, 1, 2, 3, 4, 5, 6, 7, 8, 10] [11] mixed (by kernel_rfl) npa ?_
      have hE := Ext.refl H
      refine p_take rfl rfl (y_move rfl) ?_
      refine p_take rfl rfl (y_nilCheckP (by assumption) rfl) ?_
      refine p_take rfl rfl (y_fieldAddrP fd178_0 ti25 (by decide) (by assumption) rfl) ?_
      refine p_take rfl rfl (y_loadS1 ti25 rfl (AtS.sub (by assumption) (fun p hp => by repeat (first | exact hp | exact List.mem_append_left _ hp | apply List.mem_cons_of_mem | apply List.mem_append_right))) rfl) ?_
      refine p_take rfl rfl (y_move rfl) ?_
      refine p_take rfl rfl (y_move rfl) ?_
      refine p_take rfl rfl (y_nilCheckP (by assumption) rfl) ?_
      refine p_take rfl rfl (y_fieldAddrP fd178_1 ti3 (by decide) (by assumption) rfl) ?_
      refine p_take rfl rfl (y_loadS1 ti3 rfl (AtS.sub (by assumption) (fun p hp => by repeat (first | exact hp | exact List.mem_append_left _ hp | apply List.mem_cons_of_mem | apply List.mem_append_right))) rfl) ?_
      refine p_only rfl rfl ?_
      refine o_call fn176 rfl (markSeal_ok l[i].2 (by omega)) ?_
      rintro _ _ _ ⟨rfl, rfl, rfl⟩
      refine o_nil ?_
      refine ⟨.inr ⟨hE, hld⟩, ?_⟩
      refine p_take rfl rfl (y_idxR j2 j hj underlying25 ti135 rfl rfl rfl) ?_
      refine p_only rfl rfl ?_
      refine o_storeS (u := [_, _, _]) ti135 rfl rfl j2 rfl rfl (by first | rfl | assumption | (simp only [ones, List.all_cons, List.all_nil, Bool.and_true, one_of (by assumption)]; done)) (by omega) (by omega) hol (fun R7_11 j7_11 => ?_)
      refine o_nil ?_
      refine ⟨.inl rfl, ?_⟩
      refine p_nil ?_
      refine x_region rfl ?_
      refine o_y (y_addN rfl rfl (by omega) (by omega)) ?_
      refine o_y (y_move rfl) ?_
      refine o_nil ?_
      exact ⟨(j + 1, _, R7_11), 0, rfl, (.c rfl (.c rfl (.c rfl (.c rfl (.c rfl (.c rfl .n)))))), rfl, ⟨by omega, j7_11, by rw [j3]; exact put_mark (mk := mkSeal (l[i].2 : Int)) rfl hcl hj⟩, by simp only; omega⟩
    try simp only [kk] at hc1
    refine x_exit ?_
    refine x_region rfl ?_
    refine o_y (y_addN rfl rfl (by omega) (by omega)) ?_
    refine o_y (y_move rfl) ?_
    refine o_nil ?_
    have hjl : j = len := by omega
    subst hjl
    have hmk : Marked mkSeal l[i].2 j cs' := by rw [j3, List.drop_eq_nil_of_le (by omega), List.append_nil]; rfl
    exact ⟨(i + 1, RA ++ R', RB), 0, rfl, (.c rfl (.c rfl (.c rfl .n))), by simp only [List.drop_zero, List.append_assoc], ⟨by omega, by rw [take_next hi]; exact i2.snoc j2 hn hl hmk, i3⟩, by simp only; omega⟩
  try simp only [kk] at hc0
  refine x_exit ?_
  with_reducible repeat (first | refine q_exit_then ?_ | refine q_exit_block ?_ | refine q_exit_pass rfl ?_)
  refine x_finN (fn := Go.Proofs.Tryz.f64) 0 (ret0 rfl ) ?_
  have hil : i = l.length := by omega
  subst hil
  rw [List.take_length] at i2
  rw [List.drop_length] at i3
  have := i3.none
  subst this
  exact ⟨rfl, RA, rfl, i2⟩
theorem fillAdd_ok {B : World} {H : HM} {O : OL} {bk : Nat} {C : List Value} {v : Value} {l : List (Value × Nat)} {Rv Rs : OL} {Z : Nat → Nat → List Value → Prop} {K : Nat} (hC : C[8]? = some v) (hv : Row v l.length (heldCells l) 188 2 Rv) (hh : Held 131 3 24 Z K l Rs) (hK : K ≤ 140737488351232) (hm : l.length ≤ 1000000000000) :
    CallsM prog 66 [.pointer (some ⟨bk, 0, none⟩)].toArray B H ((bk, cl C 77) :: (Rv ++ (Rs ++ O))) (fun _ H' O' => H = H' ∧ ∃ Rs', O' = (bk, cl C 77) :: (Rv ++ (Rs' ++ O)) ∧ Held 131 3 24 (Marked mkAdd) K l Rs') := by
  refine enter func66 rfl ntmps66 (l := [(0, _)]) rfl rfl ?_
  refine x_seq ?_
  refine x_region rfl ?_
  refine o_y (y_move rfl) ?_
  refine o_y (y_nilCheck rfl) ?_
  refine o_y (y_fieldAddr fd77_8 ti49 (by decide) rfl) ?_
  refine o_y (y_loadO ti49 rfl .z hC) ?_
  refine o_y (y_lenA underlying49 rfl) ?_
  refine o_y (y_move rfl) ?_
  refine o_nil ?_
  refine x_block ?_
  refine x_loopf (σ := Nat × OL × OL) (fun s => [(10, .int .i64 (s.1 : Int)), (9, .int .i64 (l.length : Int)), (0, .pointer (some ⟨bk, 0, none⟩))]) (fun s => (bk, cl C 77) :: (Rv ++ (s.2.1 ++ (s.2.2 ++ O)))) (fun s => s.1 ≤ l.length ∧ Held 131 3 24 (Marked mkAdd) K (l.take s.1) s.2.1 ∧ Held 131 3 24 Z K (l.drop s.1) s.2.2) (fun s => l.length - s.1) (0, [], Rs) ⟨by simp, .n, hh⟩ (.c rfl (.c rfl (.c rfl .n))) rfl ?_
  rintro ⟨i, RA, RB⟩ ⟨i1, i2, i3⟩
  simp only at i1 i2 i3
  refine x_seq ?_
  refine x_region rfl ?_
  refine o_y (y_lss rfl rfl) ?_
  refine o_nil ?_
  refine x_seq ?_
  refine x_cond rfl (fun hc0 => ?_) (fun hc0 => ?_)
  · try simp only [kk] at hc0
    have hi : i < l.length := by omega
    rw [List.drop_eq_getElem_cons hi] at i3
    obtain ⟨len, cs, R, RB, rfl, hs, hn, hl, hp, i3⟩ := i3.head
    have hcl := hs.len
    have sv := hv.sl (by omega)
    have aE : AtS H Rv v (i * 2) [l[i].1, .int .i64 (l[i].2 : Int)] := hv.at (fun p hp => hp) (by omega) (heldCells_get hi)
    simp only [List.append_assoc]
    refine x_skip ?_
    refine x_seq ?_
    refine x_block ?_
    refine x_seq ?_
    refine x_region rfl ?_
    refine o_y (y_move rfl) ?_
    refine o_y (y_assign rfl) ?_
    refine o_nil ?_
    refine x_seq ?_
    refine x_region rfl ?_
    refine o_y (y_move rfl) ?_
    refine o_y (y_nilCheck rfl) ?_
    refine o_y (y_fieldAddr fd77_8 ti49 (by decide) rfl) ?_
    refine o_y (y_loadO ti49 rfl .z hC) ?_
    refine o_y (y_move rfl) ?_
    refine o_y (y_idxR hv i hi underlying49 ti188 rfl rfl rfl) ?_
    refine o_y (y_assign rfl) ?_
    refine o_nil ?_
    refine x_seq ?_
    refine x_region rfl ?_
    refine o_y (y_move rfl) ?_
    refine o_y (y_nilCheckP (by assumption) rfl) ?_
    refine o_y (y_fieldAddrP fd188_0 ti23 (by decide) (by assumption) rfl) ?_
    refine o_y (y_loadS1 ti23 rfl (AtS.sub (by assumption) (fun p hp => by repeat (first | exact hp | exact List.mem_append_left _ hp | apply List.mem_cons_of_mem | apply List.mem_append_right))) rfl) ?_
    refine o_y (y_lenA underlying23 rfl) ?_
    refine o_y (y_move rfl) ?_
    refine o_nil ?_
    refine x_block ?_
    refine x_loopf (σ := Nat × List Value × OL) (fun s => [(24, .int .i64 (s.1 : Int)), (23, .int .i64 (len : Int)), (3, ptrAt v (i * 2)), (10, .int .i64 (i : Int)), (9, .int .i64 (l.length : Int)), (0, .pointer (some ⟨bk, 0, none⟩))]) (fun s => (bk, cl C 77) :: (Rv ++ (RA ++ (s.2.2 ++ (RB ++ O))))) (fun s => s.1 ≤ len ∧ Row l[i].1 len s.2.1 131 3 s.2.2 ∧ s.2.1 = (List.replicate s.1 (mkAdd (l[i].2 : Int))).flatten ++ cs.drop (s.1 * 3)) (fun s => len - s.1) (0, cs, R) ⟨by simp, hs, by simp⟩ (.c rfl (.c rfl (.c rfl (.c rfl (.c rfl (.c rfl .n)))))) rfl ?_
    rintro ⟨j, cs', R'⟩ ⟨j1, j2, j3⟩
    simp only at j1 j2 j3
    refine x_seq ?_
    refine x_region rfl ?_
    refine o_y (y_lss rfl rfl) ?_
    refine o_nil ?_
    refine x_seq ?_
    refine x_cond rfl (fun hc1 => ?_) (fun hc1 => ?_)
    · try simp only [kk] at hc1
      have hj : j < len := by omega
      have hcl' := j2.len
      refine x_skip ?_
      refine x_seq ?_
      refine x_block ?_
      refine x_seq ?_
      refine x_region rfl ?_
      refine o_y (y_move rfl) ?_
      refine o_y (y_assign rfl) ?_
      refine o_nil ?_
      refine x_regionP [(0, true), (1, true), (2, true), (3, true), (4, true), (5, true), (6, true), (7, true), (8, true), (9, false), (10, true), (11, false)] [0, 1, 2, 3, 4, 5, 6, 7, 8, 10] [11] mixed (by kernel_rfl) npa ?_
      have hE := Ext.refl H
      refine p_take rfl rfl (y_move rfl) ?_
      refine p_take rfl rfl (y_nilCheckP (by assumption) rfl) ?_
      refine p_take rfl rfl (y_fieldAddrP fd188_0 ti23 (by decide) (by assumption) rfl) ?_
      refine p_take rfl rfl (y_loadS1 ti23 rfl (AtS.sub (by assumption) (fun p hp => by repeat (first | exact hp | exact List.mem_append_left _ hp | apply List.mem_cons_of_mem | apply List.mem_append_right))) rfl) ?_
      refine p_take rfl rfl (y_move rfl) ?_
      refine p_take rfl rfl (y_move rfl) ?_
      refine p_take rfl rfl (y_nilCheckP (by assumption) rfl) ?_
      refine p_take rfl rfl (y_fieldAddrP fd188_1 ti3 (by decide) (by assumption) rfl) ?_
      refine p_take rfl rfl (y_loadS1 ti3 rfl (AtS.sub (by assumption) (fun p hp => by repeat (first | exact hp | exact List.mem_append_left _ hp | apply List.mem_cons_of_mem | apply List.mem_append_right))) rfl) ?_
      refine p_only rfl rfl ?_
      refine o_call fn174 rfl (markAdd_ok l[i].2 (by omega)) ?_
      rintro _ _ _ ⟨rfl, rfl, rfl⟩
      refine o_nil ?_
      refine ⟨.inr ⟨hE, hld⟩, ?_⟩
      refine p_take rfl rfl (y_idxR j2 j hj underlying23 ti131 rfl rfl rfl) ?_
      refine p_only rfl rfl ?_
      refine o_storeS (u := [_, _, _]) ti131 rfl rfl j2 rfl rfl (by first | rfl | assumption | (simp only [ones, List.all_cons, List.all_nil, Bool.and_true, one_of (by assumption)]; done)) (by omega) (by omega) hol (fun R7_11 j7_11 => ?_)
      refine o_nil ?_
      refine ⟨.inl rfl, ?_⟩
      refine p_nil ?_
      refine x_region rfl ?_
      refine o_y (y_addN rfl rfl (by omega) (by omega)) ?_
      refine o_y (y_move rfl) ?_
      refine o_nil ?_
      exact ⟨(j + 1, _, R7_11), 0, rfl, (.c rfl (.c rfl (.c rfl (.c rfl (.c rfl (.c rfl .n)))))), rfl, ⟨by omega, j7_11, by rw [j3]; exact put_mark (mk := mkAdd (l[i].2 : Int)) rfl hcl hj⟩, by simp only; omega⟩
    try simp only [kk] at hc1
    refine x_exit ?_
    refine x_region rfl ?_
    refine o_y (y_addN rfl rfl (by omega) (by omega)) ?_
    refine o_y (y_move rfl) ?_
    refine o_nil ?_
    have hjl : j = len := by omega
    subst hjl
    have hmk : Marked mkAdd l[i].2 j cs' := by rw [j3, List.drop_eq_nil_of_le (by omega), List.append_nil]; rfl
    exact ⟨(i + 1, RA ++ R', RB), 0, rfl, (.c rfl (.c rfl (.c rfl .n))), by simp only [List.drop_zero, List.append_assoc], ⟨by omega, by rw [take_next hi]; exact i2.snoc j2 hn hl hmk, i3⟩, by simp only; omega⟩
  try simp only [kk] at hc0
  refine x_exit ?_
  with_reducible repeat (first | refine q_exit_then ?_ | refine q_exit_block ?_ | refine q_exit_pass rfl ?_)
  refine x_finN (fn := Go.Proofs.Tryz.f66) 0 (ret0 rfl ) ?_
  have hil : i = l.length := by omega
  subst hil
  rw [List.take_length] at i2
  rw [List.drop_length] at i3
  have := i3.none
  subst this
  exact ⟨rfl, RA, rfl, i2⟩
theorem fillJoin_ok {B : World} {H : HM} {O : OL} {bk : Nat} {C : List Value} {v : Value} {l : List (Value × Nat)} {Rv Rs : OL} {Z : Nat → Nat → List Value → Prop} {K : Nat} (hC : C[9]? = some v) (hv : Row v l.length (heldCells l) 191 2 Rv) (hh : Held 138 2 16 Z K l Rs) (hK : K ≤ 140737488351232) (hm : l.length ≤ 1000000000000) :
    CallsM prog 67 [.pointer (some ⟨bk, 0, none⟩)].toArray B H ((bk, cl C 77) :: (Rv ++ (Rs ++ O))) (fun _ H' O' => H = H' ∧ ∃ Rs', O' = (bk, cl C 77) :: (Rv ++ (Rs' ++ O)) ∧ Held 138 2 16 (Marked mkJoin) K l Rs') := by
  refine enter func67 rfl ntmps67 (l := [(0, _)]) rfl rfl ?_
  refine x_seq ?_
  refine x_region rfl ?_
  refine o_y (y_move rfl) ?_
  refine o_y (y_nilCheck rfl) ?_
  refine o_y (y_fieldAddr fd77_9 ti50 (by decide) rfl) ?_
  refine o_y (y_loadO ti50 rfl .z hC) ?_
  refine o_y (y_lenA underlying50 rfl) ?_
  refine o_y (y_move rfl) ?_
  refine o_nil ?_
  refine x_block ?_
  refine x_loopf (σ := Nat × OL × OL) (fun s => [(10, .int .i64 (s.1 : Int)), (9, .int .i64 (l.length : Int)), (0, .pointer (some ⟨bk, 0, none⟩))]) (fun s => (bk, cl C 77) :: (Rv ++ (s.2.1 ++ (s.2.2 ++ O)))) (fun s => s.1 ≤ l.length ∧ Held 138 2 16 (Marked mkJoin) K (l.take s.1) s.2.1 ∧ Held 138 2 16 Z K (l.drop s.1) s.2.2) (fun s => l.length - s.1) (0, [], Rs) ⟨by simp, .n, hh⟩ (.c rfl (.c rfl (.c rfl .n))) rfl ?_
  rintro ⟨i, RA, RB⟩ ⟨i1, i2, i3⟩
  simp only at i1 i2 i3
  refine x_seq ?_
  refine x_region rfl ?_
  refine o_y (y_lss rfl rfl) ?_
  refine o_nil ?_
  refine x_seq ?_
  refine x_cond rfl (fun hc0 => ?_) (fun hc0 => ?_)
  · try simp only [kk] at hc0
    have hi : i < l.length := by omega
    rw [List.drop_eq_getElem_cons hi] at i3
    obtain ⟨len, cs, R, RB, rfl, hs, hn, hl, hp, i3⟩ := i3.head
    have hcl := hs.len
    have sv := hv.sl (by omega)
    have aE : AtS H Rv v (i * 2) [l[i].1, .int .i64 (l[i].2 : Int)] := hv.at (fun p hp => hp) (by omega) (heldCells_get hi)
    simp only [List.append_assoc]
    refine x_skip ?_
    refine x_seq ?_
    refine x_block ?_
    refine x_seq ?_
    refine x_region rfl ?_
    refine o_y (y_move rfl) ?_
    refine o_y (y_assign rfl) ?_
    refine o_nil ?_
    refine x_seq ?_
    refine x_region rfl ?_
    refine o_y (y_move rfl) ?_
    refine o_y (y_nilCheck rfl) ?_
    refine o_y (y_fieldAddr fd77_9 ti50 (by decide) rfl) ?_
    refine o_y (y_loadO ti50 rfl .z hC) ?_
    refine o_y (y_move rfl) ?_
    refine o_y (y_idxR hv i hi underlying50 ti191 rfl rfl rfl) ?_
    refine o_y (y_assign rfl) ?_
    refine o_nil ?_
    refine x_seq ?_
    refine x_region rfl ?_
    refine o_y (y_move rfl) ?_
    refine o_y (y_nilCheckP (by assumption) rfl) ?_
    refine o_y (y_fieldAddrP fd191_0 ti26 (by decide) (by assumption) rfl) ?_
    refine o_y (y_loadS1 ti26 rfl (AtS.sub (by assumption) (fun p hp => by repeat (first | exact hp | exact List.mem_append_left _ hp | apply List.mem_cons_of_mem | apply List.mem_append_right))) rfl) ?_
    refine o_y (y_lenA underlying26 rfl) ?_
    refine o_y (y_move rfl) ?_
    refine o_nil ?_
    refine x_block ?_
    refine x_loopf (σ := Nat × List Value × OL) (fun s => [(24, .int .i64 (s.1 : Int)), (23, .int .i64 (len : Int)), (3, ptrAt v (i * 2)), (10, .int .i64 (i : Int)), (9, .int .i64 (l.length : Int)), (0, .pointer (some ⟨bk, 0, none⟩))]) (fun s => (bk, cl C 77) :: (Rv ++ (RA ++ (s.2.2 ++ (RB ++ O))))) (fun s => s.1 ≤ len ∧ Row l[i].1 len s.2.1 138 2 s.2.2 ∧ s.2.1 = (List.replicate s.1 (mkJoin (l[i].2 : Int))).flatten ++ cs.drop (s.1 * 2)) (fun s => len - s.1) (0, cs, R) ⟨by simp, hs, by simp⟩ (.c rfl (.c rfl (.c rfl (.c rfl (.c rfl (.c rfl .n)))))) rfl ?_
    rintro ⟨j, cs', R'⟩ ⟨j1, j2, j3⟩
    simp only at j1 j2 j3
    refine x_seq ?_
    refine x_region rfl ?_
    refine o_y (y_lss rfl rfl) ?_
    refine o_nil ?_
    refine x_seq ?_
    refine x_cond rfl (fun hc1 => ?_) (fun hc1 => ?_)
    · try simp only [kk] at hc1
      have hj : j < len := by omega
      have hcl' := j2.len
      refine x_skip ?_
      refine x_seq ?_
      refine x_block ?_
      refine x_seq ?_
      refine x_region rfl ?_
      refine o_y (y_move rfl) ?_
      refine o_y (y_assign rfl) ?_
      refine o_nil ?_
      refine x_regionP [(0, true), (1, true), (2, true), (3, true), (4, true), (5, true), (6, true), (7, true), (8, true), (9, false), (10, true), (11, false)] [0, 1, 2, 3, 4, 5, 6, 7, 8, 10] [11] mixed (by kernel_rfl) npa ?_
      have hE := Ext.refl H
      refine p_take rfl rfl (y_move rfl) ?_
      refine p_take rfl rfl (y_nilCheckP (by assumption) rfl) ?_
      refine p_take rfl rfl (y_fieldAddrP fd191_0 ti26 (by decide) (by assumption) rfl) ?_
      refine p_take rfl rfl (y_loadS1 ti26 rfl (AtS.sub (by assumption) (fun p hp => by repeat (first | exact hp | exact List.mem_append_left _ hp | apply List.mem_cons_of_mem | apply List.mem_append_right))) rfl) ?_
      refine p_take rfl rfl (y_move rfl) ?_
      refine p_take rfl rfl (y_move rfl) ?_
      refine p_take rfl rfl (y_nilCheckP (by assumption) rfl) ?_
      refine p_take rfl rfl (y_fieldAddrP fd191_1 ti3 (by decide) (by assumption) rfl) ?_
      refine p_take rfl rfl (y_loadS1 ti3 rfl (AtS.sub (by assumption) (fun p hp => by repeat (first | exact hp | exact List.mem_append_left _ hp | apply List.mem_cons_of_mem | apply List.mem_append_right))) rfl) ?_
      refine p_only rfl rfl ?_
      refine o_call fn177 rfl (markJoin_ok l[i].2 (by omega)) ?_
      rintro _ _ _ ⟨rfl, rfl, rfl⟩
      refine o_nil ?_
      refine ⟨.inr ⟨hE, hld⟩, ?_⟩
      refine p_take rfl rfl (y_idxR j2 j hj underlying26 ti138 rfl rfl rfl) ?_
      refine p_only rfl rfl ?_
      refine o_storeS (u := [_, _]) ti138 rfl rfl j2 rfl rfl (by first | rfl | assumption | (simp only [ones, List.all_cons, List.all_nil, Bool.and_true, one_of (by assumption)]; done)) (by omega) (by omega) hol (fun R7_11 j7_11 => ?_)
      refine o_nil ?_
      refine ⟨.inl rfl, ?_⟩
      refine p_nil ?_
      refine x_region rfl ?_
      refine o_y (y_addN rfl rfl (by omega) (by omega)) ?_
      refine o_y (y_move rfl) ?_
      refine o_nil ?_
      exact ⟨(j + 1, _, R7_11), 0, rfl, (.c rfl (.c rfl (.c rfl (.c rfl (.c rfl (.c rfl .n)))))), rfl, ⟨by omega, j7_11, by rw [j3]; exact put_mark (mk := mkJoin (l[i].2 : Int)) rfl hcl hj⟩, by simp only; omega⟩
    try simp only [kk] at hc1
    refine x_exit ?_
    refine x_region rfl ?_
    refine o_y (y_addN rfl rfl (by omega) (by omega)) ?_
    refine o_y (y_move rfl) ?_
    refine o_nil ?_
    have hjl : j = len := by omega
    subst hjl
    have hmk : Marked mkJoin l[i].2 j cs' := by rw [j3, List.drop_eq_nil_of_le (by omega), List.append_nil]; rfl
    exact ⟨(i + 1, RA ++ R', RB), 0, rfl, (.c rfl (.c rfl (.c rfl .n))), by simp only [List.drop_zero, List.append_assoc], ⟨by omega, by rw [take_next hi]; exact i2.snoc j2 hn hl hmk, i3⟩, by simp only; omega⟩
  try simp only [kk] at hc0
  refine x_exit ?_
  with_reducible repeat (first | refine q_exit_then ?_ | refine q_exit_block ?_ | refine q_exit_pass rfl ?_)
  refine x_finN (fn := Go.Proofs.Tryz.f67) 0 (ret0 rfl ) ?_
  have hil : i = l.length := by omega
  subst hil
  rw [List.take_length] at i2
  rw [List.drop_length] at i3
  have := i3.none
  subst this
  exact ⟨rfl, RA, rfl, i2⟩
theorem fillNode_ok {B : World} {H : HM} {O : OL} {bk : Nat} {C : List Value} {v : Value} {l : List (Value × Nat)} {Rv Rs : OL} {Z : Nat → Nat → List Value → Prop} {K : Nat} (hC : C[19]? = some v) (hv : Row v l.length (heldCells l) 258 2 Rv) (hh : Held 127 4 48 Z K l Rs) (hK : K ≤ 140737488351232) (hm : l.length ≤ 1000000000000) :
    CallsM prog 77 [.pointer (some ⟨bk, 0, none⟩)].toArray B H ((bk, cl C 77) :: (Rv ++ (Rs ++ O))) (fun _ H' O' => H = H' ∧ ∃ Rs', O' = (bk, cl C 77) :: (Rv ++ (Rs' ++ O)) ∧ Held 127 4 48 (Marked mkNode) K l Rs') := by
  refine enter func77 rfl ntmps77 (l := [(0, _)]) rfl rfl ?_
  refine x_seq ?_
  refine x_region rfl ?_
  refine o_y (y_move rfl) ?_
  refine o_y (y_nilCheck rfl) ?_
  refine o_y (y_fieldAddr fd77_19 ti60 (by decide) rfl) ?_
  refine o_y (y_loadO ti60 rfl .z hC) ?_
  refine o_y (y_lenA underlying60 rfl) ?_
  refine o_y (y_move rfl) ?_
  refine o_nil ?_
  refine x_block ?_
  refine x_loopf (σ := Nat × OL × OL) (fun s => [(10, .int .i64 (s.1 : Int)), (9, .int .i64 (l.length : Int)), (0, .pointer (some ⟨bk, 0, none⟩))]) (fun s => (bk, cl C 77) :: (Rv ++ (s.2.1 ++ (s.2.2 ++ O)))) (fun s => s.1 ≤ l.length ∧ Held 127 4 48 (Marked mkNode) K (l.take s.1) s.2.1 ∧ Held 127 4 48 Z K (l.drop s.1) s.2.2) (fun s => l.length - s.1) (0, [], Rs) ⟨by simp, .n, hh⟩ (.c rfl (.c rfl (.c rfl .n))) rfl ?_
  rintro ⟨i, RA, RB⟩ ⟨i1, i2, i3⟩
  simp only at i1 i2 i3
  refine x_seq ?_
  refine x_region rfl ?_
  refine o_y (y_lss rfl rfl) ?_
  refine o_nil ?_
  refine x_seq ?_
  refine x_cond rfl (fun hc0 => ?_) (fun hc0 => ?_)
  · try simp only [kk] at hc0
    have hi : i < l.length := by omega
    rw [List.drop_eq_getElem_cons hi] at i3
    obtain ⟨len, cs, R, RB, rfl, hs, hn, hl, hp, i3⟩ := i3.head
    have hcl := hs.len
    have sv := hv.sl (by omega)
    have aE : AtS H Rv v (i * 2) [l[i].1, .int .i64 (l[i].2 : Int)] := hv.at (fun p hp => hp) (by omega) (heldCells_get hi)
    simp only [List.append_assoc]
    refine x_skip ?_
    refine x_seq ?_
    refine x_block ?_
    refine x_seq ?_
    refine x_region rfl ?_
    refine o_y (y_move rfl) ?_
    refine o_y (y_assign rfl) ?_
    refine o_nil ?_
    refine x_seq ?_
    refine x_region rfl ?_
    refine o_y (y_move rfl) ?_
    refine o_y (y_nilCheck rfl) ?_
    refine o_y (y_fieldAddr fd77_19 ti60 (by decide) rfl) ?_
    refine o_y (y_loadO ti60 rfl .z hC) ?_
    refine o_y (y_move rfl) ?_
    refine o_y (y_idxR hv i hi underlying60 ti258 rfl rfl rfl) ?_
    refine o_y (y_assign rfl) ?_
    refine o_nil ?_
    refine x_seq ?_
    refine x_region rfl ?_
    refine o_y (y_move rfl) ?_
    refine o_y (y_nilCheckP (by assumption) rfl) ?_
    refine o_y (y_fieldAddrP fd258_0 ti27 (by decide) (by assumption) rfl) ?_
    refine o_y (y_loadS1 ti27 rfl (AtS.sub (by assumption) (fun p hp => by repeat (first | exact hp | exact List.mem_append_left _ hp | apply List.mem_cons_of_mem | apply List.mem_append_right))) rfl) ?_
    refine o_y (y_lenA underlying27 rfl) ?_
    refine o_y (y_move rfl) ?_
    refine o_nil ?_
    refine x_block ?_
    refine x_loopf (σ := Nat × List Value × OL) (fun s => [(24, .int .i64 (s.1 : Int)), (23, .int .i64 (len : Int)), (3, ptrAt v (i * 2)), (10, .int .i64 (i : Int)), (9, .int .i64 (l.length : Int)), (0, .pointer (some ⟨bk, 0, none⟩))]) (fun s => (bk, cl C 77) :: (Rv ++ (RA ++ (s.2.2 ++ (RB ++ O))))) (fun s => s.1 ≤ len ∧ Row l[i].1 len s.2.1 127 4 s.2.2 ∧ s.2.1 = (List.replicate s.1 (mkNode (l[i].2 : Int))).flatten ++ cs.drop (s.1 * 4)) (fun s => len - s.1) (0, cs, R) ⟨by simp, hs, by simp⟩ (.c rfl (.c rfl (.c rfl (.c rfl (.c rfl (.c rfl .n)))))) rfl ?_
    rintro ⟨j, cs', R'⟩ ⟨j1, j2, j3⟩
    simp only at j1 j2 j3
    refine x_seq ?_
    refine x_region rfl ?_
    refine o_y (y_lss rfl rfl) ?_
    refine o_nil ?_
    refine x_seq ?_
    refine x_cond rfl (fun hc1 => ?_) (fun hc1 => ?_)
    · try simp only [kk] at hc1
      have hj : j < len := by omega
      have hcl' := j2.len
      refine x_skip ?_
      refine x_seq ?_
      refine x_block ?_
      refine x_seq ?_
      refine x_region rfl ?_
      refine o_y (y_move rfl) ?_
      refine o_y (y_assign rfl) ?_
      refine o_nil ?_
      refine x_regionP [(0, true), (1, true), (2, true), (3, true), (4, true), (5, true), (6, true), (7, true), (8, true), (9, false), (10, true), (11, false)] [0, 1, 2, 3, 4, 5, 6, 7, 8, 10] [11] mixed (by kernel_rfl) npa ?_
      have hE := Ext.refl H
      refine p_take rfl rfl (y_move rfl) ?_
      refine p_take rfl rfl (y_nilCheckP (by assumption) rfl) ?_
      refine p_take rfl rfl (y_fieldAddrP fd258_0 ti27 (by decide) (by assumption) rfl) ?_
      refine p_take rfl rfl (y_loadS1 ti27 rfl (AtS.sub (by assumption) (fun p hp => by repeat (first | exact hp | exact List.mem_append_left _ hp | apply List.mem_cons_of_mem | apply List.mem_append_right))) rfl) ?_
      refine p_take rfl rfl (y_move rfl) ?_
      refine p_take rfl rfl (y_move rfl) ?_
      refine p_take rfl rfl (y_nilCheckP (by assumption) rfl) ?_
      refine p_take rfl rfl (y_fieldAddrP fd258_1 ti3 (by decide) (by assumption) rfl) ?_
      refine p_take rfl rfl (y_loadS1 ti3 rfl (AtS.sub (by assumption) (fun p hp => by repeat (first | exact hp | exact List.mem_append_left _ hp | apply List.mem_cons_of_mem | apply List.mem_append_right))) rfl) ?_
      refine p_only rfl rfl ?_
      refine o_call fn214 rfl (markNode_ok l[i].2 (by omega)) ?_
      rintro _ _ _ ⟨rfl, rfl, rfl⟩
      refine o_nil ?_
      refine ⟨.inr ⟨hE, hld⟩, ?_⟩
      refine p_take rfl rfl (y_idxR j2 j hj underlying27 ti127 rfl rfl rfl) ?_
      refine p_only rfl rfl ?_
      refine o_storeS (u := [_, _, _, _]) ti127 rfl rfl j2 rfl rfl (by first | rfl | assumption | (simp only [ones, List.all_cons, List.all_nil, Bool.and_true, one_of (by assumption)]; done)) (by omega) (by omega) hol (fun R7_11 j7_11 => ?_)
      refine o_nil ?_
      refine ⟨.inl rfl, ?_⟩
      refine p_nil ?_
      refine x_region rfl ?_
      refine o_y (y_addN rfl rfl (by omega) (by omega)) ?_
      refine o_y (y_move rfl) ?_
      refine o_nil ?_
      exact ⟨(j + 1, _, R7_11), 0, rfl, (.c rfl (.c rfl (.c rfl (.c rfl (.c rfl (.c rfl .n)))))), rfl, ⟨by omega, j7_11, by rw [j3]; exact put_mark (mk := mkNode (l[i].2 : Int)) rfl hcl hj⟩, by simp only; omega⟩
    try simp only [kk] at hc1
    refine x_exit ?_
    refine x_region rfl ?_
    refine o_y (y_addN rfl rfl (by omega) (by omega)) ?_
    refine o_y (y_move rfl) ?_
    refine o_nil ?_
    have hjl : j = len := by omega
    subst hjl
    have hmk : Marked mkNode l[i].2 j cs' := by rw [j3, List.drop_eq_nil_of_le (by omega), List.append_nil]; rfl
    exact ⟨(i + 1, RA ++ R', RB), 0, rfl, (.c rfl (.c rfl (.c rfl .n))), by simp only [List.drop_zero, List.append_assoc], ⟨by omega, by rw [take_next hi]; exact i2.snoc j2 hn hl hmk, i3⟩, by simp only; omega⟩
  try simp only [kk] at hc0
  refine x_exit ?_
  with_reducible repeat (first | refine q_exit_then ?_ | refine q_exit_block ?_ | refine q_exit_pass rfl ?_)
  refine x_finN (fn := Go.Proofs.Tryz.f77) 0 (ret0 rfl ) ?_
  have hil : i = l.length := by omega
  subst hil
  rw [List.take_length] at i2
  rw [List.drop_length] at i3
  have := i3.none
  subst this
  exact ⟨rfl, RA, rfl, i2⟩
theorem fillCommit_ok {B : World} {H : HM} {O : OL} {bk : Nat} {C : List Value} {v : Value} {l : List (Value × Nat)} {Rv Rs : OL} {Z : Nat → Nat → List Value → Prop} {K : Nat} (hC : C[21]? = some v) (hv : Row v l.length (heldCells l) 266 2 Rv) (hh : Held 31 15 200 Z K l Rs) (hK : K ≤ 140737488351232) (hm : l.length ≤ 1000000000000) :
    CallsM prog 79 [.pointer (some ⟨bk, 0, none⟩)].toArray B H ((bk, cl C 77) :: (Rv ++ (Rs ++ O))) (fun _ H' O' => H = H' ∧ ∃ Rs', O' = (bk, cl C 77) :: (Rv ++ (Rs' ++ O)) ∧ Held 31 15 200 (Marked mkCommit) K l Rs') := by
  refine enter func79 rfl ntmps79 (l := [(0, _)]) rfl rfl ?_
  refine x_seq ?_
  refine x_region rfl ?_
  refine o_y (y_move rfl) ?_
  refine o_y (y_nilCheck rfl) ?_
  refine o_y (y_fieldAddr fd77_21 ti62 (by decide) rfl) ?_
  refine o_y (y_loadO ti62 rfl .z hC) ?_
  refine o_y (y_lenA underlying62 rfl) ?_
  refine o_y (y_move rfl) ?_
  refine o_nil ?_
  refine x_block ?_
  refine x_loopf (σ := Nat × OL × OL) (fun s => [(10, .int .i64 (s.1 : Int)), (9, .int .i64 (l.length : Int)), (0, .pointer (some ⟨bk, 0, none⟩))]) (fun s => (bk, cl C 77) :: (Rv ++ (s.2.1 ++ (s.2.2 ++ O)))) (fun s => s.1 ≤ l.length ∧ Held 31 15 200 (Marked mkCommit) K (l.take s.1) s.2.1 ∧ Held 31 15 200 Z K (l.drop s.1) s.2.2) (fun s => l.length - s.1) (0, [], Rs) ⟨by simp, .n, hh⟩ (.c rfl (.c rfl (.c rfl .n))) rfl ?_
  rintro ⟨i, RA, RB⟩ ⟨i1, i2, i3⟩
  simp only at i1 i2 i3
  refine x_seq ?_
  refine x_region rfl ?_
  refine o_y (y_lss rfl rfl) ?_
  refine o_nil ?_
  refine x_seq ?_
  refine x_cond rfl (fun hc0 => ?_) (fun hc0 => ?_)
  · try simp only [kk] at hc0
    have hi : i < l.length := by omega
    rw [List.drop_eq_getElem_cons hi] at i3
    obtain ⟨len, cs, R, RB, rfl, hs, hn, hl, hp, i3⟩ := i3.head
    have hcl := hs.len
    have sv := hv.sl (by omega)
    have aE : AtS H Rv v (i * 2) [l[i].1, .int .i64 (l[i].2 : Int)] := hv.at (fun p hp => hp) (by omega) (heldCells_get hi)
    simp only [List.append_assoc]
    refine x_skip ?_
    refine x_seq ?_
    refine x_block ?_
    refine x_seq ?_
    refine x_region rfl ?_
    refine o_y (y_move rfl) ?_
    refine o_y (y_assign rfl) ?_
    refine o_nil ?_
    refine x_seq ?_
    refine x_region rfl ?_
    refine o_y (y_move rfl) ?_
    refine o_y (y_nilCheck rfl) ?_
    refine o_y (y_fieldAddr fd77_21 ti62 (by decide) rfl) ?_
    refine o_y (y_loadO ti62 rfl .z hC) ?_
    refine o_y (y_move rfl) ?_
    refine o_y (y_idxR hv i hi underlying62 ti266 rfl rfl rfl) ?_
    refine o_y (y_assign rfl) ?_
    refine o_nil ?_
    refine x_seq ?_
    refine x_region rfl ?_
    refine o_y (y_move rfl) ?_
    refine o_y (y_nilCheckP (by assumption) rfl) ?_
    refine o_y (y_fieldAddrP fd266_0 ti93 (by decide) (by assumption) rfl) ?_
    refine o_y (y_loadS1 ti93 rfl (AtS.sub (by assumption) (fun p hp => by repeat (first | exact hp | exact List.mem_append_left _ hp | apply List.mem_cons_of_mem | apply List.mem_append_right))) rfl) ?_
    refine o_y (y_lenA underlying93 rfl) ?_
    refine o_y (y_move rfl) ?_
    refine o_nil ?_
    refine x_block ?_
    refine x_loopf (σ := Nat × List Value × OL) (fun s => [(24, .int .i64 (s.1 : Int)), (23, .int .i64 (len : Int)), (3, ptrAt v (i * 2)), (10, .int .i64 (i : Int)), (9, .int .i64 (l.length : Int)), (0, .pointer (some ⟨bk, 0, none⟩))]) (fun s => (bk, cl C 77) :: (Rv ++ (RA ++ (s.2.2 ++ (RB ++ O))))) (fun s => s.1 ≤ len ∧ Row l[i].1 len s.2.1 31 15 s.2.2 ∧ s.2.1 = (List.replicate s.1 (mkCommit (l[i].2 : Int))).flatten ++ cs.drop (s.1 * 15)) (fun s => len - s.1) (0, cs, R) ⟨by simp, hs, by simp⟩ (.c rfl (.c rfl (.c rfl (.c rfl (.c rfl (.c rfl .n)))))) rfl ?_
    rintro ⟨j, cs', R'⟩ ⟨j1, j2, j3⟩
    simp only at j1 j2 j3
    refine x_seq ?_
    refine x_region rfl ?_
    refine o_y (y_lss rfl rfl) ?_
    refine o_nil ?_
    refine x_seq ?_
    refine x_cond rfl (fun hc1 => ?_) (fun hc1 => ?_)
    · try simp only [kk] at hc1
      have hj : j < len := by omega
      have hcl' := j2.len
      refine x_skip ?_
      refine x_seq ?_
      refine x_block ?_
      refine x_seq ?_
      refine x_region rfl ?_
      refine o_y (y_move rfl) ?_
      refine o_y (y_assign rfl) ?_
      refine o_nil ?_
      refine x_regionP [(0, true), (1, true), (2, true), (3, true), (4, true), (5, true), (6, true), (7, true), (8, true), (9, false), (10, true), (11, false)] [0, 1, 2, 3, 4, 5, 6, 7, 8, 10] [11] mixed (by kernel_rfl) npa ?_
      have hE := Ext.refl H
      refine p_take rfl rfl (y_move rfl) ?_
      refine p_take rfl rfl (y_nilCheckP (by assumption) rfl) ?_
      refine p_take rfl rfl (y_fieldAddrP fd266_0 ti93 (by decide) (by assumption) rfl) ?_
      refine p_take rfl rfl (y_loadS1 ti93 rfl (AtS.sub (by assumption) (fun p hp => by repeat (first | exact hp | exact List.mem_append_left _ hp | apply List.mem_cons_of_mem | apply List.mem_append_right))) rfl) ?_
      refine p_take rfl rfl (y_move rfl) ?_
      refine p_take rfl rfl (y_move rfl) ?_
      refine p_take rfl rfl (y_nilCheckP (by assumption) rfl) ?_
      refine p_take rfl rfl (y_fieldAddrP fd266_1 ti3 (by decide) (by assumption) rfl) ?_
      refine p_take rfl rfl (y_loadS1 ti3 rfl (AtS.sub (by assumption) (fun p hp => by repeat (first | exact hp | exact List.mem_append_left _ hp | apply List.mem_cons_of_mem | apply List.mem_append_right))) rfl) ?_
      refine p_only rfl rfl ?_
      refine o_call fn216 rfl (markCommit_ok l[i].2 (by omega)) ?_
      rintro _ _ _ ⟨rfl, rfl, rfl⟩
      refine o_nil ?_
      refine ⟨.inr ⟨hE, hld⟩, ?_⟩
      refine p_take rfl rfl (y_idxR j2 j hj underlying93 ti31 rfl rfl rfl) ?_
      refine p_only rfl rfl ?_
      refine o_storeS (u := [_, _, _, _, _, _, _, _, _, _, _, _, _, _, _]) ti31 rfl rfl j2 rfl rfl (by first | rfl | assumption | (simp only [ones, List.all_cons, List.all_nil, Bool.and_true, one_of (by assumption)]; done)) (by omega) (by omega) hol (fun R7_11 j7_11 => ?_)
      refine o_nil ?_
      refine ⟨.inl rfl, ?_⟩
      refine p_nil ?_
      refine x_region rfl ?_
      refine o_y (y_addN rfl rfl (by omega) (by omega)) ?_
      refine o_y (y_move rfl) ?_
      refine o_nil ?_
      exact ⟨(j + 1, _, R7_11), 0, rfl, (.c rfl (.c rfl (.c rfl (.c rfl (.c rfl (.c rfl .n)))))), rfl, ⟨by omega, j7_11, by rw [j3]; exact put_mark (mk := mkCommit (l[i].2 : Int)) rfl hcl hj⟩, by simp only; omega⟩
    try simp only [kk] at hc1
    refine x_exit ?_
    refine x_region rfl ?_
    refine o_y (y_addN rfl rfl (by omega) (by omega)) ?_
    refine o_y (y_move rfl) ?_
    refine o_nil ?_
    have hjl : j = len := by omega
    subst hjl
    have hmk : Marked mkCommit l[i].2 j cs' := by rw [j3, List.drop_eq_nil_of_le (by omega), List.append_nil]; rfl
    exact ⟨(i + 1, RA ++ R', RB), 0, rfl, (.c rfl (.c rfl (.c rfl .n))), by simp only [List.drop_zero, List.append_assoc], ⟨by omega, by rw [take_next hi]; exact i2.snoc j2 hn hl hmk, i3⟩, by simp only; omega⟩
  try simp only [kk] at hc0
  refine x_exit ?_
  with_reducible repeat (first | refine q_exit_then ?_ | refine q_exit_block ?_ | refine q_exit_pass rfl ?_)
  refine x_finN (fn := Go.Proofs.Tryz.f79) 0 (ret0 rfl ) ?_
  have hil : i = l.length := by omega
  subst hil
  rw [List.take_length] at i2
  rw [List.drop_length] at i3
  have := i3.none
  subst this
  exact ⟨rfl, RA, rfl, i2⟩
theorem fillLog_ok {B : World} {H : HM} {O : OL} {bk : Nat} {C : List Value} {v : Value} {l : List (Value × Nat)} {Rv Rs : OL} {Z : Nat → Nat → List Value → Prop} {K : Nat} (hC : C[28]? = some v) (hv : Row v l.length (heldCells l) 153 2 Rv) (hh : Held 95 2 32 Z K l Rs) (hK : K ≤ 140737488351232) (hm : l.length ≤ 1000000000000) :
    CallsM prog 86 [.pointer (some ⟨bk, 0, none⟩)].toArray B H ((bk, cl C 77) :: (Rv ++ (Rs ++ O))) (fun _ H' O' => H = H' ∧ ∃ Rs', O' = (bk, cl C 77) :: (Rv ++ (Rs' ++ O)) ∧ Held 95 2 32 (Marked mkLog) K l Rs') := by
  refine enter func86 rfl ntmps86 (l := [(0, _)]) rfl rfl ?_
  refine x_seq ?_
  refine x_region rfl ?_
  refine o_y (y_move rfl) ?_
  refine o_y (y_nilCheck rfl) ?_
  refine o_y (y_fieldAddr fd77_28 ti69 (by decide) rfl) ?_
  refine o_y (y_loadO ti69 rfl .z hC) ?_
  refine o_y (y_lenA underlying69 rfl) ?_
  refine o_y (y_move rfl) ?_
  refine o_nil ?_
  refine x_block ?_
  refine x_loopf (σ := Nat × OL × OL) (fun s => [(10, .int .i64 (s.1 : Int)), (9, .int .i64 (l.length : Int)), (0, .pointer (some ⟨bk, 0, none⟩))]) (fun s => (bk, cl C 77) :: (Rv ++ (s.2.1 ++ (s.2.2 ++ O)))) (fun s => s.1 ≤ l.length ∧ Held 95 2 32 (Marked mkLog) K (l.take s.1) s.2.1 ∧ Held 95 2 32 Z K (l.drop s.1) s.2.2) (fun s => l.length - s.1) (0, [], Rs) ⟨by simp, .n, hh⟩ (.c rfl (.c rfl (.c rfl .n))) rfl ?_
  rintro ⟨i, RA, RB⟩ ⟨i1, i2, i3⟩
  simp only at i1 i2 i3
  refine x_seq ?_
  refine x_region rfl ?_
  refine o_y (y_lss rfl rfl) ?_
  refine o_nil ?_
  refine x_seq ?_
  refine x_cond rfl (fun hc0 => ?_) (fun hc0 => ?_)
  · try simp only [kk] at hc0
    have hi : i < l.length := by omega
    rw [List.drop_eq_getElem_cons hi] at i3
    obtain ⟨len, cs, R, RB, rfl, hs, hn, hl, hp, i3⟩ := i3.head
    have hcl := hs.len
    have sv := hv.sl (by omega)
    have aE : AtS H Rv v (i * 2) [l[i].1, .int .i64 (l[i].2 : Int)] := hv.at (fun p hp => hp) (by omega) (heldCells_get hi)
    simp only [List.append_assoc]
    refine x_skip ?_
    refine x_seq ?_
    refine x_block ?_
    refine x_seq ?_
    refine x_region rfl ?_
    refine o_y (y_move rfl) ?_
    refine o_y (y_assign rfl) ?_
    refine o_nil ?_
    refine x_seq ?_
    refine x_region rfl ?_
    refine o_y (y_move rfl) ?_
    refine o_y (y_nilCheck rfl) ?_
    refine o_y (y_fieldAddr fd77_28 ti69 (by decide) rfl) ?_
    refine o_y (y_loadO ti69 rfl .z hC) ?_
    refine o_y (y_move rfl) ?_
    refine o_y (y_idxR hv i hi underlying69 ti153 rfl rfl rfl) ?_
    refine o_y (y_assign rfl) ?_
    refine o_nil ?_
    refine x_seq ?_
    refine x_region rfl ?_
    refine o_y (y_move rfl) ?_
    refine o_y (y_nilCheckP (by assumption) rfl) ?_
    refine o_y (y_fieldAddrP fd153_0 ti22 (by decide) (by assumption) rfl) ?_
    refine o_y (y_loadS1 ti22 rfl (AtS.sub (by assumption) (fun p hp => by repeat (first | exact hp | exact List.mem_append_left _ hp | apply List.mem_cons_of_mem | apply List.mem_append_right))) rfl) ?_
    refine o_y (y_lenA underlying22 rfl) ?_
    refine o_y (y_move rfl) ?_
    refine o_nil ?_
    refine x_block ?_
    refine x_loopf (σ := Nat × List Value × OL) (fun s => [(24, .int .i64 (s.1 : Int)), (23, .int .i64 (len : Int)), (3, ptrAt v (i * 2)), (10, .int .i64 (i : Int)), (9, .int .i64 (l.length : Int)), (0, .pointer (some ⟨bk, 0, none⟩))]) (fun s => (bk, cl C 77) :: (Rv ++ (RA ++ (s.2.2 ++ (RB ++ O))))) (fun s => s.1 ≤ len ∧ Row l[i].1 len s.2.1 95 2 s.2.2 ∧ s.2.1 = (List.replicate s.1 (mkLog (l[i].2 : Int))).flatten ++ cs.drop (s.1 * 2)) (fun s => len - s.1) (0, cs, R) ⟨by simp, hs, by simp⟩ (.c rfl (.c rfl (.c rfl (.c rfl (.c rfl (.c rfl .n)))))) rfl ?_
    rintro ⟨j, cs', R'⟩ ⟨j1, j2, j3⟩
    simp only at j1 j2 j3
    refine x_seq ?_
    refine x_region rfl ?_
    refine o_y (y_lss rfl rfl) ?_
    refine o_nil ?_
    refine x_seq ?_
    refine x_cond rfl (fun hc1 => ?_) (fun hc1 => ?_)
    · try simp only [kk] at hc1
      have hj : j < len := by omega
      have hcl' := j2.len
      refine x_skip ?_
      refine x_seq ?_
      refine x_block ?_
      refine x_seq ?_
      refine x_region rfl ?_
      refine o_y (y_move rfl) ?_
      refine o_y (y_assign rfl) ?_
      refine o_nil ?_
      refine x_regionP [(0, true), (1, true), (2, true), (3, true), (4, true), (5, true), (6, true), (7, true), (8, true), (9, false), (10, true), (11, false)] [0, 1, 2, 3, 4, 5, 6, 7, 8, 10] [11] mixed (by kernel_rfl) npa ?_
      have hE := Ext.refl H
      refine p_take rfl rfl (y_move rfl) ?_
      refine p_take rfl rfl (y_nilCheckP (by assumption) rfl) ?_
      refine p_take rfl rfl (y_fieldAddrP fd153_0 ti22 (by decide) (by assumption) rfl) ?_
      refine p_take rfl rfl (y_loadS1 ti22 rfl (AtS.sub (by assumption) (fun p hp => by repeat (first | exact hp | exact List.mem_append_left _ hp | apply List.mem_cons_of_mem | apply List.mem_append_right))) rfl) ?_
      refine p_take rfl rfl (y_move rfl) ?_
      refine p_take rfl rfl (y_move rfl) ?_
      refine p_take rfl rfl (y_nilCheckP (by assumption) rfl) ?_
      refine p_take rfl rfl (y_fieldAddrP fd153_1 ti3 (by decide) (by assumption) rfl) ?_
      refine p_take rfl rfl (y_loadS1 ti3 rfl (AtS.sub (by assumption) (fun p hp => by repeat (first | exact hp | exact List.mem_append_left _ hp | apply List.mem_cons_of_mem | apply List.mem_append_right))) rfl) ?_
      refine p_only rfl rfl ?_
      refine o_call fn35 rfl (markLog_ok l[i].2 (by omega)) ?_
      rintro _ _ _ ⟨rfl, rfl, rfl⟩
      refine o_nil ?_
      refine ⟨.inr ⟨hE, hld⟩, ?_⟩
      refine p_take rfl rfl (y_idxR j2 j hj underlying22 ti95 rfl rfl rfl) ?_
      refine p_only rfl rfl ?_
      refine o_storeS (u := [_, _]) ti95 rfl rfl j2 rfl rfl (by first | rfl | assumption | (simp only [ones, List.all_cons, List.all_nil, Bool.and_true, one_of (by assumption)]; done)) (by omega) (by omega) hol (fun R7_11 j7_11 => ?_)
      refine o_nil ?_
      refine ⟨.inl rfl, ?_⟩
      refine p_nil ?_
      refine x_region rfl ?_
      refine o_y (y_addN rfl rfl (by omega) (by omega)) ?_
      refine o_y (y_move rfl) ?_
      refine o_nil ?_
      exact ⟨(j + 1, _, R7_11), 0, rfl, (.c rfl (.c rfl (.c rfl (.c rfl (.c rfl (.c rfl .n)))))), rfl, ⟨by omega, j7_11, by rw [j3]; exact put_mark (mk := mkLog (l[i].2 : Int)) rfl hcl hj⟩, by simp only; omega⟩
    try simp only [kk] at hc1
    refine x_exit ?_
    refine x_region rfl ?_
    refine o_y (y_addN rfl rfl (by omega) (by omega)) ?_
    refine o_y (y_move rfl) ?_
    refine o_nil ?_
    have hjl : j = len := by omega
    subst hjl
    have hmk : Marked mkLog l[i].2 j cs' := by rw [j3, List.drop_eq_nil_of_le (by omega), List.append_nil]; rfl
    exact ⟨(i + 1, RA ++ R', RB), 0, rfl, (.c rfl (.c rfl (.c rfl .n))), by simp only [List.drop_zero, List.append_assoc], ⟨by omega, by rw [take_next hi]; exact i2.snoc j2 hn hl hmk, i3⟩, by simp only; omega⟩
  try simp only [kk] at hc0
  refine x_exit ?_
  with_reducible repeat (first | refine q_exit_then ?_ | refine q_exit_block ?_ | refine q_exit_pass rfl ?_)
  refine x_finN (fn := Go.Proofs.Tryz.f86) 0 (ret0 rfl ) ?_
  have hil : i = l.length := by omega
  subst hil
  rw [List.take_length] at i2
  rw [List.drop_length] at i3
  have := i3.none
  subst this
  exact ⟨rfl, RA, rfl, i2⟩
end Go.Ph
set_option linter.unusedVariables false
set_option linter.unusedSimpArgs false
set_option maxRecDepth 100000
namespace Go.Ph
open Go Go.RowKit Go.Proofs.YtmgnagpgnoikfaaGreatDoor Go.Proofs.Tryz
theorem growNumber_ok {B : World} {H : HM} {O : OL} {bk : Nat} {C : List Value} {v : Value} {l : List (Value × Nat)} {Rv Rs : OL} {K : Nat} (hC : C[2]? = some v) (hv : Row v l.length (heldCells l) 157 2 Rv) (hh : Held 3 1 8 (Marked mkNumber) K l Rs) (hK : K ≤ 140737488351232) (hm : l.length ≤ 1000000000000) :
    CallsM prog 93 [.pointer (some ⟨bk, 0, none⟩)].toArray B H ((bk, cl C 77) :: (Rv ++ (Rs ++ O))) (fun _ H' O' => H = H' ∧ ∃ l' Rv' Rs', O' = (bk, cl C 77) :: (Rv' ++ (Rs' ++ O)) ∧ l'.length = l.length ∧ Row v l'.length (heldCells l') 157 2 Rv' ∧ Held 3 1 8 (Marked mkNumber) (K + 3 * 8) l' Rs') := by
  refine enter func93 rfl ntmps93 (l := [(0, _)]) rfl rfl ?_
  refine x_seq ?_
  refine x_region rfl ?_
  refine o_y (y_move rfl) ?_
  refine o_y (y_nilCheck rfl) ?_
  refine o_y (y_fieldAddr fd77_2 ti43 (by decide) rfl) ?_
  refine o_y (y_loadO ti43 rfl .z hC) ?_
  refine o_y (y_lenA underlying43 rfl) ?_
  refine o_y (y_move rfl) ?_
  refine o_nil ?_
  refine x_block ?_
  refine x_loopf (σ := Nat × List (Value × Nat) × OL × OL × OL) (fun s => [(10, .int .i64 (s.1 : Int)), (9, .int .i64 (l.length : Int)), (0, .pointer (some ⟨bk, 0, none⟩))]) (fun s => (bk, cl C 77) :: (s.2.2.1 ++ (s.2.2.2.1 ++ (s.2.2.2.2 ++ O)))) (fun s => s.1 ≤ l.length ∧ s.2.1.length = s.1 ∧ Row v l.length (heldCells (s.2.1 ++ l.drop s.1)) 157 2 s.2.2.1 ∧ Held 3 1 8 (Marked mkNumber) (K + 3 * 8) s.2.1 s.2.2.2.1 ∧ Held 3 1 8 (Marked mkNumber) K (l.drop s.1) s.2.2.2.2) (fun s => l.length - s.1) (0, [], Rv, [], Rs) ⟨by simp, rfl, hv, .n, hh⟩ (.c rfl (.c rfl (.c rfl .n))) rfl ?_
  rintro ⟨i, l1, Rv, RA, RB⟩ ⟨i1, i0, hv, i2, i3⟩
  simp only at i1 i0 hv i2 i3
  refine x_seq ?_
  refine x_region rfl ?_
  refine o_y (y_lss rfl rfl) ?_
  refine o_nil ?_
  refine x_seq ?_
  refine x_cond rfl (fun hc0 => ?_) (fun hc0 => ?_)
  · try simp only [kk] at hc0
    have hi : i < l.length := by omega
    rw [List.drop_eq_getElem_cons hi] at i3 hv
    obtain ⟨len, cs, R, RB, rfl, hs, hn, hl, hp, i3⟩ := i3.head
    have sv := hv.sl (by omega)
    obtain ⟨s0, hs0⟩ : ∃ s, s = l[i].1 := ⟨_, rfl⟩
    obtain ⟨n0, hn0⟩ : ∃ n, n = l[i].2 := ⟨_, rfl⟩
    have hli : l[i] = (s0, n0) := by rw [hs0, hn0]
    rw [hli] at hv
    rw [← hs0] at hs
    rw [← hn0] at hn hp
    simp only [List.append_assoc]
    refine x_skip ?_
    refine x_seq ?_
    refine x_block ?_
    refine x_seq ?_
    refine x_region rfl ?_
    refine o_y (y_move rfl) ?_
    refine o_y (y_assign rfl) ?_
    refine o_nil ?_
    refine x_seq ?_
    refine x_region rfl ?_
    refine o_y (y_move rfl) ?_
    refine o_y (y_nilCheck rfl) ?_
    refine o_y (y_fieldAddr fd77_2 ti43 (by decide) rfl) ?_
    refine o_y (y_loadO ti43 rfl .z hC) ?_
    refine o_y (y_move rfl) ?_
    refine o_y (y_idxR hv i hi underlying43 ti157 rfl rfl rfl) ?_
    refine o_y (y_assign rfl) ?_
    refine o_nil ?_
    refine x_seq ?_
    refine x_region rfl ?_
    refine o_y (y_assign rfl) ?_
    refine o_nil ?_
    refine x_block ?_
    refine x_loopf (σ := Nat × Value × List Value × OL × OL) (fun s => [(4, .int .i64 (s.1 : Int)), (3, ptrAt v (i * 2)), (10, .int .i64 (i : Int)), (9, .int .i64 (l.length : Int)), (0, .pointer (some ⟨bk, 0, none⟩))]) (fun s => (bk, cl C 77) :: (s.2.2.2.1 ++ (RA ++ (s.2.2.2.2 ++ (RB ++ O))))) (fun s => s.1 ≤ 3 ∧ Row s.2.1 (len + s.1) s.2.2.1 3 1 s.2.2.2.2 ∧ Marked mkNumber n0 (len + s.1) s.2.2.1 ∧ Row v l.length (heldCells (l1 ++ (s.2.1, n0) :: l.drop (i + 1))) 157 2 s.2.2.2.1) (fun s => 3 - s.1) (0, s0, cs, Rv, R) ⟨by simp, hs, hp, hv⟩ (.c rfl (.c rfl (.c rfl (.c rfl (.c rfl .n))))) rfl ?_
    rintro ⟨j, s', cs', Rv', R'⟩ ⟨j1, j2, j3, hv'⟩
    simp only at j1 j2 j3 hv'
    refine x_seq ?_
    refine x_seq ?_
    refine x_region rfl ?_
    refine o_y (y_move rfl) ?_
    refine o_y (y_lss rfl rfl) ?_
    refine o_nil ?_
    refine x_cond rfl (fun hc1 => ?_) (fun hc1 => ?_)
    · try simp only [kk] at hc1
      have hj : j < 3 := by omega
      obtain ⟨ps', c', rfl⟩ := j2.shape
      have aE : AtS H Rv' v (i * 2) [.slice ps' (len + j) c', .int .i64 (n0 : Int)] := hv'.at (fun p hp => hp) (by omega) (fun q u hu => by
        have hil : i < (l1 ++ (.slice ps' (len + j) c', n0) :: l.drop (i + 1)).length := by rw [List.length_append]; simp; omega
        have e : (l1 ++ ((Value.slice ps' (len + j) c', n0) : Value × Nat) :: l.drop (i + 1))[i] = (.slice ps' (len + j) c', n0) := by
          rw [List.getElem_append_right (by omega)]; simp [i0]
        exact heldCells_get hil q u (by rw [e]; exact hu))
      have hvl := hv'.len
      refine x_skip ?_
      refine x_seq ?_
      refine x_block ?_
      refine x_regionPs _ held_bR [(0, true), (1, true), (2, true), (3, true), (4, true), (5, true), (6, true), (7, true), (8, true), (9, false), (10, false), (11, false), (12, false), (13, true), (14, false)] [0, 1, 2, 3, 4, 5, 6, 7, 8, 13] [14] mixed (by kernel_rfl) npa ?_
      have hE := Ext.refl H
      refine p_take rfl rfl (y_move rfl) ?_
      refine p_take rfl rfl (y_move rfl) ?_
      refine p_take rfl rfl (y_nilCheckP (by assumption) rfl) ?_
      refine p_take rfl rfl (y_fieldAddrP fd157_0 ti24 (by decide) (by assumption) rfl) ?_
      refine p_take rfl rfl (y_loadS1 ti24 rfl (AtS.sub (by assumption) (fun p hp => by repeat (first | exact hp | exact List.mem_append_left _ hp | apply List.mem_cons_of_mem | apply List.mem_append_right))) rfl) ?_
      refine p_take rfl rfl (y_move rfl) ?_
      refine p_take rfl rfl (y_nilCheckP (by assumption) rfl) ?_
      refine p_take rfl rfl (y_fieldAddrP fd157_1 ti3 (by decide) (by assumption) rfl) ?_
      refine p_take rfl rfl (y_loadS1 ti3 rfl (AtS.sub (by assumption) (fun p hp => by repeat (first | exact hp | exact List.mem_append_left _ hp | apply List.mem_cons_of_mem | apply List.mem_append_right))) rfl) ?_
      refine p_only rfl rfl ?_
      refine o_call fn175 rfl (markNumber_ok n0 (by omega)) ?_
      rintro _ _ _ ⟨rfl, rfl, rfl⟩
      refine o_nil ?_
      refine ⟨.inr ⟨hE, hld⟩, ?_⟩
      refine p_only rfl rfl ?_
      refine o_slice1 underlying24 ti3 (by decide) (by decide) rfl rfl (C := [_]) rfl rfl (fun b33 => ?_)
      refine o_nil ?_
      refine ⟨.inr ⟨hE, hld⟩, ?_⟩
      refine p_only rfl rfl ?_
      refine o_append (news := mkNumber (n0 : Int)) underlying24 ti3 rfl (by decide) rfl j2 rfl (At.all inn) rfl rfl (by omega) (by omega) hol (fun v34 R34 j34 => ?_)
      refine o_nil ?_
      obtain ⟨p34, c34, rfl⟩ := j34.shape
      refine ⟨.inr ⟨hE, hld⟩, ?_⟩
      refine p_only rfl rfl ?_
      refine o_y (y_nilCheckP (by assumption) rfl) ?_
      refine o_nil ?_
      refine ⟨.inr ⟨hE, hld⟩, ?_⟩
      refine p_take rfl rfl (y_fieldAddrP fd157_0 ti24 (by decide) (by assumption) rfl) ?_
      refine p_only rfl rfl ?_
      refine o_storeS (u := [_]) ti24 rfl rfl hv' rfl rfl (by first | rfl | assumption | (simp only [ones, List.all_cons, List.all_nil, Bool.and_true, one_of (by assumption)]; done)) (by omega) (by omega) hol (fun R7_14 j7_14 => ?_)
      refine o_nil ?_
      refine ⟨.inl rfl, ?_⟩
      refine p_nil ?_
      refine x_region rfl ?_
      refine o_y (y_move rfl) ?_
      refine o_y (y_addN rfl rfl (by omega) (by omega)) ?_
      refine o_y (y_assign rfl) ?_
      refine o_nil ?_
      rw [show i * 2 + 0 = i * 2 from rfl, heldCells_mid i0] at j7_14
      exact ⟨(j + 1, .slice p34 (len + j + 1) c34, _, R7_14, R34), 1, rfl, (.c rfl (.c rfl (.c rfl (.c rfl (.c rfl .n))))), rfl, ⟨by omega, j34, by rw [j3]; exact rep_snoc, j7_14⟩, by simp only; omega⟩
    try simp only [kk] at hc1
    refine x_exit ?_
    refine x_region rfl ?_
    refine o_y (y_addN rfl rfl (by omega) (by omega)) ?_
    refine o_y (y_move rfl) ?_
    refine o_nil ?_
    have hjl : j = 3 := by omega
    subst hjl
    exact ⟨(i + 1, l1 ++ [(s', n0)], Rv', RA ++ R', RB), 0, rfl, (.c rfl (.c rfl (.c rfl .n))), by simp only [List.drop_zero, List.append_assoc], ⟨by omega, by simp [i0], by simpa using hv', i2.snoc j2 hn (by omega) j3, i3⟩, by simp only; omega⟩
  try simp only [kk] at hc0
  refine x_exit ?_
  with_reducible repeat (first | refine q_exit_then ?_ | refine q_exit_block ?_ | refine q_exit_pass rfl ?_)
  refine x_finN (fn := Go.Proofs.Tryz.f93) 0 (ret0 rfl ) ?_
  have hil : i = l.length := by omega
  subst hil
  rw [List.drop_length] at i3 hv
  have := i3.none
  subst this
  rw [List.append_nil] at hv
  exact ⟨rfl, l1, Rv, RA, rfl, i0, by rw [i0]; exact hv, i2⟩
theorem growSeal_ok {B : World} {H : HM} {O : OL} {bk : Nat} {C : List Value} {v : Value} {l : List (Value × Nat)} {Rv Rs : OL} {K : Nat} (hC : C[6]? = some v) (hv : Row v l.length (heldCells l) 178 2 Rv) (hh : Held 135 3 24 (Marked mkSeal) K l Rs) (hK : K ≤ 140737488351232) (hm : l.length ≤ 1000000000000) :
    CallsM prog 97 [.pointer (some ⟨bk, 0, none⟩)].toArray B H ((bk, cl C 77) :: (Rv ++ (Rs ++ O))) (fun _ H' O' => H = H' ∧ ∃ l' Rv' Rs', O' = (bk, cl C 77) :: (Rv' ++ (Rs' ++ O)) ∧ l'.length = l.length ∧ Row v l'.length (heldCells l') 178 2 Rv' ∧ Held 135 3 24 (Marked mkSeal) (K + 3 * 24) l' Rs') := by
  refine enter func97 rfl ntmps97 (l := [(0, _)]) rfl rfl ?_
  refine x_seq ?_
  refine x_region rfl ?_
  refine o_y (y_move rfl) ?_
  refine o_y (y_nilCheck rfl) ?_
  refine o_y (y_fieldAddr fd77_6 ti47 (by decide) rfl) ?_
  refine o_y (y_loadO ti47 rfl .z hC) ?_
  refine o_y (y_lenA underlying47 rfl) ?_
  refine o_y (y_move rfl) ?_
  refine o_nil ?_
  refine x_block ?_
  refine x_loopf (σ := Nat × List (Value × Nat) × OL × OL × OL) (fun s => [(10, .int .i64 (s.1 : Int)), (9, .int .i64 (l.length : Int)), (0, .pointer (some ⟨bk, 0, none⟩))]) (fun s => (bk, cl C 77) :: (s.2.2.1 ++ (s.2.2.2.1 ++ (s.2.2.2.2 ++ O)))) (fun s => s.1 ≤ l.length ∧ s.2.1.length = s.1 ∧ Row v l.length (heldCells (s.2.1 ++ l.drop s.1)) 178 2 s.2.2.1 ∧ Held 135 3 24 (Marked mkSeal) (K + 3 * 24) s.2.1 s.2.2.2.1 ∧ Held 135 3 24 (Marked mkSeal) K (l.drop s.1) s.2.2.2.2) (fun s => l.length - s.1) (0, [], Rv, [], Rs) ⟨by simp, rfl, hv, .n, hh⟩ (.c rfl (.c rfl (.c rfl .n))) rfl ?_
  rintro ⟨i, l1, Rv, RA, RB⟩ ⟨i1, i0, hv, i2, i3⟩
  simp only at i1 i0 hv i2 i3
  refine x_seq ?_
  refine x_region rfl ?_
  refine o_y (y_lss rfl rfl) ?_
  refine o_nil ?_
  refine x_seq ?_
  refine x_cond rfl (fun hc0 => ?_) (fun hc0 => ?_)
  · try simp only [kk] at hc0
    have hi : i < l.length := by omega
    rw [List.drop_eq_getElem_cons hi] at i3 hv
    obtain ⟨len, cs, R, RB, rfl, hs, hn, hl, hp, i3⟩ := i3.head
    have sv := hv.sl (by omega)
    obtain ⟨s0, hs0⟩ : ∃ s, s = l[i].1 := ⟨_, rfl⟩
    obtain ⟨n0, hn0⟩ : ∃ n, n = l[i].2 := ⟨_, rfl⟩
    have hli : l[i] = (s0, n0) := by rw [hs0, hn0]
    rw [hli] at hv
    rw [← hs0] at hs
    rw [← hn0] at hn hp
    simp only [List.append_assoc]
    refine x_skip ?_
    refine x_seq ?_
    refine x_block ?_
    refine x_seq ?_
    refine x_region rfl ?_
    refine o_y (y_move rfl) ?_
    refine o_y (y_assign rfl) ?_
    refine o_nil ?_
    refine x_seq ?_
    refine x_region rfl ?_
    refine o_y (y_move rfl) ?_
    refine o_y (y_nilCheck rfl) ?_
    refine o_y (y_fieldAddr fd77_6 ti47 (by decide) rfl) ?_
    refine o_y (y_loadO ti47 rfl .z hC) ?_
    refine o_y (y_move rfl) ?_
    refine o_y (y_idxR hv i hi underlying47 ti178 rfl rfl rfl) ?_
    refine o_y (y_assign rfl) ?_
    refine o_nil ?_
    refine x_seq ?_
    refine x_region rfl ?_
    refine o_y (y_assign rfl) ?_
    refine o_nil ?_
    refine x_block ?_
    refine x_loopf (σ := Nat × Value × List Value × OL × OL) (fun s => [(4, .int .i64 (s.1 : Int)), (3, ptrAt v (i * 2)), (10, .int .i64 (i : Int)), (9, .int .i64 (l.length : Int)), (0, .pointer (some ⟨bk, 0, none⟩))]) (fun s => (bk, cl C 77) :: (s.2.2.2.1 ++ (RA ++ (s.2.2.2.2 ++ (RB ++ O))))) (fun s => s.1 ≤ 3 ∧ Row s.2.1 (len + s.1) s.2.2.1 135 3 s.2.2.2.2 ∧ Marked mkSeal n0 (len + s.1) s.2.2.1 ∧ Row v l.length (heldCells (l1 ++ (s.2.1, n0) :: l.drop (i + 1))) 178 2 s.2.2.2.1) (fun s => 3 - s.1) (0, s0, cs, Rv, R) ⟨by simp, hs, hp, hv⟩ (.c rfl (.c rfl (.c rfl (.c rfl (.c rfl .n))))) rfl ?_
    rintro ⟨j, s', cs', Rv', R'⟩ ⟨j1, j2, j3, hv'⟩
    simp only at j1 j2 j3 hv'
    refine x_seq ?_
    refine x_seq ?_
    refine x_region rfl ?_
    refine o_y (y_move rfl) ?_
    refine o_y (y_lss rfl rfl) ?_
    refine o_nil ?_
    refine x_cond rfl (fun hc1 => ?_) (fun hc1 => ?_)
    · try simp only [kk] at hc1
      have hj : j < 3 := by omega
      obtain ⟨ps', c', rfl⟩ := j2.shape
      have aE : AtS H Rv' v (i * 2) [.slice ps' (len + j) c', .int .i64 (n0 : Int)] := hv'.at (fun p hp => hp) (by omega) (fun q u hu => by
        have hil : i < (l1 ++ (.slice ps' (len + j) c', n0) :: l.drop (i + 1)).length := by rw [List.length_append]; simp; omega
        have e : (l1 ++ ((Value.slice ps' (len + j) c', n0) : Value × Nat) :: l.drop (i + 1))[i] = (.slice ps' (len + j) c', n0) := by
          rw [List.getElem_append_right (by omega)]; simp [i0]
        exact heldCells_get hil q u (by rw [e]; exact hu))
      have hvl := hv'.len
      refine x_skip ?_
      refine x_seq ?_
      refine x_block ?_
      refine x_regionPs _ held_bR [(0, true), (1, true), (2, true), (3, true), (4, true), (5, true), (6, true), (7, true), (8, true), (9, false), (10, false), (11, false), (12, false), (13, true), (14, false)] [0, 1, 2, 3, 4, 5, 6, 7, 8, 13] [14] mixed (by kernel_rfl) npa ?_
      have hE := Ext.refl H
      refine p_take rfl rfl (y_move rfl) ?_
      refine p_take rfl rfl (y_move rfl) ?_
      refine p_take rfl rfl (y_nilCheckP (by assumption) rfl) ?_
      refine p_take rfl rfl (y_fieldAddrP fd178_0 ti25 (by decide) (by assumption) rfl) ?_
      refine p_take rfl rfl (y_loadS1 ti25 rfl (AtS.sub (by assumption) (fun p hp => by repeat (first | exact hp | exact List.mem_append_left _ hp | apply List.mem_cons_of_mem | apply List.mem_append_right))) rfl) ?_
      refine p_take rfl rfl (y_move rfl) ?_
      refine p_take rfl rfl (y_nilCheckP (by assumption) rfl) ?_
      refine p_take rfl rfl (y_fieldAddrP fd178_1 ti3 (by decide) (by assumption) rfl) ?_
      refine p_take rfl rfl (y_loadS1 ti3 rfl (AtS.sub (by assumption) (fun p hp => by repeat (first | exact hp | exact List.mem_append_left _ hp | apply List.mem_cons_of_mem | apply List.mem_append_right))) rfl) ?_
      refine p_only rfl rfl ?_
      refine o_call fn176 rfl (markSeal_ok n0 (by omega)) ?_
      rintro _ _ _ ⟨rfl, rfl, rfl⟩
      refine o_nil ?_
      refine ⟨.inr ⟨hE, hld⟩, ?_⟩
      refine p_only rfl rfl ?_
      refine o_slice1 underlying25 ti135 (by decide) (by decide) rfl rfl (C := [_, _, _]) rfl rfl (fun b33 => ?_)
      refine o_nil ?_
      refine ⟨.inr ⟨hE, hld⟩, ?_⟩
      refine p_only rfl rfl ?_
      refine o_append (news := mkSeal (n0 : Int)) underlying25 ti135 rfl (by decide) rfl j2 rfl (At.all inn) rfl rfl (by omega) (by omega) hol (fun v34 R34 j34 => ?_)
      refine o_nil ?_
      obtain ⟨p34, c34, rfl⟩ := j34.shape
      refine ⟨.inr ⟨hE, hld⟩, ?_⟩
      refine p_only rfl rfl ?_
      refine o_y (y_nilCheckP (by assumption) rfl) ?_
      refine o_nil ?_
      refine ⟨.inr ⟨hE, hld⟩, ?_⟩
      refine p_take rfl rfl (y_fieldAddrP fd178_0 ti25 (by decide) (by assumption) rfl) ?_
      refine p_only rfl rfl ?_
      refine o_storeS (u := [_]) ti25 rfl rfl hv' rfl rfl (by first | rfl | assumption | (simp only [ones, List.all_cons, List.all_nil, Bool.and_true, one_of (by assumption)]; done)) (by omega) (by omega) hol (fun R7_14 j7_14 => ?_)
      refine o_nil ?_
      refine ⟨.inl rfl, ?_⟩
      refine p_nil ?_
      refine x_region rfl ?_
      refine o_y (y_move rfl) ?_
      refine o_y (y_addN rfl rfl (by omega) (by omega)) ?_
      refine o_y (y_assign rfl) ?_
      refine o_nil ?_
      rw [show i * 2 + 0 = i * 2 from rfl, heldCells_mid i0] at j7_14
      exact ⟨(j + 1, .slice p34 (len + j + 1) c34, _, R7_14, R34), 1, rfl, (.c rfl (.c rfl (.c rfl (.c rfl (.c rfl .n))))), rfl, ⟨by omega, j34, by rw [j3]; exact rep_snoc, j7_14⟩, by simp only; omega⟩
    try simp only [kk] at hc1
    refine x_exit ?_
    refine x_region rfl ?_
    refine o_y (y_addN rfl rfl (by omega) (by omega)) ?_
    refine o_y (y_move rfl) ?_
    refine o_nil ?_
    have hjl : j = 3 := by omega
    subst hjl
    exact ⟨(i + 1, l1 ++ [(s', n0)], Rv', RA ++ R', RB), 0, rfl, (.c rfl (.c rfl (.c rfl .n))), by simp only [List.drop_zero, List.append_assoc], ⟨by omega, by simp [i0], by simpa using hv', i2.snoc j2 hn (by omega) j3, i3⟩, by simp only; omega⟩
  try simp only [kk] at hc0
  refine x_exit ?_
  with_reducible repeat (first | refine q_exit_then ?_ | refine q_exit_block ?_ | refine q_exit_pass rfl ?_)
  refine x_finN (fn := Go.Proofs.Tryz.f97) 0 (ret0 rfl ) ?_
  have hil : i = l.length := by omega
  subst hil
  rw [List.drop_length] at i3 hv
  have := i3.none
  subst this
  rw [List.append_nil] at hv
  exact ⟨rfl, l1, Rv, RA, rfl, i0, by rw [i0]; exact hv, i2⟩
theorem growAdd_ok {B : World} {H : HM} {O : OL} {bk : Nat} {C : List Value} {v : Value} {l : List (Value × Nat)} {Rv Rs : OL} {K : Nat} (hC : C[8]? = some v) (hv : Row v l.length (heldCells l) 188 2 Rv) (hh : Held 131 3 24 (Marked mkAdd) K l Rs) (hK : K ≤ 140737488351232) (hm : l.length ≤ 1000000000000) :
    CallsM prog 99 [.pointer (some ⟨bk, 0, none⟩)].toArray B H ((bk, cl C 77) :: (Rv ++ (Rs ++ O))) (fun _ H' O' => H = H' ∧ ∃ l' Rv' Rs', O' = (bk, cl C 77) :: (Rv' ++ (Rs' ++ O)) ∧ l'.length = l.length ∧ Row v l'.length (heldCells l') 188 2 Rv' ∧ Held 131 3 24 (Marked mkAdd) (K + 3 * 24) l' Rs') := by
  refine enter func99 rfl ntmps99 (l := [(0, _)]) rfl rfl ?_
  refine x_seq ?_
  refine x_region rfl ?_
  refine o_y (y_move rfl) ?_
  refine o_y (y_nilCheck rfl) ?_
  refine o_y (y_fieldAddr fd77_8 ti49 (by decide) rfl) ?_
  refine o_y (y_loadO ti49 rfl .z hC) ?_
  refine o_y (y_lenA underlying49 rfl) ?_
  refine o_y (y_move rfl) ?_
  refine o_nil ?_
  refine x_block ?_
  refine x_loopf (σ := Nat × List (Value × Nat) × OL × OL × OL) (fun s => [(10, .int .i64 (s.1 : Int)), (9, .int .i64 (l.length : Int)), (0, .pointer (some ⟨bk, 0, none⟩))]) (fun s => (bk, cl C 77) :: (s.2.2.1 ++ (s.2.2.2.1 ++ (s.2.2.2.2 ++ O)))) (fun s => s.1 ≤ l.length ∧ s.2.1.length = s.1 ∧ Row v l.length (heldCells (s.2.1 ++ l.drop s.1)) 188 2 s.2.2.1 ∧ Held 131 3 24 (Marked mkAdd) (K + 3 * 24) s.2.1 s.2.2.2.1 ∧ Held 131 3 24 (Marked mkAdd) K (l.drop s.1) s.2.2.2.2) (fun s => l.length - s.1) (0, [], Rv, [], Rs) ⟨by simp, rfl, hv, .n, hh⟩ (.c rfl (.c rfl (.c rfl .n))) rfl ?_
  rintro ⟨i, l1, Rv, RA, RB⟩ ⟨i1, i0, hv, i2, i3⟩
  simp only at i1 i0 hv i2 i3
  refine x_seq ?_
  refine x_region rfl ?_
  refine o_y (y_lss rfl rfl) ?_
  refine o_nil ?_
  refine x_seq ?_
  refine x_cond rfl (fun hc0 => ?_) (fun hc0 => ?_)
  · try simp only [kk] at hc0
    have hi : i < l.length := by omega
    rw [List.drop_eq_getElem_cons hi] at i3 hv
    obtain ⟨len, cs, R, RB, rfl, hs, hn, hl, hp, i3⟩ := i3.head
    have sv := hv.sl (by omega)
    obtain ⟨s0, hs0⟩ : ∃ s, s = l[i].1 := ⟨_, rfl⟩
    obtain ⟨n0, hn0⟩ : ∃ n, n = l[i].2 := ⟨_, rfl⟩
    have hli : l[i] = (s0, n0) := by rw [hs0, hn0]
    rw [hli] at hv
    rw [← hs0] at hs
    rw [← hn0] at hn hp
    simp only [List.append_assoc]
    refine x_skip ?_
    refine x_seq ?_
    refine x_block ?_
    refine x_seq ?_
    refine x_region rfl ?_
    refine o_y (y_move rfl) ?_
    refine o_y (y_assign rfl) ?_
    refine o_nil ?_
    refine x_seq ?_
    refine x_region rfl ?_
    refine o_y (y_move rfl) ?_
    refine o_y (y_nilCheck rfl) ?_
    refine o_y (y_fieldAddr fd77_8 ti49 (by decide) rfl) ?_
    refine o_y (y_loadO ti49 rfl .z hC) ?_
    refine o_y (y_move rfl) ?_
    refine o_y (y_idxR hv i hi underlying49 ti188 rfl rfl rfl) ?_
    refine o_y (y_assign rfl) ?_
    refine o_nil ?_
    refine x_seq ?_
    refine x_region rfl ?_
    refine o_y (y_assign rfl) ?_
    refine o_nil ?_
    refine x_block ?_
    refine x_loopf (σ := Nat × Value × List Value × OL × OL) (fun s => [(4, .int .i64 (s.1 : Int)), (3, ptrAt v (i * 2)), (10, .int .i64 (i : Int)), (9, .int .i64 (l.length : Int)), (0, .pointer (some ⟨bk, 0, none⟩))]) (fun s => (bk, cl C 77) :: (s.2.2.2.1 ++ (RA ++ (s.2.2.2.2 ++ (RB ++ O))))) (fun s => s.1 ≤ 3 ∧ Row s.2.1 (len + s.1) s.2.2.1 131 3 s.2.2.2.2 ∧ Marked mkAdd n0 (len + s.1) s.2.2.1 ∧ Row v l.length (heldCells (l1 ++ (s.2.1, n0) :: l.drop (i + 1))) 188 2 s.2.2.2.1) (fun s => 3 - s.1) (0, s0, cs, Rv, R) ⟨by simp, hs, hp, hv⟩ (.c rfl (.c rfl (.c rfl (.c rfl (.c rfl .n))))) rfl ?_
    rintro ⟨j, s', cs', Rv', R'⟩ ⟨j1, j2, j3, hv'⟩
    simp only at j1 j2 j3 hv'
    refine x_seq ?_
    refine x_seq ?_
    refine x_region rfl ?_
    refine o_y (y_move rfl) ?_
    refine o_y (y_lss rfl rfl) ?_
    refine o_nil ?_
    refine x_cond rfl (fun hc1 => ?_) (fun hc1 => ?_)
    · try simp only [kk] at hc1
      have hj : j < 3 := by omega
      obtain ⟨ps', c', rfl⟩ := j2.shape
      have aE : AtS H Rv' v (i * 2) [.slice ps' (len + j) c', .int .i64 (n0 : Int)] := hv'.at (fun p hp => hp) (by omega) (fun q u hu => by
        have hil : i < (l1 ++ (.slice ps' (len + j) c', n0) :: l.drop (i + 1)).length := by rw [List.length_append]; simp; omega
        have e : (l1 ++ ((Value.slice ps' (len + j) c', n0) : Value × Nat) :: l.drop (i + 1))[i] = (.slice ps' (len + j) c', n0) := by
          rw [List.getElem_append_right (by omega)]; simp [i0]
        exact heldCells_get hil q u (by rw [e]; exact hu))
      have hvl := hv'.len
      refine x_skip ?_
      refine x_seq ?_
      refine x_block ?_
      refine x_regionPs _ held_bR [(0, true), (1, true), (2, true), (3, true), (4, true), (5, true), (6, true), (7, true), (8, true), (9, false), (10, false), (11, false), (12, false), (13, true), (14, false)] [0, 1, 2, 3, 4, 5, 6, 7, 8, 13] [14] mixed (by kernel_rfl) npa ?_
      have hE := Ext.refl H
      refine p_take rfl rfl (y_move rfl) ?_
      refine p_take rfl rfl (y_move rfl) ?_
      refine p_take rfl rfl (y_nilCheckP (by assumption) rfl) ?_
      refine p_take rfl rfl (y_fieldAddrP fd188_0 ti23 (by decide) (by assumption) rfl) ?_
      refine p_take rfl rfl (y_loadS1 ti23 rfl (AtS.sub (by assumption) (fun p hp => by repeat (first | exact hp | exact List.mem_append_left _ hp | apply List.mem_cons_of_mem | apply List.mem_append_right))) rfl) ?_
      refine p_take rfl rfl (y_move rfl) ?_
      refine p_take rfl rfl (y_nilCheckP (by assumption) rfl) ?_
      refine p_take rfl rfl (y_fieldAddrP fd188_1 ti3 (by decide) (by assumption) rfl) ?_
      refine p_take rfl rfl (y_loadS1 ti3 rfl (AtS.sub (by assumption) (fun p hp => by repeat (first | exact hp | exact List.mem_append_left _ hp | apply List.mem_cons_of_mem | apply List.mem_append_right))) rfl) ?_
      refine p_only rfl rfl ?_
      refine o_call fn174 rfl (markAdd_ok n0 (by omega)) ?_
      rintro _ _ _ ⟨rfl, rfl, rfl⟩
      refine o_nil ?_
      refine ⟨.inr ⟨hE, hld⟩, ?_⟩
      refine p_only rfl rfl ?_
      refine o_slice1 underlying23 ti131 (by decide) (by decide) rfl rfl (C := [_, _, _]) rfl rfl (fun b33 => ?_)
      refine o_nil ?_
      refine ⟨.inr ⟨hE, hld⟩, ?_⟩
      refine p_only rfl rfl ?_
      refine o_append (news := mkAdd (n0 : Int)) underlying23 ti131 rfl (by decide) rfl j2 rfl (At.all inn) rfl rfl (by omega) (by omega) hol (fun v34 R34 j34 => ?_)
      refine o_nil ?_
      obtain ⟨p34, c34, rfl⟩ := j34.shape
      refine ⟨.inr ⟨hE, hld⟩, ?_⟩
      refine p_only rfl rfl ?_
      refine o_y (y_nilCheckP (by assumption) rfl) ?_
      refine o_nil ?_
      refine ⟨.inr ⟨hE, hld⟩, ?_⟩
      refine p_take rfl rfl (y_fieldAddrP fd188_0 ti23 (by decide) (by assumption) rfl) ?_
      refine p_only rfl rfl ?_
      refine o_storeS (u := [_]) ti23 rfl rfl hv' rfl rfl (by first | rfl | assumption | (simp only [ones, List.all_cons, List.all_nil, Bool.and_true, one_of (by assumption)]; done)) (by omega) (by omega) hol (fun R7_14 j7_14 => ?_)
      refine o_nil ?_
      refine ⟨.inl rfl, ?_⟩
      refine p_nil ?_
      refine x_region rfl ?_
      refine o_y (y_move rfl) ?_
      refine o_y (y_addN rfl rfl (by omega) (by omega)) ?_
      refine o_y (y_assign rfl) ?_
      refine o_nil ?_
      rw [show i * 2 + 0 = i * 2 from rfl, heldCells_mid i0] at j7_14
      exact ⟨(j + 1, .slice p34 (len + j + 1) c34, _, R7_14, R34), 1, rfl, (.c rfl (.c rfl (.c rfl (.c rfl (.c rfl .n))))), rfl, ⟨by omega, j34, by rw [j3]; exact rep_snoc, j7_14⟩, by simp only; omega⟩
    try simp only [kk] at hc1
    refine x_exit ?_
    refine x_region rfl ?_
    refine o_y (y_addN rfl rfl (by omega) (by omega)) ?_
    refine o_y (y_move rfl) ?_
    refine o_nil ?_
    have hjl : j = 3 := by omega
    subst hjl
    exact ⟨(i + 1, l1 ++ [(s', n0)], Rv', RA ++ R', RB), 0, rfl, (.c rfl (.c rfl (.c rfl .n))), by simp only [List.drop_zero, List.append_assoc], ⟨by omega, by simp [i0], by simpa using hv', i2.snoc j2 hn (by omega) j3, i3⟩, by simp only; omega⟩
  try simp only [kk] at hc0
  refine x_exit ?_
  with_reducible repeat (first | refine q_exit_then ?_ | refine q_exit_block ?_ | refine q_exit_pass rfl ?_)
  refine x_finN (fn := Go.Proofs.Tryz.f99) 0 (ret0 rfl ) ?_
  have hil : i = l.length := by omega
  subst hil
  rw [List.drop_length] at i3 hv
  have := i3.none
  subst this
  rw [List.append_nil] at hv
  exact ⟨rfl, l1, Rv, RA, rfl, i0, by rw [i0]; exact hv, i2⟩
theorem growJoin_ok {B : World} {H : HM} {O : OL} {bk : Nat} {C : List Value} {v : Value} {l : List (Value × Nat)} {Rv Rs : OL} {K : Nat} (hC : C[9]? = some v) (hv : Row v l.length (heldCells l) 191 2 Rv) (hh : Held 138 2 16 (Marked mkJoin) K l Rs) (hK : K ≤ 140737488351232) (hm : l.length ≤ 1000000000000) :
    CallsM prog 100 [.pointer (some ⟨bk, 0, none⟩)].toArray B H ((bk, cl C 77) :: (Rv ++ (Rs ++ O))) (fun _ H' O' => H = H' ∧ ∃ l' Rv' Rs', O' = (bk, cl C 77) :: (Rv' ++ (Rs' ++ O)) ∧ l'.length = l.length ∧ Row v l'.length (heldCells l') 191 2 Rv' ∧ Held 138 2 16 (Marked mkJoin) (K + 3 * 16) l' Rs') := by
  refine enter func100 rfl ntmps100 (l := [(0, _)]) rfl rfl ?_
  refine x_seq ?_
  refine x_region rfl ?_
  refine o_y (y_move rfl) ?_
  refine o_y (y_nilCheck rfl) ?_
  refine o_y (y_fieldAddr fd77_9 ti50 (by decide) rfl) ?_
  refine o_y (y_loadO ti50 rfl .z hC) ?_
  refine o_y (y_lenA underlying50 rfl) ?_
  refine o_y (y_move rfl) ?_
  refine o_nil ?_
  refine x_block ?_
  refine x_loopf (σ := Nat × List (Value × Nat) × OL × OL × OL) (fun s => [(10, .int .i64 (s.1 : Int)), (9, .int .i64 (l.length : Int)), (0, .pointer (some ⟨bk, 0, none⟩))]) (fun s => (bk, cl C 77) :: (s.2.2.1 ++ (s.2.2.2.1 ++ (s.2.2.2.2 ++ O)))) (fun s => s.1 ≤ l.length ∧ s.2.1.length = s.1 ∧ Row v l.length (heldCells (s.2.1 ++ l.drop s.1)) 191 2 s.2.2.1 ∧ Held 138 2 16 (Marked mkJoin) (K + 3 * 16) s.2.1 s.2.2.2.1 ∧ Held 138 2 16 (Marked mkJoin) K (l.drop s.1) s.2.2.2.2) (fun s => l.length - s.1) (0, [], Rv, [], Rs) ⟨by simp, rfl, hv, .n, hh⟩ (.c rfl (.c rfl (.c rfl .n))) rfl ?_
  rintro ⟨i, l1, Rv, RA, RB⟩ ⟨i1, i0, hv, i2, i3⟩
  simp only at i1 i0 hv i2 i3
  refine x_seq ?_
  refine x_region rfl ?_
  refine o_y (y_lss rfl rfl) ?_
  refine o_nil ?_
  refine x_seq ?_
  refine x_cond rfl (fun hc0 => ?_) (fun hc0 => ?_)
  · try simp only [kk] at hc0
    have hi : i < l.length := by omega
    rw [List.drop_eq_getElem_cons hi] at i3 hv
    obtain ⟨len, cs, R, RB, rfl, hs, hn, hl, hp, i3⟩ := i3.head
    have sv := hv.sl (by omega)
    obtain ⟨s0, hs0⟩ : ∃ s, s = l[i].1 := ⟨_, rfl⟩
    obtain ⟨n0, hn0⟩ : ∃ n, n = l[i].2 := ⟨_, rfl⟩
    have hli : l[i] = (s0, n0) := by rw [hs0, hn0]
    rw [hli] at hv
    rw [← hs0] at hs
    rw [← hn0] at hn hp
    simp only [List.append_assoc]
    refine x_skip ?_
    refine x_seq ?_
    refine x_block ?_
    refine x_seq ?_
    refine x_region rfl ?_
    refine o_y (y_move rfl) ?_
    refine o_y (y_assign rfl) ?_
    refine o_nil ?_
    refine x_seq ?_
    refine x_region rfl ?_
    refine o_y (y_move rfl) ?_
    refine o_y (y_nilCheck rfl) ?_
    refine o_y (y_fieldAddr fd77_9 ti50 (by decide) rfl) ?_
    refine o_y (y_loadO ti50 rfl .z hC) ?_
    refine o_y (y_move rfl) ?_
    refine o_y (y_idxR hv i hi underlying50 ti191 rfl rfl rfl) ?_
    refine o_y (y_assign rfl) ?_
    refine o_nil ?_
    refine x_seq ?_
    refine x_region rfl ?_
    refine o_y (y_assign rfl) ?_
    refine o_nil ?_
    refine x_block ?_
    refine x_loopf (σ := Nat × Value × List Value × OL × OL) (fun s => [(4, .int .i64 (s.1 : Int)), (3, ptrAt v (i * 2)), (10, .int .i64 (i : Int)), (9, .int .i64 (l.length : Int)), (0, .pointer (some ⟨bk, 0, none⟩))]) (fun s => (bk, cl C 77) :: (s.2.2.2.1 ++ (RA ++ (s.2.2.2.2 ++ (RB ++ O))))) (fun s => s.1 ≤ 3 ∧ Row s.2.1 (len + s.1) s.2.2.1 138 2 s.2.2.2.2 ∧ Marked mkJoin n0 (len + s.1) s.2.2.1 ∧ Row v l.length (heldCells (l1 ++ (s.2.1, n0) :: l.drop (i + 1))) 191 2 s.2.2.2.1) (fun s => 3 - s.1) (0, s0, cs, Rv, R) ⟨by simp, hs, hp, hv⟩ (.c rfl (.c rfl (.c rfl (.c rfl (.c rfl .n))))) rfl ?_
    rintro ⟨j, s', cs', Rv', R'⟩ ⟨j1, j2, j3, hv'⟩
    simp only at j1 j2 j3 hv'
    refine x_seq ?_
    refine x_seq ?_
    refine x_region rfl ?_
    refine o_y (y_move rfl) ?_
    refine o_y (y_lss rfl rfl) ?_
    refine o_nil ?_
    refine x_cond rfl (fun hc1 => ?_) (fun hc1 => ?_)
    · try simp only [kk] at hc1
      have hj : j < 3 := by omega
      obtain ⟨ps', c', rfl⟩ := j2.shape
      have aE : AtS H Rv' v (i * 2) [.slice ps' (len + j) c', .int .i64 (n0 : Int)] := hv'.at (fun p hp => hp) (by omega) (fun q u hu => by
        have hil : i < (l1 ++ (.slice ps' (len + j) c', n0) :: l.drop (i + 1)).length := by rw [List.length_append]; simp; omega
        have e : (l1 ++ ((Value.slice ps' (len + j) c', n0) : Value × Nat) :: l.drop (i + 1))[i] = (.slice ps' (len + j) c', n0) := by
          rw [List.getElem_append_right (by omega)]; simp [i0]
        exact heldCells_get hil q u (by rw [e]; exact hu))
      have hvl := hv'.len
      refine x_skip ?_
      refine x_seq ?_
      refine x_block ?_
      refine x_regionPs _ held_bR [(0, true), (1, true), (2, true), (3, true), (4, true), (5, true), (6, true), (7, true), (8, true), (9, false), (10, false), (11, false), (12, false), (13, true), (14, false)] [0, 1, 2, 3, 4, 5, 6, 7, 8, 13] [14] mixed (by kernel_rfl) npa ?_
      have hE := Ext.refl H
      refine p_take rfl rfl (y_move rfl) ?_
      refine p_take rfl rfl (y_move rfl) ?_
      refine p_take rfl rfl (y_nilCheckP (by assumption) rfl) ?_
      refine p_take rfl rfl (y_fieldAddrP fd191_0 ti26 (by decide) (by assumption) rfl) ?_
      refine p_take rfl rfl (y_loadS1 ti26 rfl (AtS.sub (by assumption) (fun p hp => by repeat (first | exact hp | exact List.mem_append_left _ hp | apply List.mem_cons_of_mem | apply List.mem_append_right))) rfl) ?_
      refine p_take rfl rfl (y_move rfl) ?_
      refine p_take rfl rfl (y_nilCheckP (by assumption) rfl) ?_
      refine p_take rfl rfl (y_fieldAddrP fd191_1 ti3 (by decide) (by assumption) rfl) ?_
      refine p_take rfl rfl (y_loadS1 ti3 rfl (AtS.sub (by assumption) (fun p hp => by repeat (first | exact hp | exact List.mem_append_left _ hp | apply List.mem_cons_of_mem | apply List.mem_append_right))) rfl) ?_
      refine p_only rfl rfl ?_
      refine o_call fn177 rfl (markJoin_ok n0 (by omega)) ?_
      rintro _ _ _ ⟨rfl, rfl, rfl⟩
      refine o_nil ?_
      refine ⟨.inr ⟨hE, hld⟩, ?_⟩
      refine p_only rfl rfl ?_
      refine o_slice1 underlying26 ti138 (by decide) (by decide) rfl rfl (C := [_, _]) rfl rfl (fun b33 => ?_)
      refine o_nil ?_
      refine ⟨.inr ⟨hE, hld⟩, ?_⟩
      refine p_only rfl rfl ?_
      refine o_append (news := mkJoin (n0 : Int)) underlying26 ti138 rfl (by decide) rfl j2 rfl (At.all inn) rfl rfl (by omega) (by omega) hol (fun v34 R34 j34 => ?_)
      refine o_nil ?_
      obtain ⟨p34, c34, rfl⟩ := j34.shape
      refine ⟨.inr ⟨hE, hld⟩, ?_⟩
      refine p_only rfl rfl ?_
      refine o_y (y_nilCheckP (by assumption) rfl) ?_
      refine o_nil ?_
      refine ⟨.inr ⟨hE, hld⟩, ?_⟩
      refine p_take rfl rfl (y_fieldAddrP fd191_0 ti26 (by decide) (by assumption) rfl) ?_
      refine p_only rfl rfl ?_
      refine o_storeS (u := [_]) ti26 rfl rfl hv' rfl rfl (by first | rfl | assumption | (simp only [ones, List.all_cons, List.all_nil, Bool.and_true, one_of (by assumption)]; done)) (by omega) (by omega) hol (fun R7_14 j7_14 => ?_)
      refine o_nil ?_
      refine ⟨.inl rfl, ?_⟩
      refine p_nil ?_
      refine x_region rfl ?_
      refine o_y (y_move rfl) ?_
      refine o_y (y_addN rfl rfl (by omega) (by omega)) ?_
      refine o_y (y_assign rfl) ?_
      refine o_nil ?_
      rw [show i * 2 + 0 = i * 2 from rfl, heldCells_mid i0] at j7_14
      exact ⟨(j + 1, .slice p34 (len + j + 1) c34, _, R7_14, R34), 1, rfl, (.c rfl (.c rfl (.c rfl (.c rfl (.c rfl .n))))), rfl, ⟨by omega, j34, by rw [j3]; exact rep_snoc, j7_14⟩, by simp only; omega⟩
    try simp only [kk] at hc1
    refine x_exit ?_
    refine x_region rfl ?_
    refine o_y (y_addN rfl rfl (by omega) (by omega)) ?_
    refine o_y (y_move rfl) ?_
    refine o_nil ?_
    have hjl : j = 3 := by omega
    subst hjl
    exact ⟨(i + 1, l1 ++ [(s', n0)], Rv', RA ++ R', RB), 0, rfl, (.c rfl (.c rfl (.c rfl .n))), by simp only [List.drop_zero, List.append_assoc], ⟨by omega, by simp [i0], by simpa using hv', i2.snoc j2 hn (by omega) j3, i3⟩, by simp only; omega⟩
  try simp only [kk] at hc0
  refine x_exit ?_
  with_reducible repeat (first | refine q_exit_then ?_ | refine q_exit_block ?_ | refine q_exit_pass rfl ?_)
  refine x_finN (fn := Go.Proofs.Tryz.f100) 0 (ret0 rfl ) ?_
  have hil : i = l.length := by omega
  subst hil
  rw [List.drop_length] at i3 hv
  have := i3.none
  subst this
  rw [List.append_nil] at hv
  exact ⟨rfl, l1, Rv, RA, rfl, i0, by rw [i0]; exact hv, i2⟩
theorem growNode_ok {B : World} {H : HM} {O : OL} {bk : Nat} {C : List Value} {v : Value} {l : List (Value × Nat)} {Rv Rs : OL} {K : Nat} (hC : C[19]? = some v) (hv : Row v l.length (heldCells l) 258 2 Rv) (hh : Held 127 4 48 (Marked mkNode) K l Rs) (hK : K ≤ 140737488351232) (hm : l.length ≤ 1000000000000) :
    CallsM prog 110 [.pointer (some ⟨bk, 0, none⟩)].toArray B H ((bk, cl C 77) :: (Rv ++ (Rs ++ O))) (fun _ H' O' => H = H' ∧ ∃ l' Rv' Rs', O' = (bk, cl C 77) :: (Rv' ++ (Rs' ++ O)) ∧ l'.length = l.length ∧ Row v l'.length (heldCells l') 258 2 Rv' ∧ Held 127 4 48 (Marked mkNode) (K + 3 * 48) l' Rs') := by
  refine enter func110 rfl ntmps110 (l := [(0, _)]) rfl rfl ?_
  refine x_seq ?_
  refine x_region rfl ?_
  refine o_y (y_move rfl) ?_
  refine o_y (y_nilCheck rfl) ?_
  refine o_y (y_fieldAddr fd77_19 ti60 (by decide) rfl) ?_
  refine o_y (y_loadO ti60 rfl .z hC) ?_
  refine o_y (y_lenA underlying60 rfl) ?_
  refine o_y (y_move rfl) ?_
  refine o_nil ?_
  refine x_block ?_
  refine x_loopf (σ := Nat × List (Value × Nat) × OL × OL × OL) (fun s => [(10, .int .i64 (s.1 : Int)), (9, .int .i64 (l.length : Int)), (0, .pointer (some ⟨bk, 0, none⟩))]) (fun s => (bk, cl C 77) :: (s.2.2.1 ++ (s.2.2.2.1 ++ (s.2.2.2.2 ++ O)))) (fun s => s.1 ≤ l.length ∧ s.2.1.length = s.1 ∧ Row v l.length (heldCells (s.2.1 ++ l.drop s.1)) 258 2 s.2.2.1 ∧ Held 127 4 48 (Marked mkNode) (K + 3 * 48) s.2.1 s.2.2.2.1 ∧ Held 127 4 48 (Marked mkNode) K (l.drop s.1) s.2.2.2.2) (fun s => l.length - s.1) (0, [], Rv, [], Rs) ⟨by simp, rfl, hv, .n, hh⟩ (.c rfl (.c rfl (.c rfl .n))) rfl ?_
  rintro ⟨i, l1, Rv, RA, RB⟩ ⟨i1, i0, hv, i2, i3⟩
  simp only at i1 i0 hv i2 i3
  refine x_seq ?_
  refine x_region rfl ?_
  refine o_y (y_lss rfl rfl) ?_
  refine o_nil ?_
  refine x_seq ?_
  refine x_cond rfl (fun hc0 => ?_) (fun hc0 => ?_)
  · try simp only [kk] at hc0
    have hi : i < l.length := by omega
    rw [List.drop_eq_getElem_cons hi] at i3 hv
    obtain ⟨len, cs, R, RB, rfl, hs, hn, hl, hp, i3⟩ := i3.head
    have sv := hv.sl (by omega)
    obtain ⟨s0, hs0⟩ : ∃ s, s = l[i].1 := ⟨_, rfl⟩
    obtain ⟨n0, hn0⟩ : ∃ n, n = l[i].2 := ⟨_, rfl⟩
    have hli : l[i] = (s0, n0) := by rw [hs0, hn0]
    rw [hli] at hv
    rw [← hs0] at hs
    rw [← hn0] at hn hp
    simp only [List.append_assoc]
    refine x_skip ?_
    refine x_seq ?_
    refine x_block ?_
    refine x_seq ?_
    refine x_region rfl ?_
    refine o_y (y_move rfl) ?_
    refine o_y (y_assign rfl) ?_
    refine o_nil ?_
    refine x_seq ?_
    refine x_region rfl ?_
    refine o_y (y_move rfl) ?_
    refine o_y (y_nilCheck rfl) ?_
    refine o_y (y_fieldAddr fd77_19 ti60 (by decide) rfl) ?_
    refine o_y (y_loadO ti60 rfl .z hC) ?_
    refine o_y (y_move rfl) ?_
    refine o_y (y_idxR hv i hi underlying60 ti258 rfl rfl rfl) ?_
    refine o_y (y_assign rfl) ?_
    refine o_nil ?_
    refine x_seq ?_
    refine x_region rfl ?_
    refine o_y (y_assign rfl) ?_
    refine o_nil ?_
    refine x_block ?_
    refine x_loopf (σ := Nat × Value × List Value × OL × OL) (fun s => [(4, .int .i64 (s.1 : Int)), (3, ptrAt v (i * 2)), (10, .int .i64 (i : Int)), (9, .int .i64 (l.length : Int)), (0, .pointer (some ⟨bk, 0, none⟩))]) (fun s => (bk, cl C 77) :: (s.2.2.2.1 ++ (RA ++ (s.2.2.2.2 ++ (RB ++ O))))) (fun s => s.1 ≤ 3 ∧ Row s.2.1 (len + s.1) s.2.2.1 127 4 s.2.2.2.2 ∧ Marked mkNode n0 (len + s.1) s.2.2.1 ∧ Row v l.length (heldCells (l1 ++ (s.2.1, n0) :: l.drop (i + 1))) 258 2 s.2.2.2.1) (fun s => 3 - s.1) (0, s0, cs, Rv, R) ⟨by simp, hs, hp, hv⟩ (.c rfl (.c rfl (.c rfl (.c rfl (.c rfl .n))))) rfl ?_
    rintro ⟨j, s', cs', Rv', R'⟩ ⟨j1, j2, j3, hv'⟩
    simp only at j1 j2 j3 hv'
    refine x_seq ?_
    refine x_seq ?_
    refine x_region rfl ?_
    refine o_y (y_move rfl) ?_
    refine o_y (y_lss rfl rfl) ?_
    refine o_nil ?_
    refine x_cond rfl (fun hc1 => ?_) (fun hc1 => ?_)
    · try simp only [kk] at hc1
      have hj : j < 3 := by omega
      obtain ⟨ps', c', rfl⟩ := j2.shape
      have aE : AtS H Rv' v (i * 2) [.slice ps' (len + j) c', .int .i64 (n0 : Int)] := hv'.at (fun p hp => hp) (by omega) (fun q u hu => by
        have hil : i < (l1 ++ (.slice ps' (len + j) c', n0) :: l.drop (i + 1)).length := by rw [List.length_append]; simp; omega
        have e : (l1 ++ ((Value.slice ps' (len + j) c', n0) : Value × Nat) :: l.drop (i + 1))[i] = (.slice ps' (len + j) c', n0) := by
          rw [List.getElem_append_right (by omega)]; simp [i0]
        exact heldCells_get hil q u (by rw [e]; exact hu))
      have hvl := hv'.len
      refine x_skip ?_
      refine x_seq ?_
      refine x_block ?_
      refine x_regionPs _ held_bR [(0, true), (1, true), (2, true), (3, true), (4, true), (5, true), (6, true), (7, true), (8, true), (9, false), (10, false), (11, false), (12, false), (13, true), (14, false)] [0, 1, 2, 3, 4, 5, 6, 7, 8, 13] [14] mixed (by kernel_rfl) npa ?_
      have hE := Ext.refl H
      refine p_take rfl rfl (y_move rfl) ?_
      refine p_take rfl rfl (y_move rfl) ?_
      refine p_take rfl rfl (y_nilCheckP (by assumption) rfl) ?_
      refine p_take rfl rfl (y_fieldAddrP fd258_0 ti27 (by decide) (by assumption) rfl) ?_
      refine p_take rfl rfl (y_loadS1 ti27 rfl (AtS.sub (by assumption) (fun p hp => by repeat (first | exact hp | exact List.mem_append_left _ hp | apply List.mem_cons_of_mem | apply List.mem_append_right))) rfl) ?_
      refine p_take rfl rfl (y_move rfl) ?_
      refine p_take rfl rfl (y_nilCheckP (by assumption) rfl) ?_
      refine p_take rfl rfl (y_fieldAddrP fd258_1 ti3 (by decide) (by assumption) rfl) ?_
      refine p_take rfl rfl (y_loadS1 ti3 rfl (AtS.sub (by assumption) (fun p hp => by repeat (first | exact hp | exact List.mem_append_left _ hp | apply List.mem_cons_of_mem | apply List.mem_append_right))) rfl) ?_
      refine p_only rfl rfl ?_
      refine o_call fn214 rfl (markNode_ok n0 (by omega)) ?_
      rintro _ _ _ ⟨rfl, rfl, rfl⟩
      refine o_nil ?_
      refine ⟨.inr ⟨hE, hld⟩, ?_⟩
      refine p_only rfl rfl ?_
      refine o_slice1 underlying27 ti127 (by decide) (by decide) rfl rfl (C := [_, _, _, _]) rfl rfl (fun b33 => ?_)
      refine o_nil ?_
      refine ⟨.inr ⟨hE, hld⟩, ?_⟩
      refine p_only rfl rfl ?_
      refine o_append (news := mkNode (n0 : Int)) underlying27 ti127 rfl (by decide) rfl j2 rfl (At.all inn) rfl rfl (by omega) (by omega) hol (fun v34 R34 j34 => ?_)
      refine o_nil ?_
      obtain ⟨p34, c34, rfl⟩ := j34.shape
      refine ⟨.inr ⟨hE, hld⟩, ?_⟩
      refine p_only rfl rfl ?_
      refine o_y (y_nilCheckP (by assumption) rfl) ?_
      refine o_nil ?_
      refine ⟨.inr ⟨hE, hld⟩, ?_⟩
      refine p_take rfl rfl (y_fieldAddrP fd258_0 ti27 (by decide) (by assumption) rfl) ?_
      refine p_only rfl rfl ?_
      refine o_storeS (u := [_]) ti27 rfl rfl hv' rfl rfl (by first | rfl | assumption | (simp only [ones, List.all_cons, List.all_nil, Bool.and_true, one_of (by assumption)]; done)) (by omega) (by omega) hol (fun R7_14 j7_14 => ?_)
      refine o_nil ?_
      refine ⟨.inl rfl, ?_⟩
      refine p_nil ?_
      refine x_region rfl ?_
      refine o_y (y_move rfl) ?_
      refine o_y (y_addN rfl rfl (by omega) (by omega)) ?_
      refine o_y (y_assign rfl) ?_
      refine o_nil ?_
      rw [show i * 2 + 0 = i * 2 from rfl, heldCells_mid i0] at j7_14
      exact ⟨(j + 1, .slice p34 (len + j + 1) c34, _, R7_14, R34), 1, rfl, (.c rfl (.c rfl (.c rfl (.c rfl (.c rfl .n))))), rfl, ⟨by omega, j34, by rw [j3]; exact rep_snoc, j7_14⟩, by simp only; omega⟩
    try simp only [kk] at hc1
    refine x_exit ?_
    refine x_region rfl ?_
    refine o_y (y_addN rfl rfl (by omega) (by omega)) ?_
    refine o_y (y_move rfl) ?_
    refine o_nil ?_
    have hjl : j = 3 := by omega
    subst hjl
    exact ⟨(i + 1, l1 ++ [(s', n0)], Rv', RA ++ R', RB), 0, rfl, (.c rfl (.c rfl (.c rfl .n))), by simp only [List.drop_zero, List.append_assoc], ⟨by omega, by simp [i0], by simpa using hv', i2.snoc j2 hn (by omega) j3, i3⟩, by simp only; omega⟩
  try simp only [kk] at hc0
  refine x_exit ?_
  with_reducible repeat (first | refine q_exit_then ?_ | refine q_exit_block ?_ | refine q_exit_pass rfl ?_)
  refine x_finN (fn := Go.Proofs.Tryz.f110) 0 (ret0 rfl ) ?_
  have hil : i = l.length := by omega
  subst hil
  rw [List.drop_length] at i3 hv
  have := i3.none
  subst this
  rw [List.append_nil] at hv
  exact ⟨rfl, l1, Rv, RA, rfl, i0, by rw [i0]; exact hv, i2⟩
theorem growCommit_ok {B : World} {H : HM} {O : OL} {bk : Nat} {C : List Value} {v : Value} {l : List (Value × Nat)} {Rv Rs : OL} {K : Nat} (hC : C[21]? = some v) (hv : Row v l.length (heldCells l) 266 2 Rv) (hh : Held 31 15 200 (Marked mkCommit) K l Rs) (hK : K ≤ 140737488351232) (hm : l.length ≤ 1000000000000) :
    CallsM prog 112 [.pointer (some ⟨bk, 0, none⟩)].toArray B H ((bk, cl C 77) :: (Rv ++ (Rs ++ O))) (fun _ H' O' => H = H' ∧ ∃ l' Rv' Rs', O' = (bk, cl C 77) :: (Rv' ++ (Rs' ++ O)) ∧ l'.length = l.length ∧ Row v l'.length (heldCells l') 266 2 Rv' ∧ Held 31 15 200 (Marked mkCommit) (K + 3 * 200) l' Rs') := by
  refine enter func112 rfl ntmps112 (l := [(0, _)]) rfl rfl ?_
  refine x_seq ?_
  refine x_region rfl ?_
  refine o_y (y_move rfl) ?_
  refine o_y (y_nilCheck rfl) ?_
  refine o_y (y_fieldAddr fd77_21 ti62 (by decide) rfl) ?_
  refine o_y (y_loadO ti62 rfl .z hC) ?_
  refine o_y (y_lenA underlying62 rfl) ?_
  refine o_y (y_move rfl) ?_
  refine o_nil ?_
  refine x_block ?_
  refine x_loopf (σ := Nat × List (Value × Nat) × OL × OL × OL) (fun s => [(10, .int .i64 (s.1 : Int)), (9, .int .i64 (l.length : Int)), (0, .pointer (some ⟨bk, 0, none⟩))]) (fun s => (bk, cl C 77) :: (s.2.2.1 ++ (s.2.2.2.1 ++ (s.2.2.2.2 ++ O)))) (fun s => s.1 ≤ l.length ∧ s.2.1.length = s.1 ∧ Row v l.length (heldCells (s.2.1 ++ l.drop s.1)) 266 2 s.2.2.1 ∧ Held 31 15 200 (Marked mkCommit) (K + 3 * 200) s.2.1 s.2.2.2.1 ∧ Held 31 15 200 (Marked mkCommit) K (l.drop s.1) s.2.2.2.2) (fun s => l.length - s.1) (0, [], Rv, [], Rs) ⟨by simp, rfl, hv, .n, hh⟩ (.c rfl (.c rfl (.c rfl .n))) rfl ?_
  rintro ⟨i, l1, Rv, RA, RB⟩ ⟨i1, i0, hv, i2, i3⟩
  simp only at i1 i0 hv i2 i3
  refine x_seq ?_
  refine x_region rfl ?_
  refine o_y (y_lss rfl rfl) ?_
  refine o_nil ?_
  refine x_seq ?_
  refine x_cond rfl (fun hc0 => ?_) (fun hc0 => ?_)
  · try simp only [kk] at hc0
    have hi : i < l.length := by omega
    rw [List.drop_eq_getElem_cons hi] at i3 hv
    obtain ⟨len, cs, R, RB, rfl, hs, hn, hl, hp, i3⟩ := i3.head
    have sv := hv.sl (by omega)
    obtain ⟨s0, hs0⟩ : ∃ s, s = l[i].1 := ⟨_, rfl⟩
    obtain ⟨n0, hn0⟩ : ∃ n, n = l[i].2 := ⟨_, rfl⟩
    have hli : l[i] = (s0, n0) := by rw [hs0, hn0]
    rw [hli] at hv
    rw [← hs0] at hs
    rw [← hn0] at hn hp
    simp only [List.append_assoc]
    refine x_skip ?_
    refine x_seq ?_
    refine x_block ?_
    refine x_seq ?_
    refine x_region rfl ?_
    refine o_y (y_move rfl) ?_
    refine o_y (y_assign rfl) ?_
    refine o_nil ?_
    refine x_seq ?_
    refine x_region rfl ?_
    refine o_y (y_move rfl) ?_
    refine o_y (y_nilCheck rfl) ?_
    refine o_y (y_fieldAddr fd77_21 ti62 (by decide) rfl) ?_
    refine o_y (y_loadO ti62 rfl .z hC) ?_
    refine o_y (y_move rfl) ?_
    refine o_y (y_idxR hv i hi underlying62 ti266 rfl rfl rfl) ?_
    refine o_y (y_assign rfl) ?_
    refine o_nil ?_
    refine x_seq ?_
    refine x_region rfl ?_
    refine o_y (y_assign rfl) ?_
    refine o_nil ?_
    refine x_block ?_
    refine x_loopf (σ := Nat × Value × List Value × OL × OL) (fun s => [(4, .int .i64 (s.1 : Int)), (3, ptrAt v (i * 2)), (10, .int .i64 (i : Int)), (9, .int .i64 (l.length : Int)), (0, .pointer (some ⟨bk, 0, none⟩))]) (fun s => (bk, cl C 77) :: (s.2.2.2.1 ++ (RA ++ (s.2.2.2.2 ++ (RB ++ O))))) (fun s => s.1 ≤ 3 ∧ Row s.2.1 (len + s.1) s.2.2.1 31 15 s.2.2.2.2 ∧ Marked mkCommit n0 (len + s.1) s.2.2.1 ∧ Row v l.length (heldCells (l1 ++ (s.2.1, n0) :: l.drop (i + 1))) 266 2 s.2.2.2.1) (fun s => 3 - s.1) (0, s0, cs, Rv, R) ⟨by simp, hs, hp, hv⟩ (.c rfl (.c rfl (.c rfl (.c rfl (.c rfl .n))))) rfl ?_
    rintro ⟨j, s', cs', Rv', R'⟩ ⟨j1, j2, j3, hv'⟩
    simp only at j1 j2 j3 hv'
    refine x_seq ?_
    refine x_seq ?_
    refine x_region rfl ?_
    refine o_y (y_move rfl) ?_
    refine o_y (y_lss rfl rfl) ?_
    refine o_nil ?_
    refine x_cond rfl (fun hc1 => ?_) (fun hc1 => ?_)
    · try simp only [kk] at hc1
      have hj : j < 3 := by omega
      obtain ⟨ps', c', rfl⟩ := j2.shape
      have aE : AtS H Rv' v (i * 2) [.slice ps' (len + j) c', .int .i64 (n0 : Int)] := hv'.at (fun p hp => hp) (by omega) (fun q u hu => by
        have hil : i < (l1 ++ (.slice ps' (len + j) c', n0) :: l.drop (i + 1)).length := by rw [List.length_append]; simp; omega
        have e : (l1 ++ ((Value.slice ps' (len + j) c', n0) : Value × Nat) :: l.drop (i + 1))[i] = (.slice ps' (len + j) c', n0) := by
          rw [List.getElem_append_right (by omega)]; simp [i0]
        exact heldCells_get hil q u (by rw [e]; exact hu))
      have hvl := hv'.len
      refine x_skip ?_
      refine x_seq ?_
      refine x_block ?_
      refine x_regionPs _ held_bR [(0, true), (1, true), (2, true), (3, true), (4, true), (5, true), (6, true), (7, true), (8, true), (9, false), (10, false), (11, false), (12, false), (13, true), (14, false)] [0, 1, 2, 3, 4, 5, 6, 7, 8, 13] [14] mixed (by kernel_rfl) npa ?_
      have hE := Ext.refl H
      refine p_take rfl rfl (y_move rfl) ?_
      refine p_take rfl rfl (y_move rfl) ?_
      refine p_take rfl rfl (y_nilCheckP (by assumption) rfl) ?_
      refine p_take rfl rfl (y_fieldAddrP fd266_0 ti93 (by decide) (by assumption) rfl) ?_
      refine p_take rfl rfl (y_loadS1 ti93 rfl (AtS.sub (by assumption) (fun p hp => by repeat (first | exact hp | exact List.mem_append_left _ hp | apply List.mem_cons_of_mem | apply List.mem_append_right))) rfl) ?_
      refine p_take rfl rfl (y_move rfl) ?_
      refine p_take rfl rfl (y_nilCheckP (by assumption) rfl) ?_
      refine p_take rfl rfl (y_fieldAddrP fd266_1 ti3 (by decide) (by assumption) rfl) ?_
      refine p_take rfl rfl (y_loadS1 ti3 rfl (AtS.sub (by assumption) (fun p hp => by repeat (first | exact hp | exact List.mem_append_left _ hp | apply List.mem_cons_of_mem | apply List.mem_append_right))) rfl) ?_
      refine p_only rfl rfl ?_
      refine o_call fn216 rfl (markCommit_ok n0 (by omega)) ?_
      rintro _ _ _ ⟨rfl, rfl, rfl⟩
      refine o_nil ?_
      refine ⟨.inr ⟨hE, hld⟩, ?_⟩
      refine p_only rfl rfl ?_
      refine o_slice1 underlying93 ti31 (by decide) (by decide) rfl rfl (C := [_, _, _, _, _, _, _, _, _, _, _, _, _, _, _]) rfl rfl (fun b33 => ?_)
      refine o_nil ?_
      refine ⟨.inr ⟨hE, hld⟩, ?_⟩
      refine p_only rfl rfl ?_
      refine o_append (news := mkCommit (n0 : Int)) underlying93 ti31 rfl (by decide) rfl j2 rfl (At.all inn) rfl rfl (by omega) (by omega) hol (fun v34 R34 j34 => ?_)
      refine o_nil ?_
      obtain ⟨p34, c34, rfl⟩ := j34.shape
      refine ⟨.inr ⟨hE, hld⟩, ?_⟩
      refine p_only rfl rfl ?_
      refine o_y (y_nilCheckP (by assumption) rfl) ?_
      refine o_nil ?_
      refine ⟨.inr ⟨hE, hld⟩, ?_⟩
      refine p_take rfl rfl (y_fieldAddrP fd266_0 ti93 (by decide) (by assumption) rfl) ?_
      refine p_only rfl rfl ?_
      refine o_storeS (u := [_]) ti93 rfl rfl hv' rfl rfl (by first | rfl | assumption | (simp only [ones, List.all_cons, List.all_nil, Bool.and_true, one_of (by assumption)]; done)) (by omega) (by omega) hol (fun R7_14 j7_14 => ?_)
      refine o_nil ?_
      refine ⟨.inl rfl, ?_⟩
      refine p_nil ?_
      refine x_region rfl ?_
      refine o_y (y_move rfl) ?_
      refine o_y (y_addN rfl rfl (by omega) (by omega)) ?_
      refine o_y (y_assign rfl) ?_
      refine o_nil ?_
      rw [show i * 2 + 0 = i * 2 from rfl, heldCells_mid i0] at j7_14
      exact ⟨(j + 1, .slice p34 (len + j + 1) c34, _, R7_14, R34), 1, rfl, (.c rfl (.c rfl (.c rfl (.c rfl (.c rfl .n))))), rfl, ⟨by omega, j34, by rw [j3]; exact rep_snoc, j7_14⟩, by simp only; omega⟩
    try simp only [kk] at hc1
    refine x_exit ?_
    refine x_region rfl ?_
    refine o_y (y_addN rfl rfl (by omega) (by omega)) ?_
    refine o_y (y_move rfl) ?_
    refine o_nil ?_
    have hjl : j = 3 := by omega
    subst hjl
    exact ⟨(i + 1, l1 ++ [(s', n0)], Rv', RA ++ R', RB), 0, rfl, (.c rfl (.c rfl (.c rfl .n))), by simp only [List.drop_zero, List.append_assoc], ⟨by omega, by simp [i0], by simpa using hv', i2.snoc j2 hn (by omega) j3, i3⟩, by simp only; omega⟩
  try simp only [kk] at hc0
  refine x_exit ?_
  with_reducible repeat (first | refine q_exit_then ?_ | refine q_exit_block ?_ | refine q_exit_pass rfl ?_)
  refine x_finN (fn := Go.Proofs.Tryz.f112) 0 (ret0 rfl ) ?_
  have hil : i = l.length := by omega
  subst hil
  rw [List.drop_length] at i3 hv
  have := i3.none
  subst this
  rw [List.append_nil] at hv
  exact ⟨rfl, l1, Rv, RA, rfl, i0, by rw [i0]; exact hv, i2⟩
theorem growLog_ok {B : World} {H : HM} {O : OL} {bk : Nat} {C : List Value} {v : Value} {l : List (Value × Nat)} {Rv Rs : OL} {K : Nat} (hC : C[28]? = some v) (hv : Row v l.length (heldCells l) 153 2 Rv) (hh : Held 95 2 32 (Marked mkLog) K l Rs) (hK : K ≤ 140737488351232) (hm : l.length ≤ 1000000000000) :
    CallsM prog 119 [.pointer (some ⟨bk, 0, none⟩)].toArray B H ((bk, cl C 77) :: (Rv ++ (Rs ++ O))) (fun _ H' O' => H = H' ∧ ∃ l' Rv' Rs', O' = (bk, cl C 77) :: (Rv' ++ (Rs' ++ O)) ∧ l'.length = l.length ∧ Row v l'.length (heldCells l') 153 2 Rv' ∧ Held 95 2 32 (Marked mkLog) (K + 3 * 32) l' Rs') := by
  refine enter func119 rfl ntmps119 (l := [(0, _)]) rfl rfl ?_
  refine x_seq ?_
  refine x_region rfl ?_
  refine o_y (y_move rfl) ?_
  refine o_y (y_nilCheck rfl) ?_
  refine o_y (y_fieldAddr fd77_28 ti69 (by decide) rfl) ?_
  refine o_y (y_loadO ti69 rfl .z hC) ?_
  refine o_y (y_lenA underlying69 rfl) ?_
  refine o_y (y_move rfl) ?_
  refine o_nil ?_
  refine x_block ?_
  refine x_loopf (σ := Nat × List (Value × Nat) × OL × OL × OL) (fun s => [(10, .int .i64 (s.1 : Int)), (9, .int .i64 (l.length : Int)), (0, .pointer (some ⟨bk, 0, none⟩))]) (fun s => (bk, cl C 77) :: (s.2.2.1 ++ (s.2.2.2.1 ++ (s.2.2.2.2 ++ O)))) (fun s => s.1 ≤ l.length ∧ s.2.1.length = s.1 ∧ Row v l.length (heldCells (s.2.1 ++ l.drop s.1)) 153 2 s.2.2.1 ∧ Held 95 2 32 (Marked mkLog) (K + 3 * 32) s.2.1 s.2.2.2.1 ∧ Held 95 2 32 (Marked mkLog) K (l.drop s.1) s.2.2.2.2) (fun s => l.length - s.1) (0, [], Rv, [], Rs) ⟨by simp, rfl, hv, .n, hh⟩ (.c rfl (.c rfl (.c rfl .n))) rfl ?_
  rintro ⟨i, l1, Rv, RA, RB⟩ ⟨i1, i0, hv, i2, i3⟩
  simp only at i1 i0 hv i2 i3
  refine x_seq ?_
  refine x_region rfl ?_
  refine o_y (y_lss rfl rfl) ?_
  refine o_nil ?_
  refine x_seq ?_
  refine x_cond rfl (fun hc0 => ?_) (fun hc0 => ?_)
  · try simp only [kk] at hc0
    have hi : i < l.length := by omega
    rw [List.drop_eq_getElem_cons hi] at i3 hv
    obtain ⟨len, cs, R, RB, rfl, hs, hn, hl, hp, i3⟩ := i3.head
    have sv := hv.sl (by omega)
    obtain ⟨s0, hs0⟩ : ∃ s, s = l[i].1 := ⟨_, rfl⟩
    obtain ⟨n0, hn0⟩ : ∃ n, n = l[i].2 := ⟨_, rfl⟩
    have hli : l[i] = (s0, n0) := by rw [hs0, hn0]
    rw [hli] at hv
    rw [← hs0] at hs
    rw [← hn0] at hn hp
    simp only [List.append_assoc]
    refine x_skip ?_
    refine x_seq ?_
    refine x_block ?_
    refine x_seq ?_
    refine x_region rfl ?_
    refine o_y (y_move rfl) ?_
    refine o_y (y_assign rfl) ?_
    refine o_nil ?_
    refine x_seq ?_
    refine x_region rfl ?_
    refine o_y (y_move rfl) ?_
    refine o_y (y_nilCheck rfl) ?_
    refine o_y (y_fieldAddr fd77_28 ti69 (by decide) rfl) ?_
    refine o_y (y_loadO ti69 rfl .z hC) ?_
    refine o_y (y_move rfl) ?_
    refine o_y (y_idxR hv i hi underlying69 ti153 rfl rfl rfl) ?_
    refine o_y (y_assign rfl) ?_
    refine o_nil ?_
    refine x_seq ?_
    refine x_region rfl ?_
    refine o_y (y_assign rfl) ?_
    refine o_nil ?_
    refine x_block ?_
    refine x_loopf (σ := Nat × Value × List Value × OL × OL) (fun s => [(4, .int .i64 (s.1 : Int)), (3, ptrAt v (i * 2)), (10, .int .i64 (i : Int)), (9, .int .i64 (l.length : Int)), (0, .pointer (some ⟨bk, 0, none⟩))]) (fun s => (bk, cl C 77) :: (s.2.2.2.1 ++ (RA ++ (s.2.2.2.2 ++ (RB ++ O))))) (fun s => s.1 ≤ 3 ∧ Row s.2.1 (len + s.1) s.2.2.1 95 2 s.2.2.2.2 ∧ Marked mkLog n0 (len + s.1) s.2.2.1 ∧ Row v l.length (heldCells (l1 ++ (s.2.1, n0) :: l.drop (i + 1))) 153 2 s.2.2.2.1) (fun s => 3 - s.1) (0, s0, cs, Rv, R) ⟨by simp, hs, hp, hv⟩ (.c rfl (.c rfl (.c rfl (.c rfl (.c rfl .n))))) rfl ?_
    rintro ⟨j, s', cs', Rv', R'⟩ ⟨j1, j2, j3, hv'⟩
    simp only at j1 j2 j3 hv'
    refine x_seq ?_
    refine x_seq ?_
    refine x_region rfl ?_
    refine o_y (y_move rfl) ?_
    refine o_y (y_lss rfl rfl) ?_
    refine o_nil ?_
    refine x_cond rfl (fun hc1 => ?_) (fun hc1 => ?_)
    · try simp only [kk] at hc1
      have hj : j < 3 := by omega
      obtain ⟨ps', c', rfl⟩ := j2.shape
      have aE : AtS H Rv' v (i * 2) [.slice ps' (len + j) c', .int .i64 (n0 : Int)] := hv'.at (fun p hp => hp) (by omega) (fun q u hu => by
        have hil : i < (l1 ++ (.slice ps' (len + j) c', n0) :: l.drop (i + 1)).length := by rw [List.length_append]; simp; omega
        have e : (l1 ++ ((Value.slice ps' (len + j) c', n0) : Value × Nat) :: l.drop (i + 1))[i] = (.slice ps' (len + j) c', n0) := by
          rw [List.getElem_append_right (by omega)]; simp [i0]
        exact heldCells_get hil q u (by rw [e]; exact hu))
      have hvl := hv'.len
      refine x_skip ?_
      refine x_seq ?_
      refine x_block ?_
      refine x_regionPs _ held_bR [(0, true), (1, true), (2, true), (3, true), (4, true), (5, true), (6, true), (7, true), (8, true), (9, false), (10, false), (11, false), (12, false), (13, true), (14, false)] [0, 1, 2, 3, 4, 5, 6, 7, 8, 13] [14] mixed (by kernel_rfl) npa ?_
      have hE := Ext.refl H
      refine p_take rfl rfl (y_move rfl) ?_
      refine p_take rfl rfl (y_move rfl) ?_
      refine p_take rfl rfl (y_nilCheckP (by assumption) rfl) ?_
      refine p_take rfl rfl (y_fieldAddrP fd153_0 ti22 (by decide) (by assumption) rfl) ?_
      refine p_take rfl rfl (y_loadS1 ti22 rfl (AtS.sub (by assumption) (fun p hp => by repeat (first | exact hp | exact List.mem_append_left _ hp | apply List.mem_cons_of_mem | apply List.mem_append_right))) rfl) ?_
      refine p_take rfl rfl (y_move rfl) ?_
      refine p_take rfl rfl (y_nilCheckP (by assumption) rfl) ?_
      refine p_take rfl rfl (y_fieldAddrP fd153_1 ti3 (by decide) (by assumption) rfl) ?_
      refine p_take rfl rfl (y_loadS1 ti3 rfl (AtS.sub (by assumption) (fun p hp => by repeat (first | exact hp | exact List.mem_append_left _ hp | apply List.mem_cons_of_mem | apply List.mem_append_right))) rfl) ?_
      refine p_only rfl rfl ?_
      refine o_call fn35 rfl (markLog_ok n0 (by omega)) ?_
      rintro _ _ _ ⟨rfl, rfl, rfl⟩
      refine o_nil ?_
      refine ⟨.inr ⟨hE, hld⟩, ?_⟩
      refine p_only rfl rfl ?_
      refine o_slice1 underlying22 ti95 (by decide) (by decide) rfl rfl (C := [_, _]) rfl rfl (fun b33 => ?_)
      refine o_nil ?_
      refine ⟨.inr ⟨hE, hld⟩, ?_⟩
      refine p_only rfl rfl ?_
      refine o_append (news := mkLog (n0 : Int)) underlying22 ti95 rfl (by decide) rfl j2 rfl (At.all inn) rfl rfl (by omega) (by omega) hol (fun v34 R34 j34 => ?_)
      refine o_nil ?_
      obtain ⟨p34, c34, rfl⟩ := j34.shape
      refine ⟨.inr ⟨hE, hld⟩, ?_⟩
      refine p_only rfl rfl ?_
      refine o_y (y_nilCheckP (by assumption) rfl) ?_
      refine o_nil ?_
      refine ⟨.inr ⟨hE, hld⟩, ?_⟩
      refine p_take rfl rfl (y_fieldAddrP fd153_0 ti22 (by decide) (by assumption) rfl) ?_
      refine p_only rfl rfl ?_
      refine o_storeS (u := [_]) ti22 rfl rfl hv' rfl rfl (by first | rfl | assumption | (simp only [ones, List.all_cons, List.all_nil, Bool.and_true, one_of (by assumption)]; done)) (by omega) (by omega) hol (fun R7_14 j7_14 => ?_)
      refine o_nil ?_
      refine ⟨.inl rfl, ?_⟩
      refine p_nil ?_
      refine x_region rfl ?_
      refine o_y (y_move rfl) ?_
      refine o_y (y_addN rfl rfl (by omega) (by omega)) ?_
      refine o_y (y_assign rfl) ?_
      refine o_nil ?_
      rw [show i * 2 + 0 = i * 2 from rfl, heldCells_mid i0] at j7_14
      exact ⟨(j + 1, .slice p34 (len + j + 1) c34, _, R7_14, R34), 1, rfl, (.c rfl (.c rfl (.c rfl (.c rfl (.c rfl .n))))), rfl, ⟨by omega, j34, by rw [j3]; exact rep_snoc, j7_14⟩, by simp only; omega⟩
    try simp only [kk] at hc1
    refine x_exit ?_
    refine x_region rfl ?_
    refine o_y (y_addN rfl rfl (by omega) (by omega)) ?_
    refine o_y (y_move rfl) ?_
    refine o_nil ?_
    have hjl : j = 3 := by omega
    subst hjl
    exact ⟨(i + 1, l1 ++ [(s', n0)], Rv', RA ++ R', RB), 0, rfl, (.c rfl (.c rfl (.c rfl .n))), by simp only [List.drop_zero, List.append_assoc], ⟨by omega, by simp [i0], by simpa using hv', i2.snoc j2 hn (by omega) j3, i3⟩, by simp only; omega⟩
  try simp only [kk] at hc0
  refine x_exit ?_
  with_reducible repeat (first | refine q_exit_then ?_ | refine q_exit_block ?_ | refine q_exit_pass rfl ?_)
  refine x_finN (fn := Go.Proofs.Tryz.f119) 0 (ret0 rfl ) ?_
  have hil : i = l.length := by omega
  subst hil
  rw [List.drop_length] at i3 hv
  have := i3.none
  subst this
  rw [List.append_nil] at hv
  exact ⟨rfl, l1, Rv, RA, rfl, i0, by rw [i0]; exact hv, i2⟩
end Go.Ph
set_option linter.unusedVariables false
set_option linter.unusedSimpArgs false
set_option maxRecDepth 100000
namespace Go.Ph
open Go Go.RowKit Go.Proofs.YtmgnagpgnoikfaaGreatDoor Go.Proofs.Tryz
theorem lookNumber_ok {B : World} {H : HM} {O : OL} {bk : Nat} {C : List Value} {v : Value} {l : List (Value × Nat)} {Rv Rs : OL} {K : Nat} (hC : C[2]? = some v) (hv : Row v l.length (heldCells l) 157 2 Rv) (hh : Held 3 1 8 (Marked mkNumber) K l Rs) (hK : K ≤ 140737488355328) (hm : l.length ≤ 1000000000000) :
    CallsM prog 127 [.pointer (some ⟨bk, 0, none⟩)].toArray B H ((bk, cl C 77) :: (Rv ++ (Rs ++ O))) (Same (.bool true) H ((bk, cl C 77) :: (Rv ++ (Rs ++ O)))) := by
  refine enter func127 rfl ntmps127 (l := [(0, _)]) rfl rfl ?_
  refine x_seq ?_
  refine x_region rfl ?_
  refine o_y (y_assign rfl) ?_
  refine o_nil ?_
  refine x_seq ?_
  refine x_seq ?_
  refine x_region rfl ?_
  refine o_y (y_move rfl) ?_
  refine o_y (y_nilCheck rfl) ?_
  refine o_y (y_fieldAddr fd77_2 ti43 (by decide) rfl) ?_
  refine o_y (y_loadO ti43 rfl .z hC) ?_
  refine o_y (y_lenA underlying43 rfl) ?_
  refine o_y (y_move rfl) ?_
  refine o_nil ?_
  refine x_block ?_
  refine x_loopf (σ := Nat × OL × OL) (fun s => [(12, .int .i64 (s.1 : Int)), (11, .int .i64 (l.length : Int)), (10, v), (0, .pointer (some ⟨bk, 0, none⟩))]) (fun s => (bk, cl C 77) :: (Rv ++ (Rs ++ O))) (fun s => s.1 ≤ l.length ∧ Rs = s.2.1 ++ s.2.2 ∧ Held 3 1 8 (Marked mkNumber) K (l.drop s.1) s.2.2) (fun s => l.length - s.1) (0, [], Rs) ⟨by simp, rfl, hh⟩ (.c rfl (.c rfl (.c rfl (.c rfl .n)))) rfl ?_
  rintro ⟨i, RA, RB⟩ ⟨i1, i2, i3⟩
  simp only at i1 i2 i3
  refine x_seq ?_
  refine x_region rfl ?_
  refine o_y (y_lss rfl rfl) ?_
  refine o_nil ?_
  refine x_seq ?_
  refine x_cond rfl (fun hc0 => ?_) (fun hc0 => ?_)
  · try simp only [kk] at hc0
    have hi : i < l.length := by omega
    rw [List.drop_eq_getElem_cons hi] at i3
    obtain ⟨len, cs, R, RB, rfl, hs, hn, hl, hp, i3⟩ := i3.head
    have sv := hv.sl (by omega)
    have aE : AtS H Rv v (i * 2) [l[i].1, .int .i64 (l[i].2 : Int)] := hv.at (fun p hp => hp) (by omega) (heldCells_get hi)
    obtain ⟨ps, c0, hs0⟩ := hs.shape
    have hps : ones [l[i].1, .int .i64 (l[i].2 : Int)] = true := by rw [hs0]; rfl
    obtain ⟨s0, hs1⟩ : ∃ s, s = l[i].1 := ⟨_, rfl⟩
    rw [← hs1] at aE hs hs0 hps
    refine x_skip ?_
    refine x_seq ?_
    refine x_block ?_
    refine x_seq ?_
    refine x_region rfl ?_
    refine o_y (y_idxR hv i hi underlying43 ti157 rfl rfl rfl) ?_
    refine o_y (y_loadS ti157 rfl (AtS.sub (by assumption) (fun p hp => by repeat (first | exact hp | exact List.mem_append_left _ hp | apply List.mem_cons_of_mem | apply List.mem_append_right))) rfl (fun e => by cases e)) ?_
    refine o_alloc ti157 rfl (fun b4 => ?_)
    refine o_store (u := [_, _]) (C' := [_, _]) ti157 rfl rfl rfl rfl (by first | rfl | assumption | (simp only [ones, List.all_cons, List.all_nil, Bool.and_true, one_of (by assumption)]; done)) (by repeat (first | exact .z | apply Upd.s | apply Upd.a)) (by exact Nat.le_of_ble_eq_true rfl) (by rfl) ?_
    refine o_nil ?_
    refine x_seq ?_
    refine x_region rfl ?_
    refine o_y (y_fieldAddr fd157_0 ti24 (by decide) rfl) ?_
    refine o_y (y_loadO ti24 rfl inn rfl) ?_
    refine o_y (y_lenA underlying24 rfl) ?_
    refine o_y (y_move rfl) ?_
    refine o_nil ?_
    refine x_block ?_
    refine x_loopf (σ := Nat) (fun s => [(19, .int .i64 (s : Int)), (18, .int .i64 (len : Int)), (17, s0), (4, .pointer (some ⟨b4, 0, none⟩)), (12, .int .i64 (i : Int)), (11, .int .i64 (l.length : Int)), (10, v), (0, .pointer (some ⟨bk, 0, none⟩))]) (fun s => (b4, cl [s0, .int .i64 (l[i].2 : Int)] 157) :: (bk, cl C 77) :: (Rv ++ (Rs ++ O))) (fun s => s ≤ len) (fun s => len - s) 0 (by simp) (.c rfl (.c rfl (.c rfl (.c rfl (.c rfl (.c rfl (.c rfl (.c rfl .n)))))))) rfl ?_
    rintro j j1
    refine x_seq ?_
    refine x_region rfl ?_
    refine o_y (y_lss rfl rfl) ?_
    refine o_nil ?_
    refine x_seq ?_
    refine x_cond rfl (fun hc1 => ?_) (fun hc1 => ?_)
    · try simp only [kk] at hc1
      have hj : j < len := by omega
      have hRs : ∀ p ∈ R, p ∈ (b4, cl [s0, .int .i64 (l[i].2 : Int)] 157) :: (bk, cl C 77) :: (Rv ++ (Rs ++ O)) := fun p hp => List.mem_cons_of_mem _ (List.mem_cons_of_mem _ (by rw [i2]; simp [hp]))
      have aF : AtS H ((b4, cl [s0, .int .i64 (l[i].2 : Int)] 157) :: (bk, cl C 77) :: (Rv ++ (Rs ++ O))) s0 (j * 1) (mkNumber (l[i].2 : Int)) := hs.at hRs (by omega) (by have hp' : cs = _ := hp; rw [hp']; exact rep_get rfl hj)
      refine x_skip ?_
      refine x_seq ?_
      refine x_block ?_
      refine x_seq ?_
      refine x_region rfl ?_
      refine o_y (y_idxR hs j hj underlying24 ti3 rfl rfl rfl) ?_
      refine o_y (y_loadS ti3 rfl aF rfl (fun _ => rfl)) ?_
      refine o_y (y_assign rfl) ?_
      refine o_nil ?_
      refine x_seq ?_
      refine x_region rfl ?_
      refine o_y (y_move rfl) ?_
      refine o_y (y_fieldAddr fd157_1 ti3 (by decide) rfl) ?_
      refine o_y (y_loadO ti3 rfl inn rfl) ?_
      refine o_call fn193 rfl (isNumber_ok l[i].2 (by omega)) ?_
      rintro _ _ _ ⟨rfl, rfl, rfl⟩
      refine o_y (y_not rfl) ?_
      refine o_nil ?_
      refine x_condF rfl ?_
      refine x_skip ?_
      refine x_region rfl ?_
      refine o_y (y_addN rfl rfl (by omega) (by omega)) ?_
      refine o_y (y_move rfl) ?_
      refine o_nil ?_
      exact ⟨j + 1, 0, rfl, (.c rfl (.c rfl (.c rfl (.c rfl (.c rfl (.c rfl (.c rfl (.c rfl .n)))))))), rfl, by omega, by omega⟩
    try simp only [kk] at hc1
    refine x_exit ?_
    refine x_region rfl ?_
    refine o_y (y_addN rfl rfl (by omega) (by omega)) ?_
    refine o_y (y_move rfl) ?_
    refine o_nil ?_
    exact ⟨(i + 1, RA ++ R, RB), 1, rfl, (.c rfl (.c rfl (.c rfl (.c rfl .n)))), rfl, ⟨by omega, by rw [i2]; simp, i3⟩, by simp only; omega⟩
  try simp only [kk] at hc0
  refine x_exit ?_
  refine x_seq ?_
  refine x_region rfl ?_
  refine o_y (y_assign rfl) ?_
  refine o_nil ?_
  refine x_ret ?_
  refine x_fin 0 (ret1 rfl rfl) ?_
  exact ⟨rfl, rfl, rfl⟩
theorem lookSeal_ok {B : World} {H : HM} {O : OL} {bk : Nat} {C : List Value} {v : Value} {l : List (Value × Nat)} {Rv Rs : OL} {K : Nat} (hC : C[6]? = some v) (hv : Row v l.length (heldCells l) 178 2 Rv) (hh : Held 135 3 24 (Marked mkSeal) K l Rs) (hK : K ≤ 140737488355328) (hm : l.length ≤ 1000000000000) :
    CallsM prog 131 [.pointer (some ⟨bk, 0, none⟩)].toArray B H ((bk, cl C 77) :: (Rv ++ (Rs ++ O))) (Same (.bool true) H ((bk, cl C 77) :: (Rv ++ (Rs ++ O)))) := by
  refine enter func131 rfl ntmps131 (l := [(0, _)]) rfl rfl ?_
  refine x_seq ?_
  refine x_region rfl ?_
  refine o_y (y_assign rfl) ?_
  refine o_nil ?_
  refine x_seq ?_
  refine x_seq ?_
  refine x_region rfl ?_
  refine o_y (y_move rfl) ?_
  refine o_y (y_nilCheck rfl) ?_
  refine o_y (y_fieldAddr fd77_6 ti47 (by decide) rfl) ?_
  refine o_y (y_loadO ti47 rfl .z hC) ?_
  refine o_y (y_lenA underlying47 rfl) ?_
  refine o_y (y_move rfl) ?_
  refine o_nil ?_
  refine x_block ?_
  refine x_loopf (σ := Nat × OL × OL) (fun s => [(12, .int .i64 (s.1 : Int)), (11, .int .i64 (l.length : Int)), (10, v), (0, .pointer (some ⟨bk, 0, none⟩))]) (fun s => (bk, cl C 77) :: (Rv ++ (Rs ++ O))) (fun s => s.1 ≤ l.length ∧ Rs = s.2.1 ++ s.2.2 ∧ Held 135 3 24 (Marked mkSeal) K (l.drop s.1) s.2.2) (fun s => l.length - s.1) (0, [], Rs) ⟨by simp, rfl, hh⟩ (.c rfl (.c rfl (.c rfl (.c rfl .n)))) rfl ?_
  rintro ⟨i, RA, RB⟩ ⟨i1, i2, i3⟩
  simp only at i1 i2 i3
  refine x_seq ?_
  refine x_region rfl ?_
  refine o_y (y_lss rfl rfl) ?_
  refine o_nil ?_
  refine x_seq ?_
  refine x_cond rfl (fun hc0 => ?_) (fun hc0 => ?_)
  · try simp only [kk] at hc0
    have hi : i < l.length := by omega
    rw [List.drop_eq_getElem_cons hi] at i3
    obtain ⟨len, cs, R, RB, rfl, hs, hn, hl, hp, i3⟩ := i3.head
    have sv := hv.sl (by omega)
    have aE : AtS H Rv v (i * 2) [l[i].1, .int .i64 (l[i].2 : Int)] := hv.at (fun p hp => hp) (by omega) (heldCells_get hi)
    obtain ⟨ps, c0, hs0⟩ := hs.shape
    have hps : ones [l[i].1, .int .i64 (l[i].2 : Int)] = true := by rw [hs0]; rfl
    obtain ⟨s0, hs1⟩ : ∃ s, s = l[i].1 := ⟨_, rfl⟩
    rw [← hs1] at aE hs hs0 hps
    refine x_skip ?_
    refine x_seq ?_
    refine x_block ?_
    refine x_seq ?_
    refine x_region rfl ?_
    refine o_y (y_idxR hv i hi underlying47 ti178 rfl rfl rfl) ?_
    refine o_y (y_loadS ti178 rfl (AtS.sub (by assumption) (fun p hp => by repeat (first | exact hp | exact List.mem_append_left _ hp | apply List.mem_cons_of_mem | apply List.mem_append_right))) rfl (fun e => by cases e)) ?_
    refine o_alloc ti178 rfl (fun b4 => ?_)
    refine o_store (u := [_, _]) (C' := [_, _]) ti178 rfl rfl rfl rfl (by first | rfl | assumption | (simp only [ones, List.all_cons, List.all_nil, Bool.and_true, one_of (by assumption)]; done)) (by repeat (first | exact .z | apply Upd.s | apply Upd.a)) (by exact Nat.le_of_ble_eq_true rfl) (by rfl) ?_
    refine o_nil ?_
    refine x_seq ?_
    refine x_region rfl ?_
    refine o_y (y_fieldAddr fd178_0 ti25 (by decide) rfl) ?_
    refine o_y (y_loadO ti25 rfl inn rfl) ?_
    refine o_y (y_lenA underlying25 rfl) ?_
    refine o_y (y_move rfl) ?_
    refine o_nil ?_
    refine x_block ?_
    refine x_loopf (σ := Nat) (fun s => [(19, .int .i64 (s : Int)), (18, .int .i64 (len : Int)), (17, s0), (4, .pointer (some ⟨b4, 0, none⟩)), (12, .int .i64 (i : Int)), (11, .int .i64 (l.length : Int)), (10, v), (0, .pointer (some ⟨bk, 0, none⟩))]) (fun s => (b4, cl [s0, .int .i64 (l[i].2 : Int)] 178) :: (bk, cl C 77) :: (Rv ++ (Rs ++ O))) (fun s => s ≤ len) (fun s => len - s) 0 (by simp) (.c rfl (.c rfl (.c rfl (.c rfl (.c rfl (.c rfl (.c rfl (.c rfl .n)))))))) rfl ?_
    rintro j j1
    refine x_seq ?_
    refine x_region rfl ?_
    refine o_y (y_lss rfl rfl) ?_
    refine o_nil ?_
    refine x_seq ?_
    refine x_cond rfl (fun hc1 => ?_) (fun hc1 => ?_)
    · try simp only [kk] at hc1
      have hj : j < len := by omega
      have hRs : ∀ p ∈ R, p ∈ (b4, cl [s0, .int .i64 (l[i].2 : Int)] 178) :: (bk, cl C 77) :: (Rv ++ (Rs ++ O)) := fun p hp => List.mem_cons_of_mem _ (List.mem_cons_of_mem _ (by rw [i2]; simp [hp]))
      have aF : AtS H ((b4, cl [s0, .int .i64 (l[i].2 : Int)] 178) :: (bk, cl C 77) :: (Rv ++ (Rs ++ O))) s0 (j * 3) (mkSeal (l[i].2 : Int)) := hs.at hRs (by omega) (by have hp' : cs = _ := hp; rw [hp']; exact rep_get rfl hj)
      refine x_skip ?_
      refine x_seq ?_
      refine x_block ?_
      refine x_seq ?_
      refine x_region rfl ?_
      refine o_y (y_idxR hs j hj underlying25 ti135 rfl rfl rfl) ?_
      refine o_y (y_loadS ti135 rfl aF rfl (fun e => by cases e)) ?_
      refine o_alloc ti135 rfl (fun b6 => ?_)
      refine o_store (u := [_, _, _]) (C' := [_, _, _]) ti135 rfl rfl rfl rfl (by first | rfl | assumption | (simp only [ones, List.all_cons, List.all_nil, Bool.and_true, one_of (by assumption)]; done)) (by repeat (first | exact .z | apply Upd.s | apply Upd.a)) (by exact Nat.le_of_ble_eq_true rfl) (by rfl) ?_
      refine o_nil ?_
      refine x_seq ?_
      refine x_region rfl ?_
      refine o_y (y_loadA ti135 rfl inn rfl) ?_
      refine o_y (y_fieldAddr fd178_1 ti3 (by decide) rfl) ?_
      refine o_y (y_loadO ti3 rfl inn rfl) ?_
      refine o_call fn194 rfl (isSeal_ok l[i].2 (by omega)) ?_
      rintro _ _ _ ⟨rfl, rfl, rfl⟩
      refine o_y (y_not rfl) ?_
      refine o_nil ?_
      refine x_condF rfl ?_
      refine x_skip ?_
      refine x_region rfl ?_
      refine o_y (y_addN rfl rfl (by omega) (by omega)) ?_
      refine o_y (y_move rfl) ?_
      refine o_nil ?_
      exact ⟨j + 1, 1, rfl, (.c rfl (.c rfl (.c rfl (.c rfl (.c rfl (.c rfl (.c rfl (.c rfl .n)))))))), rfl, by omega, by omega⟩
    try simp only [kk] at hc1
    refine x_exit ?_
    refine x_region rfl ?_
    refine o_y (y_addN rfl rfl (by omega) (by omega)) ?_
    refine o_y (y_move rfl) ?_
    refine o_nil ?_
    exact ⟨(i + 1, RA ++ R, RB), 1, rfl, (.c rfl (.c rfl (.c rfl (.c rfl .n)))), rfl, ⟨by omega, by rw [i2]; simp, i3⟩, by simp only; omega⟩
  try simp only [kk] at hc0
  refine x_exit ?_
  refine x_seq ?_
  refine x_region rfl ?_
  refine o_y (y_assign rfl) ?_
  refine o_nil ?_
  refine x_ret ?_
  refine x_fin 0 (ret1 rfl rfl) ?_
  exact ⟨rfl, rfl, rfl⟩
theorem lookAdd_ok {B : World} {H : HM} {O : OL} {bk : Nat} {C : List Value} {v : Value} {l : List (Value × Nat)} {Rv Rs : OL} {K : Nat} (hC : C[8]? = some v) (hv : Row v l.length (heldCells l) 188 2 Rv) (hh : Held 131 3 24 (Marked mkAdd) K l Rs) (hK : K ≤ 140737488355328) (hm : l.length ≤ 1000000000000) :
    CallsM prog 133 [.pointer (some ⟨bk, 0, none⟩)].toArray B H ((bk, cl C 77) :: (Rv ++ (Rs ++ O))) (Same (.bool true) H ((bk, cl C 77) :: (Rv ++ (Rs ++ O)))) := by
  refine enter func133 rfl ntmps133 (l := [(0, _)]) rfl rfl ?_
  refine x_seq ?_
  refine x_region rfl ?_
  refine o_y (y_assign rfl) ?_
  refine o_nil ?_
  refine x_seq ?_
  refine x_seq ?_
  refine x_region rfl ?_
  refine o_y (y_move rfl) ?_
  refine o_y (y_nilCheck rfl) ?_
  refine o_y (y_fieldAddr fd77_8 ti49 (by decide) rfl) ?_
  refine o_y (y_loadO ti49 rfl .z hC) ?_
  refine o_y (y_lenA underlying49 rfl) ?_
  refine o_y (y_move rfl) ?_
  refine o_nil ?_
  refine x_block ?_
  refine x_loopf (σ := Nat × OL × OL) (fun s => [(12, .int .i64 (s.1 : Int)), (11, .int .i64 (l.length : Int)), (10, v), (0, .pointer (some ⟨bk, 0, none⟩))]) (fun s => (bk, cl C 77) :: (Rv ++ (Rs ++ O))) (fun s => s.1 ≤ l.length ∧ Rs = s.2.1 ++ s.2.2 ∧ Held 131 3 24 (Marked mkAdd) K (l.drop s.1) s.2.2) (fun s => l.length - s.1) (0, [], Rs) ⟨by simp, rfl, hh⟩ (.c rfl (.c rfl (.c rfl (.c rfl .n)))) rfl ?_
  rintro ⟨i, RA, RB⟩ ⟨i1, i2, i3⟩
  simp only at i1 i2 i3
  refine x_seq ?_
  refine x_region rfl ?_
  refine o_y (y_lss rfl rfl) ?_
  refine o_nil ?_
  refine x_seq ?_
  refine x_cond rfl (fun hc0 => ?_) (fun hc0 => ?_)
  · try simp only [kk] at hc0
    have hi : i < l.length := by omega
    rw [List.drop_eq_getElem_cons hi] at i3
    obtain ⟨len, cs, R, RB, rfl, hs, hn, hl, hp, i3⟩ := i3.head
    have sv := hv.sl (by omega)
    have aE : AtS H Rv v (i * 2) [l[i].1, .int .i64 (l[i].2 : Int)] := hv.at (fun p hp => hp) (by omega) (heldCells_get hi)
    obtain ⟨ps, c0, hs0⟩ := hs.shape
    have hps : ones [l[i].1, .int .i64 (l[i].2 : Int)] = true := by rw [hs0]; rfl
    obtain ⟨s0, hs1⟩ : ∃ s, s = l[i].1 := ⟨_, rfl⟩
    rw [← hs1] at aE hs hs0 hps
    refine x_skip ?_
    refine x_seq ?_
    refine x_block ?_
    refine x_seq ?_
    refine x_region rfl ?_
    refine o_y (y_idxR hv i hi underlying49 ti188 rfl rfl rfl) ?_
    refine o_y (y_loadS ti188 rfl (AtS.sub (by assumption) (fun p hp => by repeat (first | exact hp | exact List.mem_append_left _ hp | apply List.mem_cons_of_mem | apply List.mem_append_right))) rfl (fun e => by cases e)) ?_
    refine o_alloc ti188 rfl (fun b4 => ?_)
    refine o_store (u := [_, _]) (C' := [_, _]) ti188 rfl rfl rfl rfl (by first | rfl | assumption | (simp only [ones, List.all_cons, List.all_nil, Bool.and_true, one_of (by assumption)]; done)) (by repeat (first | exact .z | apply Upd.s | apply Upd.a)) (by exact Nat.le_of_ble_eq_true rfl) (by rfl) ?_
    refine o_nil ?_
    refine x_seq ?_
    refine x_region rfl ?_
    refine o_y (y_fieldAddr fd188_0 ti23 (by decide) rfl) ?_
    refine o_y (y_loadO ti23 rfl inn rfl) ?_
    refine o_y (y_lenA underlying23 rfl) ?_
    refine o_y (y_move rfl) ?_
    refine o_nil ?_
    refine x_block ?_
    refine x_loopf (σ := Nat) (fun s => [(19, .int .i64 (s : Int)), (18, .int .i64 (len : Int)), (17, s0), (4, .pointer (some ⟨b4, 0, none⟩)), (12, .int .i64 (i : Int)), (11, .int .i64 (l.length : Int)), (10, v), (0, .pointer (some ⟨bk, 0, none⟩))]) (fun s => (b4, cl [s0, .int .i64 (l[i].2 : Int)] 188) :: (bk, cl C 77) :: (Rv ++ (Rs ++ O))) (fun s => s ≤ len) (fun s => len - s) 0 (by simp) (.c rfl (.c rfl (.c rfl (.c rfl (.c rfl (.c rfl (.c rfl (.c rfl .n)))))))) rfl ?_
    rintro j j1
    refine x_seq ?_
    refine x_region rfl ?_
    refine o_y (y_lss rfl rfl) ?_
    refine o_nil ?_
    refine x_seq ?_
    refine x_cond rfl (fun hc1 => ?_) (fun hc1 => ?_)
    · try simp only [kk] at hc1
      have hj : j < len := by omega
      have hRs : ∀ p ∈ R, p ∈ (b4, cl [s0, .int .i64 (l[i].2 : Int)] 188) :: (bk, cl C 77) :: (Rv ++ (Rs ++ O)) := fun p hp => List.mem_cons_of_mem _ (List.mem_cons_of_mem _ (by rw [i2]; simp [hp]))
      have aF : AtS H ((b4, cl [s0, .int .i64 (l[i].2 : Int)] 188) :: (bk, cl C 77) :: (Rv ++ (Rs ++ O))) s0 (j * 3) (mkAdd (l[i].2 : Int)) := hs.at hRs (by omega) (by have hp' : cs = _ := hp; rw [hp']; exact rep_get rfl hj)
      refine x_skip ?_
      refine x_seq ?_
      refine x_block ?_
      refine x_seq ?_
      refine x_region rfl ?_
      refine o_y (y_idxR hs j hj underlying23 ti131 rfl rfl rfl) ?_
      refine o_y (y_loadS ti131 rfl aF rfl (fun e => by cases e)) ?_
      refine o_alloc ti131 rfl (fun b6 => ?_)
      refine o_store (u := [_, _, _]) (C' := [_, _, _]) ti131 rfl rfl rfl rfl (by first | rfl | assumption | (simp only [ones, List.all_cons, List.all_nil, Bool.and_true, one_of (by assumption)]; done)) (by repeat (first | exact .z | apply Upd.s | apply Upd.a)) (by exact Nat.le_of_ble_eq_true rfl) (by rfl) ?_
      refine o_nil ?_
      refine x_seq ?_
      refine x_region rfl ?_
      refine o_y (y_loadA ti131 rfl inn rfl) ?_
      refine o_y (y_fieldAddr fd188_1 ti3 (by decide) rfl) ?_
      refine o_y (y_loadO ti3 rfl inn rfl) ?_
      refine o_call fn192 rfl (isAdd_ok l[i].2 (by omega)) ?_
      rintro _ _ _ ⟨rfl, rfl, rfl⟩
      refine o_y (y_not rfl) ?_
      refine o_nil ?_
      refine x_condF rfl ?_
      refine x_skip ?_
      refine x_region rfl ?_
      refine o_y (y_addN rfl rfl (by omega) (by omega)) ?_
      refine o_y (y_move rfl) ?_
      refine o_nil ?_
      exact ⟨j + 1, 1, rfl, (.c rfl (.c rfl (.c rfl (.c rfl (.c rfl (.c rfl (.c rfl (.c rfl .n)))))))), rfl, by omega, by omega⟩
    try simp only [kk] at hc1
    refine x_exit ?_
    refine x_region rfl ?_
    refine o_y (y_addN rfl rfl (by omega) (by omega)) ?_
    refine o_y (y_move rfl) ?_
    refine o_nil ?_
    exact ⟨(i + 1, RA ++ R, RB), 1, rfl, (.c rfl (.c rfl (.c rfl (.c rfl .n)))), rfl, ⟨by omega, by rw [i2]; simp, i3⟩, by simp only; omega⟩
  try simp only [kk] at hc0
  refine x_exit ?_
  refine x_seq ?_
  refine x_region rfl ?_
  refine o_y (y_assign rfl) ?_
  refine o_nil ?_
  refine x_ret ?_
  refine x_fin 0 (ret1 rfl rfl) ?_
  exact ⟨rfl, rfl, rfl⟩
theorem lookJoin_ok {B : World} {H : HM} {O : OL} {bk : Nat} {C : List Value} {v : Value} {l : List (Value × Nat)} {Rv Rs : OL} {K : Nat} (hC : C[9]? = some v) (hv : Row v l.length (heldCells l) 191 2 Rv) (hh : Held 138 2 16 (Marked mkJoin) K l Rs) (hK : K ≤ 140737488355328) (hm : l.length ≤ 1000000000000) :
    CallsM prog 134 [.pointer (some ⟨bk, 0, none⟩)].toArray B H ((bk, cl C 77) :: (Rv ++ (Rs ++ O))) (Same (.bool true) H ((bk, cl C 77) :: (Rv ++ (Rs ++ O)))) := by
  refine enter func134 rfl ntmps134 (l := [(0, _)]) rfl rfl ?_
  refine x_seq ?_
  refine x_region rfl ?_
  refine o_y (y_assign rfl) ?_
  refine o_nil ?_
  refine x_seq ?_
  refine x_seq ?_
  refine x_region rfl ?_
  refine o_y (y_move rfl) ?_
  refine o_y (y_nilCheck rfl) ?_
  refine o_y (y_fieldAddr fd77_9 ti50 (by decide) rfl) ?_
  refine o_y (y_loadO ti50 rfl .z hC) ?_
  refine o_y (y_lenA underlying50 rfl) ?_
  refine o_y (y_move rfl) ?_
  refine o_nil ?_
  refine x_block ?_
  refine x_loopf (σ := Nat × OL × OL) (fun s => [(12, .int .i64 (s.1 : Int)), (11, .int .i64 (l.length : Int)), (10, v), (0, .pointer (some ⟨bk, 0, none⟩))]) (fun s => (bk, cl C 77) :: (Rv ++ (Rs ++ O))) (fun s => s.1 ≤ l.length ∧ Rs = s.2.1 ++ s.2.2 ∧ Held 138 2 16 (Marked mkJoin) K (l.drop s.1) s.2.2) (fun s => l.length - s.1) (0, [], Rs) ⟨by simp, rfl, hh⟩ (.c rfl (.c rfl (.c rfl (.c rfl .n)))) rfl ?_
  rintro ⟨i, RA, RB⟩ ⟨i1, i2, i3⟩
  simp only at i1 i2 i3
  refine x_seq ?_
  refine x_region rfl ?_
  refine o_y (y_lss rfl rfl) ?_
  refine o_nil ?_
  refine x_seq ?_
  refine x_cond rfl (fun hc0 => ?_) (fun hc0 => ?_)
  · try simp only [kk] at hc0
    have hi : i < l.length := by omega
    rw [List.drop_eq_getElem_cons hi] at i3
    obtain ⟨len, cs, R, RB, rfl, hs, hn, hl, hp, i3⟩ := i3.head
    have sv := hv.sl (by omega)
    have aE : AtS H Rv v (i * 2) [l[i].1, .int .i64 (l[i].2 : Int)] := hv.at (fun p hp => hp) (by omega) (heldCells_get hi)
    obtain ⟨ps, c0, hs0⟩ := hs.shape
    have hps : ones [l[i].1, .int .i64 (l[i].2 : Int)] = true := by rw [hs0]; rfl
    obtain ⟨s0, hs1⟩ : ∃ s, s = l[i].1 := ⟨_, rfl⟩
    rw [← hs1] at aE hs hs0 hps
    refine x_skip ?_
    refine x_seq ?_
    refine x_block ?_
    refine x_seq ?_
    refine x_region rfl ?_
    refine o_y (y_idxR hv i hi underlying50 ti191 rfl rfl rfl) ?_
    refine o_y (y_loadS ti191 rfl (AtS.sub (by assumption) (fun p hp => by repeat (first | exact hp | exact List.mem_append_left _ hp | apply List.mem_cons_of_mem | apply List.mem_append_right))) rfl (fun e => by cases e)) ?_
    refine o_alloc ti191 rfl (fun b4 => ?_)
    refine o_store (u := [_, _]) (C' := [_, _]) ti191 rfl rfl rfl rfl (by first | rfl | assumption | (simp only [ones, List.all_cons, List.all_nil, Bool.and_true, one_of (by assumption)]; done)) (by repeat (first | exact .z | apply Upd.s | apply Upd.a)) (by exact Nat.le_of_ble_eq_true rfl) (by rfl) ?_
    refine o_nil ?_
    refine x_seq ?_
    refine x_region rfl ?_
    refine o_y (y_fieldAddr fd191_0 ti26 (by decide) rfl) ?_
    refine o_y (y_loadO ti26 rfl inn rfl) ?_
    refine o_y (y_lenA underlying26 rfl) ?_
    refine o_y (y_move rfl) ?_
    refine o_nil ?_
    refine x_block ?_
    refine x_loopf (σ := Nat) (fun s => [(19, .int .i64 (s : Int)), (18, .int .i64 (len : Int)), (17, s0), (4, .pointer (some ⟨b4, 0, none⟩)), (12, .int .i64 (i : Int)), (11, .int .i64 (l.length : Int)), (10, v), (0, .pointer (some ⟨bk, 0, none⟩))]) (fun s => (b4, cl [s0, .int .i64 (l[i].2 : Int)] 191) :: (bk, cl C 77) :: (Rv ++ (Rs ++ O))) (fun s => s ≤ len) (fun s => len - s) 0 (by simp) (.c rfl (.c rfl (.c rfl (.c rfl (.c rfl (.c rfl (.c rfl (.c rfl .n)))))))) rfl ?_
    rintro j j1
    refine x_seq ?_
    refine x_region rfl ?_
    refine o_y (y_lss rfl rfl) ?_
    refine o_nil ?_
    refine x_seq ?_
    refine x_cond rfl (fun hc1 => ?_) (fun hc1 => ?_)
    · try simp only [kk] at hc1
      have hj : j < len := by omega
      have hRs : ∀ p ∈ R, p ∈ (b4, cl [s0, .int .i64 (l[i].2 : Int)] 191) :: (bk, cl C 77) :: (Rv ++ (Rs ++ O)) := fun p hp => List.mem_cons_of_mem _ (List.mem_cons_of_mem _ (by rw [i2]; simp [hp]))
      have aF : AtS H ((b4, cl [s0, .int .i64 (l[i].2 : Int)] 191) :: (bk, cl C 77) :: (Rv ++ (Rs ++ O))) s0 (j * 2) (mkJoin (l[i].2 : Int)) := hs.at hRs (by omega) (by have hp' : cs = _ := hp; rw [hp']; exact rep_get rfl hj)
      refine x_skip ?_
      refine x_seq ?_
      refine x_block ?_
      refine x_seq ?_
      refine x_region rfl ?_
      refine o_y (y_idxR hs j hj underlying26 ti138 rfl rfl rfl) ?_
      refine o_y (y_loadS ti138 rfl aF rfl (fun e => by cases e)) ?_
      refine o_alloc ti138 rfl (fun b6 => ?_)
      refine o_store (u := [_, _]) (C' := [_, _]) ti138 rfl rfl rfl rfl (by first | rfl | assumption | (simp only [ones, List.all_cons, List.all_nil, Bool.and_true, one_of (by assumption)]; done)) (by repeat (first | exact .z | apply Upd.s | apply Upd.a)) (by exact Nat.le_of_ble_eq_true rfl) (by rfl) ?_
      refine o_nil ?_
      refine x_seq ?_
      refine x_region rfl ?_
      refine o_y (y_loadA ti138 rfl inn rfl) ?_
      refine o_y (y_fieldAddr fd191_1 ti3 (by decide) rfl) ?_
      refine o_y (y_loadO ti3 rfl inn rfl) ?_
      refine o_call fn195 rfl (isJoin_ok l[i].2 (by omega)) ?_
      rintro _ _ _ ⟨rfl, rfl, rfl⟩
      refine o_y (y_not rfl) ?_
      refine o_nil ?_
      refine x_condF rfl ?_
      refine x_skip ?_
      refine x_region rfl ?_
      refine o_y (y_addN rfl rfl (by omega) (by omega)) ?_
      refine o_y (y_move rfl) ?_
      refine o_nil ?_
      exact ⟨j + 1, 1, rfl, (.c rfl (.c rfl (.c rfl (.c rfl (.c rfl (.c rfl (.c rfl (.c rfl .n)))))))), rfl, by omega, by omega⟩
    try simp only [kk] at hc1
    refine x_exit ?_
    refine x_region rfl ?_
    refine o_y (y_addN rfl rfl (by omega) (by omega)) ?_
    refine o_y (y_move rfl) ?_
    refine o_nil ?_
    exact ⟨(i + 1, RA ++ R, RB), 1, rfl, (.c rfl (.c rfl (.c rfl (.c rfl .n)))), rfl, ⟨by omega, by rw [i2]; simp, i3⟩, by simp only; omega⟩
  try simp only [kk] at hc0
  refine x_exit ?_
  refine x_seq ?_
  refine x_region rfl ?_
  refine o_y (y_assign rfl) ?_
  refine o_nil ?_
  refine x_ret ?_
  refine x_fin 0 (ret1 rfl rfl) ?_
  exact ⟨rfl, rfl, rfl⟩
theorem lookNode_ok {B : World} {H : HM} {O : OL} {bk : Nat} {C : List Value} {v : Value} {l : List (Value × Nat)} {Rv Rs : OL} {K : Nat} (hC : C[19]? = some v) (hv : Row v l.length (heldCells l) 258 2 Rv) (hh : Held 127 4 48 (Marked mkNode) K l Rs) (hK : K ≤ 140737488355328) (hm : l.length ≤ 1000000000000) :
    CallsM prog 144 [.pointer (some ⟨bk, 0, none⟩)].toArray B H ((bk, cl C 77) :: (Rv ++ (Rs ++ O))) (Same (.bool true) H ((bk, cl C 77) :: (Rv ++ (Rs ++ O)))) := by
  refine enter func144 rfl ntmps144 (l := [(0, _)]) rfl rfl ?_
  refine x_seq ?_
  refine x_region rfl ?_
  refine o_y (y_assign rfl) ?_
  refine o_nil ?_
  refine x_seq ?_
  refine x_seq ?_
  refine x_region rfl ?_
  refine o_y (y_move rfl) ?_
  refine o_y (y_nilCheck rfl) ?_
  refine o_y (y_fieldAddr fd77_19 ti60 (by decide) rfl) ?_
  refine o_y (y_loadO ti60 rfl .z hC) ?_
  refine o_y (y_lenA underlying60 rfl) ?_
  refine o_y (y_move rfl) ?_
  refine o_nil ?_
  refine x_block ?_
  refine x_loopf (σ := Nat × OL × OL) (fun s => [(12, .int .i64 (s.1 : Int)), (11, .int .i64 (l.length : Int)), (10, v), (0, .pointer (some ⟨bk, 0, none⟩))]) (fun s => (bk, cl C 77) :: (Rv ++ (Rs ++ O))) (fun s => s.1 ≤ l.length ∧ Rs = s.2.1 ++ s.2.2 ∧ Held 127 4 48 (Marked mkNode) K (l.drop s.1) s.2.2) (fun s => l.length - s.1) (0, [], Rs) ⟨by simp, rfl, hh⟩ (.c rfl (.c rfl (.c rfl (.c rfl .n)))) rfl ?_
  rintro ⟨i, RA, RB⟩ ⟨i1, i2, i3⟩
  simp only at i1 i2 i3
  refine x_seq ?_
  refine x_region rfl ?_
  refine o_y (y_lss rfl rfl) ?_
  refine o_nil ?_
  refine x_seq ?_
  refine x_cond rfl (fun hc0 => ?_) (fun hc0 => ?_)
  · try simp only [kk] at hc0
    have hi : i < l.length := by omega
    rw [List.drop_eq_getElem_cons hi] at i3
    obtain ⟨len, cs, R, RB, rfl, hs, hn, hl, hp, i3⟩ := i3.head
    have sv := hv.sl (by omega)
    have aE : AtS H Rv v (i * 2) [l[i].1, .int .i64 (l[i].2 : Int)] := hv.at (fun p hp => hp) (by omega) (heldCells_get hi)
    obtain ⟨ps, c0, hs0⟩ := hs.shape
    have hps : ones [l[i].1, .int .i64 (l[i].2 : Int)] = true := by rw [hs0]; rfl
    obtain ⟨s0, hs1⟩ : ∃ s, s = l[i].1 := ⟨_, rfl⟩
    rw [← hs1] at aE hs hs0 hps
    refine x_skip ?_
    refine x_seq ?_
    refine x_block ?_
    refine x_seq ?_
    refine x_region rfl ?_
    refine o_y (y_idxR hv i hi underlying60 ti258 rfl rfl rfl) ?_
    refine o_y (y_loadS ti258 rfl (AtS.sub (by assumption) (fun p hp => by repeat (first | exact hp | exact List.mem_append_left _ hp | apply List.mem_cons_of_mem | apply List.mem_append_right))) rfl (fun e => by cases e)) ?_
    refine o_alloc ti258 rfl (fun b4 => ?_)
    refine o_store (u := [_, _]) (C' := [_, _]) ti258 rfl rfl rfl rfl (by first | rfl | assumption | (simp only [ones, List.all_cons, List.all_nil, Bool.and_true, one_of (by assumption)]; done)) (by repeat (first | exact .z | apply Upd.s | apply Upd.a)) (by exact Nat.le_of_ble_eq_true rfl) (by rfl) ?_
    refine o_nil ?_
    refine x_seq ?_
    refine x_region rfl ?_
    refine o_y (y_fieldAddr fd258_0 ti27 (by decide) rfl) ?_
    refine o_y (y_loadO ti27 rfl inn rfl) ?_
    refine o_y (y_lenA underlying27 rfl) ?_
    refine o_y (y_move rfl) ?_
    refine o_nil ?_
    refine x_block ?_
    refine x_loopf (σ := Nat) (fun s => [(19, .int .i64 (s : Int)), (18, .int .i64 (len : Int)), (17, s0), (4, .pointer (some ⟨b4, 0, none⟩)), (12, .int .i64 (i : Int)), (11, .int .i64 (l.length : Int)), (10, v), (0, .pointer (some ⟨bk, 0, none⟩))]) (fun s => (b4, cl [s0, .int .i64 (l[i].2 : Int)] 258) :: (bk, cl C 77) :: (Rv ++ (Rs ++ O))) (fun s => s ≤ len) (fun s => len - s) 0 (by simp) (.c rfl (.c rfl (.c rfl (.c rfl (.c rfl (.c rfl (.c rfl (.c rfl .n)))))))) rfl ?_
    rintro j j1
    refine x_seq ?_
    refine x_region rfl ?_
    refine o_y (y_lss rfl rfl) ?_
    refine o_nil ?_
    refine x_seq ?_
    refine x_cond rfl (fun hc1 => ?_) (fun hc1 => ?_)
    · try simp only [kk] at hc1
      have hj : j < len := by omega
      have hRs : ∀ p ∈ R, p ∈ (b4, cl [s0, .int .i64 (l[i].2 : Int)] 258) :: (bk, cl C 77) :: (Rv ++ (Rs ++ O)) := fun p hp => List.mem_cons_of_mem _ (List.mem_cons_of_mem _ (by rw [i2]; simp [hp]))
      have aF : AtS H ((b4, cl [s0, .int .i64 (l[i].2 : Int)] 258) :: (bk, cl C 77) :: (Rv ++ (Rs ++ O))) s0 (j * 4) (mkNode (l[i].2 : Int)) := hs.at hRs (by omega) (by have hp' : cs = _ := hp; rw [hp']; exact rep_get rfl hj)
      refine x_skip ?_
      refine x_seq ?_
      refine x_block ?_
      refine x_seq ?_
      refine x_region rfl ?_
      refine o_y (y_idxR hs j hj underlying27 ti127 rfl rfl rfl) ?_
      refine o_y (y_loadS ti127 rfl aF rfl (fun e => by cases e)) ?_
      refine o_alloc ti127 rfl (fun b6 => ?_)
      refine o_store (u := [_, _, _, _]) (C' := [_, _, _, _]) ti127 rfl rfl rfl rfl (by first | rfl | assumption | (simp only [ones, List.all_cons, List.all_nil, Bool.and_true, one_of (by assumption)]; done)) (by repeat (first | exact .z | apply Upd.s | apply Upd.a)) (by exact Nat.le_of_ble_eq_true rfl) (by rfl) ?_
      refine o_nil ?_
      refine x_seq ?_
      refine x_region rfl ?_
      refine o_y (y_loadA ti127 rfl inn rfl) ?_
      refine o_y (y_fieldAddr fd258_1 ti3 (by decide) rfl) ?_
      refine o_y (y_loadO ti3 rfl inn rfl) ?_
      refine o_call fn242 rfl (isNode_ok l[i].2 (by omega)) ?_
      rintro _ _ _ ⟨rfl, rfl, rfl⟩
      refine o_y (y_not rfl) ?_
      refine o_nil ?_
      refine x_condF rfl ?_
      refine x_skip ?_
      refine x_region rfl ?_
      refine o_y (y_addN rfl rfl (by omega) (by omega)) ?_
      refine o_y (y_move rfl) ?_
      refine o_nil ?_
      exact ⟨j + 1, 1, rfl, (.c rfl (.c rfl (.c rfl (.c rfl (.c rfl (.c rfl (.c rfl (.c rfl .n)))))))), rfl, by omega, by omega⟩
    try simp only [kk] at hc1
    refine x_exit ?_
    refine x_region rfl ?_
    refine o_y (y_addN rfl rfl (by omega) (by omega)) ?_
    refine o_y (y_move rfl) ?_
    refine o_nil ?_
    exact ⟨(i + 1, RA ++ R, RB), 1, rfl, (.c rfl (.c rfl (.c rfl (.c rfl .n)))), rfl, ⟨by omega, by rw [i2]; simp, i3⟩, by simp only; omega⟩
  try simp only [kk] at hc0
  refine x_exit ?_
  refine x_seq ?_
  refine x_region rfl ?_
  refine o_y (y_assign rfl) ?_
  refine o_nil ?_
  refine x_ret ?_
  refine x_fin 0 (ret1 rfl rfl) ?_
  exact ⟨rfl, rfl, rfl⟩
theorem lookCommit_ok {B : World} {H : HM} {O : OL} {bk : Nat} {C : List Value} {v : Value} {l : List (Value × Nat)} {Rv Rs : OL} {K : Nat} (hC : C[21]? = some v) (hv : Row v l.length (heldCells l) 266 2 Rv) (hh : Held 31 15 200 (Marked mkCommit) K l Rs) (hK : K ≤ 140737488355328) (hm : l.length ≤ 1000000000000) :
    CallsM prog 146 [.pointer (some ⟨bk, 0, none⟩)].toArray B H ((bk, cl C 77) :: (Rv ++ (Rs ++ O))) (Same (.bool true) H ((bk, cl C 77) :: (Rv ++ (Rs ++ O)))) := by
  refine enter func146 rfl ntmps146 (l := [(0, _)]) rfl rfl ?_
  refine x_seq ?_
  refine x_region rfl ?_
  refine o_y (y_assign rfl) ?_
  refine o_nil ?_
  refine x_seq ?_
  refine x_seq ?_
  refine x_region rfl ?_
  refine o_y (y_move rfl) ?_
  refine o_y (y_nilCheck rfl) ?_
  refine o_y (y_fieldAddr fd77_21 ti62 (by decide) rfl) ?_
  refine o_y (y_loadO ti62 rfl .z hC) ?_
  refine o_y (y_lenA underlying62 rfl) ?_
  refine o_y (y_move rfl) ?_
  refine o_nil ?_
  refine x_block ?_
  refine x_loopf (σ := Nat × OL × OL) (fun s => [(12, .int .i64 (s.1 : Int)), (11, .int .i64 (l.length : Int)), (10, v), (0, .pointer (some ⟨bk, 0, none⟩))]) (fun s => (bk, cl C 77) :: (Rv ++ (Rs ++ O))) (fun s => s.1 ≤ l.length ∧ Rs = s.2.1 ++ s.2.2 ∧ Held 31 15 200 (Marked mkCommit) K (l.drop s.1) s.2.2) (fun s => l.length - s.1) (0, [], Rs) ⟨by simp, rfl, hh⟩ (.c rfl (.c rfl (.c rfl (.c rfl .n)))) rfl ?_
  rintro ⟨i, RA, RB⟩ ⟨i1, i2, i3⟩
  simp only at i1 i2 i3
  refine x_seq ?_
  refine x_region rfl ?_
  refine o_y (y_lss rfl rfl) ?_
  refine o_nil ?_
  refine x_seq ?_
  refine x_cond rfl (fun hc0 => ?_) (fun hc0 => ?_)
  · try simp only [kk] at hc0
    have hi : i < l.length := by omega
    rw [List.drop_eq_getElem_cons hi] at i3
    obtain ⟨len, cs, R, RB, rfl, hs, hn, hl, hp, i3⟩ := i3.head
    have sv := hv.sl (by omega)
    have aE : AtS H Rv v (i * 2) [l[i].1, .int .i64 (l[i].2 : Int)] := hv.at (fun p hp => hp) (by omega) (heldCells_get hi)
    obtain ⟨ps, c0, hs0⟩ := hs.shape
    have hps : ones [l[i].1, .int .i64 (l[i].2 : Int)] = true := by rw [hs0]; rfl
    obtain ⟨s0, hs1⟩ : ∃ s, s = l[i].1 := ⟨_, rfl⟩
    rw [← hs1] at aE hs hs0 hps
    refine x_skip ?_
    refine x_seq ?_
    refine x_block ?_
    refine x_seq ?_
    refine x_region rfl ?_
    refine o_y (y_idxR hv i hi underlying62 ti266 rfl rfl rfl) ?_
    refine o_y (y_loadS ti266 rfl (AtS.sub (by assumption) (fun p hp => by repeat (first | exact hp | exact List.mem_append_left _ hp | apply List.mem_cons_of_mem | apply List.mem_append_right))) rfl (fun e => by cases e)) ?_
    refine o_alloc ti266 rfl (fun b4 => ?_)
    refine o_store (u := [_, _]) (C' := [_, _]) ti266 rfl rfl rfl rfl (by first | rfl | assumption | (simp only [ones, List.all_cons, List.all_nil, Bool.and_true, one_of (by assumption)]; done)) (by repeat (first | exact .z | apply Upd.s | apply Upd.a)) (by exact Nat.le_of_ble_eq_true rfl) (by rfl) ?_
    refine o_nil ?_
    refine x_seq ?_
    refine x_region rfl ?_
    refine o_y (y_fieldAddr fd266_0 ti93 (by decide) rfl) ?_
    refine o_y (y_loadO ti93 rfl inn rfl) ?_
    refine o_y (y_lenA underlying93 rfl) ?_
    refine o_y (y_move rfl) ?_
    refine o_nil ?_
    refine x_block ?_
    refine x_loopf (σ := Nat) (fun s => [(19, .int .i64 (s : Int)), (18, .int .i64 (len : Int)), (17, s0), (4, .pointer (some ⟨b4, 0, none⟩)), (12, .int .i64 (i : Int)), (11, .int .i64 (l.length : Int)), (10, v), (0, .pointer (some ⟨bk, 0, none⟩))]) (fun s => (b4, cl [s0, .int .i64 (l[i].2 : Int)] 266) :: (bk, cl C 77) :: (Rv ++ (Rs ++ O))) (fun s => s ≤ len) (fun s => len - s) 0 (by simp) (.c rfl (.c rfl (.c rfl (.c rfl (.c rfl (.c rfl (.c rfl (.c rfl .n)))))))) rfl ?_
    rintro j j1
    refine x_seq ?_
    refine x_region rfl ?_
    refine o_y (y_lss rfl rfl) ?_
    refine o_nil ?_
    refine x_seq ?_
    refine x_cond rfl (fun hc1 => ?_) (fun hc1 => ?_)
    · try simp only [kk] at hc1
      have hj : j < len := by omega
      have hRs : ∀ p ∈ R, p ∈ (b4, cl [s0, .int .i64 (l[i].2 : Int)] 266) :: (bk, cl C 77) :: (Rv ++ (Rs ++ O)) := fun p hp => List.mem_cons_of_mem _ (List.mem_cons_of_mem _ (by rw [i2]; simp [hp]))
      have aF : AtS H ((b4, cl [s0, .int .i64 (l[i].2 : Int)] 266) :: (bk, cl C 77) :: (Rv ++ (Rs ++ O))) s0 (j * 15) (mkCommit (l[i].2 : Int)) := hs.at hRs (by omega) (by have hp' : cs = _ := hp; rw [hp']; exact rep_get rfl hj)
      refine x_skip ?_
      refine x_seq ?_
      refine x_block ?_
      refine x_seq ?_
      refine x_region rfl ?_
      refine o_y (y_idxR hs j hj underlying93 ti31 rfl rfl rfl) ?_
      refine o_y (y_loadS ti31 rfl aF rfl (fun e => by cases e)) ?_
      refine o_alloc ti31 rfl (fun b6 => ?_)
      refine o_store (u := [_, _, _, _, _, _, _, _, _, _, _, _, _, _, _]) (C' := [_, _, _, _, _, _, _, _, _, _, _, _, _, _, _]) ti31 rfl rfl rfl rfl (by first | rfl | assumption | (simp only [ones, List.all_cons, List.all_nil, Bool.and_true, one_of (by assumption)]; done)) (by repeat (first | exact .z | apply Upd.s | apply Upd.a)) (by exact Nat.le_of_ble_eq_true rfl) (by rfl) ?_
      refine o_nil ?_
      refine x_seq ?_
      refine x_region rfl ?_
      refine o_y (y_loadA ti31 rfl inn rfl) ?_
      refine o_y (y_fieldAddr fd266_1 ti3 (by decide) rfl) ?_
      refine o_y (y_loadO ti3 rfl inn rfl) ?_
      refine o_call fn244 rfl (isCommit_ok l[i].2 (by omega)) ?_
      rintro _ _ _ ⟨rfl, rfl, rfl⟩
      refine o_y (y_not rfl) ?_
      refine o_nil ?_
      refine x_condF rfl ?_
      refine x_skip ?_
      refine x_region rfl ?_
      refine o_y (y_addN rfl rfl (by omega) (by omega)) ?_
      refine o_y (y_move rfl) ?_
      refine o_nil ?_
      exact ⟨j + 1, 1, rfl, (.c rfl (.c rfl (.c rfl (.c rfl (.c rfl (.c rfl (.c rfl (.c rfl .n)))))))), rfl, by omega, by omega⟩
    try simp only [kk] at hc1
    refine x_exit ?_
    refine x_region rfl ?_
    refine o_y (y_addN rfl rfl (by omega) (by omega)) ?_
    refine o_y (y_move rfl) ?_
    refine o_nil ?_
    exact ⟨(i + 1, RA ++ R, RB), 1, rfl, (.c rfl (.c rfl (.c rfl (.c rfl .n)))), rfl, ⟨by omega, by rw [i2]; simp, i3⟩, by simp only; omega⟩
  try simp only [kk] at hc0
  refine x_exit ?_
  refine x_seq ?_
  refine x_region rfl ?_
  refine o_y (y_assign rfl) ?_
  refine o_nil ?_
  refine x_ret ?_
  refine x_fin 0 (ret1 rfl rfl) ?_
  exact ⟨rfl, rfl, rfl⟩
theorem lookLog_ok {B : World} {H : HM} {O : OL} {bk : Nat} {C : List Value} {v : Value} {l : List (Value × Nat)} {Rv Rs : OL} {K : Nat} (hC : C[28]? = some v) (hv : Row v l.length (heldCells l) 153 2 Rv) (hh : Held 95 2 32 (Marked mkLog) K l Rs) (hK : K ≤ 140737488355328) (hm : l.length ≤ 1000000000000) :
    CallsM prog 153 [.pointer (some ⟨bk, 0, none⟩)].toArray B H ((bk, cl C 77) :: (Rv ++ (Rs ++ O))) (Same (.bool true) H ((bk, cl C 77) :: (Rv ++ (Rs ++ O)))) := by
  refine enter func153 rfl ntmps153 (l := [(0, _)]) rfl rfl ?_
  refine x_seq ?_
  refine x_region rfl ?_
  refine o_y (y_assign rfl) ?_
  refine o_nil ?_
  refine x_seq ?_
  refine x_seq ?_
  refine x_region rfl ?_
  refine o_y (y_move rfl) ?_
  refine o_y (y_nilCheck rfl) ?_
  refine o_y (y_fieldAddr fd77_28 ti69 (by decide) rfl) ?_
  refine o_y (y_loadO ti69 rfl .z hC) ?_
  refine o_y (y_lenA underlying69 rfl) ?_
  refine o_y (y_move rfl) ?_
  refine o_nil ?_
  refine x_block ?_
  refine x_loopf (σ := Nat × OL × OL) (fun s => [(12, .int .i64 (s.1 : Int)), (11, .int .i64 (l.length : Int)), (10, v), (0, .pointer (some ⟨bk, 0, none⟩))]) (fun s => (bk, cl C 77) :: (Rv ++ (Rs ++ O))) (fun s => s.1 ≤ l.length ∧ Rs = s.2.1 ++ s.2.2 ∧ Held 95 2 32 (Marked mkLog) K (l.drop s.1) s.2.2) (fun s => l.length - s.1) (0, [], Rs) ⟨by simp, rfl, hh⟩ (.c rfl (.c rfl (.c rfl (.c rfl .n)))) rfl ?_
  rintro ⟨i, RA, RB⟩ ⟨i1, i2, i3⟩
  simp only at i1 i2 i3
  refine x_seq ?_
  refine x_region rfl ?_
  refine o_y (y_lss rfl rfl) ?_
  refine o_nil ?_
  refine x_seq ?_
  refine x_cond rfl (fun hc0 => ?_) (fun hc0 => ?_)
  · try simp only [kk] at hc0
    have hi : i < l.length := by omega
    rw [List.drop_eq_getElem_cons hi] at i3
    obtain ⟨len, cs, R, RB, rfl, hs, hn, hl, hp, i3⟩ := i3.head
    have sv := hv.sl (by omega)
    have aE : AtS H Rv v (i * 2) [l[i].1, .int .i64 (l[i].2 : Int)] := hv.at (fun p hp => hp) (by omega) (heldCells_get hi)
    obtain ⟨ps, c0, hs0⟩ := hs.shape
    have hps : ones [l[i].1, .int .i64 (l[i].2 : Int)] = true := by rw [hs0]; rfl
    obtain ⟨s0, hs1⟩ : ∃ s, s = l[i].1 := ⟨_, rfl⟩
    rw [← hs1] at aE hs hs0 hps
    refine x_skip ?_
    refine x_seq ?_
    refine x_block ?_
    refine x_seq ?_
    refine x_region rfl ?_
    refine o_y (y_idxR hv i hi underlying69 ti153 rfl rfl rfl) ?_
    refine o_y (y_loadS ti153 rfl (AtS.sub (by assumption) (fun p hp => by repeat (first | exact hp | exact List.mem_append_left _ hp | apply List.mem_cons_of_mem | apply List.mem_append_right))) rfl (fun e => by cases e)) ?_
    refine o_alloc ti153 rfl (fun b4 => ?_)
    refine o_store (u := [_, _]) (C' := [_, _]) ti153 rfl rfl rfl rfl (by first | rfl | assumption | (simp only [ones, List.all_cons, List.all_nil, Bool.and_true, one_of (by assumption)]; done)) (by repeat (first | exact .z | apply Upd.s | apply Upd.a)) (by exact Nat.le_of_ble_eq_true rfl) (by rfl) ?_
    refine o_nil ?_
    refine x_seq ?_
    refine x_region rfl ?_
    refine o_y (y_fieldAddr fd153_0 ti22 (by decide) rfl) ?_
    refine o_y (y_loadO ti22 rfl inn rfl) ?_
    refine o_y (y_lenA underlying22 rfl) ?_
    refine o_y (y_move rfl) ?_
    refine o_nil ?_
    refine x_block ?_
    refine x_loopf (σ := Nat) (fun s => [(19, .int .i64 (s : Int)), (18, .int .i64 (len : Int)), (17, s0), (4, .pointer (some ⟨b4, 0, none⟩)), (12, .int .i64 (i : Int)), (11, .int .i64 (l.length : Int)), (10, v), (0, .pointer (some ⟨bk, 0, none⟩))]) (fun s => (b4, cl [s0, .int .i64 (l[i].2 : Int)] 153) :: (bk, cl C 77) :: (Rv ++ (Rs ++ O))) (fun s => s ≤ len) (fun s => len - s) 0 (by simp) (.c rfl (.c rfl (.c rfl (.c rfl (.c rfl (.c rfl (.c rfl (.c rfl .n)))))))) rfl ?_
    rintro j j1
    refine x_seq ?_
    refine x_region rfl ?_
    refine o_y (y_lss rfl rfl) ?_
    refine o_nil ?_
    refine x_seq ?_
    refine x_cond rfl (fun hc1 => ?_) (fun hc1 => ?_)
    · try simp only [kk] at hc1
      have hj : j < len := by omega
      have hRs : ∀ p ∈ R, p ∈ (b4, cl [s0, .int .i64 (l[i].2 : Int)] 153) :: (bk, cl C 77) :: (Rv ++ (Rs ++ O)) := fun p hp => List.mem_cons_of_mem _ (List.mem_cons_of_mem _ (by rw [i2]; simp [hp]))
      have aF : AtS H ((b4, cl [s0, .int .i64 (l[i].2 : Int)] 153) :: (bk, cl C 77) :: (Rv ++ (Rs ++ O))) s0 (j * 2) (mkLog (l[i].2 : Int)) := hs.at hRs (by omega) (by have hp' : cs = _ := hp; rw [hp']; exact rep_get rfl hj)
      refine x_skip ?_
      refine x_seq ?_
      refine x_block ?_
      refine x_seq ?_
      refine x_region rfl ?_
      refine o_y (y_idxR hs j hj underlying22 ti95 rfl rfl rfl) ?_
      refine o_y (y_loadS ti95 rfl aF rfl (fun e => by cases e)) ?_
      refine o_alloc ti95 rfl (fun b6 => ?_)
      refine o_store (u := [_, _]) (C' := [_, _]) ti95 rfl rfl rfl rfl (by first | rfl | assumption | (simp only [ones, List.all_cons, List.all_nil, Bool.and_true, one_of (by assumption)]; done)) (by repeat (first | exact .z | apply Upd.s | apply Upd.a)) (by exact Nat.le_of_ble_eq_true rfl) (by rfl) ?_
      refine o_nil ?_
      refine x_seq ?_
      refine x_region rfl ?_
      refine o_y (y_loadA ti95 rfl inn rfl) ?_
      refine o_y (y_fieldAddr fd153_1 ti3 (by decide) rfl) ?_
      refine o_y (y_loadO ti3 rfl inn rfl) ?_
      refine o_call fn48 rfl (isLog_ok l[i].2 (by omega)) ?_
      rintro _ _ _ ⟨rfl, rfl, rfl⟩
      refine o_y (y_not rfl) ?_
      refine o_nil ?_
      refine x_condF rfl ?_
      refine x_skip ?_
      refine x_region rfl ?_
      refine o_y (y_addN rfl rfl (by omega) (by omega)) ?_
      refine o_y (y_move rfl) ?_
      refine o_nil ?_
      exact ⟨j + 1, 1, rfl, (.c rfl (.c rfl (.c rfl (.c rfl (.c rfl (.c rfl (.c rfl (.c rfl .n)))))))), rfl, by omega, by omega⟩
    try simp only [kk] at hc1
    refine x_exit ?_
    refine x_region rfl ?_
    refine o_y (y_addN rfl rfl (by omega) (by omega)) ?_
    refine o_y (y_move rfl) ?_
    refine o_nil ?_
    exact ⟨(i + 1, RA ++ R, RB), 1, rfl, (.c rfl (.c rfl (.c rfl (.c rfl .n)))), rfl, ⟨by omega, by rw [i2]; simp, i3⟩, by simp only; omega⟩
  try simp only [kk] at hc0
  refine x_exit ?_
  refine x_seq ?_
  refine x_region rfl ?_
  refine o_y (y_assign rfl) ?_
  refine o_nil ?_
  refine x_ret ?_
  refine x_fin 0 (ret1 rfl rfl) ?_
  exact ⟨rfl, rfl, rfl⟩
end Go.Ph
set_option linter.unusedVariables false
set_option linter.unusedSimpArgs false
set_option maxRecDepth 100000
namespace Go.Ph
open Go Go.RowKit Go.Proofs.YtmgnagpgnoikfaaGreatDoor Go.Proofs.Tryz
theorem fillWide_no {B : World} {H : HM} {O : OL} {bk : Nat} {C : List Value} (hC : C[3]? = some (.slice none 0 0)) (hi : In O bk (cl C 77)) : CallsM prog 61 [.pointer (some ⟨bk, 0, none⟩)].toArray B H O (Same (.tuple #[]) H O) := by
  refine enter func61 rfl ntmps61 (l := [(0, _)]) rfl rfl ?_
  refine x_seq ?_
  refine x_region rfl ?_
  refine o_y (y_move rfl) ?_
  refine o_y (y_nilCheck rfl) ?_
  refine o_y (y_fieldAddr fd77_3 ti44 (by decide) rfl) ?_
  refine o_y (y_loadO ti44 rfl hi hC) ?_
  refine o_y (y_lenA underlying44 rfl) ?_
  refine o_y (y_move rfl) ?_
  refine o_nil ?_
  refine x_block ?_
  refine x_loopf (σ := Unit) (fun s => [(10, .int .i64 0), (9, .int .i64 0)]) (fun s => O) (fun s => True) (fun s => 0) () trivial (.c rfl (.c rfl .n)) rfl ?_
  rintro ⟨⟩ _
  refine x_seq ?_
  refine x_region rfl ?_
  refine o_y (y_lss rfl rfl) ?_
  refine o_nil ?_
  refine x_seq ?_
  refine x_cond rfl (fun hc0 => ?_) (fun hc0 => ?_)
  · try simp only [kk] at hc0
    exfalso; omega
  try simp only [kk] at hc0
  refine x_exit ?_
  with_reducible repeat (first | refine q_exit_then ?_ | refine q_exit_block ?_ | refine q_exit_pass rfl ?_)
  refine x_finN (fn := Go.Proofs.Tryz.f61) 0 (ret0 rfl ) ?_
  exact ⟨rfl, rfl, rfl⟩
theorem growWide_no {B : World} {H : HM} {O : OL} {bk : Nat} {C : List Value} (hC : C[3]? = some (.slice none 0 0)) (hi : In O bk (cl C 77)) : CallsM prog 94 [.pointer (some ⟨bk, 0, none⟩)].toArray B H O (Same (.tuple #[]) H O) := by
  refine enter func94 rfl ntmps94 (l := [(0, _)]) rfl rfl ?_
  refine x_seq ?_
  refine x_region rfl ?_
  refine o_y (y_move rfl) ?_
  refine o_y (y_nilCheck rfl) ?_
  refine o_y (y_fieldAddr fd77_3 ti44 (by decide) rfl) ?_
  refine o_y (y_loadO ti44 rfl hi hC) ?_
  refine o_y (y_lenA underlying44 rfl) ?_
  refine o_y (y_move rfl) ?_
  refine o_nil ?_
  refine x_block ?_
  refine x_loopf (σ := Unit) (fun s => [(10, .int .i64 0), (9, .int .i64 0)]) (fun s => O) (fun s => True) (fun s => 0) () trivial (.c rfl (.c rfl .n)) rfl ?_
  rintro ⟨⟩ _
  refine x_seq ?_
  refine x_region rfl ?_
  refine o_y (y_lss rfl rfl) ?_
  refine o_nil ?_
  refine x_seq ?_
  refine x_cond rfl (fun hc0 => ?_) (fun hc0 => ?_)
  · try simp only [kk] at hc0
    exfalso; omega
  try simp only [kk] at hc0
  refine x_exit ?_
  with_reducible repeat (first | refine q_exit_then ?_ | refine q_exit_block ?_ | refine q_exit_pass rfl ?_)
  refine x_finN (fn := Go.Proofs.Tryz.f94) 0 (ret0 rfl ) ?_
  exact ⟨rfl, rfl, rfl⟩
theorem lookWide_no {B : World} {H : HM} {O : OL} {bk : Nat} {C : List Value} (hC : C[3]? = some (.slice none 0 0)) (hi : In O bk (cl C 77)) : CallsM prog 128 [.pointer (some ⟨bk, 0, none⟩)].toArray B H O (Same (.bool true) H O) := by
  refine enter func128 rfl ntmps128 (l := [(0, _)]) rfl rfl ?_
  refine x_seq ?_
  refine x_region rfl ?_
  refine o_y (y_assign rfl) ?_
  refine o_nil ?_
  refine x_seq ?_
  refine x_seq ?_
  refine x_region rfl ?_
  refine o_y (y_move rfl) ?_
  refine o_y (y_nilCheck rfl) ?_
  refine o_y (y_fieldAddr fd77_3 ti44 (by decide) rfl) ?_
  refine o_y (y_loadO ti44 rfl hi hC) ?_
  refine o_y (y_lenA underlying44 rfl) ?_
  refine o_y (y_move rfl) ?_
  refine o_nil ?_
  refine x_block ?_
  refine x_loopf (σ := Unit) (fun s => [(12, .int .i64 0), (11, .int .i64 0)]) (fun s => O) (fun s => True) (fun s => 0) () trivial (.c rfl (.c rfl .n)) rfl ?_
  rintro ⟨⟩ _
  refine x_seq ?_
  refine x_region rfl ?_
  refine o_y (y_lss rfl rfl) ?_
  refine o_nil ?_
  refine x_seq ?_
  refine x_cond rfl (fun hc0 => ?_) (fun hc0 => ?_)
  · try simp only [kk] at hc0
    exfalso; omega
  try simp only [kk] at hc0
  refine x_exit ?_
  refine x_seq ?_
  refine x_region rfl ?_
  refine o_y (y_assign rfl) ?_
  refine o_nil ?_
  refine x_ret ?_
  refine x_fin 0 (ret1 rfl rfl) ?_
  exact ⟨rfl, rfl, rfl⟩
theorem fillText_no {B : World} {H : HM} {O : OL} {bk : Nat} {C : List Value} (hC : C[4]? = some (.slice none 0 0)) (hi : In O bk (cl C 77)) : CallsM prog 62 [.pointer (some ⟨bk, 0, none⟩)].toArray B H O (Same (.tuple #[]) H O) := by
  refine enter func62 rfl ntmps62 (l := [(0, _)]) rfl rfl ?_
  refine x_seq ?_
  refine x_region rfl ?_
  refine o_y (y_move rfl) ?_
  refine o_y (y_nilCheck rfl) ?_
  refine o_y (y_fieldAddr fd77_4 ti45 (by decide) rfl) ?_
  refine o_y (y_loadO ti45 rfl hi hC) ?_
  refine o_y (y_lenA underlying45 rfl) ?_
  refine o_y (y_move rfl) ?_
  refine o_nil ?_
  refine x_block ?_
  refine x_loopf (σ := Unit) (fun s => [(10, .int .i64 0), (9, .int .i64 0)]) (fun s => O) (fun s => True) (fun s => 0) () trivial (.c rfl (.c rfl .n)) rfl ?_
  rintro ⟨⟩ _
  refine x_seq ?_
  refine x_region rfl ?_
  refine o_y (y_lss rfl rfl) ?_
  refine o_nil ?_
  refine x_seq ?_
  refine x_cond rfl (fun hc0 => ?_) (fun hc0 => ?_)
  · try simp only [kk] at hc0
    exfalso; omega
  try simp only [kk] at hc0
  refine x_exit ?_
  with_reducible repeat (first | refine q_exit_then ?_ | refine q_exit_block ?_ | refine q_exit_pass rfl ?_)
  refine x_finN (fn := Go.Proofs.Tryz.f62) 0 (ret0 rfl ) ?_
  exact ⟨rfl, rfl, rfl⟩
theorem growText_no {B : World} {H : HM} {O : OL} {bk : Nat} {C : List Value} (hC : C[4]? = some (.slice none 0 0)) (hi : In O bk (cl C 77)) : CallsM prog 95 [.pointer (some ⟨bk, 0, none⟩)].toArray B H O (Same (.tuple #[]) H O) := by
  refine enter func95 rfl ntmps95 (l := [(0, _)]) rfl rfl ?_
  refine x_seq ?_
  refine x_region rfl ?_
  refine o_y (y_move rfl) ?_
  refine o_y (y_nilCheck rfl) ?_
  refine o_y (y_fieldAddr fd77_4 ti45 (by decide) rfl) ?_
  refine o_y (y_loadO ti45 rfl hi hC) ?_
  refine o_y (y_lenA underlying45 rfl) ?_
  refine o_y (y_move rfl) ?_
  refine o_nil ?_
  refine x_block ?_
  refine x_loopf (σ := Unit) (fun s => [(10, .int .i64 0), (9, .int .i64 0)]) (fun s => O) (fun s => True) (fun s => 0) () trivial (.c rfl (.c rfl .n)) rfl ?_
  rintro ⟨⟩ _
  refine x_seq ?_
  refine x_region rfl ?_
  refine o_y (y_lss rfl rfl) ?_
  refine o_nil ?_
  refine x_seq ?_
  refine x_cond rfl (fun hc0 => ?_) (fun hc0 => ?_)
  · try simp only [kk] at hc0
    exfalso; omega
  try simp only [kk] at hc0
  refine x_exit ?_
  with_reducible repeat (first | refine q_exit_then ?_ | refine q_exit_block ?_ | refine q_exit_pass rfl ?_)
  refine x_finN (fn := Go.Proofs.Tryz.f95) 0 (ret0 rfl ) ?_
  exact ⟨rfl, rfl, rfl⟩
theorem lookText_no {B : World} {H : HM} {O : OL} {bk : Nat} {C : List Value} (hC : C[4]? = some (.slice none 0 0)) (hi : In O bk (cl C 77)) : CallsM prog 129 [.pointer (some ⟨bk, 0, none⟩)].toArray B H O (Same (.bool true) H O) := by
  refine enter func129 rfl ntmps129 (l := [(0, _)]) rfl rfl ?_
  refine x_seq ?_
  refine x_region rfl ?_
  refine o_y (y_assign rfl) ?_
  refine o_nil ?_
  refine x_seq ?_
  refine x_seq ?_
  refine x_region rfl ?_
  refine o_y (y_move rfl) ?_
  refine o_y (y_nilCheck rfl) ?_
  refine o_y (y_fieldAddr fd77_4 ti45 (by decide) rfl) ?_
  refine o_y (y_loadO ti45 rfl hi hC) ?_
  refine o_y (y_lenA underlying45 rfl) ?_
  refine o_y (y_move rfl) ?_
  refine o_nil ?_
  refine x_block ?_
  refine x_loopf (σ := Unit) (fun s => [(12, .int .i64 0), (11, .int .i64 0)]) (fun s => O) (fun s => True) (fun s => 0) () trivial (.c rfl (.c rfl .n)) rfl ?_
  rintro ⟨⟩ _
  refine x_seq ?_
  refine x_region rfl ?_
  refine o_y (y_lss rfl rfl) ?_
  refine o_nil ?_
  refine x_seq ?_
  refine x_cond rfl (fun hc0 => ?_) (fun hc0 => ?_)
  · try simp only [kk] at hc0
    exfalso; omega
  try simp only [kk] at hc0
  refine x_exit ?_
  refine x_seq ?_
  refine x_region rfl ?_
  refine o_y (y_assign rfl) ?_
  refine o_nil ?_
  refine x_ret ?_
  refine x_fin 0 (ret1 rfl rfl) ?_
  exact ⟨rfl, rfl, rfl⟩
theorem fillTerm_no {B : World} {H : HM} {O : OL} {bk : Nat} {C : List Value} (hC : C[5]? = some (.slice none 0 0)) (hi : In O bk (cl C 77)) : CallsM prog 63 [.pointer (some ⟨bk, 0, none⟩)].toArray B H O (Same (.tuple #[]) H O) := by
  refine enter func63 rfl ntmps63 (l := [(0, _)]) rfl rfl ?_
  refine x_seq ?_
  refine x_region rfl ?_
  refine o_y (y_move rfl) ?_
  refine o_y (y_nilCheck rfl) ?_
  refine o_y (y_fieldAddr fd77_5 ti46 (by decide) rfl) ?_
  refine o_y (y_loadO ti46 rfl hi hC) ?_
  refine o_y (y_lenA underlying46 rfl) ?_
  refine o_y (y_move rfl) ?_
  refine o_nil ?_
  refine x_block ?_
  refine x_loopf (σ := Unit) (fun s => [(10, .int .i64 0), (9, .int .i64 0)]) (fun s => O) (fun s => True) (fun s => 0) () trivial (.c rfl (.c rfl .n)) rfl ?_
  rintro ⟨⟩ _
  refine x_seq ?_
  refine x_region rfl ?_
  refine o_y (y_lss rfl rfl) ?_
  refine o_nil ?_
  refine x_seq ?_
  refine x_cond rfl (fun hc0 => ?_) (fun hc0 => ?_)
  · try simp only [kk] at hc0
    exfalso; omega
  try simp only [kk] at hc0
  refine x_exit ?_
  with_reducible repeat (first | refine q_exit_then ?_ | refine q_exit_block ?_ | refine q_exit_pass rfl ?_)
  refine x_finN (fn := Go.Proofs.Tryz.f63) 0 (ret0 rfl ) ?_
  exact ⟨rfl, rfl, rfl⟩
theorem growTerm_no {B : World} {H : HM} {O : OL} {bk : Nat} {C : List Value} (hC : C[5]? = some (.slice none 0 0)) (hi : In O bk (cl C 77)) : CallsM prog 96 [.pointer (some ⟨bk, 0, none⟩)].toArray B H O (Same (.tuple #[]) H O) := by
  refine enter func96 rfl ntmps96 (l := [(0, _)]) rfl rfl ?_
  refine x_seq ?_
  refine x_region rfl ?_
  refine o_y (y_move rfl) ?_
  refine o_y (y_nilCheck rfl) ?_
  refine o_y (y_fieldAddr fd77_5 ti46 (by decide) rfl) ?_
  refine o_y (y_loadO ti46 rfl hi hC) ?_
  refine o_y (y_lenA underlying46 rfl) ?_
  refine o_y (y_move rfl) ?_
  refine o_nil ?_
  refine x_block ?_
  refine x_loopf (σ := Unit) (fun s => [(10, .int .i64 0), (9, .int .i64 0)]) (fun s => O) (fun s => True) (fun s => 0) () trivial (.c rfl (.c rfl .n)) rfl ?_
  rintro ⟨⟩ _
  refine x_seq ?_
  refine x_region rfl ?_
  refine o_y (y_lss rfl rfl) ?_
  refine o_nil ?_
  refine x_seq ?_
  refine x_cond rfl (fun hc0 => ?_) (fun hc0 => ?_)
  · try simp only [kk] at hc0
    exfalso; omega
  try simp only [kk] at hc0
  refine x_exit ?_
  with_reducible repeat (first | refine q_exit_then ?_ | refine q_exit_block ?_ | refine q_exit_pass rfl ?_)
  refine x_finN (fn := Go.Proofs.Tryz.f96) 0 (ret0 rfl ) ?_
  exact ⟨rfl, rfl, rfl⟩
theorem lookTerm_no {B : World} {H : HM} {O : OL} {bk : Nat} {C : List Value} (hC : C[5]? = some (.slice none 0 0)) (hi : In O bk (cl C 77)) : CallsM prog 130 [.pointer (some ⟨bk, 0, none⟩)].toArray B H O (Same (.bool true) H O) := by
  refine enter func130 rfl ntmps130 (l := [(0, _)]) rfl rfl ?_
  refine x_seq ?_
  refine x_region rfl ?_
  refine o_y (y_assign rfl) ?_
  refine o_nil ?_
  refine x_seq ?_
  refine x_seq ?_
  refine x_region rfl ?_
  refine o_y (y_move rfl) ?_
  refine o_y (y_nilCheck rfl) ?_
  refine o_y (y_fieldAddr fd77_5 ti46 (by decide) rfl) ?_
  refine o_y (y_loadO ti46 rfl hi hC) ?_
  refine o_y (y_lenA underlying46 rfl) ?_
  refine o_y (y_move rfl) ?_
  refine o_nil ?_
  refine x_block ?_
  refine x_loopf (σ := Unit) (fun s => [(12, .int .i64 0), (11, .int .i64 0)]) (fun s => O) (fun s => True) (fun s => 0) () trivial (.c rfl (.c rfl .n)) rfl ?_
  rintro ⟨⟩ _
  refine x_seq ?_
  refine x_region rfl ?_
  refine o_y (y_lss rfl rfl) ?_
  refine o_nil ?_
  refine x_seq ?_
  refine x_cond rfl (fun hc0 => ?_) (fun hc0 => ?_)
  · try simp only [kk] at hc0
    exfalso; omega
  try simp only [kk] at hc0
  refine x_exit ?_
  refine x_seq ?_
  refine x_region rfl ?_
  refine o_y (y_assign rfl) ?_
  refine o_nil ?_
  refine x_ret ?_
  refine x_fin 0 (ret1 rfl rfl) ?_
  exact ⟨rfl, rfl, rfl⟩
theorem fillKey_no {B : World} {H : HM} {O : OL} {bk : Nat} {C : List Value} (hC : C[7]? = some (.slice none 0 0)) (hi : In O bk (cl C 77)) : CallsM prog 65 [.pointer (some ⟨bk, 0, none⟩)].toArray B H O (Same (.tuple #[]) H O) := by
  refine enter func65 rfl ntmps65 (l := [(0, _)]) rfl rfl ?_
  refine x_seq ?_
  refine x_region rfl ?_
  refine o_y (y_move rfl) ?_
  refine o_y (y_nilCheck rfl) ?_
  refine o_y (y_fieldAddr fd77_7 ti48 (by decide) rfl) ?_
  refine o_y (y_loadO ti48 rfl hi hC) ?_
  refine o_y (y_lenA underlying48 rfl) ?_
  refine o_y (y_move rfl) ?_
  refine o_nil ?_
  refine x_block ?_
  refine x_loopf (σ := Unit) (fun s => [(10, .int .i64 0), (9, .int .i64 0)]) (fun s => O) (fun s => True) (fun s => 0) () trivial (.c rfl (.c rfl .n)) rfl ?_
  rintro ⟨⟩ _
  refine x_seq ?_
  refine x_region rfl ?_
  refine o_y (y_lss rfl rfl) ?_
  refine o_nil ?_
  refine x_seq ?_
  refine x_cond rfl (fun hc0 => ?_) (fun hc0 => ?_)
  · try simp only [kk] at hc0
    exfalso; omega
  try simp only [kk] at hc0
  refine x_exit ?_
  with_reducible repeat (first | refine q_exit_then ?_ | refine q_exit_block ?_ | refine q_exit_pass rfl ?_)
  refine x_finN (fn := Go.Proofs.Tryz.f65) 0 (ret0 rfl ) ?_
  exact ⟨rfl, rfl, rfl⟩
theorem growKey_no {B : World} {H : HM} {O : OL} {bk : Nat} {C : List Value} (hC : C[7]? = some (.slice none 0 0)) (hi : In O bk (cl C 77)) : CallsM prog 98 [.pointer (some ⟨bk, 0, none⟩)].toArray B H O (Same (.tuple #[]) H O) := by
  refine enter func98 rfl ntmps98 (l := [(0, _)]) rfl rfl ?_
  refine x_seq ?_
  refine x_region rfl ?_
  refine o_y (y_move rfl) ?_
  refine o_y (y_nilCheck rfl) ?_
  refine o_y (y_fieldAddr fd77_7 ti48 (by decide) rfl) ?_
  refine o_y (y_loadO ti48 rfl hi hC) ?_
  refine o_y (y_lenA underlying48 rfl) ?_
  refine o_y (y_move rfl) ?_
  refine o_nil ?_
  refine x_block ?_
  refine x_loopf (σ := Unit) (fun s => [(10, .int .i64 0), (9, .int .i64 0)]) (fun s => O) (fun s => True) (fun s => 0) () trivial (.c rfl (.c rfl .n)) rfl ?_
  rintro ⟨⟩ _
  refine x_seq ?_
  refine x_region rfl ?_
  refine o_y (y_lss rfl rfl) ?_
  refine o_nil ?_
  refine x_seq ?_
  refine x_cond rfl (fun hc0 => ?_) (fun hc0 => ?_)
  · try simp only [kk] at hc0
    exfalso; omega
  try simp only [kk] at hc0
  refine x_exit ?_
  with_reducible repeat (first | refine q_exit_then ?_ | refine q_exit_block ?_ | refine q_exit_pass rfl ?_)
  refine x_finN (fn := Go.Proofs.Tryz.f98) 0 (ret0 rfl ) ?_
  exact ⟨rfl, rfl, rfl⟩
theorem lookKey_no {B : World} {H : HM} {O : OL} {bk : Nat} {C : List Value} (hC : C[7]? = some (.slice none 0 0)) (hi : In O bk (cl C 77)) : CallsM prog 132 [.pointer (some ⟨bk, 0, none⟩)].toArray B H O (Same (.bool true) H O) := by
  refine enter func132 rfl ntmps132 (l := [(0, _)]) rfl rfl ?_
  refine x_seq ?_
  refine x_region rfl ?_
  refine o_y (y_assign rfl) ?_
  refine o_nil ?_
  refine x_seq ?_
  refine x_seq ?_
  refine x_region rfl ?_
  refine o_y (y_move rfl) ?_
  refine o_y (y_nilCheck rfl) ?_
  refine o_y (y_fieldAddr fd77_7 ti48 (by decide) rfl) ?_
  refine o_y (y_loadO ti48 rfl hi hC) ?_
  refine o_y (y_lenA underlying48 rfl) ?_
  refine o_y (y_move rfl) ?_
  refine o_nil ?_
  refine x_block ?_
  refine x_loopf (σ := Unit) (fun s => [(12, .int .i64 0), (11, .int .i64 0)]) (fun s => O) (fun s => True) (fun s => 0) () trivial (.c rfl (.c rfl .n)) rfl ?_
  rintro ⟨⟩ _
  refine x_seq ?_
  refine x_region rfl ?_
  refine o_y (y_lss rfl rfl) ?_
  refine o_nil ?_
  refine x_seq ?_
  refine x_cond rfl (fun hc0 => ?_) (fun hc0 => ?_)
  · try simp only [kk] at hc0
    exfalso; omega
  try simp only [kk] at hc0
  refine x_exit ?_
  refine x_seq ?_
  refine x_region rfl ?_
  refine o_y (y_assign rfl) ?_
  refine o_nil ?_
  refine x_ret ?_
  refine x_fin 0 (ret1 rfl rfl) ?_
  exact ⟨rfl, rfl, rfl⟩
theorem fillPast_no {B : World} {H : HM} {O : OL} {bk : Nat} {C : List Value} (hC : C[10]? = some (.slice none 0 0)) (hi : In O bk (cl C 77)) : CallsM prog 68 [.pointer (some ⟨bk, 0, none⟩)].toArray B H O (Same (.tuple #[]) H O) := by
  refine enter func68 rfl ntmps68 (l := [(0, _)]) rfl rfl ?_
  refine x_seq ?_
  refine x_region rfl ?_
  refine o_y (y_move rfl) ?_
  refine o_y (y_nilCheck rfl) ?_
  refine o_y (y_fieldAddr fd77_10 ti51 (by decide) rfl) ?_
  refine o_y (y_loadO ti51 rfl hi hC) ?_
  refine o_y (y_lenA underlying51 rfl) ?_
  refine o_y (y_move rfl) ?_
  refine o_nil ?_
  refine x_block ?_
  refine x_loopf (σ := Unit) (fun s => [(10, .int .i64 0), (9, .int .i64 0)]) (fun s => O) (fun s => True) (fun s => 0) () trivial (.c rfl (.c rfl .n)) rfl ?_
  rintro ⟨⟩ _
  refine x_seq ?_
  refine x_region rfl ?_
  refine o_y (y_lss rfl rfl) ?_
  refine o_nil ?_
  refine x_seq ?_
  refine x_cond rfl (fun hc0 => ?_) (fun hc0 => ?_)
  · try simp only [kk] at hc0
    exfalso; omega
  try simp only [kk] at hc0
  refine x_exit ?_
  with_reducible repeat (first | refine q_exit_then ?_ | refine q_exit_block ?_ | refine q_exit_pass rfl ?_)
  refine x_finN (fn := Go.Proofs.Tryz.f68) 0 (ret0 rfl ) ?_
  exact ⟨rfl, rfl, rfl⟩
theorem growPast_no {B : World} {H : HM} {O : OL} {bk : Nat} {C : List Value} (hC : C[10]? = some (.slice none 0 0)) (hi : In O bk (cl C 77)) : CallsM prog 101 [.pointer (some ⟨bk, 0, none⟩)].toArray B H O (Same (.tuple #[]) H O) := by
  refine enter func101 rfl ntmps101 (l := [(0, _)]) rfl rfl ?_
  refine x_seq ?_
  refine x_region rfl ?_
  refine o_y (y_move rfl) ?_
  refine o_y (y_nilCheck rfl) ?_
  refine o_y (y_fieldAddr fd77_10 ti51 (by decide) rfl) ?_
  refine o_y (y_loadO ti51 rfl hi hC) ?_
  refine o_y (y_lenA underlying51 rfl) ?_
  refine o_y (y_move rfl) ?_
  refine o_nil ?_
  refine x_block ?_
  refine x_loopf (σ := Unit) (fun s => [(10, .int .i64 0), (9, .int .i64 0)]) (fun s => O) (fun s => True) (fun s => 0) () trivial (.c rfl (.c rfl .n)) rfl ?_
  rintro ⟨⟩ _
  refine x_seq ?_
  refine x_region rfl ?_
  refine o_y (y_lss rfl rfl) ?_
  refine o_nil ?_
  refine x_seq ?_
  refine x_cond rfl (fun hc0 => ?_) (fun hc0 => ?_)
  · try simp only [kk] at hc0
    exfalso; omega
  try simp only [kk] at hc0
  refine x_exit ?_
  with_reducible repeat (first | refine q_exit_then ?_ | refine q_exit_block ?_ | refine q_exit_pass rfl ?_)
  refine x_finN (fn := Go.Proofs.Tryz.f101) 0 (ret0 rfl ) ?_
  exact ⟨rfl, rfl, rfl⟩
theorem lookPast_no {B : World} {H : HM} {O : OL} {bk : Nat} {C : List Value} (hC : C[10]? = some (.slice none 0 0)) (hi : In O bk (cl C 77)) : CallsM prog 135 [.pointer (some ⟨bk, 0, none⟩)].toArray B H O (Same (.bool true) H O) := by
  refine enter func135 rfl ntmps135 (l := [(0, _)]) rfl rfl ?_
  refine x_seq ?_
  refine x_region rfl ?_
  refine o_y (y_assign rfl) ?_
  refine o_nil ?_
  refine x_seq ?_
  refine x_seq ?_
  refine x_region rfl ?_
  refine o_y (y_move rfl) ?_
  refine o_y (y_nilCheck rfl) ?_
  refine o_y (y_fieldAddr fd77_10 ti51 (by decide) rfl) ?_
  refine o_y (y_loadO ti51 rfl hi hC) ?_
  refine o_y (y_lenA underlying51 rfl) ?_
  refine o_y (y_move rfl) ?_
  refine o_nil ?_
  refine x_block ?_
  refine x_loopf (σ := Unit) (fun s => [(12, .int .i64 0), (11, .int .i64 0)]) (fun s => O) (fun s => True) (fun s => 0) () trivial (.c rfl (.c rfl .n)) rfl ?_
  rintro ⟨⟩ _
  refine x_seq ?_
  refine x_region rfl ?_
  refine o_y (y_lss rfl rfl) ?_
  refine o_nil ?_
  refine x_seq ?_
  refine x_cond rfl (fun hc0 => ?_) (fun hc0 => ?_)
  · try simp only [kk] at hc0
    exfalso; omega
  try simp only [kk] at hc0
  refine x_exit ?_
  refine x_seq ?_
  refine x_region rfl ?_
  refine o_y (y_assign rfl) ?_
  refine o_nil ?_
  refine x_ret ?_
  refine x_fin 0 (ret1 rfl rfl) ?_
  exact ⟨rfl, rfl, rfl⟩
end Go.Ph
