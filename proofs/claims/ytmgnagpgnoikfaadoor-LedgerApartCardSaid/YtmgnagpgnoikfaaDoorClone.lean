/- The library's Clone at the program's kinds. -/
import Derived.Test.YtmgnagpgnoikfaaDoorTreeD
set_option linter.unusedVariables false
set_option linter.unusedSimpArgs false
set_option maxRecDepth 100000
namespace Go.Ph
open Go Go.RowKit Go.Proofs.YtmgnagpgnoikfaaDoor

theorem clone_intR {B : World} {H : HM} {O : OL} {v : Value} {xs : List Int} (h : RdL H v xs) : CallsM Go.Proofs.Tryd.prog 39 [v].toArray B H O (MadeR xs 3 H O) := by
  obtain ⟨p, c, hv⟩ := h.shape
  subst hv
  have hs : xs.length * 8 ≤ 140737488351232 := h.small
  have hle := h.lenle
  refine enter Go.Proofs.Tryd.func39 rfl Go.Proofs.Tryd.ntmps39 (l := [(0, _)]) rfl rfl ?_
  refine x_seq ?_
  refine x_region rfl ?_
  refine o_y (y_assign rfl) ?_
  refine o_nil ?_
  refine x_seq ?_
  refine x_seq ?_
  refine x_region rfl ?_
  refine o_y (y_move rfl) ?_
  refine o_y (y_eqNil Go.Proofs.Tryd.underlying24 rfl rfl) ?_
  refine o_nil ?_
  refine x_cond rfl (fun hc0 => ?_) (fun hc0 => ?_)
  · try simp only [k1, k2, k3, k4, k5, k6, k7, k8, k9] at hc0
    have e0 : xs = [] := by
      by_cases hx : 0 < xs.length
      · obtain ⟨cs, ⟨b, o, n, c', e1, _⟩, _⟩ := RdL.at h [] 0 hx
        injection e1 with e2
        subst e2
        simp at hc0
      · exact List.eq_nil_of_length_eq_zero (by omega)
    subst e0
    refine x_seq ?_
    refine x_region rfl ?_
    refine o_y (y_assign rfl) ?_
    refine o_nil ?_
    refine x_ret ?_
    refine x_fin 0 (ret1 rfl rfl) ?_
    exact ⟨rfl, [], [], rfl, Row.nil _ _, .n⟩
  · try simp only [k1, k2, k3, k4, k5, k6, k7, k8, k9] at hc0
    obtain ⟨a, rfl⟩ : ∃ a, p = some a := by cases p with | none => simp at hc0 | some a => exact ⟨a, rfl⟩
    refine x_skip ?_
    refine x_seq ?_
    refine x_region rfl ?_
    refine o_slice0 Go.Proofs.Tryd.underlying24 ti3 (fun b5 => ?_)
    refine o_y (y_move rfl) ?_
    refine o_appendL (α := Int) Go.Proofs.Tryd.underlying24 ti3 rfl (by decide) rfl rfl Row.made rfl h ⟨_, _, _, rfl⟩ (by omega) (by omega) (by repeat (first | exact .o | exact .z | exact .e | apply Hole.s | apply Hole.g)) (fun v' R' news j1 j2 => ?_)
    refine o_y (y_assign rfl) ?_
    refine o_nil ?_
    refine x_ret ?_
    refine x_fin 0 (ret1 rfl rfl) ?_
    exact ⟨rfl, R', news, rfl, by have z := j2; rw [Nat.zero_add, List.nil_append] at z; exact z, j1⟩
theorem clone_int {B : World} {H : HM} {O : OL} {v : Value} {xs : List Int} (h : RdL H v xs) : CallsM Go.Proofs.Tryd.prog 39 [v].toArray B H O (Made xs H O) := (clone_intR h).freeze h.small
theorem clone_nodeR {B : World} {H : HM} {O : OL} {v : Value} {xs : List Node} (h : RdL H v xs) : CallsM Go.Proofs.Tryd.prog 42 [v].toArray B H O (MadeR xs 72 H O) := by
  obtain ⟨p, c, hv⟩ := h.shape
  subst hv
  have hs : xs.length * 48 ≤ 140737488351232 := h.small
  have hle := h.lenle
  refine enter Go.Proofs.Tryd.func42 rfl Go.Proofs.Tryd.ntmps42 (l := [(0, _)]) rfl rfl ?_
  refine x_seq ?_
  refine x_region rfl ?_
  refine o_y (y_assign rfl) ?_
  refine o_nil ?_
  refine x_seq ?_
  refine x_seq ?_
  refine x_region rfl ?_
  refine o_y (y_move rfl) ?_
  refine o_y (y_eqNil Go.Proofs.Tryd.underlying27 rfl rfl) ?_
  refine o_nil ?_
  refine x_cond rfl (fun hc0 => ?_) (fun hc0 => ?_)
  · try simp only [k1, k2, k3, k4, k5, k6, k7, k8, k9] at hc0
    have e0 : xs = [] := by
      by_cases hx : 0 < xs.length
      · obtain ⟨cs, ⟨b, o, n, c', e1, _⟩, _⟩ := RdL.at h [] 0 hx
        injection e1 with e2
        subst e2
        simp at hc0
      · exact List.eq_nil_of_length_eq_zero (by omega)
    subst e0
    refine x_seq ?_
    refine x_region rfl ?_
    refine o_y (y_assign rfl) ?_
    refine o_nil ?_
    refine x_ret ?_
    refine x_fin 0 (ret1 rfl rfl) ?_
    exact ⟨rfl, [], [], rfl, Row.nil _ _, .n⟩
  · try simp only [k1, k2, k3, k4, k5, k6, k7, k8, k9] at hc0
    obtain ⟨a, rfl⟩ : ∃ a, p = some a := by cases p with | none => simp at hc0 | some a => exact ⟨a, rfl⟩
    refine x_skip ?_
    refine x_seq ?_
    refine x_region rfl ?_
    refine o_slice0 Go.Proofs.Tryd.underlying27 ti72 (fun b5 => ?_)
    refine o_y (y_move rfl) ?_
    refine o_appendL (α := Node) Go.Proofs.Tryd.underlying27 ti72 rfl (by decide) rfl rfl Row.made rfl h ⟨_, _, _, rfl⟩ (by omega) (by omega) (by repeat (first | exact .o | exact .z | exact .e | apply Hole.s | apply Hole.g)) (fun v' R' news j1 j2 => ?_)
    refine o_y (y_assign rfl) ?_
    refine o_nil ?_
    refine x_ret ?_
    refine x_fin 0 (ret1 rfl rfl) ?_
    exact ⟨rfl, R', news, rfl, by have z := j2; rw [Nat.zero_add, List.nil_append] at z; exact z, j1⟩
theorem clone_node {B : World} {H : HM} {O : OL} {v : Value} {xs : List Node} (h : RdL H v xs) : CallsM Go.Proofs.Tryd.prog 42 [v].toArray B H O (Made xs H O) := (clone_nodeR h).freeze h.small
theorem clone_addR {B : World} {H : HM} {O : OL} {v : Value} {xs : List AddE} (h : RdL H v xs) : CallsM Go.Proofs.Tryd.prog 38 [v].toArray B H O (MadeR xs 78 H O) := by
  obtain ⟨p, c, hv⟩ := h.shape
  subst hv
  have hs : xs.length * 24 ≤ 140737488351232 := h.small
  have hle := h.lenle
  refine enter Go.Proofs.Tryd.func38 rfl Go.Proofs.Tryd.ntmps38 (l := [(0, _)]) rfl rfl ?_
  refine x_seq ?_
  refine x_region rfl ?_
  refine o_y (y_assign rfl) ?_
  refine o_nil ?_
  refine x_seq ?_
  refine x_seq ?_
  refine x_region rfl ?_
  refine o_y (y_move rfl) ?_
  refine o_y (y_eqNil Go.Proofs.Tryd.underlying23 rfl rfl) ?_
  refine o_nil ?_
  refine x_cond rfl (fun hc0 => ?_) (fun hc0 => ?_)
  · try simp only [k1, k2, k3, k4, k5, k6, k7, k8, k9] at hc0
    have e0 : xs = [] := by
      by_cases hx : 0 < xs.length
      · obtain ⟨cs, ⟨b, o, n, c', e1, _⟩, _⟩ := RdL.at h [] 0 hx
        injection e1 with e2
        subst e2
        simp at hc0
      · exact List.eq_nil_of_length_eq_zero (by omega)
    subst e0
    refine x_seq ?_
    refine x_region rfl ?_
    refine o_y (y_assign rfl) ?_
    refine o_nil ?_
    refine x_ret ?_
    refine x_fin 0 (ret1 rfl rfl) ?_
    exact ⟨rfl, [], [], rfl, Row.nil _ _, .n⟩
  · try simp only [k1, k2, k3, k4, k5, k6, k7, k8, k9] at hc0
    obtain ⟨a, rfl⟩ : ∃ a, p = some a := by cases p with | none => simp at hc0 | some a => exact ⟨a, rfl⟩
    refine x_skip ?_
    refine x_seq ?_
    refine x_region rfl ?_
    refine o_slice0 Go.Proofs.Tryd.underlying23 ti78 (fun b5 => ?_)
    refine o_y (y_move rfl) ?_
    refine o_appendL (α := AddE) Go.Proofs.Tryd.underlying23 ti78 rfl (by decide) rfl rfl Row.made rfl h ⟨_, _, _, rfl⟩ (by omega) (by omega) (by repeat (first | exact .o | exact .z | exact .e | apply Hole.s | apply Hole.g)) (fun v' R' news j1 j2 => ?_)
    refine o_y (y_assign rfl) ?_
    refine o_nil ?_
    refine x_ret ?_
    refine x_fin 0 (ret1 rfl rfl) ?_
    exact ⟨rfl, R', news, rfl, by have z := j2; rw [Nat.zero_add, List.nil_append] at z; exact z, j1⟩
theorem clone_add {B : World} {H : HM} {O : OL} {v : Value} {xs : List AddE} (h : RdL H v xs) : CallsM Go.Proofs.Tryd.prog 38 [v].toArray B H O (Made xs H O) := (clone_addR h).freeze h.small
theorem clone_sealR {B : World} {H : HM} {O : OL} {v : Value} {xs : List Seal} (h : RdL H v xs) : CallsM Go.Proofs.Tryd.prog 40 [v].toArray B H O (MadeR xs 81 H O) := by
  obtain ⟨p, c, hv⟩ := h.shape
  subst hv
  have hs : xs.length * 24 ≤ 140737488351232 := h.small
  have hle := h.lenle
  refine enter Go.Proofs.Tryd.func40 rfl Go.Proofs.Tryd.ntmps40 (l := [(0, _)]) rfl rfl ?_
  refine x_seq ?_
  refine x_region rfl ?_
  refine o_y (y_assign rfl) ?_
  refine o_nil ?_
  refine x_seq ?_
  refine x_seq ?_
  refine x_region rfl ?_
  refine o_y (y_move rfl) ?_
  refine o_y (y_eqNil Go.Proofs.Tryd.underlying25 rfl rfl) ?_
  refine o_nil ?_
  refine x_cond rfl (fun hc0 => ?_) (fun hc0 => ?_)
  · try simp only [k1, k2, k3, k4, k5, k6, k7, k8, k9] at hc0
    have e0 : xs = [] := by
      by_cases hx : 0 < xs.length
      · obtain ⟨cs, ⟨b, o, n, c', e1, _⟩, _⟩ := RdL.at h [] 0 hx
        injection e1 with e2
        subst e2
        simp at hc0
      · exact List.eq_nil_of_length_eq_zero (by omega)
    subst e0
    refine x_seq ?_
    refine x_region rfl ?_
    refine o_y (y_assign rfl) ?_
    refine o_nil ?_
    refine x_ret ?_
    refine x_fin 0 (ret1 rfl rfl) ?_
    exact ⟨rfl, [], [], rfl, Row.nil _ _, .n⟩
  · try simp only [k1, k2, k3, k4, k5, k6, k7, k8, k9] at hc0
    obtain ⟨a, rfl⟩ : ∃ a, p = some a := by cases p with | none => simp at hc0 | some a => exact ⟨a, rfl⟩
    refine x_skip ?_
    refine x_seq ?_
    refine x_region rfl ?_
    refine o_slice0 Go.Proofs.Tryd.underlying25 ti81 (fun b5 => ?_)
    refine o_y (y_move rfl) ?_
    refine o_appendL (α := Seal) Go.Proofs.Tryd.underlying25 ti81 rfl (by decide) rfl rfl Row.made rfl h ⟨_, _, _, rfl⟩ (by omega) (by omega) (by repeat (first | exact .o | exact .z | exact .e | apply Hole.s | apply Hole.g)) (fun v' R' news j1 j2 => ?_)
    refine o_y (y_assign rfl) ?_
    refine o_nil ?_
    refine x_ret ?_
    refine x_fin 0 (ret1 rfl rfl) ?_
    exact ⟨rfl, R', news, rfl, by have z := j2; rw [Nat.zero_add, List.nil_append] at z; exact z, j1⟩
theorem clone_seal {B : World} {H : HM} {O : OL} {v : Value} {xs : List Seal} (h : RdL H v xs) : CallsM Go.Proofs.Tryd.prog 40 [v].toArray B H O (Made xs H O) := (clone_sealR h).freeze h.small
theorem clone_joinR {B : World} {H : HM} {O : OL} {v : Value} {xs : List Join} (h : RdL H v xs) : CallsM Go.Proofs.Tryd.prog 41 [v].toArray B H O (MadeR xs 84 H O) := by
  obtain ⟨p, c, hv⟩ := h.shape
  subst hv
  have hs : xs.length * 16 ≤ 140737488351232 := h.small
  have hle := h.lenle
  refine enter Go.Proofs.Tryd.func41 rfl Go.Proofs.Tryd.ntmps41 (l := [(0, _)]) rfl rfl ?_
  refine x_seq ?_
  refine x_region rfl ?_
  refine o_y (y_assign rfl) ?_
  refine o_nil ?_
  refine x_seq ?_
  refine x_seq ?_
  refine x_region rfl ?_
  refine o_y (y_move rfl) ?_
  refine o_y (y_eqNil Go.Proofs.Tryd.underlying26 rfl rfl) ?_
  refine o_nil ?_
  refine x_cond rfl (fun hc0 => ?_) (fun hc0 => ?_)
  · try simp only [k1, k2, k3, k4, k5, k6, k7, k8, k9] at hc0
    have e0 : xs = [] := by
      by_cases hx : 0 < xs.length
      · obtain ⟨cs, ⟨b, o, n, c', e1, _⟩, _⟩ := RdL.at h [] 0 hx
        injection e1 with e2
        subst e2
        simp at hc0
      · exact List.eq_nil_of_length_eq_zero (by omega)
    subst e0
    refine x_seq ?_
    refine x_region rfl ?_
    refine o_y (y_assign rfl) ?_
    refine o_nil ?_
    refine x_ret ?_
    refine x_fin 0 (ret1 rfl rfl) ?_
    exact ⟨rfl, [], [], rfl, Row.nil _ _, .n⟩
  · try simp only [k1, k2, k3, k4, k5, k6, k7, k8, k9] at hc0
    obtain ⟨a, rfl⟩ : ∃ a, p = some a := by cases p with | none => simp at hc0 | some a => exact ⟨a, rfl⟩
    refine x_skip ?_
    refine x_seq ?_
    refine x_region rfl ?_
    refine o_slice0 Go.Proofs.Tryd.underlying26 ti84 (fun b5 => ?_)
    refine o_y (y_move rfl) ?_
    refine o_appendL (α := Join) Go.Proofs.Tryd.underlying26 ti84 rfl (by decide) rfl rfl Row.made rfl h ⟨_, _, _, rfl⟩ (by omega) (by omega) (by repeat (first | exact .o | exact .z | exact .e | apply Hole.s | apply Hole.g)) (fun v' R' news j1 j2 => ?_)
    refine o_y (y_assign rfl) ?_
    refine o_nil ?_
    refine x_ret ?_
    refine x_fin 0 (ret1 rfl rfl) ?_
    exact ⟨rfl, R', news, rfl, by have z := j2; rw [Nat.zero_add, List.nil_append] at z; exact z, j1⟩
theorem clone_join {B : World} {H : HM} {O : OL} {v : Value} {xs : List Join} (h : RdL H v xs) : CallsM Go.Proofs.Tryd.prog 41 [v].toArray B H O (Made xs H O) := (clone_joinR h).freeze h.small
end Go.Ph
