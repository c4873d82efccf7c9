/- What the claim stands on, part 5. -/
import Derived.Test.YtmgnagpgnoikfaaGreatDoorP4
set_option linter.unusedVariables false
set_option linter.unusedSimpArgs false
set_option maxRecDepth 100000
namespace Go.Ph
open Go Go.RowKit Go.Proofs.YtmgnagpgnoikfaaGreatDoor Go.Proofs.Tryz
theorem leftLogs_ok {B : World} {H : HM} {O : OL} {v u : Value} {xs : List Log} {F : List Nat} (h : OwL true H v xs F) (hu : RdL H u xs) : CallsM prog 13 [v, u].toArray B H O (Same (.bool true) H O) := by
  have hv := h.rdL
  have hle := hv.lenle
  obtain ⟨R, cs, Fs, hr, hH, hel, _, hsm, htw⟩ := h.h
  obtain ⟨bm, rfl, rfl⟩ := htw rfl
  have hcl : cs.length = xs.length * 2 := hr.len
  have hr2 : Row (.slice (some ⟨bm, 0, none⟩) (xs.length + 2) (xs.length + 2)) (xs.length + 2) (cs ++ (marksTo (Own.mark Log) xs.length 2 ++ [])) 95 2 [(bm, cl (cs ++ (Own.mark Log xs.length ++ Own.mark Log (xs.length + 1))) (Own.ty Log))] := ⟨by rw [List.length_append, List.length_append, marksTo_len (es := 2) (fun i => rfl), hcl]; simp only [List.length_nil]; omega, .inr ⟨bm, _, [], rfl, Nat.le_refl _, by simp, by rw [marksTo_two]; simp; rfl⟩⟩
  refine enter func13 rfl ntmps13 (l := [(0, _), (1, _)]) rfl rfl ?_
  refine x_seq ?_
  refine x_region rfl ?_
  refine o_y (y_assign rfl) ?_
  refine o_nil ?_
  refine x_seq ?_
  refine x_seq ?_
  refine x_region rfl ?_
  refine o_y (y_move rfl) ?_
  refine o_y (y_lenA underlying22 rfl) ?_
  refine o_y (y_move rfl) ?_
  refine o_y (y_lenA underlying22 rfl) ?_
  refine o_y (y_neq rfl rfl) ?_
  refine o_nil ?_
  refine x_cond rfl (fun hc0 => ?_) (fun hc0 => ?_)
  · try simp only [kk] at hc0
    exfalso; first | exact hc0 trivial | omega
  try simp only [kk] at hc0
  refine x_skip ?_
  refine x_seq ?_
  refine x_seq ?_
  refine x_region rfl ?_
  refine o_y (y_move rfl) ?_
  refine o_y (y_lenA underlying22 rfl) ?_
  refine o_y (y_move rfl) ?_
  refine o_nil ?_
  refine x_block ?_
  refine x_loopf (σ := Nat) (fun s => [(15, .int .i64 (s : Int)), (14, .int .i64 (xs.length : Int)), (0, .slice (some ⟨bm, 0, none⟩) xs.length (xs.length + 2)), (1, u)]) (fun s => O) (fun s => s ≤ xs.length) (fun s => xs.length - s) 0 (by simp) (.c rfl (.c rfl (.c rfl (.c rfl .n)))) rfl ?_
  rintro i i1
  refine x_seq ?_
  refine x_region rfl ?_
  refine o_y (y_lss rfl rfl) ?_
  refine o_nil ?_
  refine x_seq ?_
  refine x_cond rfl (fun hc1 => ?_) (fun hc1 => ?_)
  · try simp only [kk] at hc1
    have hi : i < xs.length := by omega
    obtain ⟨A1, ds, D1, FA, Fk, FD, ec, _, hA1', _, ho, _⟩ := hel.split i hi
    have hA1 : A1.length = i * 2 := hA1'
    have aE : AtS H O (.slice (some ⟨bm, 0, none⟩) xs.length (xs.length + 2)) (i * 2) ds := hr.atH hH (by omega) (fun j x hx => by
      rw [ec, List.append_assoc, ← hA1, List.getElem?_append_right (by omega), Nat.add_sub_cancel_left, List.getElem?_append_left (List.getElem?_eq_some_iff.1 hx).1]; exact hx)
    have ho' := ho
    obtain ⟨u1, G1, rfl, h0, h1, eG⟩ := ho
    refine x_skip ?_
    refine x_seq ?_
    refine x_block ?_
    refine x_seq ?_
    refine x_region rfl ?_
    refine o_y (y_move rfl) ?_
    refine o_y (y_assign rfl) ?_
    refine o_nil ?_
    refine x_seq ?_
    refine x_regionQ mixed (by kernel_rfl) rfl ?_
    refine q_y (y_move rfl) ?_
    refine q_y (y_move rfl) ?_
    refine q_y (y_idxR hr i hi underlying22 ti95 rfl rfl rfl) ?_
    refine q_y (y_loadS ti95 rfl (by assumption) rfl (fun e => by cases e)) ?_
    refine q_y (y_move rfl) ?_
    refine q_y (y_move rfl) ?_
    obtain ⟨ce24, ae24, re24⟩ := RdL.at hu _ i hi
    have se24 := AtS.isSl ae24
    have te24 := re24
    obtain ⟨u24_1, z24, q24_0, q24_1⟩ := re24
    subst z24
    have w24 := Rep.one te24
    refine q_y (y_idxL hu i hi underlying22 ti95 rfl rfl (by omega)) ?_
    refine q_y (y_loadS ti95 rfl (by assumption) rfl (fun e => by cases e)) ?_
    refine q_call fn47 rfl (leftLog_ok ho' te24) ?_
    refine q_y (y_not rfl) ?_
    refine q_nil ?_
    refine x_condF rfl ?_
    refine x_skip ?_
    refine x_region rfl ?_
    refine o_y (y_addN rfl rfl (by omega) (by omega)) ?_
    refine o_y (y_move rfl) ?_
    refine o_nil ?_
    exact ⟨i + 1, 0, rfl, (.c rfl (.c rfl (.c rfl (.c rfl .n)))), rfl, by omega, by omega⟩
  try simp only [kk] at hc1
  refine x_exit ?_
  refine x_seq ?_
  refine x_region rfl ?_
  refine o_y (y_move rfl) ?_
  refine o_y (y_move rfl) ?_
  refine o_y (y_lenA underlying22 rfl) ?_
  refine o_y (y_addN rfl rfl (by omega) (by omega)) ?_
  refine o_y (y_sliceH underlying22 ti95 rfl rfl (xs.length + 2) (by first | rfl | omega) (by omega)) ?_
  refine o_y (y_assign rfl) ?_
  refine o_nil ?_
  refine x_seq ?_
  refine x_seq ?_
  refine x_region rfl ?_
  refine o_y (y_move rfl) ?_
  refine o_y (y_lenA underlying22 rfl) ?_
  refine o_y (y_assign rfl) ?_
  refine o_nil ?_
  refine x_block ?_
  refine x_loopf (σ := Nat) (fun s => [(7, .int .i64 ((xs.length + s : Nat) : Int)), (6, .slice (some ⟨bm, 0, none⟩) (xs.length + 2) (xs.length + 2))]) (fun s => O) (fun s => s ≤ 2) (fun s => 2 - s) 0 (by simp) (.c rfl (.c rfl .n)) rfl ?_
  rintro k z1
  refine x_seq ?_
  refine x_seq ?_
  refine x_region rfl ?_
  refine o_y (y_move rfl) ?_
  refine o_y (y_move rfl) ?_
  refine o_y (y_lenA underlying22 rfl) ?_
  refine o_y (y_lss rfl rfl) ?_
  refine o_nil ?_
  refine x_cond rfl (fun hc3 => ?_) (fun hc3 => ?_)
  · try simp only [kk] at hc3
    have hk : k < 2 := by omega
    have aF : AtS H O (.slice (some ⟨bm, 0, none⟩) (xs.length + 2) (xs.length + 2)) ((xs.length + k) * 2) (Own.mark Log ((xs.length + k : Nat) : Int)) := hr2.atH hH (by omega) (fun i x hx => by
      have hi := (List.getElem?_eq_some_iff.1 hx).1
      have hi2 : i < 2 := hi
      rw [List.getElem?_append_right (by omega), hcl, show (xs.length + k) * 2 + i - xs.length * 2 = k * 2 + i by omega, List.append_nil]
      match k, hk with
      | 0, _ => rw [marksTo_two, List.getElem?_append_left (by show 0 * 2 + i < 2; omega)]; simpa using hx
      | 1, _ => rw [marksTo_two, List.getElem?_append_right (by show 2 ≤ 1 * 2 + i; omega)]; have e : 1 * 2 + i - (Own.mark Log (xs.length : Int)).length = i := by show 1 * 2 + i - 2 = i; omega
                rw [e]; simpa using hx)
    refine x_skip ?_
    refine x_seq ?_
    refine x_block ?_
    refine x_seq ?_
    refine x_region rfl ?_
    refine o_y (y_move rfl) ?_
    refine o_y (y_move rfl) ?_
    refine o_y (y_idxR hr2 (xs.length + k) (by omega) underlying22 ti95 rfl rfl rfl) ?_
    refine o_y (y_loadS ti95 rfl aF rfl (fun e => by cases e)) ?_
    refine o_y (y_move rfl) ?_
    refine o_call fn48 rfl (isLog_ok (xs.length + k) (by omega)) ?_
    rintro _ _ _ ⟨rfl, rfl, rfl⟩
    refine o_y (y_not rfl) ?_
    refine o_nil ?_
    refine x_condF rfl ?_
    refine x_skip ?_
    refine x_region rfl ?_
    refine o_y (y_move rfl) ?_
    refine o_y (y_addN rfl rfl (by omega) (by omega)) ?_
    refine o_y (y_assign rfl) ?_
    refine o_nil ?_
    exact ⟨k + 1, 0, rfl, (.c rfl (.c rfl .n)), rfl, by omega, by omega⟩
  try simp only [kk] at hc3
  refine x_exit ?_
  refine x_seq ?_
  refine x_region rfl ?_
  refine o_y (y_assign rfl) ?_
  refine o_nil ?_
  refine x_ret ?_
  refine x_fin 0 (ret1 rfl rfl) ?_
  exact ⟨rfl, rfl, rfl⟩
end Go.Ph
set_option linter.unusedVariables false
set_option linter.unusedSimpArgs false
set_option maxRecDepth 100000
namespace Go.Ph
open Go Go.RowKit Go.Proofs.YtmgnagpgnoikfaaGreatDoor Go.Proofs.Tryz
theorem lvl_step : ∀ y : Nat, y < 15 → (y % 2 = 1 → lvlN y = lvlN (y / 2) + 1) ∧ (y % 2 ≠ 1 → lvlN y = 0) := by decide
theorem rlevel_ok {B : World} {H : HM} {O : OL} (x : Nat) (hx : x < 15) : CallsM prog 307 [.int .i64 x].toArray B H O (Same (.int .i64 (lvlN x)) H O) := by
  refine enter func307 rfl ntmps307 (l := [(0, _)]) rfl rfl ?_
  refine x_seq ?_
  refine x_region rfl ?_
  refine o_y (y_assign rfl) ?_
  refine o_nil ?_
  refine x_seq ?_
  refine x_seq ?_
  refine x_region rfl ?_
  refine o_y (y_move rfl) ?_
  refine o_y (y_lss rfl rfl) ?_
  refine o_nil ?_
  refine x_cond rfl (fun hc0 => ?_) (fun hc0 => ?_)
  · try simp only [kk] at hc0
    exfalso; omega
  try simp only [kk] at hc0
  refine x_skip ?_
  refine x_seq ?_
  refine x_region rfl ?_
  refine o_y (y_assign rfl) ?_
  refine o_nil ?_
  refine x_seq ?_
  refine x_block ?_
  refine x_loopf (σ := Nat × Nat) (fun s => [(3, .int .i64 (s.1 : Int)), (0, .int .i64 (s.2 : Int))]) (fun s => O) (fun s => s.2 < 15 ∧ s.1 + lvlN s.2 = lvlN x ∧ s.1 ≤ 15 ∧ s.1 + s.2 ≤ 15) (fun s => s.2) (0, x) ⟨hx, by simp, by simp, by simp; omega⟩ (.c rfl (.c rfl .n)) rfl ?_
  rintro ⟨m, y⟩ ⟨i1, i2, i3, i4⟩
  simp only at i1 i2 i3 i4
  obtain ⟨l1, l2⟩ := lvl_step y i1
  refine x_seq ?_
  refine x_seq ?_
  refine x_region rfl ?_
  refine o_y (y_move rfl) ?_
  refine o_y (y_remN rfl rfl (by omega) (by omega)) ?_
  refine o_y (y_eql rfl rfl) ?_
  refine o_nil ?_
  refine x_cond rfl (fun hc1 => ?_) (fun hc1 => ?_)
  · try simp only [kk] at hc1
    have hy : y % 2 = 1 := by omega
    refine x_skip ?_
    refine x_block ?_
    refine x_seq ?_
    refine x_region rfl ?_
    refine o_y (y_move rfl) ?_
    refine o_y (y_addN rfl rfl (by omega) (by omega)) ?_
    refine o_y (y_assign rfl) ?_
    refine o_nil ?_
    refine x_region rfl ?_
    refine o_y (y_move rfl) ?_
    refine o_y (y_quoN rfl rfl (by omega) (by omega) (by omega)) ?_
    refine o_y (y_assign rfl) ?_
    refine o_nil ?_
    exact ⟨(m + 1, y / 2), 0, rfl, (.c rfl (.c rfl .n)), rfl, ⟨by simp only; omega, by have := l1 hy; simp only; omega, by omega, by simp only; omega⟩, by simp only; omega⟩
  try simp only [kk] at hc1
  refine x_exit ?_
  refine x_seq ?_
  refine x_region rfl ?_
  refine o_y (y_move rfl) ?_
  refine o_y (y_assign rfl) ?_
  refine o_nil ?_
  refine x_ret ?_
  refine x_fin 0 (ret1 rfl rfl) ?_
  have := l2 (by omega)
  have e : m = lvlN x := by omega
  subst e
  exact ⟨rfl, rfl, rfl⟩
def halfN (x : Nat) : Nat := if lvlN x = 0 then 0 else 2 ^ (lvlN x - 1)
theorem pow3 {i : Nat} (h : i ≤ 4) : 2 ^ (i - 1) ≤ 8 := Nat.pow_le_pow_right (by decide) (show i - 1 ≤ 3 by omega)
theorem rhalf_ok {B : World} {H : HM} {O : OL} (x : Nat) (hx : x < 15) : CallsM prog 303 [.int .i64 x].toArray B H O (Same (.int .i64 (halfN x)) H O) := by
  have h4 : lvlN x ≤ 4 := by unfold lvlN; (repeat' split) <;> omega
  refine enter func303 rfl ntmps303 (l := [(0, _)]) rfl rfl ?_
  refine x_seq ?_
  refine x_region rfl ?_
  refine o_y (y_assign rfl) ?_
  refine o_nil ?_
  refine x_seq ?_
  refine x_region rfl ?_
  refine o_y (y_move rfl) ?_
  refine o_call fn307 rfl (rlevel_ok x hx) ?_
  rintro _ _ _ ⟨rfl, rfl, rfl⟩
  refine o_y (y_assign rfl) ?_
  refine o_nil ?_
  refine x_seq ?_
  refine x_seq ?_
  refine x_region rfl ?_
  refine o_y (y_move rfl) ?_
  refine o_y (y_lss rfl rfl) ?_
  refine o_nil ?_
  refine x_cond rfl (fun hc0 => ?_) (fun hc0 => ?_)
  · try simp only [kk] at hc0
    refine x_seq ?_
    refine x_region rfl ?_
    refine o_y (y_assign rfl) ?_
    refine o_nil ?_
    refine x_ret ?_
    refine x_fin 0 (ret1 rfl rfl) ?_
    refine ⟨?_, rfl, rfl⟩
    rw [halfN, if_pos (by omega)]; rfl
  try simp only [kk] at hc0
  refine x_skip ?_
  refine x_seq ?_
  refine x_region rfl ?_
  refine o_y (y_assign rfl) ?_
  refine o_nil ?_
  refine x_seq ?_
  refine x_seq ?_
  refine x_region rfl ?_
  refine o_y (y_assign rfl) ?_
  refine o_nil ?_
  refine x_block ?_
  refine x_loopf (σ := Nat × Nat) (fun s => [(5, .int .i64 (s.1 : Int)), (4, .int .i64 (s.2 : Int)), (3, .int .i64 (lvlN x : Int))]) (fun s => O) (fun s => 1 ≤ s.1 ∧ s.1 ≤ lvlN x ∧ s.2 = 2 ^ (s.1 - 1)) (fun s => lvlN x - s.1) (1, 1) ⟨by simp, by simp only; omega, rfl⟩ (.c rfl (.c rfl (.c rfl .n))) rfl ?_
  rintro ⟨i, n⟩ ⟨i1, i2, i3⟩
  simp only at i1 i2 i3
  have hp := pow3 (i := i) (by omega)
  rw [← i3] at hp
  refine x_seq ?_
  refine x_seq ?_
  refine x_region rfl ?_
  refine o_y (y_move rfl) ?_
  refine o_y (y_move rfl) ?_
  refine o_y (y_lss rfl rfl) ?_
  refine o_nil ?_
  refine x_cond rfl (fun hc1 => ?_) (fun hc1 => ?_)
  · try simp only [kk] at hc1
    have hi : i < lvlN x := by omega
    refine x_skip ?_
    refine x_seq ?_
    refine x_block ?_
    refine x_region rfl ?_
    refine o_y (y_move rfl) ?_
    refine o_y (y_mulN rfl rfl (by omega) (by omega)) ?_
    refine o_y (y_assign rfl) ?_
    refine o_nil ?_
    refine x_region rfl ?_
    refine o_y (y_move rfl) ?_
    refine o_y (y_addN rfl rfl (by omega) (by omega)) ?_
    refine o_y (y_assign rfl) ?_
    refine o_nil ?_
    exact ⟨(i + 1, n * 2), 0, rfl, (.c rfl (.c (by show some (Value.int .i64 ((n : Int) * 2)) = some (Value.int .i64 ((n * 2 : Nat) : Int)); congr 2) (.c rfl .n))), rfl, ⟨by simp only; omega, by simp only; omega, by simp only; rw [i3, ← Nat.pow_succ]; congr 1; omega⟩, by simp only; omega⟩
  try simp only [kk] at hc1
  refine x_exit ?_
  refine x_seq ?_
  refine x_region rfl ?_
  refine o_y (y_move rfl) ?_
  refine o_y (y_assign rfl) ?_
  refine o_nil ?_
  refine x_ret ?_
  refine x_fin 0 (ret1 rfl rfl) ?_
  refine ⟨?_, rfl, rfl⟩
  have e : i = lvlN x := by omega
  rw [halfN, if_neg (by omega), ← e, i3]
theorem rspan_pure : ∀ x : Nat, x < 15 → halfN x ≤ 8 ∧ (2 * halfN x = 0 → spanLo x = ((x / 2 : Nat) : Int) ∧ spanHi x = ((x / 2 : Nat) : Int)) ∧ (2 * halfN x ≠ 0 → 2 * halfN x ≤ x + 1 ∧ spanLo x = (((x + 1 - 2 * halfN x) / 2 : Nat) : Int) ∧ spanHi x = ((x / 2 + 2 * halfN x / 2 : Nat) : Int)) := by decide +kernel
theorem rspan_ok {B : World} {H : HM} {O : OL} (x : Nat) (hx : x < 15) : CallsM prog 293 [.int .i64 x].toArray B H O (Same (.tuple #[.int .i64 (spanLo x), .int .i64 (spanHi x)]) H O) := by
  obtain ⟨h1, h2, h3⟩ := rspan_pure x hx
  refine enter func293 rfl ntmps293 (l := [(0, _)]) rfl rfl ?_
  refine x_seq ?_
  refine x_region rfl ?_
  refine o_y (y_assign rfl) ?_
  refine o_y (y_assign rfl) ?_
  refine o_nil ?_
  refine x_seq ?_
  refine x_seq ?_
  refine x_region rfl ?_
  refine o_y (y_move rfl) ?_
  refine o_y (y_lss rfl rfl) ?_
  refine o_y (y_move rfl) ?_
  refine o_split 7 rfl (fun hg1_7 => ?_) (fun hg1_7 => ?_)
  · try simp only [kk] at hg1_7
    exfalso; omega
  try simp only [kk] at hg1_7
  refine o_gy 7 rfl rfl (y_move rfl) ?_
  refine o_gy 7 rfl rfl (y_eql rfl rfl) ?_
  refine o_y (y_pick rfl rfl) ?_
  refine o_nil ?_
  refine x_cond rfl (fun hc0 => ?_) (fun hc0 => ?_)
  · try simp only [kk] at hc0
    exfalso; omega
  try simp only [kk] at hc0
  refine x_skip ?_
  refine x_seq ?_
  refine x_region rfl ?_
  refine o_y (y_move rfl) ?_
  refine o_call fn303 rfl (rhalf_ok x hx) ?_
  rintro _ _ _ ⟨rfl, rfl, rfl⟩
  refine o_y (y_mulN rfl rfl (by omega) (by omega)) ?_
  refine o_y (y_assign rfl) ?_
  refine o_nil ?_
  refine x_seq ?_
  refine x_seq ?_
  refine x_region rfl ?_
  refine o_y (y_move rfl) ?_
  refine o_y (y_eql rfl rfl) ?_
  refine o_nil ?_
  refine x_cond rfl (fun hc1 => ?_) (fun hc1 => ?_)
  · try simp only [kk] at hc1
    refine x_seq ?_
    refine x_region rfl ?_
    refine o_y (y_move rfl) ?_
    refine o_y (y_quoN rfl rfl (by omega) (by omega) (by omega)) ?_
    refine o_y (y_move rfl) ?_
    refine o_y (y_quoN rfl rfl (by omega) (by omega) (by omega)) ?_
    refine o_y (y_assign rfl) ?_
    refine o_y (y_assign rfl) ?_
    refine o_nil ?_
    refine x_ret ?_
    refine x_fin 0 (ret2 rfl rfl rfl) ?_
    obtain ⟨e1, e2⟩ := h2 (by omega)
    rw [e1, e2]
    refine ⟨?_, rfl, rfl⟩
    rfl
  try simp only [kk] at hc1
  obtain ⟨e0, e1, e2⟩ := h3 (by omega)
  refine x_skip ?_
  refine x_seq ?_
  refine x_region rfl ?_
  refine o_y (y_move rfl) ?_
  refine o_y (y_move rfl) ?_
  refine o_y (y_subN rfl rfl (by omega) (by omega)) ?_
  refine o_y (y_subN rfl rfl (by omega) (by omega)) ?_
  refine o_y (y_quoN rfl rfl (by omega) (by omega) (by omega)) ?_
  refine o_y (y_move rfl) ?_
  refine o_y (y_quoN rfl rfl (by omega) (by omega) (by omega)) ?_
  refine o_y (y_move rfl) ?_
  refine o_y (y_quoN rfl rfl (by omega) (by omega) (by omega)) ?_
  refine o_y (y_addN rfl rfl (by omega) (by omega)) ?_
  refine o_y (y_assign rfl) ?_
  refine o_y (y_assign rfl) ?_
  refine o_nil ?_
  refine x_ret ?_
  refine x_fin 0 (ret2 rfl rfl rfl) ?_
  rw [e1, e2]
  refine ⟨?_, rfl, rfl⟩
  congr 3
  congr 1; omega
theorem rblank_ok {B : World} {H : HM} {O : OL} {cs : List Value} {x : Node} (h : Rep.rd H cs x) : CallsM prog 292 [.agg cs.toArray].toArray B H O (Same (.bool x.blankB) H O) := by
  obtain ⟨u, rfl, h0, h1, h2, h3⟩ := h
  refine enter func292 rfl ntmps292 (l := [(0, _)]) rfl rfl ?_
  refine x_seq ?_
  refine x_region rfl ?_
  refine o_box rfl (cs := [_, _, _, _]) rfl (fun b1 => ?_)
  refine o_y (y_assign rfl) ?_
  refine o_nil ?_
  refine x_seq ?_
  refine x_region rfl ?_
  refine o_y (y_fieldAddr fd127_0 ti3 (by decide) rfl) ?_
  refine o_y (y_loadO ti3 rfl inn rfl) ?_
  refine o_y (y_eql rfl rfl) ?_
  refine o_y (y_move rfl) ?_
  refine o_split 6 rfl (fun hg1_6 => ?_) (fun hg1_6 => ?_)
  · try simp only [kk] at hg1_6
    refine o_gy 6 rfl rfl (y_fieldAddr fd127_1 ti3 (by decide) rfl) ?_
    refine o_gy 6 rfl rfl (y_loadO ti3 rfl inn rfl) ?_
    refine o_gy 6 rfl rfl (y_eql rfl rfl) ?_
    refine o_y (y_pick rfl rfl) ?_
    refine o_y (y_move rfl) ?_
    refine o_split 11 rfl (fun hg1_11 => ?_) (fun hg1_11 => ?_)
    · try simp only [kk] at hg1_11
      refine o_gy 11 rfl rfl (y_fieldAddr fd127_2 ti3 (by decide) rfl) ?_
      refine o_gy 11 rfl rfl (y_loadO ti3 rfl inn rfl) ?_
      refine o_gy 11 rfl rfl (y_eql rfl rfl) ?_
      refine o_y (y_pick rfl rfl) ?_
      refine o_y (y_move rfl) ?_
      refine o_split 16 rfl (fun hg1_16 => ?_) (fun hg1_16 => ?_)
      · try simp only [kk] at hg1_16
        refine o_gy 16 rfl rfl (y_fieldAddr fd127_3 ti24 (by decide) rfl) ?_
        refine o_gy 16 rfl rfl (y_loadO ti24 rfl inn rfl) ?_
        first | refine o_gy 16 rfl rfl (y_lenL (by assumption) underlying24 rfl) ?_ | refine o_gy 16 rfl rfl (y_lenR (by assumption) underlying24 rfl) ?_ | refine o_gy 16 rfl rfl (y_len underlying24 rfl) ?_
        refine o_gy 16 rfl rfl (y_eql rfl rfl) ?_
        refine o_y (y_pick rfl rfl) ?_
        refine o_y (y_assign rfl) ?_
        refine o_nil ?_
        refine x_ret ?_
        refine x_fin 1 (ret1 rfl rfl) ?_
        exact ⟨by simp [Node.blankB, *], rfl, rfl⟩
      try simp only [kk] at hg1_16
      refine o_gn 16 rfl rfl rfl ?_
      refine o_gn 16 rfl rfl rfl ?_
      refine o_gn 16 rfl rfl rfl ?_
      refine o_gn 16 rfl rfl rfl ?_
      refine o_y (y_pick rfl rfl) ?_
      refine o_y (y_assign rfl) ?_
      refine o_nil ?_
      refine x_ret ?_
      refine x_fin 1 (ret1 rfl rfl) ?_
      exact ⟨by simp [Node.blankB, *], rfl, rfl⟩
    try simp only [kk] at hg1_11
    refine o_gn 11 rfl rfl rfl ?_
    refine o_gn 11 rfl rfl rfl ?_
    refine o_gn 11 rfl rfl rfl ?_
    refine o_y (y_pick rfl rfl) ?_
    refine o_y (y_move rfl) ?_
    refine o_gn 16 rfl rfl rfl ?_
    refine o_gn 16 rfl rfl rfl ?_
    refine o_gn 16 rfl rfl rfl ?_
    refine o_gn 16 rfl rfl rfl ?_
    refine o_y (y_pick rfl rfl) ?_
    refine o_y (y_assign rfl) ?_
    refine o_nil ?_
    refine x_ret ?_
    refine x_fin 1 (ret1 rfl rfl) ?_
    exact ⟨by simp [Node.blankB, *], rfl, rfl⟩
  try simp only [kk] at hg1_6
  refine o_gn 6 rfl rfl rfl ?_
  refine o_gn 6 rfl rfl rfl ?_
  refine o_gn 6 rfl rfl rfl ?_
  refine o_y (y_pick rfl rfl) ?_
  refine o_y (y_move rfl) ?_
  refine o_gn 11 rfl rfl rfl ?_
  refine o_gn 11 rfl rfl rfl ?_
  refine o_gn 11 rfl rfl rfl ?_
  refine o_y (y_pick rfl rfl) ?_
  refine o_y (y_move rfl) ?_
  refine o_gn 16 rfl rfl rfl ?_
  refine o_gn 16 rfl rfl rfl ?_
  refine o_gn 16 rfl rfl rfl ?_
  refine o_gn 16 rfl rfl rfl ?_
  refine o_y (y_pick rfl rfl) ?_
  refine o_y (y_assign rfl) ?_
  refine o_nil ?_
  refine x_ret ?_
  refine x_fin 1 (ret1 rfl rfl) ?_
  exact ⟨by simp [Node.blankB, *], rfl, rfl⟩
theorem rleaves_ok {B : World} {H : HM} {O : OL} {v : Value} {xs : List Node} (h : RdL H v xs) : CallsM prog 267 [.agg #[v]].toArray B H O (Same (.int .i64 (leavesN xs.length)) H O) := by
  have hs := h.lenle
  refine enter func267 rfl ntmps267 (l := [(0, _)]) rfl rfl ?_
  refine x_seq ?_
  refine x_region rfl ?_
  refine o_box rfl (cs := [_]) rfl (fun b1 => ?_)
  refine o_y (y_assign rfl) ?_
  refine o_nil ?_
  refine x_seq ?_
  refine x_seq ?_
  refine x_region rfl ?_
  refine o_y (y_assign rfl) ?_
  refine o_nil ?_
  refine x_block ?_
  refine x_loopf (σ := Nat) (fun s => [(3, .int .i64 (s : Int)), (1, .pointer (some ⟨b1, 0, none⟩))]) (fun s => (b1, cl [v] 29) :: O) (fun s => (s = 1 ∨ s = 2 ∨ s = 4 ∨ s = 8 ∨ s = 16) ∧ (2 ≤ s → xs.length ≠ 1) ∧ (4 ≤ s → xs.length ≠ 3) ∧ (8 ≤ s → xs.length ≠ 7) ∧ (16 ≤ s → xs.length ≠ 15)) (fun s => 16 - s) 1 (by omega) (.c rfl (.c rfl .n)) rfl ?_
  rintro n ⟨i1, i2, i3, i4, i5⟩
  refine x_seq ?_
  refine x_seq ?_
  refine x_region rfl ?_
  refine o_y (y_move rfl) ?_
  refine o_y (y_leq rfl rfl) ?_
  refine o_nil ?_
  refine x_cond rfl (fun hc0 => ?_) (fun hc0 => ?_)
  · try simp only [kk] at hc0
    refine x_skip ?_
    refine x_seq ?_
    refine x_block ?_
    refine x_seq ?_
    refine x_region rfl ?_
    refine o_y (y_fieldAddr fd29_0 ti27 (by decide) rfl) ?_
    refine o_y (y_loadO ti27 rfl inn rfl) ?_
    refine o_y (y_lenA underlying27 rfl) ?_
    refine o_y (y_move rfl) ?_
    refine o_y (y_mulN rfl rfl (by omega) (by omega)) ?_
    refine o_y (y_subN rfl rfl (by omega) (by omega)) ?_
    refine o_y (y_eql rfl rfl) ?_
    refine o_nil ?_
    refine x_cond rfl (fun hc1 => ?_) (fun hc1 => ?_)
    · try simp only [kk] at hc1
      refine x_seq ?_
      refine x_region rfl ?_
      refine o_y (y_move rfl) ?_
      refine o_y (y_assign rfl) ?_
      refine o_nil ?_
      refine x_ret ?_
      refine x_fin 1 (ret1 rfl rfl) ?_
      have e : leavesN xs.length = n := by unfold leavesN; (repeat' split) <;> omega
      rw [e]; exact ⟨rfl, rfl, rfl⟩
    try simp only [kk] at hc1
    refine x_skip ?_
    refine x_region rfl ?_
    refine o_y (y_move rfl) ?_
    refine o_y (y_mulN rfl rfl (by omega) (by omega)) ?_
    refine o_y (y_assign rfl) ?_
    refine o_nil ?_
    exact ⟨n * 2, 0, rfl, (.c (by push_cast; rfl) (.c rfl .n)), rfl, by omega, by omega⟩
  try simp only [kk] at hc0
  refine x_exit ?_
  refine x_seq ?_
  refine x_region rfl ?_
  refine o_y (y_assign rfl) ?_
  refine o_nil ?_
  refine x_ret ?_
  refine x_fin 1 (ret1 rfl rfl) ?_
  have e : leavesN xs.length = 0 := by unfold leavesN; (repeat' split) <;> omega
  rw [e]; exact ⟨rfl, rfl, rfl⟩
def leafB (n : Node) : Bool := n.blankB || (decide (0 < n.pub) && (decide (0 ≤ n.member) && (decide (0 ≤ n.epoch) && decide ((n.unmerged.length : Int) = 0))))
theorem rleaf_ok {B : World} {H : HM} {O : OL} {cs : List Value} {x : Node} (h : Rep.rd H cs x) : CallsM prog 268 [.agg cs.toArray].toArray B H O (Same (.bool (leafB x)) H O) := by
  have hk := h
  obtain ⟨u, rfl, h0, h1, h2, h3⟩ := h
  refine enter func268 rfl ntmps268 (l := [(0, _)]) rfl rfl ?_
  refine x_seq ?_
  refine x_region rfl ?_
  refine o_box rfl (cs := [_, _, _, _]) rfl (fun b1 => ?_)
  refine o_y (y_assign rfl) ?_
  refine o_nil ?_
  refine x_seq ?_
  refine x_region rfl ?_
  refine o_y (y_loadA ti127 rfl inn rfl) ?_
  refine o_call fn292 rfl (rblank_ok hk) ?_
  rintro _ _ _ ⟨rfl, rfl, rfl⟩
  refine o_y (y_move rfl) ?_
  refine o_split 5 rfl (fun hg1_5 => ?_) (fun hg1_5 => ?_)
  · try simp only [kk] at hg1_5
    refine o_gn 5 rfl rfl rfl ?_
    refine o_gn 5 rfl rfl rfl ?_
    refine o_gn 5 rfl rfl rfl ?_
    refine o_gn 5 rfl rfl rfl ?_
    refine o_gu 9 rfl rfl ?_
    refine o_gu 9 rfl rfl ?_
    refine o_gu 9 rfl rfl ?_
    refine o_gn 5 rfl rfl rfl ?_
    refine o_gn 5 rfl rfl rfl ?_
    refine o_gu 14 rfl rfl ?_
    refine o_gu 14 rfl rfl ?_
    refine o_gu 14 rfl rfl ?_
    refine o_gn 5 rfl rfl rfl ?_
    refine o_gn 5 rfl rfl rfl ?_
    refine o_gu 19 rfl rfl ?_
    refine o_gu 19 rfl rfl ?_
    refine o_gu 19 rfl rfl ?_
    refine o_gu 19 rfl rfl ?_
    refine o_gn 5 rfl rfl rfl ?_
    refine o_y (y_pick rfl rfl) ?_
    refine o_y (y_assign rfl) ?_
    refine o_nil ?_
    refine x_ret ?_
    refine x_fin 1 (ret1 rfl rfl) ?_
    refine ⟨?_, rfl, rfl⟩
    unfold leafB
    simp_all <;> (intros; omega)
  try simp only [kk] at hg1_5
  refine o_gy 5 rfl rfl (y_fieldAddr fd127_0 ti3 (by decide) rfl) ?_
  refine o_gy 5 rfl rfl (y_loadO ti3 rfl inn rfl) ?_
  refine o_gy 5 rfl rfl (y_gtr rfl rfl) ?_
  refine o_gy 5 rfl rfl (y_move rfl) ?_
  refine o_split 9 rfl (fun hg1_9 => ?_) (fun hg1_9 => ?_)
  · try simp only [kk] at hg1_9
    refine o_gy 9 rfl rfl (y_fieldAddr fd127_1 ti3 (by decide) rfl) ?_
    refine o_gy 9 rfl rfl (y_loadO ti3 rfl inn rfl) ?_
    refine o_gy 9 rfl rfl (y_geq rfl rfl) ?_
    refine o_gy 5 rfl rfl (y_pick rfl rfl) ?_
    refine o_gy 5 rfl rfl (y_move rfl) ?_
    refine o_split 14 rfl (fun hg1_14 => ?_) (fun hg1_14 => ?_)
    · try simp only [kk] at hg1_14
      refine o_gy 14 rfl rfl (y_fieldAddr fd127_2 ti3 (by decide) rfl) ?_
      refine o_gy 14 rfl rfl (y_loadO ti3 rfl inn rfl) ?_
      refine o_gy 14 rfl rfl (y_geq rfl rfl) ?_
      refine o_gy 5 rfl rfl (y_pick rfl rfl) ?_
      refine o_gy 5 rfl rfl (y_move rfl) ?_
      refine o_split 19 rfl (fun hg1_19 => ?_) (fun hg1_19 => ?_)
      · try simp only [kk] at hg1_19
        refine o_gy 19 rfl rfl (y_fieldAddr fd127_3 ti24 (by decide) rfl) ?_
        refine o_gy 19 rfl rfl (y_loadO ti24 rfl inn rfl) ?_
        first | refine o_gy 19 rfl rfl (y_lenL (by assumption) underlying24 rfl) ?_ | refine o_gy 19 rfl rfl (y_lenR (by assumption) underlying24 rfl) ?_ | refine o_gy 19 rfl rfl (y_len underlying24 rfl) ?_
        refine o_gy 19 rfl rfl (y_eql rfl rfl) ?_
        refine o_gy 5 rfl rfl (y_pick rfl rfl) ?_
        refine o_y (y_pick rfl rfl) ?_
        refine o_y (y_assign rfl) ?_
        refine o_nil ?_
        refine x_ret ?_
        refine x_fin 1 (ret1 rfl rfl) ?_
        refine ⟨?_, rfl, rfl⟩
        unfold leafB
        simp_all <;> (intros; omega)
      try simp only [kk] at hg1_19
      refine o_gn 19 rfl rfl rfl ?_
      refine o_gn 19 rfl rfl rfl ?_
      refine o_gn 19 rfl rfl rfl ?_
      refine o_gn 19 rfl rfl rfl ?_
      refine o_gy 5 rfl rfl (y_pick rfl rfl) ?_
      refine o_y (y_pick rfl rfl) ?_
      refine o_y (y_assign rfl) ?_
      refine o_nil ?_
      refine x_ret ?_
      refine x_fin 1 (ret1 rfl rfl) ?_
      refine ⟨?_, rfl, rfl⟩
      unfold leafB
      simp_all <;> (intros; omega)
    try simp only [kk] at hg1_14
    refine o_gn 14 rfl rfl rfl ?_
    refine o_gn 14 rfl rfl rfl ?_
    refine o_gn 14 rfl rfl rfl ?_
    refine o_gy 5 rfl rfl (y_pick rfl rfl) ?_
    refine o_gy 5 rfl rfl (y_move rfl) ?_
    refine o_gn 19 rfl rfl rfl ?_
    refine o_gn 19 rfl rfl rfl ?_
    refine o_gn 19 rfl rfl rfl ?_
    refine o_gn 19 rfl rfl rfl ?_
    refine o_gy 5 rfl rfl (y_pick rfl rfl) ?_
    refine o_y (y_pick rfl rfl) ?_
    refine o_y (y_assign rfl) ?_
    refine o_nil ?_
    refine x_ret ?_
    refine x_fin 1 (ret1 rfl rfl) ?_
    refine ⟨?_, rfl, rfl⟩
    unfold leafB
    simp_all <;> (intros; omega)
  try simp only [kk] at hg1_9
  refine o_gn 9 rfl rfl rfl ?_
  refine o_gn 9 rfl rfl rfl ?_
  refine o_gn 9 rfl rfl rfl ?_
  refine o_gy 5 rfl rfl (y_pick rfl rfl) ?_
  refine o_gy 5 rfl rfl (y_move rfl) ?_
  refine o_gn 14 rfl rfl rfl ?_
  refine o_gn 14 rfl rfl rfl ?_
  refine o_gn 14 rfl rfl rfl ?_
  refine o_gy 5 rfl rfl (y_pick rfl rfl) ?_
  refine o_gy 5 rfl rfl (y_move rfl) ?_
  refine o_gn 19 rfl rfl rfl ?_
  refine o_gn 19 rfl rfl rfl ?_
  refine o_gn 19 rfl rfl rfl ?_
  refine o_gn 19 rfl rfl rfl ?_
  refine o_gy 5 rfl rfl (y_pick rfl rfl) ?_
  refine o_y (y_pick rfl rfl) ?_
  refine o_y (y_assign rfl) ?_
  refine o_nil ?_
  refine x_ret ?_
  refine x_fin 1 (ret1 rfl rfl) ?_
  refine ⟨?_, rfl, rfl⟩
  unfold leafB
  simp_all <;> (intros; omega)
theorem rparent_ok {B : World} {H : HM} {O : OL} {v : Value} {xs : List Node} (h : RdL H v xs) (hl : TreeLen xs.length) (x : Nat) (hx : x < xs.length) :
    CallsM prog 269 [.agg #[v], .int .i64 x].toArray B H O (Same (.bool (parentB xs x)) H O) := by
  have hs := h.lenle
  have h15 := hl.le
  obtain ⟨p1, p2, p3⟩ := hl.span hx
  obtain ⟨p4, p5, _, _⟩ := span_ok' x (by omega)
  have en := nodeAt_eq hx
  refine enter func269 rfl ntmps269 (l := [(0, _), (1, _)]) rfl rfl ?_
  refine x_seq ?_
  refine x_region rfl ?_
  refine o_box rfl (cs := [_]) rfl (fun b2 => ?_)
  refine o_y (y_assign rfl) ?_
  refine o_nil ?_
  refine x_seq ?_
  refine x_region rfl ?_
  refine o_y (y_fieldAddr fd29_0 ti27 (by decide) rfl) ?_
  refine o_y (y_loadO ti27 rfl inn rfl) ?_
  refine o_y (y_move rfl) ?_
  obtain ⟨ce13, ae13, re13⟩ := RdL.at h _ x hx
  have se13 := AtS.isSl ae13
  have te13 := re13
  obtain ⟨u13_3, z13, q13_0, q13_1, q13_2, q13_3⟩ := re13
  subst z13
  have w13 := Rep.one te13
  refine o_y (y_idxL h x hx underlying27 ti127 rfl rfl (by omega)) ?_
  refine o_y (y_loadS ti127 rfl (by assumption) rfl (fun e => by cases e)) ?_
  refine o_alloc ti127 rfl (fun b5 => ?_)
  refine o_store (u := [_, _, _, _]) (C' := [_, _, _, _]) ti127 rfl rfl rfl rfl (by first | rfl | assumption | (simp only [ones, List.all_cons, List.all_nil, Bool.and_true, one_of (by assumption)]; done)) (by repeat (first | exact .z | apply Upd.s | apply Upd.a)) (by exact Nat.le_of_ble_eq_true rfl) (by rfl) ?_
  refine o_nil ?_
  refine x_seq ?_
  refine x_seq ?_
  refine x_region rfl ?_
  refine o_y (y_loadA ti127 rfl inn rfl) ?_
  refine o_call fn292 rfl (rblank_ok te13) ?_
  rintro _ _ _ ⟨rfl, rfl, rfl⟩
  refine o_nil ?_
  refine x_cond rfl (fun hc0 => ?_) (fun hc0 => ?_)
  · try simp only [kk] at hc0
    refine x_seq ?_
    refine x_region rfl ?_
    refine o_y (y_assign rfl) ?_
    refine o_nil ?_
    refine x_ret ?_
    refine x_fin 2 (ret1 rfl rfl) ?_
    have hb : xs[x].blankB = true := by assumption
    have hp : xs[x].pub = 0 := by simp [Node.blankB] at hb; omega
    rw [parentB_1 en (by omega), hb]; exact ⟨rfl, rfl, rfl⟩
  try simp only [kk] at hc0
  refine x_skip ?_
  refine x_seq ?_
  refine x_seq ?_
  refine x_region rfl ?_
  refine o_y (y_fieldAddr fd127_0 ti3 (by decide) rfl) ?_
  refine o_y (y_loadO ti3 rfl inn rfl) ?_
  refine o_y (y_leq rfl rfl) ?_
  refine o_y (y_move rfl) ?_
  refine o_split 20 rfl (fun hg4_20 => ?_) (fun hg4_20 => ?_)
  · try simp only [kk] at hg4_20
    refine o_gn 20 rfl rfl rfl ?_
    refine o_gn 20 rfl rfl rfl ?_
    refine o_gn 20 rfl rfl rfl ?_
    refine o_y (y_pick rfl rfl) ?_
    refine o_y (y_move rfl) ?_
    refine o_gn 25 rfl rfl rfl ?_
    refine o_gn 25 rfl rfl rfl ?_
    refine o_gn 25 rfl rfl rfl ?_
    refine o_y (y_pick rfl rfl) ?_
    refine o_nil ?_
    refine x_condT rfl ?_
    refine x_seq ?_
    refine x_region rfl ?_
    refine o_y (y_assign rfl) ?_
    refine o_nil ?_
    refine x_ret ?_
    refine x_fin 2 (ret1 rfl rfl) ?_
    have hb : xs[x].blankB = false := by assumption
    rw [parentB_1 en (by omega), hb]; exact ⟨rfl, rfl, rfl⟩
  try simp only [kk] at hg4_20
  refine o_gy 20 rfl rfl (y_fieldAddr fd127_1 ti3 (by decide) rfl) ?_
  refine o_gy 20 rfl rfl (y_loadO ti3 rfl inn rfl) ?_
  refine o_gy 20 rfl rfl (y_neq rfl rfl) ?_
  refine o_y (y_pick rfl rfl) ?_
  refine o_y (y_move rfl) ?_
  refine o_split 25 rfl (fun hg4_25 => ?_) (fun hg4_25 => ?_)
  · try simp only [kk] at hg4_25
    refine o_gn 25 rfl rfl rfl ?_
    refine o_gn 25 rfl rfl rfl ?_
    refine o_gn 25 rfl rfl rfl ?_
    refine o_y (y_pick rfl rfl) ?_
    refine o_nil ?_
    refine x_condT rfl ?_
    refine x_seq ?_
    refine x_region rfl ?_
    refine o_y (y_assign rfl) ?_
    refine o_nil ?_
    refine x_ret ?_
    refine x_fin 2 (ret1 rfl rfl) ?_
    have hb : xs[x].blankB = false := by assumption
    rw [parentB_1 en (by omega), hb]; exact ⟨rfl, rfl, rfl⟩
  try simp only [kk] at hg4_25
  refine o_gy 25 rfl rfl (y_fieldAddr fd127_2 ti3 (by decide) rfl) ?_
  refine o_gy 25 rfl rfl (y_loadO ti3 rfl inn rfl) ?_
  refine o_gy 25 rfl rfl (y_neq rfl rfl) ?_
  refine o_y (y_pick rfl rfl) ?_
  refine o_nil ?_
  refine x_cond rfl (fun hc1 => ?_) (fun hc1 => ?_)
  · try simp only [kk] at hc1
    refine x_seq ?_
    refine x_region rfl ?_
    refine o_y (y_assign rfl) ?_
    refine o_nil ?_
    refine x_ret ?_
    refine x_fin 2 (ret1 rfl rfl) ?_
    have hb : xs[x].blankB = false := by assumption
    rw [parentB_1 en (by omega), hb]; exact ⟨rfl, rfl, rfl⟩
  try simp only [kk] at hc1
  have hng : ¬ (xs[x].pub < 1 ∨ xs[x].member ≠ 0 ∨ xs[x].epoch ≠ 0) := by omega
  refine x_skip ?_
  refine x_seq ?_
  refine x_region rfl ?_
  refine o_y (y_move rfl) ?_
  refine o_call fn293 rfl (rspan_ok x (by omega)) ?_
  rintro _ _ _ ⟨rfl, rfl, rfl⟩
  refine o_y (y_move rfl) ?_
  refine o_y (y_extract rfl rfl) ?_
  refine o_y (y_extract rfl rfl) ?_
  refine o_y (y_assign rfl) ?_
  refine o_y (y_assign rfl) ?_
  refine o_nil ?_
  refine x_seq ?_
  refine x_seq ?_
  refine x_region rfl ?_
  refine o_y (y_assign rfl) ?_
  refine o_nil ?_
  refine x_block ?_
  have hum := q13_3
  have hus := hum.lenle
  refine x_loopf (σ := Nat × Int) (fun s => [(8, .int .i64 (s.1 : Int)), (6, .int .i64 (spanLo x)), (7, .int .i64 (spanHi x)), (5, .pointer (some ⟨b5, 0, none⟩)), (2, .pointer (some ⟨b2, 0, none⟩))]) (fun _ => _) (fun s => s.1 ≤ xs[x].unmerged.length ∧ spanLo x ≤ s.2 ∧ s.2 ≤ spanHi x + 1 ∧ umOk xs (spanHi x) s.2 (xs[x].unmerged.drop s.1) = umOk xs (spanHi x) (spanLo x) xs[x].unmerged ∧ (s.1 = 0 → s.2 = spanLo x) ∧ ∀ h : s.1 - 1 < xs[x].unmerged.length, 0 < s.1 → s.2 = xs[x].unmerged[s.1 - 1] + 1) (fun s => xs[x].unmerged.length - s.1) (0, spanLo x) ⟨by simp, by simp, by simp; omega, by simp, by simp, fun _ h => by simp at h⟩ (.c rfl (.c rfl (.c rfl (.c rfl (.c rfl .n))))) rfl ?_
  rintro ⟨k, f⟩ ⟨i1, i2, i3, i4, i5, i6⟩
  simp only at i1 i2 i3 i4 i5 i6
  refine x_seq ?_
  refine x_seq ?_
  refine x_region rfl ?_
  refine o_y (y_move rfl) ?_
  refine o_y (y_fieldAddr fd127_3 ti24 (by decide) rfl) ?_
  refine o_y (y_loadO ti24 rfl inn rfl) ?_
  refine o_y (y_lenA underlying24 rfl) ?_
  refine o_y (y_lss rfl rfl) ?_
  refine o_nil ?_
  refine x_cond rfl (fun hc2 => ?_) (fun hc2 => ?_)
  · try simp only [kk] at hc2
    have hk : k < xs[x].unmerged.length := by omega
    have i6' := i6 (by omega)
    refine x_skip ?_
    refine x_seq ?_
    refine x_block ?_
    refine x_seq ?_
    refine x_region rfl ?_
    refine o_y (y_fieldAddr fd127_3 ti24 (by decide) rfl) ?_
    refine o_y (y_loadO ti24 rfl inn rfl) ?_
    refine o_y (y_move rfl) ?_
    obtain ⟨ce45, ae45, re45⟩ := RdL.at hum _ k hk
    have se45 := AtS.isSl ae45
    obtain ⟨rfl, q45⟩ := re45
    refine o_y (y_idxL hum k hk underlying24 ti3 rfl rfl (by omega)) ?_
    refine o_y (y_loadS ti3 rfl (by assumption) rfl (fun _ => rfl)) ?_
    refine o_y (y_assign rfl) ?_
    refine o_nil ?_
    refine x_seq ?_
    refine x_region rfl ?_
    refine o_y (y_move rfl) ?_
    refine o_y (y_move rfl) ?_
    refine o_y (y_lss rfl rfl) ?_
    refine o_y (y_move rfl) ?_
    refine o_split 50 rfl (fun hg11_50 => ?_) (fun hg11_50 => ?_)
    · try simp only [kk] at hg11_50
      refine o_gn 50 rfl rfl rfl ?_
      refine o_gn 50 rfl rfl rfl ?_
      refine o_gn 50 rfl rfl rfl ?_
      refine o_y (y_pick rfl rfl) ?_
      refine o_y (y_move rfl) ?_
      refine o_gn 55 rfl rfl rfl ?_
      refine o_gn 55 rfl rfl rfl ?_
      refine o_gn 55 rfl rfl rfl ?_
      refine o_gn 55 rfl rfl rfl ?_
      refine o_gn 55 rfl rfl rfl ?_
      refine o_gn 55 rfl rfl rfl ?_
      refine o_gn 55 rfl rfl rfl ?_
      refine o_gn 55 rfl rfl rfl ?_
      refine o_y (y_pick rfl rfl) ?_
      refine o_y (y_move rfl) ?_
      refine o_gn 65 rfl rfl rfl ?_
      refine o_gn 65 rfl rfl rfl ?_
      refine o_gn 65 rfl rfl rfl ?_
      refine o_gu 68 rfl rfl ?_
      refine o_gu 68 rfl rfl ?_
      refine o_gu 68 rfl rfl ?_
      refine o_gu 68 rfl rfl ?_
      refine o_gu 68 rfl rfl ?_
      refine o_gu 68 rfl rfl ?_
      refine o_gu 68 rfl rfl ?_
      refine o_gu 68 rfl rfl ?_
      refine o_gn 65 rfl rfl rfl ?_
      refine o_y (y_pick rfl rfl) ?_
      refine o_nil ?_
      refine x_condT rfl ?_
      refine x_seq ?_
      refine x_region rfl ?_
      refine o_y (y_assign rfl) ?_
      refine o_nil ?_
      refine x_ret ?_
      refine x_fin 2 (ret1 rfl rfl) ?_
      refine ⟨?_, rfl, rfl⟩
      rw [parentB_2 en hng, ← i4, umOk_no hk (by first | omega | (rw [e2]; omega))]
    try simp only [kk] at hg11_50
    refine o_gy 50 rfl rfl (y_move rfl) ?_
    refine o_gy 50 rfl rfl (y_move rfl) ?_
    refine o_gy 50 rfl rfl (y_gtr rfl rfl) ?_
    refine o_y (y_pick rfl rfl) ?_
    refine o_y (y_move rfl) ?_
    refine o_split 55 rfl (fun hg11_55 => ?_) (fun hg11_55 => ?_)
    · try simp only [kk] at hg11_55
      refine o_gn 55 rfl rfl rfl ?_
      refine o_gn 55 rfl rfl rfl ?_
      refine o_gn 55 rfl rfl rfl ?_
      refine o_gn 55 rfl rfl rfl ?_
      refine o_gn 55 rfl rfl rfl ?_
      refine o_gn 55 rfl rfl rfl ?_
      refine o_gn 55 rfl rfl rfl ?_
      refine o_gn 55 rfl rfl rfl ?_
      refine o_y (y_pick rfl rfl) ?_
      refine o_y (y_move rfl) ?_
      refine o_gn 65 rfl rfl rfl ?_
      refine o_gn 65 rfl rfl rfl ?_
      refine o_gn 65 rfl rfl rfl ?_
      refine o_gu 68 rfl rfl ?_
      refine o_gu 68 rfl rfl ?_
      refine o_gu 68 rfl rfl ?_
      refine o_gu 68 rfl rfl ?_
      refine o_gu 68 rfl rfl ?_
      refine o_gu 68 rfl rfl ?_
      refine o_gu 68 rfl rfl ?_
      refine o_gu 68 rfl rfl ?_
      refine o_gn 65 rfl rfl rfl ?_
      refine o_y (y_pick rfl rfl) ?_
      refine o_nil ?_
      refine x_condT rfl ?_
      refine x_seq ?_
      refine x_region rfl ?_
      refine o_y (y_assign rfl) ?_
      refine o_nil ?_
      refine x_ret ?_
      refine x_fin 2 (ret1 rfl rfl) ?_
      refine ⟨?_, rfl, rfl⟩
      rw [parentB_2 en hng, ← i4, umOk_no hk (by first | omega | (rw [e2]; omega))]
    try simp only [kk] at hg11_55
    refine o_gy 55 rfl rfl (y_fieldAddr fd29_0 ti27 (by decide) rfl) ?_
    refine o_gy 55 rfl rfl (y_loadO ti27 rfl inn rfl) ?_
    refine o_gy 55 rfl rfl (y_move rfl) ?_
    refine o_gy 55 rfl rfl (y_mulN rfl rfl (by omega) (by omega)) ?_
    have hj : 2 * (xs[x].unmerged[k]).toNat < xs.length := by omega
    have e2 := nodeAt_eq hj
    obtain ⟨ce60, ae60, re60⟩ := RdL.at h _ (2 * (xs[x].unmerged[k]).toNat) hj
    have se60 := AtS.isSl ae60
    have te60 := re60
    obtain ⟨u60_3, z60, q60_0, q60_1, q60_2, q60_3⟩ := re60
    subst z60
    have w60 := Rep.one te60
    refine o_gy 55 rfl rfl (y_idxL h (2 * (xs[x].unmerged[k]).toNat) hj underlying27 ti127 rfl rfl (by omega)) ?_
    refine o_gy 55 rfl rfl (y_fieldAddrP fd127_0 ti3 (by decide) (by assumption) rfl) ?_
    refine o_gy 55 rfl rfl (y_loadS1 ti3 rfl (by assumption) rfl) ?_
    refine o_gy 55 rfl rfl (y_eql rfl rfl) ?_
    refine o_y (y_pick rfl rfl) ?_
    refine o_y (y_move rfl) ?_
    refine o_split 65 rfl (fun hg11_65 => ?_) (fun hg11_65 => ?_)
    · try simp only [kk] at hg11_65
      refine o_gn 65 rfl rfl rfl ?_
      refine o_gn 65 rfl rfl rfl ?_
      refine o_gn 65 rfl rfl rfl ?_
      refine o_gu 68 rfl rfl ?_
      refine o_gu 68 rfl rfl ?_
      refine o_gu 68 rfl rfl ?_
      refine o_gu 68 rfl rfl ?_
      refine o_gu 68 rfl rfl ?_
      refine o_gu 68 rfl rfl ?_
      refine o_gu 68 rfl rfl ?_
      refine o_gu 68 rfl rfl ?_
      refine o_gn 65 rfl rfl rfl ?_
      refine o_y (y_pick rfl rfl) ?_
      refine o_nil ?_
      refine x_condT rfl ?_
      refine x_seq ?_
      refine x_region rfl ?_
      refine o_y (y_assign rfl) ?_
      refine o_nil ?_
      refine x_ret ?_
      refine x_fin 2 (ret1 rfl rfl) ?_
      refine ⟨?_, rfl, rfl⟩
      rw [parentB_2 en hng, ← i4, umOk_no hk (by first | omega | (rw [e2]; omega))]
    try simp only [kk] at hg11_65
    refine o_gy 65 rfl rfl (y_move rfl) ?_
    refine o_gy 65 rfl rfl (y_gtr rfl rfl) ?_
    refine o_gy 65 rfl rfl (y_move rfl) ?_
    refine o_split 68 rfl (fun hg11_68 => ?_) (fun hg11_68 => ?_)
    · try simp only [kk] at hg11_68
      refine o_gy 68 rfl rfl (y_move rfl) ?_
      refine o_gy 68 rfl rfl (y_fieldAddr fd127_3 ti24 (by decide) rfl) ?_
      refine o_gy 68 rfl rfl (y_loadO ti24 rfl inn rfl) ?_
      refine o_gy 68 rfl rfl (y_move rfl) ?_
      refine o_gy 68 rfl rfl (y_subN rfl rfl (by omega) (by omega)) ?_
      obtain ⟨ce74, ae74, re74⟩ := RdL.at hum _ (k - 1) (by omega)
      have se74 := AtS.isSl ae74
      obtain ⟨rfl, q74⟩ := re74
      refine o_gy 68 rfl rfl (y_idxL hum (k - 1) (by omega) underlying24 ti3 rfl rfl (by omega)) ?_
      refine o_gy 68 rfl rfl (y_loadS ti3 rfl (by assumption) rfl (fun _ => rfl)) ?_
      refine o_gy 68 rfl rfl (y_leq rfl rfl) ?_
      refine o_gy 65 rfl rfl (y_pick rfl rfl) ?_
      refine o_y (y_pick rfl rfl) ?_
      refine o_nil ?_
      refine x_cond rfl (fun hc3 => ?_) (fun hc3 => ?_)
      · try simp only [kk] at hc3
        refine x_seq ?_
        refine x_region rfl ?_
        refine o_y (y_assign rfl) ?_
        refine o_nil ?_
        refine x_ret ?_
        refine x_fin 2 (ret1 rfl rfl) ?_
        refine ⟨?_, rfl, rfl⟩
        rw [parentB_2 en hng, ← i4, umOk_no hk (by first | omega | (rw [e2]; omega))]
      try simp only [kk] at hc3
      refine x_skip ?_
      refine x_region rfl ?_
      refine o_y (y_move rfl) ?_
      refine o_y (y_addN rfl rfl (by omega) (by omega)) ?_
      refine o_y (y_assign rfl) ?_
      refine o_nil ?_
      exact ⟨(k + 1, xs[x].unmerged[k] + 1), 0, rfl, (.c rfl (.c rfl (.c rfl (.c rfl (.c rfl .n))))), rfl, ⟨by omega, by omega, by omega, by
        have z := umOk_yes (xs := xs) (hi := spanHi x) (f := f) hk (by rw [e2]; omega)
        rw [← z]; exact i4, by simp, fun _ _ => rfl⟩, by omega⟩
    try simp only [kk] at hg11_68
    refine o_gn 68 rfl rfl rfl ?_
    refine o_gn 68 rfl rfl rfl ?_
    refine o_gn 68 rfl rfl rfl ?_
    refine o_gn 68 rfl rfl rfl ?_
    refine o_gn 68 rfl rfl rfl ?_
    refine o_gn 68 rfl rfl rfl ?_
    refine o_gn 68 rfl rfl rfl ?_
    refine o_gn 68 rfl rfl rfl ?_
    refine o_gy 65 rfl rfl (y_pick rfl rfl) ?_
    refine o_y (y_pick rfl rfl) ?_
    refine o_nil ?_
    refine x_condF rfl ?_
    refine x_skip ?_
    refine x_region rfl ?_
    refine o_y (y_move rfl) ?_
    refine o_y (y_addN rfl rfl (by omega) (by omega)) ?_
    refine o_y (y_assign rfl) ?_
    refine o_nil ?_
    exact ⟨(k + 1, xs[x].unmerged[k] + 1), 0, rfl, (.c rfl (.c rfl (.c rfl (.c rfl (.c rfl .n))))), rfl, ⟨by omega, by omega, by omega, by
      have z := umOk_yes (xs := xs) (hi := spanHi x) (f := f) hk (by rw [e2]; omega)
      rw [← z]; exact i4, by simp, fun _ _ => rfl⟩, by omega⟩
  try simp only [kk] at hc2
  refine x_exit ?_
  refine x_seq ?_
  refine x_region rfl ?_
  refine o_y (y_assign rfl) ?_
  refine o_nil ?_
  refine x_ret ?_
  refine x_fin 2 (ret1 rfl rfl) ?_
  refine ⟨?_, rfl, rfl⟩
  obtain rfl : k = xs[x].unmerged.length := by omega
  rw [parentB_2 en hng, ← i4, List.drop_length]; rfl
open Classical in
noncomputable def twiceB (xs : List Node) : Bool := decide (∃ i k, i < xs.length ∧ k < i ∧ i % 2 = 0 ∧ k % 2 = 0 ∧ (nodeAt xs i).pub ≠ 0 ∧ (nodeAt xs k).pub ≠ 0 ∧ (nodeAt xs i).member = (nodeAt xs k).member)
open Classical in
noncomputable def someB (xs : List Node) (f : Nat) : Bool := decide (∃ i, i < xs.length ∧ i % 2 = 0 ∧ 2 * f ≤ i ∧ (nodeAt xs i).pub ≠ 0)
theorem twiceB_yes {xs : List Node} (h : ∃ i k, i < xs.length ∧ k < i ∧ i % 2 = 0 ∧ k % 2 = 0 ∧ (nodeAt xs i).pub ≠ 0 ∧ (nodeAt xs k).pub ≠ 0 ∧ (nodeAt xs i).member = (nodeAt xs k).member) : twiceB xs = true := by unfold twiceB; simpa using h
theorem twiceB_no {xs : List Node} (h : ¬ ∃ i k, i < xs.length ∧ k < i ∧ i % 2 = 0 ∧ k % 2 = 0 ∧ (nodeAt xs i).pub ≠ 0 ∧ (nodeAt xs k).pub ≠ 0 ∧ (nodeAt xs i).member = (nodeAt xs k).member) : twiceB xs = false := by unfold twiceB; rw [decide_eq_false_iff_not]; exact h
theorem rtwice_ok {B : World} {H : HM} {O : OL} {v : Value} {xs : List Node} (h : RdL H v xs) : CallsM prog 270 [.agg #[v]].toArray B H O (Same (.bool (twiceB xs)) H O) := by
  have hs := h.lenle
  refine enter func270 rfl ntmps270 (l := [(0, _)]) rfl rfl ?_
  refine x_seq ?_
  refine x_region rfl ?_
  refine o_box rfl (cs := [_]) rfl (fun b1 => ?_)
  refine o_y (y_assign rfl) ?_
  refine o_nil ?_
  refine x_seq ?_
  refine x_seq ?_
  refine x_region rfl ?_
  refine o_y (y_assign rfl) ?_
  refine o_nil ?_
  refine x_block ?_
  refine x_loopf (σ := Nat) (fun s => [(3, .int .i64 (s : Int)), (1, .pointer (some ⟨b1, 0, none⟩))]) (fun s => (b1, cl [v] 29) :: O) (fun s => s % 2 = 0 ∧ s ≤ xs.length + 1 ∧ ∀ i k, i < s → i < xs.length → k < i → i % 2 = 0 → k % 2 = 0 → (nodeAt xs i).pub ≠ 0 → (nodeAt xs k).pub ≠ 0 → (nodeAt xs i).member ≠ (nodeAt xs k).member) (fun s => xs.length + 1 - s) 0 ⟨rfl, by omega, fun i k hi => by omega⟩ (.c rfl (.c rfl .n)) rfl ?_
  rintro i ⟨i1, i2, i3⟩
  refine x_seq ?_
  refine x_seq ?_
  refine x_region rfl ?_
  refine o_y (y_move rfl) ?_
  refine o_y (y_fieldAddr fd29_0 ti27 (by decide) rfl) ?_
  refine o_y (y_loadO ti27 rfl inn rfl) ?_
  refine o_y (y_lenA underlying27 rfl) ?_
  refine o_y (y_lss rfl rfl) ?_
  refine o_nil ?_
  refine x_cond rfl (fun hc0 => ?_) (fun hc0 => ?_)
  · try simp only [kk] at hc0
    have hi : i < xs.length := by omega
    have ei := nodeAt_eq hi
    refine x_skip ?_
    refine x_seq ?_
    refine x_block ?_
    refine x_seq ?_
    refine x_region rfl ?_
    refine o_y (y_assign rfl) ?_
    refine o_nil ?_
    refine x_block ?_
    refine x_loopf (σ := Nat) (fun s => [(4, .int .i64 (s : Int)), (3, .int .i64 (i : Int)), (1, .pointer (some ⟨b1, 0, none⟩))]) (fun s => (b1, cl [v] 29) :: O) (fun s => s % 2 = 0 ∧ s ≤ i ∧ ∀ k, k < s → k < i → k % 2 = 0 → (nodeAt xs i).pub ≠ 0 → (nodeAt xs k).pub ≠ 0 → (nodeAt xs i).member ≠ (nodeAt xs k).member) (fun s => i - s) 0 ⟨rfl, by omega, fun k hk => by omega⟩ (.c rfl (.c rfl (.c rfl .n))) rfl ?_
    rintro k ⟨z1, z2, z3⟩
    refine x_seq ?_
    refine x_seq ?_
    refine x_region rfl ?_
    refine o_y (y_move rfl) ?_
    refine o_y (y_move rfl) ?_
    refine o_y (y_lss rfl rfl) ?_
    refine o_nil ?_
    refine x_cond rfl (fun hc1 => ?_) (fun hc1 => ?_)
    · try simp only [kk] at hc1
      have hk : k < i := by omega
      have hkl : k < xs.length := by omega
      have ek := nodeAt_eq hkl
      refine x_skip ?_
      refine x_seq ?_
      refine x_block ?_
      refine x_seq ?_
      refine x_regionQ mixed (by kernel_rfl) rfl ?_
      refine q_y (y_fieldAddr fd29_0 ti27 (by decide) rfl) ?_
      refine q_y (y_loadO ti27 rfl inn rfl) ?_
      refine q_y (y_move rfl) ?_
      obtain ⟨ce20, ae20, re20⟩ := RdL.at h _ i hi
      have se20 := AtS.isSl ae20
      have te20 := re20
      obtain ⟨u20_3, z20, q20_0, q20_1, q20_2, q20_3⟩ := re20
      subst z20
      have w20 := Rep.one te20
      refine q_y (y_idxL h i hi underlying27 ti127 rfl rfl (by omega)) ?_
      refine q_y (y_fieldAddrP fd127_0 ti3 (by decide) (by assumption) rfl) ?_
      refine q_y (y_loadS1 ti3 rfl (by assumption) rfl) ?_
      refine q_y (y_neq rfl rfl) ?_
      refine q_y (y_move rfl) ?_
      refine q_split 24 rfl (fun hg7_24 => ?_) (fun hg7_24 => ?_)
      · try simp only [kk] at hg7_24
        refine q_gy 24 rfl rfl (y_fieldAddr fd29_0 ti27 (by decide) rfl) ?_
        refine q_gy 24 rfl rfl (y_loadO ti27 rfl inn rfl) ?_
        refine q_gy 24 rfl rfl (y_move rfl) ?_
        obtain ⟨ce28, ae28, re28⟩ := RdL.at h _ k hkl
        have se28 := AtS.isSl ae28
        have te28 := re28
        obtain ⟨u28_3, z28, q28_0, q28_1, q28_2, q28_3⟩ := re28
        subst z28
        have w28 := Rep.one te28
        refine q_gy 24 rfl rfl (y_idxL h k hkl underlying27 ti127 rfl rfl (by omega)) ?_
        refine q_gy 24 rfl rfl (y_fieldAddrP fd127_0 ti3 (by decide) (by assumption) rfl) ?_
        refine q_gy 24 rfl rfl (y_loadS1 ti3 rfl (by assumption) rfl) ?_
        refine q_gy 24 rfl rfl (y_neq rfl rfl) ?_
        refine q_y (y_pick rfl rfl) ?_
        refine q_y (y_move rfl) ?_
        refine q_split 33 rfl (fun hg7_33 => ?_) (fun hg7_33 => ?_)
        · try simp only [kk] at hg7_33
          refine q_gy 33 rfl rfl (y_fieldAddr fd29_0 ti27 (by decide) rfl) ?_
          refine q_gy 33 rfl rfl (y_loadO ti27 rfl inn rfl) ?_
          refine q_gy 33 rfl rfl (y_move rfl) ?_
          obtain ⟨ce37, ae37, re37⟩ := RdL.at h _ i hi
          have se37 := AtS.isSl ae37
          have te37 := re37
          obtain ⟨u37_3, z37, q37_0, q37_1, q37_2, q37_3⟩ := re37
          subst z37
          have w37 := Rep.one te37
          refine q_gy 33 rfl rfl (y_idxL h i hi underlying27 ti127 rfl rfl (by omega)) ?_
          refine q_gy 33 rfl rfl (y_fieldAddrP fd127_1 ti3 (by decide) (by assumption) rfl) ?_
          refine q_gy 33 rfl rfl (y_loadS1 ti3 rfl (by assumption) rfl) ?_
          refine q_gy 33 rfl rfl (y_fieldAddr fd29_0 ti27 (by decide) rfl) ?_
          refine q_gy 33 rfl rfl (y_loadO ti27 rfl inn rfl) ?_
          refine q_gy 33 rfl rfl (y_move rfl) ?_
          obtain ⟨ce43, ae43, re43⟩ := RdL.at h _ k hkl
          have se43 := AtS.isSl ae43
          have te43 := re43
          obtain ⟨u43_3, z43, q43_0, q43_1, q43_2, q43_3⟩ := re43
          subst z43
          have w43 := Rep.one te43
          refine q_gy 33 rfl rfl (y_idxL h k hkl underlying27 ti127 rfl rfl (by omega)) ?_
          refine q_gy 33 rfl rfl (y_fieldAddrP fd127_1 ti3 (by decide) (by assumption) rfl) ?_
          refine q_gy 33 rfl rfl (y_loadS1 ti3 rfl (by assumption) rfl) ?_
          refine q_gy 33 rfl rfl (y_eql rfl rfl) ?_
          refine q_y (y_pick rfl rfl) ?_
          refine q_nil ?_
          refine x_cond rfl (fun hc2 => ?_) (fun hc2 => ?_)
          · try simp only [kk] at hc2
            refine x_seq ?_
            refine x_region rfl ?_
            refine o_y (y_assign rfl) ?_
            refine o_nil ?_
            refine x_ret ?_
            refine x_fin 1 (ret1 rfl rfl) ?_
            refine ⟨?_, rfl, rfl⟩
            have : twiceB xs = true := by
              exact twiceB_yes ⟨i, k, hi, hk, i1, z1, by rw [ei]; omega, by rw [ek]; omega, by rw [ei, ek]; omega⟩
            rw [this]
          try simp only [kk] at hc2
          refine x_skip ?_
          refine x_region rfl ?_
          refine o_y (y_move rfl) ?_
          refine o_y (y_addN rfl rfl (by omega) (by omega)) ?_
          refine o_y (y_assign rfl) ?_
          refine o_nil ?_
          refine ⟨k + 2, 0, rfl, (.c rfl (.c rfl (.c rfl .n))), rfl, ⟨by omega, by omega, fun j hj hji hj2 hp hq => ?_⟩, by omega⟩
          by_cases e : j = k
          · subst e
            rw [ei] at hp ⊢
            rw [ek] at hq ⊢
            intro hm
            first | exact absurd hm (by assumption) | (exfalso; omega)
          exact z3 j (by omega) hji hj2 hp hq
        try simp only [kk] at hg7_33
        refine q_gn 33 rfl rfl rfl ?_
        refine q_gn 33 rfl rfl rfl ?_
        refine q_gn 33 rfl rfl rfl ?_
        refine q_gn 33 rfl rfl rfl ?_
        refine q_gn 33 rfl rfl rfl ?_
        refine q_gn 33 rfl rfl rfl ?_
        refine q_gn 33 rfl rfl rfl ?_
        refine q_gn 33 rfl rfl rfl ?_
        refine q_gn 33 rfl rfl rfl ?_
        refine q_gn 33 rfl rfl rfl ?_
        refine q_gn 33 rfl rfl rfl ?_
        refine q_gn 33 rfl rfl rfl ?_
        refine q_gn 33 rfl rfl rfl ?_
        refine q_y (y_pick rfl rfl) ?_
        refine q_nil ?_
        refine x_condF rfl ?_
        refine x_skip ?_
        refine x_region rfl ?_
        refine o_y (y_move rfl) ?_
        refine o_y (y_addN rfl rfl (by omega) (by omega)) ?_
        refine o_y (y_assign rfl) ?_
        refine o_nil ?_
        refine ⟨k + 2, 0, rfl, (.c rfl (.c rfl (.c rfl .n))), rfl, ⟨by omega, by omega, fun j hj hji hj2 hp hq => ?_⟩, by omega⟩
        by_cases e : j = k
        · subst e
          rw [ei] at hp ⊢
          rw [ek] at hq ⊢
          intro hm
          first | exact absurd hm (by assumption) | (exfalso; omega)
        exact z3 j (by omega) hji hj2 hp hq
      try simp only [kk] at hg7_24
      refine q_gn 24 rfl rfl rfl ?_
      refine q_gn 24 rfl rfl rfl ?_
      refine q_gn 24 rfl rfl rfl ?_
      refine q_gn 24 rfl rfl rfl ?_
      refine q_gn 24 rfl rfl rfl ?_
      refine q_gn 24 rfl rfl rfl ?_
      refine q_gn 24 rfl rfl rfl ?_
      refine q_y (y_pick rfl rfl) ?_
      refine q_y (y_move rfl) ?_
      refine q_gn 33 rfl rfl rfl ?_
      refine q_gn 33 rfl rfl rfl ?_
      refine q_gn 33 rfl rfl rfl ?_
      refine q_gn 33 rfl rfl rfl ?_
      refine q_gn 33 rfl rfl rfl ?_
      refine q_gn 33 rfl rfl rfl ?_
      refine q_gn 33 rfl rfl rfl ?_
      refine q_gn 33 rfl rfl rfl ?_
      refine q_gn 33 rfl rfl rfl ?_
      refine q_gn 33 rfl rfl rfl ?_
      refine q_gn 33 rfl rfl rfl ?_
      refine q_gn 33 rfl rfl rfl ?_
      refine q_gn 33 rfl rfl rfl ?_
      refine q_y (y_pick rfl rfl) ?_
      refine q_nil ?_
      refine x_condF rfl ?_
      refine x_skip ?_
      refine x_region rfl ?_
      refine o_y (y_move rfl) ?_
      refine o_y (y_addN rfl rfl (by omega) (by omega)) ?_
      refine o_y (y_assign rfl) ?_
      refine o_nil ?_
      refine ⟨k + 2, 0, rfl, (.c rfl (.c rfl (.c rfl .n))), rfl, ⟨by omega, by omega, fun j hj hji hj2 hp hq => ?_⟩, by omega⟩
      by_cases e : j = k
      · subst e
        rw [ei] at hp ⊢
        rw [ek] at hq ⊢
        intro hm
        first | exact absurd hm (by assumption) | (exfalso; omega)
      exact z3 j (by omega) hji hj2 hp hq
    try simp only [kk] at hc1
    refine x_exit ?_
    refine x_region rfl ?_
    refine o_y (y_move rfl) ?_
    refine o_y (y_addN rfl rfl (by omega) (by omega)) ?_
    refine o_y (y_assign rfl) ?_
    refine o_nil ?_
    refine ⟨i + 2, 0, rfl, (.c rfl (.c rfl .n)), rfl, ⟨by omega, by omega, fun j q hj hjl hq hj2 hq2 hp hp2 => ?_⟩, by omega⟩
    by_cases e : j = i
    · subst e; exact z3 q (by omega) hq hq2 hp hp2
    exact i3 j q (by omega) hjl hq hj2 hq2 hp hp2
  try simp only [kk] at hc0
  refine x_exit ?_
  refine x_seq ?_
  refine x_region rfl ?_
  refine o_y (y_assign rfl) ?_
  refine o_nil ?_
  refine x_ret ?_
  refine x_fin 1 (ret1 rfl rfl) ?_
  refine ⟨?_, rfl, rfl⟩
  have : twiceB xs = false := by
    refine twiceB_no ?_
    rintro ⟨j, q, h1, h2, h3, h4, h5, h6, h7⟩
    exact i3 j q (by omega) h1 h2 h3 h4 h5 h6 h7
  rw [this]
theorem rsome_ok {B : World} {H : HM} {O : OL} {v : Value} {xs : List Node} (h : RdL H v xs) (f : Nat) (hf : f ≤ 8) : CallsM prog 271 [.agg #[v], .int .i64 f].toArray B H O (Same (.bool (someB xs f)) H O) := by
  have hs := h.lenle
  refine enter func271 rfl ntmps271 (l := [(0, _), (1, _)]) rfl rfl ?_
  refine x_seq ?_
  refine x_region rfl ?_
  refine o_box rfl (cs := [_]) rfl (fun b2 => ?_)
  refine o_y (y_assign rfl) ?_
  refine o_nil ?_
  refine x_seq ?_
  refine x_seq ?_
  refine x_region rfl ?_
  refine o_y (y_move rfl) ?_
  refine o_y (y_mulN rfl rfl (by omega) (by omega)) ?_
  refine o_y (y_assign rfl) ?_
  refine o_nil ?_
  refine x_block ?_
  refine x_loopf (σ := Nat) (fun s => [(5, .int .i64 (s : Int)), (2, .pointer (some ⟨b2, 0, none⟩))]) (fun s => (b2, cl [v] 29) :: O) (fun s => s % 2 = 0 ∧ 2 * f ≤ s ∧ s ≤ xs.length + 17 ∧ ∀ i, i < s → i < xs.length → i % 2 = 0 → 2 * f ≤ i → (nodeAt xs i).pub = 0) (fun s => xs.length + 17 - s) (2 * f) ⟨by omega, Nat.le_refl _, by omega, fun i h1 h2 h3 h4 => by omega⟩ (.c (by push_cast; rfl) (.c rfl .n)) rfl ?_
  rintro i ⟨i1, i2, i3, i4⟩
  refine x_seq ?_
  refine x_seq ?_
  refine x_region rfl ?_
  refine o_y (y_move rfl) ?_
  refine o_y (y_fieldAddr fd29_0 ti27 (by decide) rfl) ?_
  refine o_y (y_loadO ti27 rfl inn rfl) ?_
  refine o_y (y_lenA underlying27 rfl) ?_
  refine o_y (y_lss rfl rfl) ?_
  refine o_nil ?_
  refine x_cond rfl (fun hc0 => ?_) (fun hc0 => ?_)
  · try simp only [kk] at hc0
    have hi : i < xs.length := by omega
    have ei := nodeAt_eq hi
    refine x_skip ?_
    refine x_seq ?_
    refine x_block ?_
    refine x_seq ?_
    refine x_region rfl ?_
    refine o_y (y_fieldAddr fd29_0 ti27 (by decide) rfl) ?_
    refine o_y (y_loadO ti27 rfl inn rfl) ?_
    refine o_y (y_move rfl) ?_
    obtain ⟨ce18, ae18, re18⟩ := RdL.at h _ i hi
    have se18 := AtS.isSl ae18
    have te18 := re18
    obtain ⟨u18_3, z18, q18_0, q18_1, q18_2, q18_3⟩ := re18
    subst z18
    have w18 := Rep.one te18
    refine o_y (y_idxL h i hi underlying27 ti127 rfl rfl (by omega)) ?_
    refine o_y (y_fieldAddrP fd127_0 ti3 (by decide) (by assumption) rfl) ?_
    refine o_y (y_loadS1 ti3 rfl (by assumption) rfl) ?_
    refine o_y (y_neq rfl rfl) ?_
    refine o_nil ?_
    refine x_cond rfl (fun hc1 => ?_) (fun hc1 => ?_)
    · try simp only [kk] at hc1
      refine x_seq ?_
      refine x_region rfl ?_
      refine o_y (y_assign rfl) ?_
      refine o_nil ?_
      refine x_ret ?_
      refine x_fin 1 (ret1 rfl rfl) ?_
      refine ⟨?_, rfl, rfl⟩
      have : someB xs f = true := by
        unfold someB
        refine decide_eq_true ?_
        exact ⟨i, hi, i1, i2, by rw [ei]; omega⟩
      rw [this]
    try simp only [kk] at hc1
    refine x_skip ?_
    refine x_region rfl ?_
    refine o_y (y_move rfl) ?_
    refine o_y (y_addN rfl rfl (by omega) (by omega)) ?_
    refine o_y (y_assign rfl) ?_
    refine o_nil ?_
    refine ⟨i + 2, 0, rfl, (.c rfl (.c rfl .n)), rfl, ⟨by omega, by omega, by omega, fun j hj hjl hj2 hf => ?_⟩, by omega⟩
    by_cases e : j = i
    · subst e; rw [ei]; omega
    exact i4 j (by omega) hjl hj2 hf
  try simp only [kk] at hc0
  refine x_exit ?_
  refine x_seq ?_
  refine x_region rfl ?_
  refine o_y (y_assign rfl) ?_
  refine o_nil ?_
  refine x_ret ?_
  refine x_fin 1 (ret1 rfl rfl) ?_
  refine ⟨?_, rfl, rfl⟩
  have : someB xs f = false := by
    unfold someB
    refine decide_eq_false ?_
    rintro ⟨j, h1, h2, h3, h4⟩
    exact h4 (i4 j (by omega) h1 h2 h3)
  rw [this]
theorem goodAt_leafB {xs : List Node} {j : Nat} (h : ¬ j % 2 = 1) (hl : leafB (nodeAt xs j) = false) : goodAt xs j = false := by
  unfold leafB at hl
  cases hb : (nodeAt xs j).blankB with
  | true => rw [hb] at hl; cases hl
  | false =>
    rw [hb] at hl
    rw [goodAt_leaf h hb]
    simp only [Bool.false_or, Bool.and_eq_false_iff, decide_eq_false_iff_not] at hl
    have h5 : (nodeAt xs j).unmerged.length = 0 ↔ ((nodeAt xs j).unmerged.length : Int) = 0 := by omega
    rcases hl with h1 | h1 | h1 | h1
    · simp [show ¬ 1 ≤ (nodeAt xs j).pub by omega]
    · simp [h1]
    · simp [h1]
    have : ¬ (nodeAt xs j).unmerged.length = 0 := by omega
    have h6 : (nodeAt xs j).unmerged ≠ [] := fun e => this (by rw [e]; rfl)
    simp [h6]
theorem leafB_pub {n : Node} (h : leafB n = true) : n.blankB = decide (n.pub = 0) := by
  unfold leafB at h
  cases hb : n.blankB with
  | true => simp [Node.blankB] at hb; simp [hb]
  | false => rw [hb] at h; simp at h; simp; omega
theorem memsTo_mem {xs : List Node} {m : Int} : ∀ {k : Nat}, m ∈ memsTo xs k ↔ ∃ i, i < k ∧ isLeaf xs i = true ∧ (nodeAt xs i).member = m
  | 0 => by simp [memsTo]
  | k + 1 => by
    rw [memsTo, List.mem_append, memsTo_mem (k := k)]
    constructor
    · rintro (⟨i, h1, h2, h3⟩ | h)
      · exact ⟨i, by omega, h2, h3⟩
      split at h
      · rename_i hl
        exact ⟨k, by omega, hl, (List.mem_singleton.1 h).symm⟩
      simp at h
    rintro ⟨i, h1, h2, h3⟩
    by_cases e : i = k
    · subst e; right; rw [if_pos h2]; simp [h3]
    exact .inl ⟨i, by omega, h2, h3⟩
theorem lastTo_ge {xs : List Node} {f : Int} : ∀ {k : Nat}, 0 ≤ f → (f ≤ lastTo xs k ↔ ∃ i, i < k ∧ isLeaf xs i = true ∧ f ≤ ((i / 2 : Nat) : Int))
  | 0, hf => by simp [lastTo]; omega
  | k + 1, hf => by
    have ih := lastTo_ge (xs := xs) (k := k) hf
    by_cases hl : isLeaf xs k = true
    · rw [lastTo_yes hl]
      constructor
      · intro h; exact ⟨k, by omega, hl, h⟩
      rintro ⟨i, h1, h2, h3⟩; omega
    rw [Bool.not_eq_true] at hl
    rw [lastTo_no hl, ih]
    constructor
    · rintro ⟨i, h1, h2⟩; exact ⟨i, by omega, h2⟩
    rintro ⟨i, h1, h2, h3⟩
    refine ⟨i, ?_, h2, h3⟩
    by_cases e : i = k
    · subst e; rw [hl] at h2; cases h2
    omega
theorem isLeaf_pub {xs : List Node} (ha : ∀ j, j < xs.length → (j % 2 = 0 → leafB (nodeAt xs j) = true) ∧ (j % 2 = 1 → parentB xs j = true)) {i : Nat} (hi : i < xs.length) : isLeaf xs i = true ↔ i % 2 = 0 ∧ (nodeAt xs i).pub ≠ 0 := by
  unfold isLeaf
  by_cases h : i % 2 = 0
  · have := leafB_pub ((ha i hi).1 h)
    rw [this]; simp [h]
  simp [h]
theorem check_two {xs : List Node} (h0 : xs.length ≠ 0) (h1 : leavesN xs.length ≠ 0) (ha : ∀ j, j < xs.length → (j % 2 = 0 → leafB (nodeAt xs j) = true) ∧ (j % 2 = 1 → parentB xs j = true)) : checkB xs = (!twiceB xs && (someB xs 0 && (decide (leavesN xs.length ≤ 1) || someB xs (leavesN xs.length / 2)))) := by
  have hlast := fun f hf => lastTo_ge (xs := xs) (f := f) (k := xs.length) hf
  have hgood : (List.range xs.length).all (goodAt xs) = !twiceB xs := by
    rw [Bool.eq_iff_iff, List.all_eq_true]
    unfold twiceB
    simp only [Bool.not_eq_true', decide_eq_false_iff_not, List.mem_range]
    constructor
    · rintro h ⟨i, k, hi, hk, hi2, hk2, hp, hq, hm⟩
      have hg := h i hi
      have hb : (nodeAt xs i).blankB = false := by rw [leafB_pub ((ha i hi).1 hi2)]; simpa using hp
      rw [goodAt_leaf (by omega) hb] at hg
      have : (nodeAt xs i).member ∈ memsTo xs i := memsTo_mem.2 ⟨k, hk, (isLeaf_pub ha (by omega)).2 ⟨hk2, hq⟩, hm.symm⟩
      simp [this] at hg
    intro h i hi
    by_cases hi2 : i % 2 = 1
    · rw [goodAt_odd hi2]; exact (ha i hi).2 hi2
    have hl := (ha i hi).1 (by omega)
    by_cases hb : (nodeAt xs i).blankB = true
    · exact goodAt_blank hi2 hb
    rw [Bool.not_eq_true] at hb
    rw [goodAt_leaf hi2 hb]
    have hn : ¬ (nodeAt xs i).member ∈ memsTo xs i := fun hm => by
      obtain ⟨k, hk, hkl, hkm⟩ := memsTo_mem.1 hm
      obtain ⟨hk2, hkp⟩ := (isLeaf_pub ha (by omega)).1 hkl
      have hp : (nodeAt xs i).pub ≠ 0 := by have := leafB_pub hl; rw [hb] at this; simpa using this.symm
      exact h ⟨i, k, hi, hk, by omega, hk2, hp, hkp, hkm.symm⟩
    unfold leafB at hl
    rw [hb] at hl
    simp at hl
    have hu : (nodeAt xs i).unmerged = [] := hl.2.2.2
    simp [hn, hu, hl.2.1, hl.2.2.1, show 1 ≤ (nodeAt xs i).pub by omega]
  have hsome : ∀ f : Nat, (f : Int) ≤ lastTo xs xs.length ↔ someB xs f = true := fun f => by
    rw [hlast (f : Int) (by omega)]
    unfold someB
    rw [decide_eq_true_eq]
    constructor
    · rintro ⟨i, hi, hl, hf⟩
      obtain ⟨h2, hp⟩ := (isLeaf_pub ha hi).1 hl
      exact ⟨i, hi, h2, by omega, hp⟩
    rintro ⟨i, hi, h2, hf, hp⟩
    exact ⟨i, hi, (isLeaf_pub ha hi).2 ⟨h2, hp⟩, by omega⟩
  have e : (((leavesN xs.length : Nat) : Int) / 2 ≤ lastTo xs xs.length) ↔ someB xs (leavesN xs.length / 2) = true := by
    rw [← hsome]; simp
  have hmono : someB xs (leavesN xs.length / 2) = true → someB xs 0 = true := fun h => by
    rw [← hsome] at h ⊢; omega
  unfold checkB
  rw [hgood, decide_eq_false h0, Bool.false_or, decide_eq_true h1, Bool.true_and]
  congr 1
  rw [Bool.eq_iff_iff, decide_eq_true_eq, e, Bool.and_eq_true, Bool.or_eq_true, decide_eq_true_eq]
  constructor
  · intro h; exact ⟨hmono h, .inr h⟩
  rintro ⟨h2, h3 | h3⟩
  · have : leavesN xs.length / 2 = 0 := by omega
    rw [this]; exact h2
  exact h3
theorem rcheck_ok {B : World} {H : HM} {O : OL} {v : Value} {xs : List Node} (h : RdL H v xs) : CallsM prog 188 [.agg #[v]].toArray B H O (Same (.int .i64 (errI (checkB xs))) H O) := by
  have hs := h.lenle
  have h8 := leavesN_le xs.length
  refine enter func188 rfl ntmps188 (l := [(0, _)]) rfl rfl ?_
  refine x_seq ?_
  refine x_region rfl ?_
  refine o_box rfl (cs := [_]) rfl (fun b1 => ?_)
  refine o_y (y_assign rfl) ?_
  refine o_nil ?_
  refine x_seq ?_
  refine x_seq ?_
  refine x_region rfl ?_
  refine o_y (y_fieldAddr fd29_0 ti27 (by decide) rfl) ?_
  refine o_y (y_loadO ti27 rfl inn rfl) ?_
  refine o_y (y_lenA underlying27 rfl) ?_
  refine o_y (y_eql rfl rfl) ?_
  refine o_nil ?_
  refine x_cond rfl (fun hc0 => ?_) (fun hc0 => ?_)
  · try simp only [kk] at hc0
    refine x_seq ?_
    refine x_region rfl ?_
    refine o_y (y_assign rfl) ?_
    refine o_nil ?_
    refine x_ret ?_
    refine x_fin 1 (ret1 rfl rfl) ?_
    rw [checkB_nil (by omega)]; exact ⟨rfl, rfl, rfl⟩
  try simp only [kk] at hc0
  refine x_skip ?_
  refine x_seq ?_
  refine x_region rfl ?_
  refine o_y (y_loadA ti29 rfl inn rfl) ?_
  refine o_call fn267 rfl (rleaves_ok h) ?_
  rintro _ _ _ ⟨rfl, rfl, rfl⟩
  refine o_y (y_assign rfl) ?_
  refine o_nil ?_
  refine x_seq ?_
  refine x_seq ?_
  refine x_region rfl ?_
  refine o_y (y_move rfl) ?_
  refine o_y (y_eql rfl rfl) ?_
  refine o_nil ?_
  refine x_cond rfl (fun hc1 => ?_) (fun hc1 => ?_)
  · try simp only [kk] at hc1
    refine x_seq ?_
    refine x_region rfl ?_
    refine o_y (y_assign rfl) ?_
    refine o_nil ?_
    refine x_ret ?_
    refine x_fin 1 (ret1 rfl rfl) ?_
    rw [checkB_len (by omega) (by omega)]; exact ⟨rfl, rfl, rfl⟩
  try simp only [kk] at hc1
  have hl := leavesN_len (m := xs.length) (by omega)
  have h15 := hl.le
  refine x_skip ?_
  refine x_seq ?_
  refine x_seq ?_
  refine x_region rfl ?_
  refine o_y (y_assign rfl) ?_
  refine o_nil ?_
  refine x_block ?_
  refine x_loopf (σ := Nat) (fun s => [(4, .int .i64 (s : Int)), (3, .int .i64 (leavesN xs.length : Int)), (1, .pointer (some ⟨b1, 0, none⟩))]) (fun s => (b1, cl [v] 29) :: O) (fun s => s ≤ xs.length ∧ ∀ j, j < s → (j % 2 = 0 → leafB (nodeAt xs j) = true) ∧ (j % 2 = 1 → parentB xs j = true)) (fun s => xs.length - s) 0 ⟨by simp, fun j hj => by omega⟩ (.c rfl (.c rfl (.c rfl .n))) rfl ?_
  rintro k ⟨i1, i2⟩
  refine x_seq ?_
  refine x_seq ?_
  refine x_region rfl ?_
  refine o_y (y_move rfl) ?_
  refine o_y (y_fieldAddr fd29_0 ti27 (by decide) rfl) ?_
  refine o_y (y_loadO ti27 rfl inn rfl) ?_
  refine o_y (y_lenA underlying27 rfl) ?_
  refine o_y (y_lss rfl rfl) ?_
  refine o_nil ?_
  refine x_cond rfl (fun hc2 => ?_) (fun hc2 => ?_)
  · try simp only [kk] at hc2
    have hk : k < xs.length := by omega
    have en := nodeAt_eq hk
    refine x_skip ?_
    refine x_seq ?_
    refine x_block ?_
    refine x_seq ?_
    refine x_region rfl ?_
    refine o_y (y_move rfl) ?_
    refine o_y (y_remN rfl rfl (by omega) (by omega)) ?_
    refine o_y (y_eql rfl rfl) ?_
    refine o_y (y_move rfl) ?_
    refine o_split 23 rfl (fun hg9_23 => ?_) (fun hg9_23 => ?_)
    · try simp only [kk] at hg9_23
      refine o_gy 23 rfl rfl (y_fieldAddr fd29_0 ti27 (by decide) rfl) ?_
      refine o_gy 23 rfl rfl (y_loadO ti27 rfl inn rfl) ?_
      refine o_gy 23 rfl rfl (y_move rfl) ?_
      obtain ⟨ce27, ae27, re27⟩ := RdL.at h _ k hk
      have se27 := AtS.isSl ae27
      have te27 := re27
      obtain ⟨u27_3, z27, q27_0, q27_1, q27_2, q27_3⟩ := re27
      subst z27
      have w27 := Rep.one te27
      refine o_gy 23 rfl rfl (y_idxL h k hk underlying27 ti127 rfl rfl (by omega)) ?_
      refine o_gy 23 rfl rfl (y_loadS ti127 rfl (by assumption) rfl (fun e => by cases e)) ?_
      refine o_gcall 23 rfl rfl fn268 rfl (rleaf_ok te27) ?_
      rintro _ _ _ ⟨rfl, rfl, rfl⟩
      refine o_gy 23 rfl rfl (y_not rfl) ?_
      refine o_y (y_pick rfl rfl) ?_
      refine o_y (y_move rfl) ?_
      refine o_split 32 rfl (fun hg9_32 => ?_) (fun hg9_32 => ?_)
      · try simp only [kk] at hg9_32
        refine o_gn 32 rfl rfl rfl ?_
        refine o_gn 32 rfl rfl rfl ?_
        refine o_gn 32 rfl rfl rfl ?_
        refine o_gn 32 rfl rfl rfl ?_
        refine o_gu 36 rfl rfl ?_
        refine o_gu 36 rfl rfl ?_
        refine o_gu 36 rfl rfl ?_
        refine o_gu 36 rfl rfl ?_
        refine o_gn 32 rfl rfl rfl ?_
        refine o_y (y_pick rfl rfl) ?_
        refine o_nil ?_
        refine x_condT rfl ?_
        refine x_seq ?_
        refine x_region rfl ?_
        refine o_y (y_assign rfl) ?_
        refine o_nil ?_
        refine x_ret ?_
        refine x_fin 1 (ret1 rfl rfl) ?_
        refine ⟨?_, rfl, rfl⟩
        rw [checkB_bad hk]
        first
          | (rw [goodAt_odd (by omega)]; assumption)
          | exact goodAt_leafB (by omega) (by rw [en]; assumption)
          | (exfalso; omega)
      try simp only [kk] at hg9_32
      refine o_gy 32 rfl rfl (y_move rfl) ?_
      refine o_gy 32 rfl rfl (y_remN rfl rfl (by omega) (by omega)) ?_
      refine o_gy 32 rfl rfl (y_eql rfl rfl) ?_
      refine o_gy 32 rfl rfl (y_move rfl) ?_
      refine o_split 36 rfl (fun hg9_36 => ?_) (fun hg9_36 => ?_)
      · try simp only [kk] at hg9_36
        refine o_gy 36 rfl rfl (y_loadA ti29 rfl inn rfl) ?_
        refine o_gy 36 rfl rfl (y_move rfl) ?_
        refine o_gcall 36 rfl rfl fn269 rfl (rparent_ok h hl k hk) ?_
        rintro _ _ _ ⟨rfl, rfl, rfl⟩
        refine o_gy 36 rfl rfl (y_not rfl) ?_
        refine o_gy 32 rfl rfl (y_pick rfl rfl) ?_
        refine o_y (y_pick rfl rfl) ?_
        refine o_nil ?_
        refine x_cond rfl (fun hc3 => ?_) (fun hc3 => ?_)
        · try simp only [kk] at hc3
          refine x_seq ?_
          refine x_region rfl ?_
          refine o_y (y_assign rfl) ?_
          refine o_nil ?_
          refine x_ret ?_
          refine x_fin 1 (ret1 rfl rfl) ?_
          refine ⟨?_, rfl, rfl⟩
          rw [checkB_bad hk]
          first
            | (rw [goodAt_odd (by omega)]; assumption)
            | exact goodAt_leafB (by omega) (by rw [en]; assumption)
            | (exfalso; omega)
        try simp only [kk] at hc3
        refine x_skip ?_
        refine x_region rfl ?_
        refine o_y (y_move rfl) ?_
        refine o_y (y_addN rfl rfl (by omega) (by omega)) ?_
        refine o_y (y_assign rfl) ?_
        refine o_nil ?_
        refine ⟨k + 1, 0, rfl, (.c rfl (.c rfl (.c rfl .n))), rfl, ⟨by omega, fun j hj => ?_⟩, by omega⟩
        by_cases e : j = k
        · subst e
          refine ⟨fun h2 => ?_, fun h2 => ?_⟩
          · first | (rw [en]; assumption) | (exfalso; omega)
          first | assumption | (exfalso; omega)
        exact i2 j (by omega)
      try simp only [kk] at hg9_36
      refine o_gn 36 rfl rfl rfl ?_
      refine o_gn 36 rfl rfl rfl ?_
      refine o_gn 36 rfl rfl rfl ?_
      refine o_gn 36 rfl rfl rfl ?_
      refine o_gy 32 rfl rfl (y_pick rfl rfl) ?_
      refine o_y (y_pick rfl rfl) ?_
      refine o_nil ?_
      refine x_condF rfl ?_
      refine x_skip ?_
      refine x_region rfl ?_
      refine o_y (y_move rfl) ?_
      refine o_y (y_addN rfl rfl (by omega) (by omega)) ?_
      refine o_y (y_assign rfl) ?_
      refine o_nil ?_
      refine ⟨k + 1, 0, rfl, (.c rfl (.c rfl (.c rfl .n))), rfl, ⟨by omega, fun j hj => ?_⟩, by omega⟩
      by_cases e : j = k
      · subst e
        refine ⟨fun h2 => ?_, fun h2 => ?_⟩
        · first | (rw [en]; assumption) | (exfalso; omega)
        first | assumption | (exfalso; omega)
      exact i2 j (by omega)
    try simp only [kk] at hg9_23
    refine o_gn 23 rfl rfl rfl ?_
    refine o_gn 23 rfl rfl rfl ?_
    refine o_gn 23 rfl rfl rfl ?_
    refine o_gn 23 rfl rfl rfl ?_
    refine o_gn 23 rfl rfl rfl ?_
    refine o_gn 23 rfl rfl rfl ?_
    refine o_gn 23 rfl rfl rfl ?_
    refine o_y (y_pick rfl rfl) ?_
    refine o_y (y_move rfl) ?_
    refine o_gy 32 rfl rfl (y_move rfl) ?_
    refine o_gy 32 rfl rfl (y_remN rfl rfl (by omega) (by omega)) ?_
    refine o_gy 32 rfl rfl (y_eql rfl rfl) ?_
    refine o_gy 32 rfl rfl (y_move rfl) ?_
    refine o_split 36 rfl (fun hg9_36 => ?_) (fun hg9_36 => ?_)
    · try simp only [kk] at hg9_36
      refine o_gy 36 rfl rfl (y_loadA ti29 rfl inn rfl) ?_
      refine o_gy 36 rfl rfl (y_move rfl) ?_
      refine o_gcall 36 rfl rfl fn269 rfl (rparent_ok h hl k hk) ?_
      rintro _ _ _ ⟨rfl, rfl, rfl⟩
      refine o_gy 36 rfl rfl (y_not rfl) ?_
      refine o_gy 32 rfl rfl (y_pick rfl rfl) ?_
      refine o_y (y_pick rfl rfl) ?_
      refine o_nil ?_
      refine x_cond rfl (fun hc3 => ?_) (fun hc3 => ?_)
      · try simp only [kk] at hc3
        refine x_seq ?_
        refine x_region rfl ?_
        refine o_y (y_assign rfl) ?_
        refine o_nil ?_
        refine x_ret ?_
        refine x_fin 1 (ret1 rfl rfl) ?_
        refine ⟨?_, rfl, rfl⟩
        rw [checkB_bad hk]
        first
          | (rw [goodAt_odd (by omega)]; assumption)
          | exact goodAt_leafB (by omega) (by rw [en]; assumption)
          | (exfalso; omega)
      try simp only [kk] at hc3
      refine x_skip ?_
      refine x_region rfl ?_
      refine o_y (y_move rfl) ?_
      refine o_y (y_addN rfl rfl (by omega) (by omega)) ?_
      refine o_y (y_assign rfl) ?_
      refine o_nil ?_
      refine ⟨k + 1, 0, rfl, (.c rfl (.c rfl (.c rfl .n))), rfl, ⟨by omega, fun j hj => ?_⟩, by omega⟩
      by_cases e : j = k
      · subst e
        refine ⟨fun h2 => ?_, fun h2 => ?_⟩
        · first | (rw [en]; assumption) | (exfalso; omega)
        first | assumption | (exfalso; omega)
      exact i2 j (by omega)
    try simp only [kk] at hg9_36
    refine o_gn 36 rfl rfl rfl ?_
    refine o_gn 36 rfl rfl rfl ?_
    refine o_gn 36 rfl rfl rfl ?_
    refine o_gn 36 rfl rfl rfl ?_
    refine o_gy 32 rfl rfl (y_pick rfl rfl) ?_
    refine o_y (y_pick rfl rfl) ?_
    refine o_nil ?_
    refine x_condF rfl ?_
    refine x_skip ?_
    refine x_region rfl ?_
    refine o_y (y_move rfl) ?_
    refine o_y (y_addN rfl rfl (by omega) (by omega)) ?_
    refine o_y (y_assign rfl) ?_
    refine o_nil ?_
    refine ⟨k + 1, 0, rfl, (.c rfl (.c rfl (.c rfl .n))), rfl, ⟨by omega, fun j hj => ?_⟩, by omega⟩
    by_cases e : j = k
    · subst e
      refine ⟨fun h2 => ?_, fun h2 => ?_⟩
      · first | (rw [en]; assumption) | (exfalso; omega)
      first | assumption | (exfalso; omega)
    exact i2 j (by omega)
  try simp only [kk] at hc2
  refine x_exit ?_
  refine x_seq ?_
  refine x_seq ?_
  obtain rfl : k = xs.length := by omega
  have hct := check_two (by omega) (by omega) i2
  refine x_region rfl ?_
  refine o_y (y_loadA ti29 rfl inn rfl) ?_
  refine o_call fn270 rfl (rtwice_ok h) ?_
  rintro _ _ _ ⟨rfl, rfl, rfl⟩
  refine o_y (y_move rfl) ?_
  refine o_split 45 rfl (fun hg11_45 => ?_) (fun hg11_45 => ?_)
  · try simp only [kk] at hg11_45
    refine o_gn 45 rfl rfl rfl ?_
    refine o_gn 45 rfl rfl rfl ?_
    refine o_gn 45 rfl rfl rfl ?_
    refine o_y (y_pick rfl rfl) ?_
    refine o_y (y_move rfl) ?_
    refine o_gn 50 rfl rfl rfl ?_
    refine o_gn 50 rfl rfl rfl ?_
    refine o_gn 50 rfl rfl rfl ?_
    refine o_gu 53 rfl rfl ?_
    refine o_gu 53 rfl rfl ?_
    refine o_gu 53 rfl rfl ?_
    refine o_gu 53 rfl rfl ?_
    refine o_gu 53 rfl rfl ?_
    refine o_gn 50 rfl rfl rfl ?_
    refine o_y (y_pick rfl rfl) ?_
    refine o_nil ?_
    refine x_condT rfl ?_
    refine x_seq ?_
    refine x_region rfl ?_
    refine o_y (y_assign rfl) ?_
    refine o_nil ?_
    refine x_ret ?_
    refine x_fin 1 (ret1 rfl rfl) ?_
    have : checkB xs = false := by
      rw [hct]
      simp_all <;> omega
    rw [this]; exact ⟨rfl, rfl, rfl⟩
  try simp only [kk] at hg11_45
  refine o_gy 45 rfl rfl (y_loadA ti29 rfl inn rfl) ?_
  refine o_gcall 45 rfl rfl fn271 rfl (rsome_ok h 0 (by omega)) ?_
  rintro _ _ _ ⟨rfl, rfl, rfl⟩
  refine o_gy 45 rfl rfl (y_not rfl) ?_
  refine o_y (y_pick rfl rfl) ?_
  refine o_y (y_move rfl) ?_
  refine o_split 50 rfl (fun hg11_50 => ?_) (fun hg11_50 => ?_)
  · try simp only [kk] at hg11_50
    refine o_gn 50 rfl rfl rfl ?_
    refine o_gn 50 rfl rfl rfl ?_
    refine o_gn 50 rfl rfl rfl ?_
    refine o_gu 53 rfl rfl ?_
    refine o_gu 53 rfl rfl ?_
    refine o_gu 53 rfl rfl ?_
    refine o_gu 53 rfl rfl ?_
    refine o_gu 53 rfl rfl ?_
    refine o_gn 50 rfl rfl rfl ?_
    refine o_y (y_pick rfl rfl) ?_
    refine o_nil ?_
    refine x_condT rfl ?_
    refine x_seq ?_
    refine x_region rfl ?_
    refine o_y (y_assign rfl) ?_
    refine o_nil ?_
    refine x_ret ?_
    refine x_fin 1 (ret1 rfl rfl) ?_
    have : checkB xs = false := by
      rw [hct]
      simp_all <;> omega
    rw [this]; exact ⟨rfl, rfl, rfl⟩
  try simp only [kk] at hg11_50
  refine o_gy 50 rfl rfl (y_move rfl) ?_
  refine o_gy 50 rfl rfl (y_gtr rfl rfl) ?_
  refine o_gy 50 rfl rfl (y_move rfl) ?_
  refine o_split 53 rfl (fun hg11_53 => ?_) (fun hg11_53 => ?_)
  · try simp only [kk] at hg11_53
    refine o_gy 53 rfl rfl (y_loadA ti29 rfl inn rfl) ?_
    refine o_gy 53 rfl rfl (y_move rfl) ?_
    refine o_gy 53 rfl rfl (y_quoN rfl rfl (by omega) (by omega) (by omega)) ?_
    have e14 : ((leavesN xs.length : Nat) : Int) / 2 = ((leavesN xs.length / 2 : Nat) : Int) := by omega
    rw [e14]
    refine o_gcall 53 rfl rfl fn271 rfl (rsome_ok h (leavesN xs.length / 2) (by omega)) ?_
    rintro _ _ _ ⟨rfl, rfl, rfl⟩
    refine o_gy 53 rfl rfl (y_not rfl) ?_
    refine o_gy 50 rfl rfl (y_pick rfl rfl) ?_
    refine o_y (y_pick rfl rfl) ?_
    refine o_nil ?_
    refine x_cond rfl (fun hc4 => ?_) (fun hc4 => ?_)
    · try simp only [kk] at hc4
      refine x_seq ?_
      refine x_region rfl ?_
      refine o_y (y_assign rfl) ?_
      refine o_nil ?_
      refine x_ret ?_
      refine x_fin 1 (ret1 rfl rfl) ?_
      have : checkB xs = false := by
        rw [hct]
        simp_all <;> omega
      rw [this]; exact ⟨rfl, rfl, rfl⟩
    try simp only [kk] at hc4
    refine x_skip ?_
    refine x_seq ?_
    refine x_region rfl ?_
    refine o_y (y_assign rfl) ?_
    refine o_nil ?_
    refine x_ret ?_
    refine x_fin 1 (ret1 rfl rfl) ?_
    have : checkB xs = true := by
      rw [hct]
      simp_all
      try omega
    rw [this]; exact ⟨rfl, rfl, rfl⟩
  try simp only [kk] at hg11_53
  refine o_gn 53 rfl rfl rfl ?_
  refine o_gn 53 rfl rfl rfl ?_
  refine o_gn 53 rfl rfl rfl ?_
  refine o_gn 53 rfl rfl rfl ?_
  refine o_gn 53 rfl rfl rfl ?_
  refine o_gy 50 rfl rfl (y_pick rfl rfl) ?_
  refine o_y (y_pick rfl rfl) ?_
  refine o_nil ?_
  refine x_condF rfl ?_
  refine x_skip ?_
  refine x_seq ?_
  refine x_region rfl ?_
  refine o_y (y_assign rfl) ?_
  refine o_nil ?_
  refine x_ret ?_
  refine x_fin 1 (ret1 rfl rfl) ?_
  have : checkB xs = true := by
    rw [hct]
    simp_all
    try omega
  rw [this]; exact ⟨rfl, rfl, rfl⟩
end Go.Ph
set_option linter.unusedVariables false
set_option linter.unusedSimpArgs false
set_option maxRecDepth 100000
namespace Go.Ph
open Go Go.RowKit Go.Proofs.YtmgnagpgnoikfaaGreatDoor Go.Proofs.Tryz
theorem rmay_ok {B : World} {H : HM} {O : OL} {cs : List Value} {c : Commit} (h : Rep.rd H cs c) : CallsM prog 45 [.agg cs.toArray].toArray B H O (Same (.bool (takeB c)) H O) := by
  obtain ⟨u6, u7, u8, u9, u12, rfl, h0, h1, h2, h3, h4, h5, h6, h7, h8, h9, h10, h11, h12, h13⟩ := h
  have hc := errI_cases (checkB c.next_.nodes)
  refine enter func45 rfl ntmps45 (l := [(0, _)]) rfl rfl ?_
  refine x_seq ?_
  refine x_region rfl ?_
  refine o_box rfl (cs := [_, _, _, _, _, _, _, _, _, _, _, _, _, _, _]) rfl (fun b1 => ?_)
  refine o_y (y_assign rfl) ?_
  refine o_nil ?_
  refine x_seq ?_
  refine x_region rfl ?_
  refine o_y (y_fieldAddr fd31_1 ti3 (by decide) rfl) ?_
  refine o_y (y_loadO ti3 rfl inn rfl) ?_
  refine o_y (y_geq rfl rfl) ?_
  refine o_y (y_move rfl) ?_
  refine o_split 6 rfl (fun hg1_6 => ?_) (fun hg1_6 => ?_)
  · try simp only [kk] at hg1_6
    refine o_gy 6 rfl rfl (y_fieldAddr fd31_12 ti29 (by decide) rfl) ?_
    refine o_gy 6 rfl rfl (y_loadP ti29 rfl inn (cs := [_]) rfl rfl) ?_
    refine o_gcall 6 rfl rfl fn188 rfl (rcheck_ok h11) ?_
    rintro _ _ _ ⟨rfl, rfl, rfl⟩
    refine o_gy 6 rfl rfl (y_eql rfl rfl) ?_
    refine o_y (y_pick rfl rfl) ?_
    refine o_y (y_move rfl) ?_
    refine o_split 12 rfl (fun hg1_12 => ?_) (fun hg1_12 => ?_)
    · try simp only [kk] at hg1_12
      refine o_gy 12 rfl rfl (y_fieldAddr fd31_12 ti29 (by decide) rfl) ?_
      refine o_gy 12 rfl rfl (y_fieldAddr fd29_0 ti27 (by decide) rfl) ?_
      refine o_gy 12 rfl rfl (y_loadO ti27 rfl inn rfl) ?_
      first | refine o_gy 12 rfl rfl (y_lenL (by assumption) underlying27 rfl) ?_ | refine o_gy 12 rfl rfl (y_lenR (by assumption) underlying27 rfl) ?_ | refine o_gy 12 rfl rfl (y_len underlying27 rfl) ?_
      refine o_gy 12 rfl rfl (y_gtr rfl rfl) ?_
      refine o_y (y_pick rfl rfl) ?_
      refine o_y (y_assign rfl) ?_
      refine o_nil ?_
      refine x_ret ?_
      refine x_fin 1 (ret1 rfl rfl) ?_
      refine ⟨?_, rfl, rfl⟩
      unfold takeB
      rcases hc with ⟨e1, e2⟩ | ⟨e1, e2⟩ <;> rw [e1] <;> simp_all <;> omega
    try simp only [kk] at hg1_12
    refine o_gn 12 rfl rfl rfl ?_
    refine o_gn 12 rfl rfl rfl ?_
    refine o_gn 12 rfl rfl rfl ?_
    refine o_gn 12 rfl rfl rfl ?_
    refine o_gn 12 rfl rfl rfl ?_
    refine o_y (y_pick rfl rfl) ?_
    refine o_y (y_assign rfl) ?_
    refine o_nil ?_
    refine x_ret ?_
    refine x_fin 1 (ret1 rfl rfl) ?_
    refine ⟨?_, rfl, rfl⟩
    unfold takeB
    rcases hc with ⟨e1, e2⟩ | ⟨e1, e2⟩ <;> rw [e1] <;> simp_all <;> omega
  try simp only [kk] at hg1_6
  refine o_gn 6 rfl rfl rfl ?_
  refine o_gn 6 rfl rfl rfl ?_
  refine o_gn 6 rfl rfl rfl ?_
  refine o_gn 6 rfl rfl rfl ?_
  refine o_y (y_pick rfl rfl) ?_
  refine o_y (y_move rfl) ?_
  refine o_gn 12 rfl rfl rfl ?_
  refine o_gn 12 rfl rfl rfl ?_
  refine o_gn 12 rfl rfl rfl ?_
  refine o_gn 12 rfl rfl rfl ?_
  refine o_gn 12 rfl rfl rfl ?_
  refine o_y (y_pick rfl rfl) ?_
  refine o_y (y_assign rfl) ?_
  refine o_nil ?_
  refine x_ret ?_
  refine x_fin 1 (ret1 rfl rfl) ?_
  refine ⟨?_, rfl, rfl⟩
  unfold takeB
  rcases hc with ⟨e1, e2⟩ | ⟨e1, e2⟩ <;> rw [e1] <;> simp_all <;> omega
theorem rlcheck_ok {B : World} {H : HM} {O : OL} {v : Value} {xs : List Log} (h : RdL H v xs) : CallsM prog 26 [v].toArray B H O (Same (.int .i64 (errI (lcheckB xs))) H O) := by
  have hs := h.lenle
  refine enter func26 rfl ntmps26 (l := [(0, _)]) rfl rfl ?_
  refine x_seq ?_
  refine x_region rfl ?_
  refine o_y (y_assign rfl) ?_
  refine o_nil ?_
  refine x_seq ?_
  refine x_seq ?_
  refine x_region rfl ?_
  refine o_y (y_move rfl) ?_
  refine o_y (y_lenA underlying22 rfl) ?_
  refine o_y (y_gtr rfl rfl) ?_
  refine o_nil ?_
  refine x_cond rfl (fun hc0 => ?_) (fun hc0 => ?_)
  · try simp only [kk] at hc0
    refine x_seq ?_
    refine x_region rfl ?_
    refine o_y (y_assign rfl) ?_
    refine o_nil ?_
    refine x_ret ?_
    refine x_fin 0 (ret1 rfl rfl) ?_
    rw [lcheckB, decide_eq_false (by omega)]; exact ⟨rfl, rfl, rfl⟩
  try simp only [kk] at hc0
  refine x_skip ?_
  refine x_seq ?_
  refine x_seq ?_
  refine x_region rfl ?_
  refine o_y (y_assign rfl) ?_
  refine o_nil ?_
  refine x_block ?_
  refine x_loopf (σ := Nat) (fun s => [(3, .int .i64 (s : Int)), (0, v)]) (fun s => O) (fun s => s ≤ xs.length ∧ ∀ j, j < s → logOk xs j = true) (fun s => xs.length - s) 0 ⟨by simp, fun j hj => by omega⟩ (.c rfl (.c rfl .n)) rfl ?_
  rintro k ⟨i1, i2⟩
  refine x_seq ?_
  refine x_seq ?_
  refine x_region rfl ?_
  refine o_y (y_move rfl) ?_
  refine o_y (y_move rfl) ?_
  refine o_y (y_lenA underlying22 rfl) ?_
  refine o_y (y_lss rfl rfl) ?_
  refine o_nil ?_
  refine x_cond rfl (fun hc1 => ?_) (fun hc1 => ?_)
  · try simp only [kk] at hc1
    have hk : k < xs.length := by omega
    have el := logAt_eq hk
    have eg := grpAt_eq hk
    refine x_skip ?_
    refine x_seq ?_
    refine x_block ?_
    refine x_seq ?_
    refine x_seq ?_
    refine x_regionQ mixed (by kernel_rfl) rfl ?_
    refine q_y (y_move rfl) ?_
    refine q_y (y_move rfl) ?_
    obtain ⟨ce17, ae17, re17⟩ := RdL.at h _ k hk
    have se17 := AtS.isSl ae17
    have te17 := re17
    obtain ⟨u17_1, z17, q17_0, q17_1⟩ := re17
    subst z17
    have w17 := Rep.one te17
    refine q_y (y_idxL h k hk underlying22 ti95 rfl rfl (by omega)) ?_
    refine q_y (y_fieldAddrP fd95_1 ti93 (by decide) (by assumption) rfl) ?_
    refine q_y (y_loadS1 ti93 rfl (by assumption) rfl) ?_
    first | refine q_y (y_lenL (by assumption) underlying93 rfl) ?_ | refine q_y (y_lenR (by assumption) underlying93 rfl) ?_ | refine q_y (y_len underlying93 rfl) ?_
    refine q_y (y_eql rfl rfl) ?_
    refine q_y (y_move rfl) ?_
    refine q_split 22 rfl (fun hg6_22 => ?_) (fun hg6_22 => ?_)
    · try simp only [kk] at hg6_22
      refine q_gn 22 rfl rfl rfl ?_
      refine q_gn 22 rfl rfl rfl ?_
      refine q_gn 22 rfl rfl rfl ?_
      refine q_gu 25 rfl rfl ?_
      refine q_gu 25 rfl rfl ?_
      refine q_gu 25 rfl rfl ?_
      refine q_gu 25 rfl rfl ?_
      refine q_gu 25 rfl rfl ?_
      refine q_gu 25 rfl rfl ?_
      refine q_gu 25 rfl rfl ?_
      refine q_gu 25 rfl rfl ?_
      refine q_gu 25 rfl rfl ?_
      refine q_gu 25 rfl rfl ?_
      refine q_gu 25 rfl rfl ?_
      refine q_gu 25 rfl rfl ?_
      refine q_gn 22 rfl rfl rfl ?_
      refine q_y (y_pick rfl rfl) ?_
      refine q_nil ?_
      refine x_condT rfl ?_
      refine x_seq ?_
      refine x_region rfl ?_
      refine o_y (y_assign rfl) ?_
      refine o_nil ?_
      refine x_ret ?_
      refine x_fin 0 (ret1 rfl rfl) ?_
      have hb : logOk xs k = false := by
        unfold logOk
        rw [el]
        first
          | (rw [decide_eq_false (show ¬ 0 < xs[k].commits.length by omega)]; rfl)
          | (have e9 : ¬ grpAt xs (k - 1) < grpAt xs k := by rw [grpAt_eq hk, grpAt_eq (show k - 1 < xs.length by omega)]; omega
             rw [decide_eq_false (show ¬ k = 0 by omega), decide_eq_false e9]; cases decide (0 < xs[k].commits.length) <;> rfl)
      rw [lcheckB_no hk hb]; exact ⟨rfl, rfl, rfl⟩
    try simp only [kk] at hg6_22
    refine q_gy 22 rfl rfl (y_move rfl) ?_
    refine q_gy 22 rfl rfl (y_gtr rfl rfl) ?_
    refine q_gy 22 rfl rfl (y_move rfl) ?_
    refine q_split 25 rfl (fun hg6_25 => ?_) (fun hg6_25 => ?_)
    · try simp only [kk] at hg6_25
      refine q_gy 25 rfl rfl (y_move rfl) ?_
      refine q_gy 25 rfl rfl (y_move rfl) ?_
      obtain ⟨ce28, ae28, re28⟩ := RdL.at h _ k hk
      have se28 := AtS.isSl ae28
      have te28 := re28
      obtain ⟨u28_1, z28, q28_0, q28_1⟩ := re28
      subst z28
      have w28 := Rep.one te28
      refine q_gy 25 rfl rfl (y_idxL h k hk underlying22 ti95 rfl rfl (by omega)) ?_
      refine q_gy 25 rfl rfl (y_fieldAddrP fd95_0 ti3 (by decide) (by assumption) rfl) ?_
      refine q_gy 25 rfl rfl (y_loadS1 ti3 rfl (by assumption) rfl) ?_
      refine q_gy 25 rfl rfl (y_move rfl) ?_
      refine q_gy 25 rfl rfl (y_move rfl) ?_
      refine q_gy 25 rfl rfl (y_subN rfl rfl (by omega) (by omega)) ?_
      obtain ⟨ce34, ae34, re34⟩ := RdL.at h _ (k - 1) (by omega)
      have se34 := AtS.isSl ae34
      have te34 := re34
      obtain ⟨u34_1, z34, q34_0, q34_1⟩ := re34
      subst z34
      have w34 := Rep.one te34
      refine q_gy 25 rfl rfl (y_idxL h (k - 1) (by omega) underlying22 ti95 rfl rfl (by omega)) ?_
      refine q_gy 25 rfl rfl (y_fieldAddrP fd95_0 ti3 (by decide) (by assumption) rfl) ?_
      refine q_gy 25 rfl rfl (y_loadS1 ti3 rfl (by assumption) rfl) ?_
      refine q_gy 25 rfl rfl (y_leq rfl rfl) ?_
      refine q_gy 22 rfl rfl (y_pick rfl rfl) ?_
      refine q_y (y_pick rfl rfl) ?_
      refine q_nil ?_
      refine x_cond rfl (fun hc2 => ?_) (fun hc2 => ?_)
      · try simp only [kk] at hc2
        refine x_seq ?_
        refine x_region rfl ?_
        refine o_y (y_assign rfl) ?_
        refine o_nil ?_
        refine x_ret ?_
        refine x_fin 0 (ret1 rfl rfl) ?_
        have hb : logOk xs k = false := by
          unfold logOk
          rw [el]
          first
            | (rw [decide_eq_false (show ¬ 0 < xs[k].commits.length by omega)]; rfl)
            | (have e9 : ¬ grpAt xs (k - 1) < grpAt xs k := by rw [grpAt_eq hk, grpAt_eq (show k - 1 < xs.length by omega)]; omega
               rw [decide_eq_false (show ¬ k = 0 by omega), decide_eq_false e9]; cases decide (0 < xs[k].commits.length) <;> rfl)
        rw [lcheckB_no hk hb]; exact ⟨rfl, rfl, rfl⟩
      try simp only [kk] at hc2
      refine x_skip ?_
      refine x_seq ?_
      refine x_region rfl ?_
      refine o_y (y_assign rfl) ?_
      refine o_nil ?_
      refine x_block ?_
      refine x_loopf (σ := Nat) (fun s => [(4, .int .i64 (s : Int)), (3, .int .i64 (k : Int)), (0, v)]) (fun s => O) (fun s => s ≤ xs[k].commits.length ∧ ∀ j, j < s → comOk xs[k] j = true) (fun s => xs[k].commits.length - s) 0 ⟨by simp, fun j hj => by omega⟩ (.c rfl (.c rfl (.c rfl .n))) rfl ?_
      rintro m ⟨i3, i4⟩
      refine x_seq ?_
      refine x_seq ?_
      refine x_region rfl ?_
      refine o_y (y_move rfl) ?_
      refine o_y (y_move rfl) ?_
      refine o_y (y_move rfl) ?_
      obtain ⟨ce43, ae43, re43⟩ := RdL.at h _ k hk
      have se43 := AtS.isSl ae43
      have te43 := re43
      obtain ⟨u43_1, z43, q43_0, q43_1⟩ := re43
      subst z43
      have w43 := Rep.one te43
      refine o_y (y_idxL h k hk underlying22 ti95 rfl rfl (by omega)) ?_
      refine o_y (y_fieldAddrP fd95_1 ti93 (by decide) (by assumption) rfl) ?_
      refine o_y (y_loadS1 ti93 rfl (by assumption) rfl) ?_
      have hml := q43_1.lenle
      refine o_y (y_lenA underlying93 rfl) ?_
      refine o_y (y_lss rfl rfl) ?_
      refine o_nil ?_
      refine x_cond rfl (fun hc3 => ?_) (fun hc3 => ?_)
      · try simp only [kk] at hc3
        have hm : m < xs[k].commits.length := by omega
        have em := comOk_spec hm
        refine x_skip ?_
        refine x_seq ?_
        refine x_block ?_
        refine x_seq ?_
        refine x_region rfl ?_
        refine o_y (y_move rfl) ?_
        refine o_y (y_move rfl) ?_
        obtain ⟨ce52, ae52, re52⟩ := RdL.at h _ k hk
        have se52 := AtS.isSl ae52
        have te52 := re52
        obtain ⟨u52_1, z52, q52_0, q52_1⟩ := re52
        subst z52
        have w52 := Rep.one te52
        refine o_y (y_idxL h k hk underlying22 ti95 rfl rfl (by omega)) ?_
        refine o_y (y_fieldAddrP fd95_1 ti93 (by decide) (by assumption) rfl) ?_
        refine o_y (y_loadS1 ti93 rfl (by assumption) rfl) ?_
        refine o_y (y_move rfl) ?_
        obtain ⟨ce56, ae56, re56⟩ := RdL.at q52_1 _ m hm
        have se56 := AtS.isSl ae56
        have te56 := re56
        obtain ⟨u56_6, u56_7, u56_8, u56_9, u56_12, z56, q56_0, q56_1, q56_2, q56_3, q56_4, q56_5, q56_6, q56_7, q56_8, q56_9, q56_10, q56_11, q56_12, q56_13⟩ := re56
        subst z56
        have w56 := Rep.one te56
        refine o_y (y_idxL q52_1 m hm underlying93 ti31 rfl rfl (by omega)) ?_
        refine o_y (y_loadS ti31 rfl (by assumption) rfl (fun e => by cases e)) ?_
        refine o_alloc ti31 rfl (fun b5 => ?_)
        refine o_store (u := [_, _, _, _, _, _, _, _, _, _, _, _, _, _, _]) (C' := [_, _, _, _, _, _, _, _, _, _, _, _, _, _, _]) ti31 rfl rfl rfl rfl (by first | rfl | assumption | (simp only [ones, List.all_cons, List.all_nil, Bool.and_true, one_of (by assumption)]; done)) (by repeat (first | exact .z | apply Upd.s | apply Upd.a)) (by exact Nat.le_of_ble_eq_true rfl) (by rfl) ?_
        refine o_nil ?_
        refine x_seq ?_
        refine x_regionQ mixed (by kernel_rfl) rfl ?_
        refine q_y (y_fieldAddr fd31_0 ti3 (by decide) rfl) ?_
        refine q_y (y_loadO ti3 rfl inn rfl) ?_
        refine q_y (y_move rfl) ?_
        refine q_y (y_move rfl) ?_
        obtain ⟨ce62, ae62, re62⟩ := RdL.at h _ k hk
        have se62 := AtS.isSl ae62
        have te62 := re62
        obtain ⟨u62_1, z62, q62_0, q62_1⟩ := re62
        subst z62
        have w62 := Rep.one te62
        refine q_y (y_idxL h k hk underlying22 ti95 rfl rfl (by omega)) ?_
        refine q_y (y_fieldAddrP fd95_0 ti3 (by decide) (by assumption) rfl) ?_
        refine q_y (y_loadS1 ti3 rfl (by assumption) rfl) ?_
        refine q_y (y_neq rfl rfl) ?_
        refine q_y (y_move rfl) ?_
        refine q_split 66 rfl (fun hg12_66 => ?_) (fun hg12_66 => ?_)
        · try simp only [kk] at hg12_66
          refine q_gn 66 rfl rfl rfl ?_
          refine q_gn 66 rfl rfl rfl ?_
          refine q_gn 66 rfl rfl rfl ?_
          refine q_gn 66 rfl rfl rfl ?_
          refine q_y (y_pick rfl rfl) ?_
          refine q_y (y_move rfl) ?_
          refine q_gn 72 rfl rfl rfl ?_
          refine q_gn 72 rfl rfl rfl ?_
          refine q_gn 72 rfl rfl rfl ?_
          refine q_y (y_pick rfl rfl) ?_
          refine q_nil ?_
          refine x_condT rfl ?_
          refine x_seq ?_
          refine x_region rfl ?_
          refine o_y (y_assign rfl) ?_
          refine o_nil ?_
          refine x_ret ?_
          refine x_fin 1 (ret1 rfl rfl) ?_
          have hb : comOk xs[k] m = false := by
            rw [em]
            first
              | (rw [decide_eq_false (show ¬ xs[k].commits[m].group = xs[k].group by omega)]; rfl)
              | (rw [decide_eq_false (show ¬ xs[k].commits[m].epoch = m by omega)]; simp; done)
              | (rw [show takeB xs[k].commits[m] = false by assumption]; simp)
          have hb2 : logOk xs k = false := by
            unfold logOk
            rw [el, comsOk_no hm hb]; simp
          rw [lcheckB_no hk hb2]; exact ⟨rfl, rfl, rfl⟩
        try simp only [kk] at hg12_66
        refine q_gy 66 rfl rfl (y_fieldAddr fd31_1 ti3 (by decide) rfl) ?_
        refine q_gy 66 rfl rfl (y_loadO ti3 rfl inn rfl) ?_
        refine q_gy 66 rfl rfl (y_move rfl) ?_
        refine q_gy 66 rfl rfl (y_neq rfl rfl) ?_
        refine q_y (y_pick rfl rfl) ?_
        refine q_y (y_move rfl) ?_
        refine q_split 72 rfl (fun hg12_72 => ?_) (fun hg12_72 => ?_)
        · try simp only [kk] at hg12_72
          refine q_gn 72 rfl rfl rfl ?_
          refine q_gn 72 rfl rfl rfl ?_
          refine q_gn 72 rfl rfl rfl ?_
          refine q_y (y_pick rfl rfl) ?_
          refine q_nil ?_
          refine x_condT rfl ?_
          refine x_seq ?_
          refine x_region rfl ?_
          refine o_y (y_assign rfl) ?_
          refine o_nil ?_
          refine x_ret ?_
          refine x_fin 1 (ret1 rfl rfl) ?_
          have hb : comOk xs[k] m = false := by
            rw [em]
            first
              | (rw [decide_eq_false (show ¬ xs[k].commits[m].group = xs[k].group by omega)]; rfl)
              | (rw [decide_eq_false (show ¬ xs[k].commits[m].epoch = m by omega)]; simp; done)
              | (rw [show takeB xs[k].commits[m] = false by assumption]; simp)
          have hb2 : logOk xs k = false := by
            unfold logOk
            rw [el, comsOk_no hm hb]; simp
          rw [lcheckB_no hk hb2]; exact ⟨rfl, rfl, rfl⟩
        try simp only [kk] at hg12_72
        refine q_gy 72 rfl rfl (y_loadA ti31 rfl inn rfl) ?_
        refine q_gcall 72 rfl rfl fn45 rfl (rmay_ok te56) ?_
        refine q_gy 72 rfl rfl (y_not rfl) ?_
        refine q_y (y_pick rfl rfl) ?_
        refine q_nil ?_
        refine x_cond rfl (fun hc4 => ?_) (fun hc4 => ?_)
        · try simp only [kk] at hc4
          refine x_seq ?_
          refine x_region rfl ?_
          refine o_y (y_assign rfl) ?_
          refine o_nil ?_
          refine x_ret ?_
          refine x_fin 1 (ret1 rfl rfl) ?_
          have hb : comOk xs[k] m = false := by
            rw [em]
            first
              | (rw [decide_eq_false (show ¬ xs[k].commits[m].group = xs[k].group by omega)]; rfl)
              | (rw [decide_eq_false (show ¬ xs[k].commits[m].epoch = m by omega)]; simp; done)
              | (rw [show takeB xs[k].commits[m] = false by assumption]; simp)
          have hb2 : logOk xs k = false := by
            unfold logOk
            rw [el, comsOk_no hm hb]; simp
          rw [lcheckB_no hk hb2]; exact ⟨rfl, rfl, rfl⟩
        try simp only [kk] at hc4
        refine x_skip ?_
        refine x_region rfl ?_
        refine o_y (y_move rfl) ?_
        refine o_y (y_addN rfl rfl (by omega) (by omega)) ?_
        refine o_y (y_assign rfl) ?_
        refine o_nil ?_
        have hb : comOk xs[k] m = true := by
          rw [em, decide_eq_true (show xs[k].commits[m].group = xs[k].group by omega), decide_eq_true (show xs[k].commits[m].epoch = m by omega), show takeB xs[k].commits[m] = true by assumption]; rfl
        exact ⟨m + 1, 1, rfl, (.c rfl (.c rfl (.c rfl .n))), rfl, ⟨by omega, upto_succ i4 hb⟩, by omega⟩
      try simp only [kk] at hc3
      refine x_exit ?_
      refine x_region rfl ?_
      refine o_y (y_move rfl) ?_
      refine o_y (y_addN rfl rfl (by omega) (by omega)) ?_
      refine o_y (y_assign rfl) ?_
      refine o_nil ?_
      have hb : logOk xs k = true := by
        unfold logOk
        rw [el, comsOk_yes (fun j hj => i4 j (by omega)), decide_eq_true (show 0 < xs[k].commits.length by omega)]
        first
          | (rw [decide_eq_true (show k = 0 by omega)]; rfl)
          | (have e9 : grpAt xs (k - 1) < grpAt xs k := by rw [grpAt_eq hk, grpAt_eq (show k - 1 < xs.length by omega)]; omega
             rw [decide_eq_true e9]; cases decide (k = 0) <;> rfl)
      exact ⟨k + 1, 0, rfl, (.c rfl (.c rfl .n)), rfl, ⟨by omega, upto_succ i2 hb⟩, by omega⟩
    try simp only [kk] at hg6_25
    refine q_gn 25 rfl rfl rfl ?_
    refine q_gn 25 rfl rfl rfl ?_
    refine q_gn 25 rfl rfl rfl ?_
    refine q_gn 25 rfl rfl rfl ?_
    refine q_gn 25 rfl rfl rfl ?_
    refine q_gn 25 rfl rfl rfl ?_
    refine q_gn 25 rfl rfl rfl ?_
    refine q_gn 25 rfl rfl rfl ?_
    refine q_gn 25 rfl rfl rfl ?_
    refine q_gn 25 rfl rfl rfl ?_
    refine q_gn 25 rfl rfl rfl ?_
    refine q_gn 25 rfl rfl rfl ?_
    refine q_gy 22 rfl rfl (y_pick rfl rfl) ?_
    refine q_y (y_pick rfl rfl) ?_
    refine q_nil ?_
    refine x_condF rfl ?_
    refine x_skip ?_
    refine x_seq ?_
    refine x_region rfl ?_
    refine o_y (y_assign rfl) ?_
    refine o_nil ?_
    refine x_block ?_
    refine x_loopf (σ := Nat) (fun s => [(4, .int .i64 (s : Int)), (3, .int .i64 (k : Int)), (0, v)]) (fun s => O) (fun s => s ≤ xs[k].commits.length ∧ ∀ j, j < s → comOk xs[k] j = true) (fun s => xs[k].commits.length - s) 0 ⟨by simp, fun j hj => by omega⟩ (.c rfl (.c rfl (.c rfl .n))) rfl ?_
    rintro m ⟨i3, i4⟩
    refine x_seq ?_
    refine x_seq ?_
    refine x_region rfl ?_
    refine o_y (y_move rfl) ?_
    refine o_y (y_move rfl) ?_
    refine o_y (y_move rfl) ?_
    obtain ⟨ce43, ae43, re43⟩ := RdL.at h _ k hk
    have se43 := AtS.isSl ae43
    have te43 := re43
    obtain ⟨u43_1, z43, q43_0, q43_1⟩ := re43
    subst z43
    have w43 := Rep.one te43
    refine o_y (y_idxL h k hk underlying22 ti95 rfl rfl (by omega)) ?_
    refine o_y (y_fieldAddrP fd95_1 ti93 (by decide) (by assumption) rfl) ?_
    refine o_y (y_loadS1 ti93 rfl (by assumption) rfl) ?_
    have hml := q43_1.lenle
    refine o_y (y_lenA underlying93 rfl) ?_
    refine o_y (y_lss rfl rfl) ?_
    refine o_nil ?_
    refine x_cond rfl (fun hc3 => ?_) (fun hc3 => ?_)
    · try simp only [kk] at hc3
      have hm : m < xs[k].commits.length := by omega
      have em := comOk_spec hm
      refine x_skip ?_
      refine x_seq ?_
      refine x_block ?_
      refine x_seq ?_
      refine x_region rfl ?_
      refine o_y (y_move rfl) ?_
      refine o_y (y_move rfl) ?_
      obtain ⟨ce52, ae52, re52⟩ := RdL.at h _ k hk
      have se52 := AtS.isSl ae52
      have te52 := re52
      obtain ⟨u52_1, z52, q52_0, q52_1⟩ := re52
      subst z52
      have w52 := Rep.one te52
      refine o_y (y_idxL h k hk underlying22 ti95 rfl rfl (by omega)) ?_
      refine o_y (y_fieldAddrP fd95_1 ti93 (by decide) (by assumption) rfl) ?_
      refine o_y (y_loadS1 ti93 rfl (by assumption) rfl) ?_
      refine o_y (y_move rfl) ?_
      obtain ⟨ce56, ae56, re56⟩ := RdL.at q52_1 _ m hm
      have se56 := AtS.isSl ae56
      have te56 := re56
      obtain ⟨u56_6, u56_7, u56_8, u56_9, u56_12, z56, q56_0, q56_1, q56_2, q56_3, q56_4, q56_5, q56_6, q56_7, q56_8, q56_9, q56_10, q56_11, q56_12, q56_13⟩ := re56
      subst z56
      have w56 := Rep.one te56
      refine o_y (y_idxL q52_1 m hm underlying93 ti31 rfl rfl (by omega)) ?_
      refine o_y (y_loadS ti31 rfl (by assumption) rfl (fun e => by cases e)) ?_
      refine o_alloc ti31 rfl (fun b5 => ?_)
      refine o_store (u := [_, _, _, _, _, _, _, _, _, _, _, _, _, _, _]) (C' := [_, _, _, _, _, _, _, _, _, _, _, _, _, _, _]) ti31 rfl rfl rfl rfl (by first | rfl | assumption | (simp only [ones, List.all_cons, List.all_nil, Bool.and_true, one_of (by assumption)]; done)) (by repeat (first | exact .z | apply Upd.s | apply Upd.a)) (by exact Nat.le_of_ble_eq_true rfl) (by rfl) ?_
      refine o_nil ?_
      refine x_seq ?_
      refine x_regionQ mixed (by kernel_rfl) rfl ?_
      refine q_y (y_fieldAddr fd31_0 ti3 (by decide) rfl) ?_
      refine q_y (y_loadO ti3 rfl inn rfl) ?_
      refine q_y (y_move rfl) ?_
      refine q_y (y_move rfl) ?_
      obtain ⟨ce62, ae62, re62⟩ := RdL.at h _ k hk
      have se62 := AtS.isSl ae62
      have te62 := re62
      obtain ⟨u62_1, z62, q62_0, q62_1⟩ := re62
      subst z62
      have w62 := Rep.one te62
      refine q_y (y_idxL h k hk underlying22 ti95 rfl rfl (by omega)) ?_
      refine q_y (y_fieldAddrP fd95_0 ti3 (by decide) (by assumption) rfl) ?_
      refine q_y (y_loadS1 ti3 rfl (by assumption) rfl) ?_
      refine q_y (y_neq rfl rfl) ?_
      refine q_y (y_move rfl) ?_
      refine q_split 66 rfl (fun hg12_66 => ?_) (fun hg12_66 => ?_)
      · try simp only [kk] at hg12_66
        refine q_gn 66 rfl rfl rfl ?_
        refine q_gn 66 rfl rfl rfl ?_
        refine q_gn 66 rfl rfl rfl ?_
        refine q_gn 66 rfl rfl rfl ?_
        refine q_y (y_pick rfl rfl) ?_
        refine q_y (y_move rfl) ?_
        refine q_gn 72 rfl rfl rfl ?_
        refine q_gn 72 rfl rfl rfl ?_
        refine q_gn 72 rfl rfl rfl ?_
        refine q_y (y_pick rfl rfl) ?_
        refine q_nil ?_
        refine x_condT rfl ?_
        refine x_seq ?_
        refine x_region rfl ?_
        refine o_y (y_assign rfl) ?_
        refine o_nil ?_
        refine x_ret ?_
        refine x_fin 1 (ret1 rfl rfl) ?_
        have hb : comOk xs[k] m = false := by
          rw [em]
          first
            | (rw [decide_eq_false (show ¬ xs[k].commits[m].group = xs[k].group by omega)]; rfl)
            | (rw [decide_eq_false (show ¬ xs[k].commits[m].epoch = m by omega)]; simp; done)
            | (rw [show takeB xs[k].commits[m] = false by assumption]; simp)
        have hb2 : logOk xs k = false := by
          unfold logOk
          rw [el, comsOk_no hm hb]; simp
        rw [lcheckB_no hk hb2]; exact ⟨rfl, rfl, rfl⟩
      try simp only [kk] at hg12_66
      refine q_gy 66 rfl rfl (y_fieldAddr fd31_1 ti3 (by decide) rfl) ?_
      refine q_gy 66 rfl rfl (y_loadO ti3 rfl inn rfl) ?_
      refine q_gy 66 rfl rfl (y_move rfl) ?_
      refine q_gy 66 rfl rfl (y_neq rfl rfl) ?_
      refine q_y (y_pick rfl rfl) ?_
      refine q_y (y_move rfl) ?_
      refine q_split 72 rfl (fun hg12_72 => ?_) (fun hg12_72 => ?_)
      · try simp only [kk] at hg12_72
        refine q_gn 72 rfl rfl rfl ?_
        refine q_gn 72 rfl rfl rfl ?_
        refine q_gn 72 rfl rfl rfl ?_
        refine q_y (y_pick rfl rfl) ?_
        refine q_nil ?_
        refine x_condT rfl ?_
        refine x_seq ?_
        refine x_region rfl ?_
        refine o_y (y_assign rfl) ?_
        refine o_nil ?_
        refine x_ret ?_
        refine x_fin 1 (ret1 rfl rfl) ?_
        have hb : comOk xs[k] m = false := by
          rw [em]
          first
            | (rw [decide_eq_false (show ¬ xs[k].commits[m].group = xs[k].group by omega)]; rfl)
            | (rw [decide_eq_false (show ¬ xs[k].commits[m].epoch = m by omega)]; simp; done)
            | (rw [show takeB xs[k].commits[m] = false by assumption]; simp)
        have hb2 : logOk xs k = false := by
          unfold logOk
          rw [el, comsOk_no hm hb]; simp
        rw [lcheckB_no hk hb2]; exact ⟨rfl, rfl, rfl⟩
      try simp only [kk] at hg12_72
      refine q_gy 72 rfl rfl (y_loadA ti31 rfl inn rfl) ?_
      refine q_gcall 72 rfl rfl fn45 rfl (rmay_ok te56) ?_
      refine q_gy 72 rfl rfl (y_not rfl) ?_
      refine q_y (y_pick rfl rfl) ?_
      refine q_nil ?_
      refine x_cond rfl (fun hc4 => ?_) (fun hc4 => ?_)
      · try simp only [kk] at hc4
        refine x_seq ?_
        refine x_region rfl ?_
        refine o_y (y_assign rfl) ?_
        refine o_nil ?_
        refine x_ret ?_
        refine x_fin 1 (ret1 rfl rfl) ?_
        have hb : comOk xs[k] m = false := by
          rw [em]
          first
            | (rw [decide_eq_false (show ¬ xs[k].commits[m].group = xs[k].group by omega)]; rfl)
            | (rw [decide_eq_false (show ¬ xs[k].commits[m].epoch = m by omega)]; simp; done)
            | (rw [show takeB xs[k].commits[m] = false by assumption]; simp)
        have hb2 : logOk xs k = false := by
          unfold logOk
          rw [el, comsOk_no hm hb]; simp
        rw [lcheckB_no hk hb2]; exact ⟨rfl, rfl, rfl⟩
      try simp only [kk] at hc4
      refine x_skip ?_
      refine x_region rfl ?_
      refine o_y (y_move rfl) ?_
      refine o_y (y_addN rfl rfl (by omega) (by omega)) ?_
      refine o_y (y_assign rfl) ?_
      refine o_nil ?_
      have hb : comOk xs[k] m = true := by
        rw [em, decide_eq_true (show xs[k].commits[m].group = xs[k].group by omega), decide_eq_true (show xs[k].commits[m].epoch = m by omega), show takeB xs[k].commits[m] = true by assumption]; rfl
      exact ⟨m + 1, 1, rfl, (.c rfl (.c rfl (.c rfl .n))), rfl, ⟨by omega, upto_succ i4 hb⟩, by omega⟩
    try simp only [kk] at hc3
    refine x_exit ?_
    refine x_region rfl ?_
    refine o_y (y_move rfl) ?_
    refine o_y (y_addN rfl rfl (by omega) (by omega)) ?_
    refine o_y (y_assign rfl) ?_
    refine o_nil ?_
    have hb : logOk xs k = true := by
      unfold logOk
      rw [el, comsOk_yes (fun j hj => i4 j (by omega)), decide_eq_true (show 0 < xs[k].commits.length by omega)]
      first
        | (rw [decide_eq_true (show k = 0 by omega)]; rfl)
        | (have e9 : grpAt xs (k - 1) < grpAt xs k := by rw [grpAt_eq hk, grpAt_eq (show k - 1 < xs.length by omega)]; omega
           rw [decide_eq_true e9]; cases decide (k = 0) <;> rfl)
    exact ⟨k + 1, 0, rfl, (.c rfl (.c rfl .n)), rfl, ⟨by omega, upto_succ i2 hb⟩, by omega⟩
  try simp only [kk] at hc1
  refine x_exit ?_
  refine x_seq ?_
  refine x_region rfl ?_
  refine o_y (y_assign rfl) ?_
  refine o_nil ?_
  refine x_ret ?_
  refine x_fin 0 (ret1 rfl rfl) ?_
  rw [lcheckB_yes (by omega) (fun j hj => i2 j (by omega))]; exact ⟨rfl, rfl, rfl⟩
def rpl : List Log → Nat → Int → Int
  | [], _, _ => -1
  | x :: xs, k, g => if x.group = g then (k : Int) else rpl xs (k + 1) g
theorem rpl_spec (g : Int) : ∀ (xs : List Log) (k : Nat), (rpl xs k g = -1 ∧ ∀ x ∈ xs, x.group ≠ g) ∨ ∃ j, ∃ h : j < xs.length, rpl xs k g = ((k + j : Nat) : Int) ∧ xs[j].group = g
  | [], k => .inl ⟨rfl, by simp⟩
  | x :: xs, k => by
    unfold rpl
    by_cases e : x.group = g
    · exact .inr ⟨0, by simp, by rw [if_pos e]; rfl, e⟩
    rw [if_neg e]
    rcases rpl_spec g xs (k + 1) with ⟨h1, h2⟩ | ⟨j, hj, h1, h2⟩
    · exact .inl ⟨h1, fun y hy => by
        rcases List.mem_cons.1 hy with rfl | hy
        · exact e
        exact h2 y hy⟩
    exact .inr ⟨j + 1, by simpa using hj, by rw [h1]; congr 1; omega, h2⟩
theorem rplace_ok {B : World} {H : HM} {O : OL} {v : Value} {xs : List Log} {g : Int} (h : RdL H v xs) : CallsM prog 165 [v, .int .i64 g].toArray B H O (Same (.int .i64 (rpl xs 0 g)) H O) := by
  have hs := h.lenle
  refine enter func165 rfl ntmps165 (l := [(0, _), (1, _)]) rfl rfl ?_
  refine x_seq ?_
  refine x_region rfl ?_
  refine o_y (y_assign rfl) ?_
  refine o_nil ?_
  refine x_seq ?_
  refine x_seq ?_
  refine x_region rfl ?_
  refine o_y (y_assign rfl) ?_
  refine o_nil ?_
  refine x_block ?_
  refine x_loopf (σ := Nat) (fun s => [(5, .int .i64 (s : Int)), (0, v), (1, .int .i64 g)]) (fun s => O) (fun s => s ≤ xs.length ∧ rpl (xs.drop s) s g = rpl xs 0 g) (fun s => xs.length - s) 0 ⟨by simp, by simp⟩ (.c rfl (.c rfl (.c rfl .n))) rfl ?_
  rintro k ⟨i1, i2⟩
  refine x_seq ?_
  refine x_seq ?_
  refine x_region rfl ?_
  refine o_y (y_move rfl) ?_
  refine o_y (y_move rfl) ?_
  refine o_y (y_lenA underlying22 rfl) ?_
  refine o_y (y_lss rfl rfl) ?_
  refine o_nil ?_
  refine x_cond rfl (fun hc0 => ?_) (fun hc0 => ?_)
  · try simp only [kk] at hc0
    have hk : k < xs.length := by omega
    rw [List.drop_eq_getElem_cons hk, rpl] at i2
    refine x_skip ?_
    refine x_seq ?_
    refine x_block ?_
    refine x_seq ?_
    refine x_region rfl ?_
    refine o_y (y_move rfl) ?_
    refine o_y (y_move rfl) ?_
    obtain ⟨ce14, ae14, re14⟩ := RdL.at h _ k hk
    have se14 := AtS.isSl ae14
    have te14 := re14
    obtain ⟨u14_1, z14, q14_0, q14_1⟩ := re14
    subst z14
    have w14 := Rep.one te14
    refine o_y (y_idxL h k hk underlying22 ti95 rfl rfl (by omega)) ?_
    refine o_y (y_fieldAddrP fd95_0 ti3 (by decide) (by assumption) rfl) ?_
    refine o_y (y_loadS1 ti3 rfl (by assumption) rfl) ?_
    refine o_y (y_move rfl) ?_
    refine o_y (y_eql rfl rfl) ?_
    refine o_nil ?_
    refine x_cond rfl (fun hc1 => ?_) (fun hc1 => ?_)
    · try simp only [kk] at hc1
      refine x_seq ?_
      refine x_region rfl ?_
      refine o_y (y_move rfl) ?_
      refine o_y (y_assign rfl) ?_
      refine o_nil ?_
      refine x_ret ?_
      refine x_fin 0 (ret1 rfl rfl) ?_
      rw [if_pos (by omega)] at i2
      rw [← i2]; exact ⟨rfl, rfl, rfl⟩
    try simp only [kk] at hc1
    refine x_skip ?_
    refine x_region rfl ?_
    refine o_y (y_move rfl) ?_
    refine o_y (y_addN rfl rfl (by omega) (by omega)) ?_
    refine o_y (y_assign rfl) ?_
    refine o_nil ?_
    rw [if_neg (by omega)] at i2
    exact ⟨k + 1, 0, rfl, (.c rfl (.c rfl (.c rfl .n))), rfl, ⟨by omega, i2⟩, by omega⟩
  try simp only [kk] at hc0
  refine x_exit ?_
  refine x_seq ?_
  refine x_region rfl ?_
  refine o_y (y_assign rfl) ?_
  refine o_nil ?_
  refine x_ret ?_
  refine x_fin 0 (ret1 rfl rfl) ?_
  rw [List.drop_eq_nil_of_le (by omega), rpl] at i2
  rw [← i2]; exact ⟨rfl, rfl, rfl⟩
theorem rlen_ok {B : World} {H : HM} {O : OL} {v : Value} {xs : List Log} {g : Int} (h : RdL H v xs) : CallsM prog 28 [v, .int .i64 g].toArray B H O (Same (.int .i64 ((commitsOf xs g).length : Nat)) H O) := by
  have hs := h.lenle
  have hc := errI_cases (lcheckB xs)
  have hp := rpl_spec g xs 0
  refine enter func28 rfl ntmps28 (l := [(0, _), (1, _)]) rfl rfl ?_
  refine x_seq ?_
  refine x_region rfl ?_
  refine o_y (y_assign rfl) ?_
  refine o_nil ?_
  refine x_seq ?_
  refine x_region rfl ?_
  refine o_y (y_move rfl) ?_
  refine o_y (y_move rfl) ?_
  refine o_call fn165 rfl (rplace_ok h) ?_
  rintro _ _ _ ⟨rfl, rfl, rfl⟩
  refine o_y (y_assign rfl) ?_
  refine o_nil ?_
  refine x_seq ?_
  refine x_seq ?_
  refine x_region rfl ?_
  refine o_y (y_move rfl) ?_
  refine o_call fn26 rfl (rlcheck_ok h) ?_
  rintro _ _ _ ⟨rfl, rfl, rfl⟩
  refine o_y (y_neq rfl rfl) ?_
  refine o_y (y_move rfl) ?_
  refine o_split 12 rfl (fun hg2_12 => ?_) (fun hg2_12 => ?_)
  · try simp only [kk] at hg2_12
    refine o_gn 12 rfl rfl rfl ?_
    refine o_gn 12 rfl rfl rfl ?_
    refine o_y (y_pick rfl rfl) ?_
    refine o_nil ?_
    refine x_condT rfl ?_
    refine x_seq ?_
    refine x_region rfl ?_
    refine o_y (y_assign rfl) ?_
    refine o_nil ?_
    refine x_ret ?_
    refine x_fin 0 (ret1 rfl rfl) ?_
    have e : commitsOf xs g = [] := by
      rcases hc with ⟨e1, e2⟩ | ⟨e1, e2⟩
      · rcases hp with ⟨p1, p2⟩ | ⟨j, hj, p1, p2⟩
        · exact (commitsOf_spec e1 g).2.1 p2
        exfalso; omega
      rw [commitsOf, if_neg (by rw [e1]; simp)]
    rw [e]; exact ⟨rfl, rfl, rfl⟩
  try simp only [kk] at hg2_12
  refine o_gy 12 rfl rfl (y_move rfl) ?_
  refine o_gy 12 rfl rfl (y_lss rfl rfl) ?_
  refine o_y (y_pick rfl rfl) ?_
  refine o_nil ?_
  refine x_cond rfl (fun hc0 => ?_) (fun hc0 => ?_)
  · try simp only [kk] at hc0
    refine x_seq ?_
    refine x_region rfl ?_
    refine o_y (y_assign rfl) ?_
    refine o_nil ?_
    refine x_ret ?_
    refine x_fin 0 (ret1 rfl rfl) ?_
    have e : commitsOf xs g = [] := by
      rcases hc with ⟨e1, e2⟩ | ⟨e1, e2⟩
      · rcases hp with ⟨p1, p2⟩ | ⟨j, hj, p1, p2⟩
        · exact (commitsOf_spec e1 g).2.1 p2
        exfalso; omega
      rw [commitsOf, if_neg (by rw [e1]; simp)]
    rw [e]; exact ⟨rfl, rfl, rfl⟩
  try simp only [kk] at hc0
  obtain ⟨j, hj, p1, p2⟩ : ∃ j, ∃ h : j < xs.length, rpl xs 0 g = ((0 + j : Nat) : Int) ∧ xs[j].group = g := by
    rcases hp with ⟨p1, p2⟩ | hp
    · exfalso; omega
    exact hp
  have e1 : lcheckB xs = true := by
    rcases hc with ⟨e1, e2⟩ | ⟨e1, e2⟩
    · exact e1
    exfalso; omega
  have e := (commitsOf_spec e1 g).1 _ (List.getElem_mem hj) p2
  refine x_skip ?_
  refine x_seq ?_
  refine x_region rfl ?_
  refine o_y (y_move rfl) ?_
  refine o_y (y_move rfl) ?_
  obtain ⟨ce18, ae18, re18⟩ := RdL.at h _ j hj
  have se18 := AtS.isSl ae18
  have te18 := re18
  obtain ⟨u18_1, z18, q18_0, q18_1⟩ := re18
  subst z18
  have w18 := Rep.one te18
  refine o_y (y_idxL h j hj underlying22 ti95 rfl rfl (by omega)) ?_
  refine o_y (y_fieldAddrP fd95_1 ti93 (by decide) (by assumption) rfl) ?_
  refine o_y (y_loadS1 ti93 rfl (by assumption) rfl) ?_
  refine o_y (y_lenA underlying93 rfl) ?_
  refine o_y (y_assign rfl) ?_
  refine o_nil ?_
  refine x_ret ?_
  refine x_fin 0 (ret1 rfl rfl) ?_
  rw [e]; exact ⟨rfl, rfl, rfl⟩
abbrev OwnLs.xs {H : HM} {cs : List Value} {ls : List Log} {Rs : OL} (_ : OwnLs H cs ls Rs) : List Log := ls
abbrev OwnLs.cs {H : HM} {cs : List Value} {ls : List Log} {Rs : OL} (_ : OwnLs H cs ls Rs) : List Value := cs
end Go.Ph
set_option linter.unusedVariables false
set_option linter.unusedSimpArgs false
set_option maxRecDepth 100000
namespace Go.Ph
open Go Go.RowKit Go.Proofs.YtmgnagpgnoikfaaGreatDoor Go.Proofs.Tryz
theorem CallsM.flatL {P : Program} {f : FuncId} {args : Array Value} {B : World} {H : HM} {O : OL} {α : Type} [Own α] {xs : List α} (hf : ∀ {H : HM} {cs : List Value} {x : α}, Rep.rd H cs x → Own.ow false H cs x []) (hs : xs.length * Rep.bytes α ≤ 140737488351232) (h : CallsM P f args B H O (MadeR xs (Own.ty α) H O)) : CallsM P f args B H O (MadeL xs H O) := by
  refine CallsM.freezeN hs fun w hw => (h w hw).mono ?_
  rintro e' w' ⟨v, H', O', h1, h2, rfl, R, cs, rfl, h3, h4⟩
  exact ⟨v, _, _, h1, h2, R, cs, [], rfl, Grew.refl _, h3, El.ownFlat hf h4⟩
theorem clone_addL {B : World} {H : HM} {O : OL} {v : Value} {xs : List AddE} (h : RdL H v xs) : CallsM prog 181 [v].toArray B H O (MadeL xs H O) := (clone_addR h).flatL (fun h => ⟨h, rfl⟩) h.small
theorem clone_intL {B : World} {H : HM} {O : OL} {v : Value} {xs : List Int} (h : RdL H v xs) : CallsM prog 182 [v].toArray B H O (MadeL xs H O) := (clone_intR h).flatL (fun h => ⟨h, rfl⟩) h.small
theorem clone_sealL {B : World} {H : HM} {O : OL} {v : Value} {xs : List Seal} (h : RdL H v xs) : CallsM prog 183 [v].toArray B H O (MadeL xs H O) := (clone_sealR h).flatL (fun h => ⟨h, rfl⟩) h.small
theorem clone_joinL {B : World} {H : HM} {O : OL} {v : Value} {xs : List Join} (h : RdL H v xs) : CallsM prog 184 [v].toArray B H O (MadeL xs H O) := (clone_joinR h).flatL (fun h => ⟨h, rfl⟩) h.small
theorem El.uncons {α : Type} [Rep α] {H : HM} {C : List Value} {x : α} {xs : List α} (h : El H C (x :: xs)) : ∃ ds C', C = ds ++ C' ∧ Rep.rd H ds x ∧ El H C' xs := by
  cases h with
  | c h t => exact ⟨_, _, rfl, h, t⟩
theorem copied_own {B : World} {H : HM} {O : OL} {cs : List Value} {c : Commit} (h : Rep.rd H cs c) : CallsM prog 43 [.agg cs.toArray].toArray B H O (MadeO c H O) := by
  obtain ⟨u6, u7, u8, u9, u12, rfl, h0, h1, h2, h3, h4, h5, h6, h7, h8, h9, h10, h11, h12, h13⟩ := h
  have hnl := h11.lenle
  refine enter func43 rfl ntmps43 (l := [(0, _)]) rfl rfl ?_
  refine x_seq ?_
  refine x_region rfl ?_
  refine o_box rfl (cs := [_, _, _, _, _, _, _, _, _, _, _, _, _, _, _]) rfl (fun b1 => ?_)
  refine o_alloc ti31 rfl (fun b2 => ?_)
  refine o_nil ?_
  refine x_seq ?_
  refine x_regionP [(0, true), (1, true), (3, true), (4, true), (6, true), (7, true), (9, true), (10, true), (2, false), (12, true), (5, false), (8, false), (11, false), (13, false), (14, false), (15, false), (16, false), (17, false), (18, false), (19, false)] [0, 1, 3, 4, 6, 7, 9, 10, 12] [13, 15, 17, 19, 14, 16, 18] mixed (by kernel_rfl) npa ?_
  have hE := Ext.refl H
  refine p_take rfl rfl (y_fieldAddr fd31_6 ti23 (by decide) rfl) ?_
  refine p_take rfl rfl (y_loadO ti23 rfl inn rfl) ?_
  refine p_take rfl rfl (y_fieldAddr fd31_7 ti24 (by decide) rfl) ?_
  refine p_take rfl rfl (y_loadO ti24 rfl inn rfl) ?_
  refine p_take rfl rfl (y_fieldAddr fd31_8 ti25 (by decide) rfl) ?_
  refine p_take rfl rfl (y_loadO ti25 rfl inn rfl) ?_
  refine p_take rfl rfl (y_fieldAddr fd31_9 ti26 (by decide) rfl) ?_
  refine p_take rfl rfl (y_loadO ti26 rfl inn rfl) ?_
  refine p_only rfl rfl ?_
  refine o_call fn181 rfl (clone_addL h5) ?_
  rintro v6 H1 _ ⟨rfl, F6, g6, r6⟩
  refine o_nil ?_
  replace hE := hE.trans g6.ext
  obtain ⟨p2, c2, rfl⟩ := r6.shape
  refine ⟨.inr ⟨hE, hld⟩, ?_⟩
  refine p_take rfl rfl (y_fieldAddr fd31_6 ti23 (by decide) rfl) ?_
  refine p_only rfl rfl ?_
  refine o_call fn182 rfl (clone_intL (h6.mono hE)) ?_
  rintro v7 H2 _ ⟨rfl, F7, g7, r7⟩
  refine o_nil ?_
  replace hE := hE.trans g7.ext
  obtain ⟨p5, c5, rfl⟩ := r7.shape
  refine ⟨.inr ⟨hE, hld⟩, ?_⟩
  refine p_only rfl rfl ?_
  refine o_call fn183 rfl (clone_sealL (h7.mono hE)) ?_
  rintro v8 H3 _ ⟨rfl, F8, g8, r8⟩
  refine o_nil ?_
  replace hE := hE.trans g8.ext
  obtain ⟨p8, c8, rfl⟩ := r8.shape
  refine ⟨.inr ⟨hE, hld⟩, ?_⟩
  refine p_only rfl rfl ?_
  refine o_call fn184 rfl (clone_joinL (h8.mono hE)) ?_
  rintro v9 H4 _ ⟨rfl, F9, g9, r9⟩
  refine o_nil ?_
  replace hE := hE.trans g9.ext
  obtain ⟨p11, c11, rfl⟩ := r9.shape
  refine ⟨.inr ⟨hE, hld⟩, ?_⟩
  refine p_only rfl rfl ?_
  refine o_store (u := [_]) (C' := [_, _, _, _, _, _, _, _, _, _, _, _, _, _, _]) ti23 rfl rfl rfl rfl (by first | rfl | assumption | (simp only [ones, List.all_cons, List.all_nil, Bool.and_true, one_of (by assumption)]; done)) (by repeat (first | exact .z | apply Upd.s | apply Upd.a)) (by exact Nat.le_of_ble_eq_true rfl) (by rfl) ?_
  refine o_nil ?_
  refine ⟨.inl rfl, ?_⟩
  refine p_only rfl rfl ?_
  refine o_y (y_fieldAddr fd31_7 ti24 (by decide) rfl) ?_
  refine o_nil ?_
  refine ⟨.inl rfl, ?_⟩
  refine p_only rfl rfl ?_
  refine o_store (u := [_]) (C' := [_, _, _, _, _, _, _, _, _, _, _, _, _, _, _]) ti24 rfl rfl rfl rfl (by first | rfl | assumption | (simp only [ones, List.all_cons, List.all_nil, Bool.and_true, one_of (by assumption)]; done)) (by repeat (first | exact .z | apply Upd.s | apply Upd.a)) (by exact Nat.le_of_ble_eq_true rfl) (by rfl) ?_
  refine o_nil ?_
  refine ⟨.inl rfl, ?_⟩
  refine p_only rfl rfl ?_
  refine o_y (y_fieldAddr fd31_8 ti25 (by decide) rfl) ?_
  refine o_nil ?_
  refine ⟨.inl rfl, ?_⟩
  refine p_only rfl rfl ?_
  refine o_store (u := [_]) (C' := [_, _, _, _, _, _, _, _, _, _, _, _, _, _, _]) ti25 rfl rfl rfl rfl (by first | rfl | assumption | (simp only [ones, List.all_cons, List.all_nil, Bool.and_true, one_of (by assumption)]; done)) (by repeat (first | exact .z | apply Upd.s | apply Upd.a)) (by exact Nat.le_of_ble_eq_true rfl) (by rfl) ?_
  refine o_nil ?_
  refine ⟨.inl rfl, ?_⟩
  refine p_only rfl rfl ?_
  refine o_y (y_fieldAddr fd31_9 ti26 (by decide) rfl) ?_
  refine o_nil ?_
  refine ⟨.inl rfl, ?_⟩
  refine p_only rfl rfl ?_
  refine o_store (u := [_]) (C' := [_, _, _, _, _, _, _, _, _, _, _, _, _, _, _]) ti26 rfl rfl rfl rfl (by first | rfl | assumption | (simp only [ones, List.all_cons, List.all_nil, Bool.and_true, one_of (by assumption)]; done)) (by repeat (first | exact .z | apply Upd.s | apply Upd.a)) (by exact Nat.le_of_ble_eq_true rfl) (by rfl) ?_
  refine o_nil ?_
  refine ⟨.inl rfl, ?_⟩
  refine p_nil ?_
  refine x_seq ?_
  refine x_region rfl ?_
  refine o_y (y_fieldAddr fd31_12 ti29 (by decide) rfl) ?_
  refine o_y (y_fieldAddr fd29_0 ti27 (by decide) rfl) ?_
  refine o_y (y_loadO ti27 rfl inn rfl) ?_
  refine o_call fn185 rfl (clone_nodeR (h11.mono hE)) ?_
  rintro v12 _ _ ⟨rfl, R, cs, rfl, j1, j2⟩
  obtain ⟨p12, c12, rfl⟩ := j1.shape
  refine o_y (y_fieldAddr fd31_12 ti29 (by decide) rfl) ?_
  refine o_y (y_fieldAddr fd29_0 ti27 (by decide) rfl) ?_
  refine o_store (u := [_]) (C' := [_, _, _, _, _, _, _, _, _, _, _, _, _, _, _]) ti27 rfl rfl rfl rfl (by first | rfl | assumption | (simp only [ones, List.all_cons, List.all_nil, Bool.and_true, one_of (by assumption)]; done)) (by repeat (first | exact .z | apply Upd.s | apply Upd.a)) (by exact Nat.le_of_ble_eq_true rfl) (by rfl) ?_
  refine o_nil ?_
  refine x_seq ?_
  refine x_seq ?_
  refine x_region rfl ?_
  refine o_y (y_fieldAddr fd31_12 ti29 (by decide) rfl) ?_
  refine o_y (y_fieldAddr fd29_0 ti27 (by decide) rfl) ?_
  refine o_y (y_loadO ti27 rfl inn rfl) ?_
  refine o_y (y_lenA underlying27 rfl) ?_
  refine o_y (y_move rfl) ?_
  refine o_nil ?_
  refine x_block ?_
  refine x_loopg (σ := Nat × HM × OL × List Value × List Value × List Nat) (fun s => [(31, .int .i64 (s.1 : Int)), (30, .int .i64 (c.next_.nodes.length : Int)), (1, .pointer (some ⟨b1, 0, none⟩)), (2, .pointer (some ⟨b2, 0, none⟩))]) (fun s => s.2.1) (fun s => s.2.2.1 ++ _) (fun s => s.1 ≤ c.next_.nodes.length ∧ Grew H4 s.2.1 s.2.2.2.2.2 ∧ Row (.slice p12 c.next_.nodes.length c12) c.next_.nodes.length (s.2.2.2.1 ++ s.2.2.2.2.1) 127 4 s.2.2.1 ∧ s.2.2.2.1.length = s.1 * 4 ∧ ElO false s.2.1 s.2.2.2.1 (c.next_.nodes.take s.1) s.2.2.2.2.2 ∧ El s.2.1 s.2.2.2.2.1 (c.next_.nodes.drop s.1)) (fun s => c.next_.nodes.length - s.1) (0, H4, R, [], cs, []) ⟨by simp, Grew.refl _, j1, rfl, .n, j2⟩ (.c rfl (.c rfl (.c rfl (.c rfl .n)))) rfl rfl ?_
  rintro ⟨k, H5, R, A, D, F⟩ ⟨i1, i2, i3, i4, i5, i6⟩
  simp only at i1 i2 i3 i4 i5 i6
  refine x_seq ?_
  refine x_region rfl ?_
  refine o_y (y_lss rfl rfl) ?_
  refine o_nil ?_
  refine x_seq ?_
  refine x_cond rfl (fun hc0 => ?_) (fun hc0 => ?_)
  · try simp only [kk] at hc0
    have hk : k < c.next_.nodes.length := by omega
    have iw : El H5 (A ++ D) c.next_.nodes := by
      have z := i5.el.append i6
      rwa [List.take_append_drop] at z
    rw [List.drop_eq_getElem_cons hk] at i6
    obtain ⟨ds, D', rfl, rd, i7⟩ := i6.uncons
    obtain ⟨ud, rfl, d0, d1, d2, d3⟩ := rd
    refine x_skip ?_
    refine x_seq ?_
    refine x_block ?_
    refine x_seq ?_
    refine x_region rfl ?_
    refine o_y (y_move rfl) ?_
    refine o_y (y_assign rfl) ?_
    refine o_nil ?_
    refine x_seq ?_
    refine x_region rfl ?_
    refine o_y (y_fieldAddr fd31_12 ti29 (by decide) rfl) ?_
    refine o_y (y_fieldAddr fd29_0 ti27 (by decide) rfl) ?_
    refine o_y (y_loadO ti27 rfl inn rfl) ?_
    refine o_y (y_move rfl) ?_
    obtain ⟨ce38, ae38, re38⟩ := Row.elAt i3 iw rfl k hk (by omega) (fun p hp => hp)
    have se38 := AtS.isSl ae38
    have te38 := re38
    obtain ⟨u38_3, z38, q38_0, q38_1, q38_2, q38_3⟩ := re38
    subst z38
    have w38 := Rep.one te38
    refine o_y (y_idxR i3 k (by omega) underlying27 ti127 rfl rfl (by omega)) ?_
    refine o_y (y_assign rfl) ?_
    refine o_nil ?_
    refine x_region rfl ?_
    refine o_y (y_move rfl) ?_
    refine o_y (y_move rfl) ?_
    refine o_y (y_nilCheckP (by assumption) rfl) ?_
    refine o_y (y_fieldAddrP fd127_3 ti24 (by decide) (by assumption) rfl) ?_
    refine o_y (y_loadS1 ti24 rfl (AtS.sub (by assumption) (fun p hp => by repeat (first | exact hp | exact List.mem_append_left _ hp | apply List.mem_cons_of_mem | apply List.mem_append_right))) rfl) ?_
    refine o_call fn182 rfl (clone_intL q38_3) ?_
    rintro v44 H6 _ ⟨rfl, F44, g44, r44⟩
    obtain ⟨p44, c44, rfl⟩ := r44.shape
    refine o_y (y_nilCheckP (by assumption) rfl) ?_
    refine o_y (y_fieldAddrP fd127_3 ti24 (by decide) (by assumption) rfl) ?_
    have hl4 : k * 4 + 4 ≤ (A ++ ([.int .i64 c.next_.nodes[k].pub, .int .i64 c.next_.nodes[k].member, .int .i64 c.next_.nodes[k].epoch, ud] ++ D')).length := El.len_le iw hk (j := 4) (Nat.le_refl _)
    refine o_storeS (u := [_]) ti24 rfl rfl i3 rfl rfl (by first | rfl | assumption | (simp only [ones, List.all_cons, List.all_nil, Bool.and_true, one_of (by assumption)]; done)) (by omega) (by omega) hol (fun R7_8 j7_8 => ?_)
    refine o_nil ?_
    refine x_region rfl ?_
    refine o_y (y_addN rfl rfl (by omega) (by omega)) ?_
    refine o_y (y_move rfl) ?_
    refine o_nil ?_
    rw [putC_at' (o := k * 4 + 3) (u := [.slice p44 c.next_.nodes[k].unmerged.length c44]) (A := A ++ [.int .i64 c.next_.nodes[k].pub, .int .i64 c.next_.nodes[k].member, .int .i64 c.next_.nodes[k].epoch]) (X := [ud]) (D := D') (by rw [List.length_append, i4]; rfl) rfl (by simp)] at j7_8
    refine ⟨(k + 1, H6, R7_8, A ++ [.int .i64 c.next_.nodes[k].pub, .int .i64 c.next_.nodes[k].member, .int .i64 c.next_.nodes[k].epoch, .slice p44 c.next_.nodes[k].unmerged.length c44], D', F ++ F44), 0, rfl, (.c rfl (.c rfl (.c rfl (.c rfl .n)))), rfl, ⟨by omega, i2.trans g44, by simpa using j7_8, by rw [List.length_append, i4]; simp; omega, ?_, i7.mono g44.ext⟩, by simp only; omega⟩
    rw [take_next hk]
    exact (i5.mono g44.ext).snoc ⟨_, _, rfl, d0, d1, d2, r44, rfl⟩
  try simp only [kk] at hc0
  refine x_exit ?_
  refine x_seq ?_
  refine x_region rfl ?_
  refine o_y (y_loadA ti31 rfl inn rfl) ?_
  refine o_store (u := [_, _, _, _, _, _, _, _, _, _, _, _, _, _, _]) (C' := [_, _, _, _, _, _, _, _, _, _, _, _, _, _, _]) ti31 rfl rfl rfl rfl (by first | rfl | assumption | (simp only [ones, List.all_cons, List.all_nil, Bool.and_true, one_of (by assumption)]; done)) (by repeat (first | exact .z | apply Upd.s | apply Upd.a)) (by exact Nat.le_of_ble_eq_true rfl) (by rfl) ?_
  refine o_nil ?_
  obtain rfl : k = c.next_.nodes.length := by omega
  rw [List.take_length] at i5
  rw [List.drop_length] at i6
  obtain rfl := i6.nil_of
  rw [List.append_nil] at i3
  refine x_freezeG (S := R) (O' := _) (List.Perm.refl _) (fun H9 g10 hN => ?_)
  refine x_ret ?_
  refine x_fin 2 (retC rfl rfl ti31 inn rfl) ?_
  have e3 := i2.ext.trans g10.ext
  have gg := (((g6.trans g7).trans g8).trans g9).trans (i2.trans g10)
  refine ⟨rfl, F6 ++ (F7 ++ (F8 ++ (F9 ++ (R.map (·.1) ++ F)))), _, gg.perm (perm_count fun a => by simp only [List.count_append]; omega), rfl, ?_⟩
  exact ⟨_, _, _, _, _, F6, F7, F8, F9, _, rfl, h0, h1, h2, h3, h4, r6.mono ((g7.ext.trans (g8.ext.trans g9.ext)).trans e3), r7.mono ((g8.ext.trans g9.ext).trans e3), r8.mono (g9.ext.trans e3), r9.mono e3, h9, h10, OwL.ofRow i3 rfl (i5.mono g10.ext) hN h11.small, h12, h13, rfl⟩
end Go.Ph
set_option linter.unusedVariables false
set_option linter.unusedSimpArgs false
set_option maxRecDepth 100000
namespace Go.Ph
open Go Go.RowKit Go.Proofs.YtmgnagpgnoikfaaGreatDoor Go.Proofs.Tryz
inductive OwnLF (H : HM) : List Value → List Log → OL → List Nat → Prop where
  | n : OwnLF H [] [] [] []
  | c {cs : List Value} {ls : List Log} {Rs : OL} {F Fa : List Nat} {va : Value} {csa : List Value} {Ra : OL} {x : Log} (h : OwnLF H cs ls Rs F) (hg : InR x.group) (hr : Row va x.commits.length csa 31 15 Ra) (he : ElO false H csa x.commits Fa) (hs : x.commits.length * 200 ≤ 140737488351232) : OwnLF H (cs ++ [.int .i64 x.group, va]) (ls ++ [x]) (Ra ++ Rs) (F ++ Fa)
theorem OwnLF.mono {H H' : HM} {cs : List Value} {ls : List Log} {Rs : OL} {F : List Nat} (e : Ext H H') (h : OwnLF H cs ls Rs F) : OwnLF H' cs ls Rs F := by
  induction h with
  | n => exact .n
  | c h hg hr he hs ih => exact .c ih hg hr (he.mono e) hs
theorem OwnLF.one {H' : HM} {va : Value} {csa : List Value} {Ra : OL} {x : Log} {Fa : List Nat} (hg : InR x.group) (hr : Row va x.commits.length csa 31 15 Ra) (he : ElO false H' csa x.commits Fa) (hs : x.commits.length * 200 ≤ 140737488351232) (hH : ∀ b o, (b, o) ∈ Ra → H' b = some o) : Own.ow false H' [.int .i64 x.group, va] x (Ra.map (·.1) ++ Fa) :=
  ⟨va, _, rfl, hg, OwL.ofRow hr rfl he hH hs, rfl⟩
theorem OwnLF.el {H H' : HM} {cs : List Value} {ls : List Log} {Rs : OL} {F : List Nat} (h : OwnLF H cs ls Rs F) (e : Ext H H') (hH : ∀ b o, (b, o) ∈ Rs → H' b = some o) : ∃ G, ElO false H' cs ls G ∧ G.Perm (Rs.map (·.1) ++ F) := by
  induction h with
  | n => exact ⟨[], .n, List.Perm.refl _⟩
  | c h hg hr he hs ih =>
    obtain ⟨G, h1, h2⟩ := ih (fun b o hm => hH b o (by simp [hm]))
    refine ⟨_, h1.snoc (OwnLF.one hg hr (he.mono e) hs (fun b o hm => hH b o (by simp [hm]))), perm_count fun a => ?_⟩
    have := h2.count_eq a
    simp only [List.count_append, List.map_append] at this ⊢
    omega
theorem OwnLF.len {H : HM} {cs : List Value} {ls : List Log} {Rs : OL} {F : List Nat} (h : OwnLF H cs ls Rs F) : cs.length = ls.length * 2 := by
  induction h with
  | n => rfl
  | c h hg hr he hs ih => simp only [List.length_append, List.length_cons, List.length_nil, ih]; omega
theorem OwnLF.split {H : HM} {cs : List Value} {ls : List Log} {Rs : OL} {F : List Nat} (h : OwnLF H cs ls Rs F) : ∀ q (hq : q < ls.length), ∃ A D vq csq Rq Rr Fq Fr, cs = A ++ [.int .i64 ls[q].group, vq] ++ D ∧ A.length = q * 2 ∧ Rs.Perm (Rr ++ Rq) ∧ F.Perm (Fr ++ Fq) ∧ InR ls[q].group ∧ Row vq ls[q].commits.length csq 31 15 Rq ∧ ElO false H csq ls[q].commits Fq ∧ ls[q].commits.length * 200 ≤ 140737488351232 ∧
    ∀ H', Ext H H' → (∀ b o, (b, o) ∈ Rr → H' b = some o) → ∃ FA FD, ElO false H' A (ls.take q) FA ∧ ElO false H' D (ls.drop (q + 1)) FD ∧ (FA ++ FD).Perm (Rr.map (·.1) ++ Fr) := by
  induction h with
  | n => intro q hq; simp at hq
  | @c cs ls Rs F Fa va csa Ra x h hg hr he hs ih =>
    intro q hq
    rw [List.length_append] at hq
    simp only [List.length_cons, List.length_nil] at hq
    by_cases hql : q < ls.length
    · obtain ⟨A, D, vq, csq, Rq, Rr, Fq, Fr, h1, h2, h3, h3', h4, h5, h6, h7, h8⟩ := ih q hql
      have e : (ls ++ [x])[q] = ls[q] := List.getElem_append_left hql
      rw [e]
      refine ⟨A, D ++ [.int .i64 x.group, va], vq, csq, Rq, Ra ++ Rr, Fq, Fr ++ Fa, by rw [h1, List.append_assoc], h2, ?_, ?_, h4, h5, h6, h7, fun H' e' hH => ?_⟩
      · rw [List.append_assoc]; exact List.Perm.append_left Ra h3
      · refine perm_count fun a => ?_
        have := h3'.count_eq a
        simp only [List.count_append] at this ⊢
        omega
      obtain ⟨FA, FD, h9, h10, h11⟩ := h8 H' e' (fun b o hm => hH b o (by simp [hm]))
      refine ⟨FA, FD ++ (Ra.map (·.1) ++ Fa), by rw [List.take_append_of_le_length (by omega)]; exact h9, ?_, ?_⟩
      · rw [List.drop_append_of_le_length (by omega)]
        exact h10.snoc (OwnLF.one hg hr (he.mono e') hs (fun b o hm => hH b o (by simp [hm])))
      refine perm_count fun a => ?_
      have := h11.count_eq a
      simp only [List.count_append, List.map_append] at this ⊢
      omega
    have hq' : q = ls.length := by omega
    subst hq'
    have e : (ls ++ [x])[ls.length] = x := by simp
    have hl := h.len
    rw [e]
    refine ⟨cs, [], va, csa, Ra, Rs, Fa, F, by simp, hl, List.perm_append_comm, List.Perm.refl _, hg, hr, he, hs, fun H' e' hH => ?_⟩
    obtain ⟨G, h9, h10⟩ := h.el e' hH
    refine ⟨G, [], by rw [List.take_left']; exact h9; rfl, by rw [List.drop_of_length_le (by simp)]; exact .n, by rw [List.append_nil]; exact h10⟩
end Go.Ph
set_option linter.unusedVariables false
set_option linter.unusedSimpArgs false
set_option maxRecDepth 100000
namespace Go.Ph
open Go Go.RowKit Go.Proofs.YtmgnagpgnoikfaaGreatDoor Go.Proofs.Tryz
open Classical in
theorem CallsM.subO {P : Program} {f : FuncId} {args : Array Value} {B : World} {H : HM} {O : OL} {R : Value → HM → OL → Prop} (T : OL) (h : ∀ (c : OL → Nat) (s : Nat × Obj → Nat), c [] = 0 → (∀ x A, c (x :: A) = s x + c A) → (∀ A B, c (A ++ B) = c A + c B) → c T ≤ c O) (k : CallsM P f args B H T R) : CallsM P f args B H O R := by
  obtain ⟨rest, hp⟩ := Go.Ph.subO (T := T) (O := O) fun a => h (fun L => L.count a) (fun x => if x == a then 1 else 0) (by simp) (fun x A => by simp only [List.count_cons]; omega) (fun A B => List.count_append)
  intro w hw
  have hw1 := hw.perm hp
  exact k w (hw1.pick (fun p hp => List.mem_append_left _ hp) (hw1.nd.sublist ((List.sublist_append_left _ _).map _)))
theorem range33 : List.range 33 = [0, 1, 2, 3, 4, 5, 6, 7, 8, 9, 10, 11, 12, 13, 14, 15, 16, 17, 18, 19, 20, 21, 22, 23, 24, 25, 26, 27, 28, 29, 30, 31, 32] := rfl
theorem apart_call {B : World} {H0 H : HM} {O S : OL} {bk : Nat} {l : List (Nat × Value)} {F : List Nat} (hB : Base B H0) (g : Grew H0 H F) (m : BkMem 77 hty bk (BK.zero.adds l) S) (f : Flat kt ks kb H l F) (hl : l.length ≤ 1000000000000) :
    CallsM prog 17 [.pointer (some ⟨bk, 0, none⟩)].toArray B H (S ++ O) (Yes H0 O) := by
  obtain ⟨Rs, fl, hp⟩ := f
  obtain ⟨RK, hRK, hk⟩ := fl.kinds
  obtain ⟨C, Rows, rfl, hC, h0, h1, h2, h3⟩ := m.h
  have hz : ∀ k, k < 33 → ∃ (v : Value) (L : List (Value × Nat)), C[k + 2]? = some v ∧ Row v L.length (heldCells L) (hty k) 2 (Rows k) ∧ Held (kt k) (ks k) (kb k) Any3 140737488351232 L (RK k) ∧ L.length ≤ 1000000000000 ∧ (kt k = 0 → v = .slice none 0 0) := by
    intro k hk'
    obtain ⟨v, a1, a2, a3⟩ := h3 k hk'
    obtain ⟨ns, b1, b2, b3⟩ := adds_ls BK.zero l k
    have e : (BK.zero.adds l).ls k = (ofKind k l).zip ns := by rw [b2]; rfl
    have hn := h2 k
    rw [e] at a2 a3 hn
    rw [BK.adds_count] at hn
    have hc0 : BK.zero.count = 0 := rfl
    refine ⟨v, _, a1, a2, hk k hk' ns b1 (fun n hn => by have := b3 n hn; omega), by omega, fun hh => a3 (by rw [fl.absent hh]; rfl)⟩
  have ab : ∀ k, k < 33 → kt k = 0 → C[k + 2]? = some (.slice none 0 0) := fun k hk' hh => by
    obtain ⟨v, L, a1, _, _, _, a5⟩ := hz k hk'
    rw [a1, a5 hh]
  obtain ⟨v0, L0, c0, r0, d0, m0, _⟩ := hz 0 (by decide)
  obtain ⟨v4, L4, c4, r4, d4, m4, _⟩ := hz 4 (by decide)
  obtain ⟨v6, L6, c6, r6, d6, m6, _⟩ := hz 6 (by decide)
  obtain ⟨v7, L7, c7, r7, d7, m7, _⟩ := hz 7 (by decide)
  obtain ⟨v17, L17, c17, r17, d17, m17, _⟩ := hz 17 (by decide)
  obtain ⟨v19, L19, c19, r19, d19, m19, _⟩ := hz 19 (by decide)
  obtain ⟨v26, L26, c26, r26, d26, m26, _⟩ := hz 26 (by decide)
  have key : CallsM prog 17 [.pointer (some ⟨bk, 0, none⟩)].toArray B (H.cuts F) (Rs ++ (((bk, cl C 77) :: (List.range 33).flatMap Rows) ++ O)) (Same (.bool true) (H.cuts F) O) := by
    refine CallsM.perm (hRK.append_right _) ?_
    refine CallsM.subO ((bk, cl C 77) :: (Rows 0 ++ (RK 0 ++ (Rows 4 ++ (RK 4 ++ (Rows 6 ++ (RK 6 ++ (Rows 7 ++ (RK 7 ++ (Rows 17 ++ (RK 17 ++ (Rows 19 ++ (RK 19 ++ (Rows 26 ++ (RK 26 ++ (O)))))))))))))))) (fun q s e0 e1 e2 => ?_) ?_
    · rw [range33]; simp only [List.flatMap_cons, List.flatMap_nil, e0, e1, e2]; omega
    exact apart_ok h1 c0 r0 d0 m0 c4 r4 d4 m4 c6 r6 d6 m6 c7 r7 d7 m7 c17 r17 d17 m17 c19 r19 d19 m19 c26 r26 d26 m26 (ab 1 (by decide) rfl) (ab 2 (by decide) rfl) (ab 3 (by decide) rfl) (ab 5 (by decide) rfl) (ab 8 (by decide) rfl) (ab 9 (by decide) rfl) (ab 10 (by decide) rfl) (ab 11 (by decide) rfl) (ab 12 (by decide) rfl) (ab 13 (by decide) rfl) (ab 14 (by decide) rfl) (ab 15 (by decide) rfl) (ab 16 (by decide) rfl) (ab 18 (by decide) rfl) (ab 20 (by decide) rfl) (ab 21 (by decide) rfl) (ab 22 (by decide) rfl) (ab 23 (by decide) rfl) (ab 24 (by decide) rfl) (ab 25 (by decide) rfl) (ab 27 (by decide) rfl) (ab 28 (by decide) rfl) (ab 29 (by decide) rfl) (ab 30 (by decide) rfl) (ab 31 (by decide) rfl) (ab 32 (by decide) rfl)
  intro w hw
  refine (key w (hw.thaws hB g hp fl.inH)).mono ?_
  rintro e' w' ⟨v, H', O', h1, h2, rfl, rfl, rfl⟩
  exact ⟨_, _, _, h1, h2, rfl, Ext.cuts g, rfl⟩
theorem sum_le {α : Type} {f g : α → Nat} : ∀ {l : List α}, (∀ x ∈ l, f x ≤ g x) → (l.map f).sum ≤ (l.map g).sum
  | [], _ => by simp
  | x :: l, h => by
    have h1 := h x (by simp)
    have h2 := sum_le (l := l) (f := f) (g := g) (fun y hy => h y (by simp [hy]))
    simp only [List.map_cons, List.sum_cons]; omega
theorem sum_mul {α : Type} (f : α → Nat) (k : Nat) : ∀ l : List α, (l.map fun x => k * f x).sum = k * (l.map f).sum
  | [] => rfl
  | x :: l => by simp only [List.map_cons, List.sum_cons, sum_mul f k l, Nat.mul_add]
theorem nlNodes_eq (xs : List Node) : nlNodes xs = xs.length + 1 := by
  unfold nlNodes
  have : (xs.map nlNode).sum = xs.length := by
    induction xs with
    | nil => rfl
    | cons x xs ih => simp only [List.map_cons, List.sum_cons, ih, nlNode, List.length_cons]; omega
  rw [this]
theorem nlCommit_le (c : Commit) : nlCommit c ≤ 5 * commitSize c := by
  have h1 : c.next_.nodes.length ≤ treeSize c.next_ := capSum_ge _ _
  unfold nlCommit commitSize
  rw [nlNodes_eq]; omega
theorem nlLog_le {x : Log} (h : logSize x ≤ 262144) : nlLog x ≤ 5 * logSize x := by
  have e := capSum_eq (lim := 262144) (x.commits.map commitSize) (1 + x.commits.length) (by unfold logSize at h; omega)
  unfold nlLog nlCommits logSize
  rw [e]
  have := sum_le (l := x.commits) (f := nlCommit) (g := fun c => 5 * commitSize c) (fun c _ => nlCommit_le c)
  rw [sum_mul] at this
  omega
theorem nlLogs_le {xs : List Log} (h : logsSize xs ≤ 262144) : nlLogs xs ≤ 2000000 := by
  have e := capSum_eq (lim := 1048575) (xs.map logSize) xs.length (by unfold logsSize at h; omega)
  unfold logsSize at h
  rw [e] at h
  have := sum_le (l := xs) (f := nlLog) (g := fun x => 5 * logSize x) (fun x hx => nlLog_le (by
    have := sum_mem (List.mem_map.2 ⟨x, hx, rfl⟩ : logSize x ∈ xs.map logSize)
    omega))
  rw [sum_mul] at this
  unfold nlLogs
  omega
end Go.Ph
set_option linter.unusedVariables false
set_option linter.unusedSimpArgs false
set_option maxRecDepth 100000
namespace Go.Ph
open Go Go.RowKit Go.Proofs.YtmgnagpgnoikfaaGreatDoor Go.Proofs.Tryz
end Go.Ph
set_option linter.unusedVariables false
set_option linter.unusedSimpArgs false
set_option maxRecDepth 100000
namespace Go.Ph
open Go Go.RowKit Go.Proofs.YtmgnagpgnoikfaaGreatDoor Go.Proofs.Tryz
abbrev GotO (c : Commit) (b : Bool) (H : HM) (O : OL) : Value → HM → OL → Prop := fun v H' O' => O = O' ∧ ∃ F cs, Grew H H' F ∧ v = .tuple #[.agg cs.toArray, .bool b] ∧ Own.ow false H' cs c F
abbrev TouchO (b : Bool) (ys : List Int) (H : HM) (O : OL) : Value → HM → OL → Prop := fun v H' O' => O = O' ∧ ∃ F u, Grew H H' F ∧ v = .tuple #[u, .bool b] ∧ OwL false H' u (if b = true then ys else []) F
theorem commit_zeroO (H : HM) : Own.ow false H [.int .i64 0, .int .i64 0, .int .i64 0, .int .i64 0, .int .i64 0, .bool false, .slice none 0 0, .slice none 0 0, .slice none 0 0, .slice none 0 0, .int .i64 0, .int .i64 0, .slice none 0 0, .int .i64 0, .int .i64 0] (default : Commit) [] := by
  have z : InR 0 := by unfold InR; omega
  exact ⟨_, _, _, _, _, [], [], [], [], [], rfl, z, z, z, z, z, OwL.nil H, OwL.nil H, OwL.nil H, OwL.nil H, z, z, OwL.nil H, z, z, rfl⟩
theorem get_own {B : World} {H : HM} {O : OL} {v : Value} {xs : List Log} {g i : Int} (hT : TabAt H) (h : RdL H v xs) (hg : InR g) (hi : InR i) : CallsM prog 19 [v, .int .i64 g, .int .i64 i].toArray B H O (GotO (getC xs g i) (getB xs g i) H O) := by
  refine enter func19 rfl ntmps19 (l := [(0, _), (1, _), (2, _)]) rfl rfl ?_
  refine x_seq ?_
  refine x_region rfl ?_
  refine o_alloc ti31 rfl (fun b6 => ?_)
  refine o_y (y_assign rfl) ?_
  refine o_nil ?_
  refine x_seq ?_
  refine x_region rfl ?_
  refine o_y (y_move rfl) ?_
  refine o_y (y_move rfl) ?_
  refine o_call fn161 rfl (commits_ok hT h hg) ?_
  rintro v11 _ _ ⟨rfl, rfl, r11⟩
  refine o_y (y_assign rfl) ?_
  refine o_nil ?_
  refine x_seq ?_
  refine x_seq ?_
  refine x_region rfl ?_
  refine o_y (y_move rfl) ?_
  refine o_y (y_lss rfl rfl) ?_
  refine o_y (y_move rfl) ?_
  refine o_split 14 rfl (fun hg2_14 => ?_) (fun hg2_14 => ?_)
  · try simp only [kk] at hg2_14
    refine o_gn 14 rfl rfl rfl ?_
    refine o_gn 14 rfl rfl rfl ?_
    refine o_gn 14 rfl rfl rfl ?_
    refine o_gn 14 rfl rfl rfl ?_
    refine o_y (y_pick rfl rfl) ?_
    refine o_nil ?_
    refine x_condT rfl ?_
    refine x_seq ?_
    refine x_region rfl ?_
    refine o_y (y_buildS bt31 rfl (C := [_, _, _, _, _, _, _, _, _, _, _, _, _, _, _]) rfl) ?_
    refine o_store (u := [_, _, _, _, _, _, _, _, _, _, _, _, _, _, _]) (C' := [_, _, _, _, _, _, _, _, _, _, _, _, _, _, _]) ti31 rfl rfl rfl rfl (by first | rfl | assumption | (simp only [ones, List.all_cons, List.all_nil, Bool.and_true, one_of (by assumption)]; done)) (by repeat (first | exact .z | apply Upd.s | apply Upd.a)) (by exact Nat.le_of_ble_eq_true rfl) (by rfl) ?_
    refine o_y (y_assign rfl) ?_
    refine o_nil ?_
    refine x_ret ?_
    refine x_fin 1 (retC2 rfl rfl rfl ti31 inn rfl) ?_
    rw [getB, decide_eq_false (by omega)]
    refine ⟨rfl, [], _, Grew.refl _, rfl, ?_⟩
    have e : getC xs g i = default := by
      unfold getC
      by_cases h0 : 0 ≤ i
      · rw [if_pos h0, List.getD_eq_getElem?_getD, List.getElem?_eq_none (by omega)]; rfl
      rw [if_neg h0]
    rw [e]; exact commit_zeroO H
  try simp only [kk] at hg2_14
  refine o_gy 14 rfl rfl (y_move rfl) ?_
  refine o_gy 14 rfl rfl (y_move rfl) ?_
  first | refine o_gy 14 rfl rfl (y_lenL (by assumption) underlying93 rfl) ?_ | refine o_gy 14 rfl rfl (y_lenR (by assumption) underlying93 rfl) ?_ | refine o_gy 14 rfl rfl (y_len underlying93 rfl) ?_
  refine o_gy 14 rfl rfl (y_geq rfl rfl) ?_
  refine o_y (y_pick rfl rfl) ?_
  refine o_nil ?_
  refine x_cond rfl (fun hc0 => ?_) (fun hc0 => ?_)
  · try simp only [kk] at hc0
    refine x_seq ?_
    refine x_region rfl ?_
    refine o_y (y_buildS bt31 rfl (C := [_, _, _, _, _, _, _, _, _, _, _, _, _, _, _]) rfl) ?_
    refine o_store (u := [_, _, _, _, _, _, _, _, _, _, _, _, _, _, _]) (C' := [_, _, _, _, _, _, _, _, _, _, _, _, _, _, _]) ti31 rfl rfl rfl rfl (by first | rfl | assumption | (simp only [ones, List.all_cons, List.all_nil, Bool.and_true, one_of (by assumption)]; done)) (by repeat (first | exact .z | apply Upd.s | apply Upd.a)) (by exact Nat.le_of_ble_eq_true rfl) (by rfl) ?_
    refine o_y (y_assign rfl) ?_
    refine o_nil ?_
    refine x_ret ?_
    refine x_fin 1 (retC2 rfl rfl rfl ti31 inn rfl) ?_
    rw [getB, decide_eq_false (by omega)]
    refine ⟨rfl, [], _, Grew.refl _, rfl, ?_⟩
    have e : getC xs g i = default := by
      unfold getC
      by_cases h0 : 0 ≤ i
      · rw [if_pos h0, List.getD_eq_getElem?_getD, List.getElem?_eq_none (by omega)]; rfl
      rw [if_neg h0]
    rw [e]; exact commit_zeroO H
  try simp only [kk] at hc0
  have hk : i.toNat < (commitsOf xs g).length := by omega
  refine x_skip ?_
  refine x_seq ?_
  refine x_region rfl ?_
  refine o_y (y_move rfl) ?_
  refine o_y (y_move rfl) ?_
  obtain ⟨ce23, ae23, re23⟩ := RdL.at r11 _ i.toNat hk
  have se23 := AtS.isSl ae23
  have te23 := re23
  obtain ⟨u23_6, u23_7, u23_8, u23_9, u23_12, z23, q23_0, q23_1, q23_2, q23_3, q23_4, q23_5, q23_6, q23_7, q23_8, q23_9, q23_10, q23_11, q23_12, q23_13⟩ := re23
  subst z23
  have w23 := Rep.one te23
  refine o_y (y_idxL r11 i.toNat hk underlying93 ti31 rfl rfl (by omega)) ?_
  refine o_y (y_loadS ti31 rfl (by assumption) rfl (fun e => by cases e)) ?_
  refine o_call fn43 rfl (copied_own te23) ?_
  rintro v25 H1 _ ⟨rfl, F25, cs25, g25, rfl, r25⟩
  have w25 := Rep.one (Own.ow_rd r25)
  obtain ⟨u6, u7, u8, u9, u12, f6, f7, f8, f9, f12, rfl, r25⟩ := r25
  refine o_store (u := [_, _, _, _, _, _, _, _, _, _, _, _, _, _, _]) (C' := [_, _, _, _, _, _, _, _, _, _, _, _, _, _, _]) ti31 rfl rfl rfl rfl (by first | rfl | assumption | (simp only [ones, List.all_cons, List.all_nil, Bool.and_true, one_of (by assumption)]; done)) (by repeat (first | exact .z | apply Upd.s | apply Upd.a)) (by exact Nat.le_of_ble_eq_true rfl) (by rfl) ?_
  refine o_y (y_assign rfl) ?_
  refine o_nil ?_
  refine x_ret ?_
  refine x_fin 1 (retC2 rfl rfl rfl ti31 inn rfl) ?_
  rw [getB, decide_eq_true (by omega)]
  refine ⟨rfl, _, _, g25, rfl, ?_⟩
  have e : getC xs g i = (commitsOf xs g)[i.toNat] := by
    unfold getC
    rw [if_pos (by omega), List.getD_eq_getElem?_getD, List.getElem?_eq_getElem hk]; rfl
  rw [e]; exact ⟨_, _, _, _, _, _, _, _, _, _, rfl, r25⟩
theorem last_own {B : World} {H : HM} {O : OL} {v : Value} {xs : List Log} {g : Int} (hT : TabAt H) (h : RdL H v xs) (hg : InR g) : CallsM prog 20 [v, .int .i64 g].toArray B H O (GotO (getC xs g (((commitsOf xs g).length : Int) - 1)) (getB xs g (((commitsOf xs g).length : Int) - 1)) H O) := by
  have hl : (commitsOf xs g).length ≤ 140737488351232 := by
    unfold commitsOf
    split
    · rename_i hf
      have hk : placeN xs g < xs.length := (of_decide_eq_true hf.1).1
      obtain ⟨cs, _, u, _, _, h1⟩ := h.at [] _ hk
      rw [logAt_eq hk]; exact h1.lenle
    simp
  refine enter func20 rfl ntmps20 (l := [(0, _), (1, _)]) rfl rfl ?_
  refine x_seq ?_
  refine x_region rfl ?_
  refine o_alloc ti31 rfl (fun b4 => ?_)
  refine o_y (y_assign rfl) ?_
  refine o_nil ?_
  refine x_seq ?_
  refine x_region rfl ?_
  refine o_y (y_move rfl) ?_
  refine o_y (y_move rfl) ?_
  refine o_y (y_move rfl) ?_
  refine o_y (y_move rfl) ?_
  refine o_call fn27 rfl (len_ok hT h hg) ?_
  rintro _ _ _ ⟨rfl, rfl, rfl⟩
  refine o_y (y_subN rfl rfl (by omega) (by omega)) ?_
  refine o_call fn19 rfl (get_own hT h hg (by unfold InR; omega)) ?_
  rintro v12 H1 _ ⟨rfl, F12, cs12, g12, rfl, r12⟩
  have w12 := Rep.one (Own.ow_rd r12)
  obtain ⟨u6, u7, u8, u9, u12, f6, f7, f8, f9, f12, rfl, r12⟩ := r12
  refine o_y (y_extract rfl rfl) ?_
  refine o_y (y_extract rfl rfl) ?_
  refine o_store (u := [_, _, _, _, _, _, _, _, _, _, _, _, _, _, _]) (C' := [_, _, _, _, _, _, _, _, _, _, _, _, _, _, _]) ti31 rfl rfl rfl rfl (by first | rfl | assumption | (simp only [ones, List.all_cons, List.all_nil, Bool.and_true, one_of (by assumption)]; done)) (by repeat (first | exact .z | apply Upd.s | apply Upd.a)) (by exact Nat.le_of_ble_eq_true rfl) (by rfl) ?_
  refine o_y (y_assign rfl) ?_
  refine o_nil ?_
  refine x_ret ?_
  refine x_fin 1 (retC2 rfl rfl rfl ti31 inn rfl) ?_
  exact ⟨rfl, _, _, g12, rfl, _, _, _, _, _, _, _, _, _, _, rfl, r12⟩
theorem touched_own {B : World} {H : HM} {O : OL} {v : Value} {xs : List Log} {g i : Int} (hT : TabAt H) (h : RdL H v xs) (hg : InR g) (hi : InR i) : CallsM prog 21 [v, .int .i64 g, .int .i64 i].toArray B H O (TouchO (getB xs g i) (touchedL xs g i) H O) := by
  refine enter func21 rfl ntmps21 (l := [(0, _), (1, _), (2, _)]) rfl rfl ?_
  refine x_seq ?_
  refine x_region rfl ?_
  refine o_y (y_assign rfl) ?_
  refine o_y (y_assign rfl) ?_
  refine o_nil ?_
  refine x_seq ?_
  refine x_region rfl ?_
  refine o_y (y_move rfl) ?_
  refine o_y (y_move rfl) ?_
  refine o_y (y_move rfl) ?_
  refine o_call fn19 rfl (get_ok hT h hg hi) ?_
  rintro v17 H1 _ ⟨x17, rfl, cs17, rfl, r17⟩
  have w17 := Rep.one r17
  obtain ⟨u6, u7, u8, u9, u12, rfl, a0, a1, a2, a3, a4, a5, a6, a7, a8, a9, a10, a11, a12, a13⟩ := r17
  refine o_y (y_move rfl) ?_
  refine o_y (y_extract rfl rfl) ?_
  refine o_y (y_extract rfl rfl) ?_
  refine o_alloc ti31 rfl (fun b8 => ?_)
  refine o_store (u := [_, _, _, _, _, _, _, _, _, _, _, _, _, _, _]) (C' := [_, _, _, _, _, _, _, _, _, _, _, _, _, _, _]) ti31 rfl rfl rfl rfl (by first | rfl | assumption | (simp only [ones, List.all_cons, List.all_nil, Bool.and_true, one_of (by assumption)]; done)) (by repeat (first | exact .z | apply Upd.s | apply Upd.a)) (by exact Nat.le_of_ble_eq_true rfl) (by rfl) ?_
  refine o_y (y_assign rfl) ?_
  refine o_nil ?_
  refine x_seq ?_
  refine x_seq ?_
  refine x_region rfl ?_
  refine o_y (y_move rfl) ?_
  refine o_y (y_not rfl) ?_
  refine o_nil ?_
  refine x_cond rfl (fun hc0 => ?_) (fun hc0 => ?_)
  · try simp only [kk] at hc0
    refine x_seq ?_
    refine x_region rfl ?_
    refine o_y (y_assign rfl) ?_
    refine o_y (y_assign rfl) ?_
    refine o_nil ?_
    refine x_ret ?_
    refine x_fin 1 (ret2 rfl rfl rfl) ?_
    refine ⟨rfl, [], .slice none 0 0, Grew.ofExt x17, ?_, ?_⟩
    · rw [show getB xs g i = false by assumption]
    rw [show getB xs g i = false by assumption]; exact OwL.nil _
  try simp only [kk] at hc0
  have hgb : getB xs g i = true := by assumption
  have hiR := hi
  unfold InR at hiR
  have hi0 := (of_decide_eq_true hgb).1
  have hta := get_take hgb
  have hm0 := take_pos hta.1
  have hm8 := membersL_small a11
  refine x_skip ?_
  refine x_seq ?_
  refine x_region rfl ?_
  refine o_y (y_fieldAddr fd31_12 ti29 (by decide) rfl) ?_
  refine o_y (y_loadP ti29 rfl inn (cs := [_]) rfl rfl) ?_
  refine o_call fn162 rfl (membersR_ok (hT.ext x17) a11) ?_
  rintro v24 _ _ ⟨rfl, R, cs, rfl, j1, j2⟩
  refine o_y (y_assign rfl) ?_
  refine o_nil ?_
  refine x_seq ?_
  refine x_seq ?_
  refine x_region rfl ?_
  refine o_y (y_move rfl) ?_
  refine o_y (y_move rfl) ?_
  refine o_y (y_move rfl) ?_
  refine o_y (y_subN rfl rfl (by omega) (by omega)) ?_
  refine o_call fn19 rfl (get_ok (hT.ext x17) (h.mono x17) hg (by unfold InR at hi ⊢; omega)) ?_
  rintro v30 H2 _ ⟨x30, rfl, cs30, rfl, r30⟩
  have w30 := Rep.one r30
  obtain ⟨u6', u7', u8', u9', u12', rfl, c0, c1, c2, c3, c4, c5, c6, c7, c8, c9, c10, c11, c12, c13⟩ := r30
  refine o_y (y_move rfl) ?_
  refine o_y (y_extract rfl rfl) ?_
  refine o_y (y_extract rfl rfl) ?_
  refine o_alloc ti31 rfl (fun b11 => ?_)
  refine o_store (u := [_, _, _, _, _, _, _, _, _, _, _, _, _, _, _]) (C' := [_, _, _, _, _, _, _, _, _, _, _, _, _, _, _]) ti31 rfl rfl rfl rfl (by first | rfl | assumption | (simp only [ones, List.all_cons, List.all_nil, Bool.and_true, one_of (by assumption)]; done)) (by repeat (first | exact .z | apply Upd.s | apply Upd.a)) (by exact Nat.le_of_ble_eq_true rfl) (by rfl) ?_
  refine o_y (y_assign rfl) ?_
  refine o_nil ?_
  refine x_seq ?_
  refine x_region rfl ?_
  refine o_y (y_move rfl) ?_
  refine o_nil ?_
  refine x_cond rfl (fun hc1 => ?_) (fun hc1 => ?_)
  · try simp only [kk] at hc1
    have hgb2 : getB xs g (i - 1) = true := by assumption
    have hm1 := take_pos (get_take hgb2).1
    have hm9 := membersL_small c11
    refine x_region rfl ?_
    refine o_y (y_move rfl) ?_
    refine o_y (y_fieldAddr fd31_12 ti29 (by decide) rfl) ?_
    refine o_y (y_loadP ti29 rfl inn (cs := [_]) rfl rfl) ?_
    refine o_call fn162 rfl (members_ok ((hT.ext x17).ext x30) c11) ?_
    rintro v37 H3 _ ⟨x37, rfl, r37⟩
    have hs37 : ∃ a n c, v37 = .slice (some a) n c := by
      obtain ⟨p, c, rfl⟩ := r37.shape
      obtain ⟨q, h4, _⟩ := r37.at [] 0 hm1
      have h5 := AtS.isSl h4
      cases p with
      | none => simp [isSl] at h5
      | some a => exact ⟨a, _, c, rfl⟩
    refine o_appendL underlying24 ti3 rfl (by decide) rfl rfl j1 rfl r37 hs37 (by omega) (by omega) hol (fun v38 R38 news hn jr' => ?_)
    obtain ⟨zs, hz, hz0, hz16, jr, je⟩ : ∃ zs, zs = touch0 xs g i ∧ 0 < zs.length ∧ zs.length ≤ 16 ∧ Row v38 zs.length (cs ++ news) 3 1 R38 ∧ El H3 (cs ++ news) zs := ⟨_, rfl, by unfold touch0; rw [if_pos hgb2]; simp; omega, by unfold touch0; rw [if_pos hgb2]; simp; omega, by unfold touch0; rw [if_pos hgb2, List.length_append]; exact jr', by unfold touch0; rw [if_pos hgb2]; exact (j2.mono (x30.trans x37)).append hn⟩
    have xe := (x17.trans x30).trans x37
    refine o_y (y_assign rfl) ?_
    refine o_nil ?_
    refine x_seq ?_
    refine x_region rfl ?_
    refine o_y (y_move rfl) ?_
    refine o_call fn163 rfl (sort_ok jr je hz0 hz16 (.s .z)) ?_
    rintro v40 _ _ ⟨rfl, rfl, R40, rfl, j40⟩
    refine o_nil ?_
    refine x_seq ?_
    refine x_region rfl ?_
    have hso : ∀ x ∈ sortL zs, InR x := fun x hx => je.ints.2 x (sortL_mem.1 hx)
    have hsl := sortL_len zs
    rw [← hsl] at j40
    refine o_y (y_move rfl) ?_
    refine o_call fn164 rfl (compact_ok j40 (El.ofInts hso) (by omega) (by omega) (.s .z)) ?_
    rintro v42 _ _ ⟨rfl, R42, rfl, j42⟩
    refine o_y (y_assign rfl) ?_
    refine o_y (y_assign rfl) ?_
    refine o_nil ?_
    refine x_freezeG (S := R42) (O' := _ :: _ :: O) List.perm_middle.symm (fun H9 g9 hN => ?_)
    refine x_ret ?_
    refine x_fin 2 (ret2 rfl rfl rfl) ?_
    refine ⟨rfl, _, _, Grew.after xe g9, by rw [hgb], ?_⟩
    have hcl : (compL (sortL zs)).length ≤ (sortL zs).length := compL_le _
    rw [hgb, if_pos rfl, touchedL, ← hz]
    have := OwL.ofRow (α := Int) j42 rfl (El.ownFlat (fun h => ⟨h, rfl⟩) ((El.ofInts (H := H9) (fun x hx => hso x (compL_mem hx))))) hN (by have e : Rep.bytes Int = 8 := rfl; rw [e]; omega)
    rwa [List.append_nil] at this
  try simp only [kk] at hc1
  obtain ⟨zs, hz, hz0, hz16, jr, je⟩ : ∃ zs, zs = touch0 xs g i ∧ 0 < zs.length ∧ zs.length ≤ 16 ∧ Row v24 zs.length cs 3 1 R ∧ El H2 cs zs := by
    have e : touch0 xs g i = membersL (getC xs g i).next_.nodes := by unfold touch0; rw [if_neg (by simp_all), List.append_nil]
    exact ⟨_, rfl, by rw [e]; omega, by rw [e]; omega, by rw [e]; exact j1, by rw [e]; exact j2.mono x30⟩
  have xe := x17.trans x30
  refine x_skip ?_
  refine x_seq ?_
  refine x_region rfl ?_
  refine o_y (y_move rfl) ?_
  refine o_call fn163 rfl (sort_ok jr je hz0 hz16 (.s .z)) ?_
  rintro v40 _ _ ⟨rfl, rfl, R40, rfl, j40⟩
  refine o_nil ?_
  refine x_seq ?_
  refine x_region rfl ?_
  have hso : ∀ x ∈ sortL zs, InR x := fun x hx => je.ints.2 x (sortL_mem.1 hx)
  have hsl := sortL_len zs
  rw [← hsl] at j40
  refine o_y (y_move rfl) ?_
  refine o_call fn164 rfl (compact_ok j40 (El.ofInts hso) (by omega) (by omega) (.s .z)) ?_
  rintro v42 _ _ ⟨rfl, R42, rfl, j42⟩
  refine o_y (y_assign rfl) ?_
  refine o_y (y_assign rfl) ?_
  refine o_nil ?_
  refine x_freezeG (S := R42) (O' := _ :: _ :: O) List.perm_middle.symm (fun H9 g9 hN => ?_)
  refine x_ret ?_
  refine x_fin 2 (ret2 rfl rfl rfl) ?_
  refine ⟨rfl, _, _, Grew.after xe g9, by rw [hgb], ?_⟩
  have hcl : (compL (sortL zs)).length ≤ (sortL zs).length := compL_le _
  rw [hgb, if_pos rfl, touchedL, ← hz]
  have := OwL.ofRow (α := Int) j42 rfl (El.ownFlat (fun h => ⟨h, rfl⟩) ((El.ofInts (H := H9) (fun x hx => hso x (compL_mem hx))))) hN (by have e : Rep.bytes Int = 8 := rfl; rw [e]; omega)
  rwa [List.append_nil] at this
end Go.Ph
set_option linter.unusedVariables false
set_option linter.unusedSimpArgs false
set_option maxRecDepth 100000
namespace Go.Ph
open Go Go.RowKit Go.Proofs.YtmgnagpgnoikfaaGreatDoor Go.Proofs.Tryz
theorem commits_some {xs : List Log} {g : Int} (h : 0 < (commitsOf xs g).length) : lcheckB xs = true ∧ ∃ j, ∃ hj : j < xs.length, rpl xs 0 g = (j : Int) ∧ commitsOf xs g = xs[j].commits := by
  have hv : lcheckB xs = true := by
    unfold commitsOf at h
    split at h
    · rename_i hh; exact hh.2
    simp at h
  refine ⟨hv, ?_⟩
  rcases rpl_spec g xs 0 with ⟨p1, p2⟩ | ⟨j, hj, p1, p2⟩
  · rw [(commitsOf_spec hv g).2.1 p2] at h; simp at h
  exact ⟨j, hj, by rw [p1]; congr 1; omega, (commitsOf_spec hv g).1 _ (List.getElem_mem hj) p2⟩
theorem rget_ok {B : World} {H : HM} {O : OL} {v : Value} {xs : List Log} {g i : Int} (h : RdL H v xs) : CallsM prog 22 [v, .int .i64 g, .int .i64 i].toArray B H O (Got (getC xs g i) (getB xs g i) H O) := by
  have hs := h.lenle
  refine enter func22 rfl ntmps22 (l := [(0, _), (1, _), (2, _)]) rfl rfl ?_
  refine x_seq ?_
  refine x_region rfl ?_
  refine o_alloc ti31 rfl (fun b6 => ?_)
  refine o_y (y_assign rfl) ?_
  refine o_nil ?_
  refine x_seq ?_
  refine x_seq ?_
  refine x_region rfl ?_
  refine o_y (y_move rfl) ?_
  refine o_y (y_lss rfl rfl) ?_
  refine o_y (y_move rfl) ?_
  refine o_split 10 rfl (fun hg1_10 => ?_) (fun hg1_10 => ?_)
  · try simp only [kk] at hg1_10
    refine o_gn 10 rfl rfl rfl ?_
    refine o_gn 10 rfl rfl rfl ?_
    refine o_gn 10 rfl rfl rfl ?_
    refine o_gn 10 rfl rfl rfl ?_
    refine o_gn 10 rfl rfl rfl ?_
    refine o_y (y_pick rfl rfl) ?_
    refine o_nil ?_
    refine x_condT rfl ?_
    refine x_seq ?_
    refine x_region rfl ?_
    refine o_y (y_buildS bt31 rfl (C := [_, _, _, _, _, _, _, _, _, _, _, _, _, _, _]) rfl) ?_
    refine o_store (u := [_, _, _, _, _, _, _, _, _, _, _, _, _, _, _]) (C' := [_, _, _, _, _, _, _, _, _, _, _, _, _, _, _]) ti31 rfl rfl rfl rfl (by first | rfl | assumption | (simp only [ones, List.all_cons, List.all_nil, Bool.and_true, one_of (by assumption)]; done)) (by repeat (first | exact .z | apply Upd.s | apply Upd.a)) (by exact Nat.le_of_ble_eq_true rfl) (by rfl) ?_
    refine o_y (y_assign rfl) ?_
    refine o_nil ?_
    refine x_ret ?_
    refine x_fin 1 (retC2 rfl rfl rfl ti31 inn rfl) ?_
    have hb : ¬ (0 ≤ i ∧ i < (commitsOf xs g).length) := by omega
    rw [getB, decide_eq_false hb]
    refine ⟨Ext.refl _, rfl, _, rfl, ?_⟩
    have e : getC xs g i = default := by
      unfold getC
      by_cases h0 : 0 ≤ i
      · rw [if_pos h0, List.getD_eq_getElem?_getD, List.getElem?_eq_none (by omega)]; rfl
      rw [if_neg h0]
    rw [e]; exact commit_zero H
  try simp only [kk] at hg1_10
  refine o_gy 10 rfl rfl (y_move rfl) ?_
  refine o_gy 10 rfl rfl (y_move rfl) ?_
  refine o_gy 10 rfl rfl (y_move rfl) ?_
  refine o_gcall 10 rfl rfl fn28 rfl (rlen_ok h) ?_
  rintro _ _ _ ⟨rfl, rfl, rfl⟩
  refine o_gy 10 rfl rfl (y_geq rfl rfl) ?_
  refine o_y (y_pick rfl rfl) ?_
  refine o_nil ?_
  refine x_cond rfl (fun hc0 => ?_) (fun hc0 => ?_)
  · try simp only [kk] at hc0
    refine x_seq ?_
    refine x_region rfl ?_
    refine o_y (y_buildS bt31 rfl (C := [_, _, _, _, _, _, _, _, _, _, _, _, _, _, _]) rfl) ?_
    refine o_store (u := [_, _, _, _, _, _, _, _, _, _, _, _, _, _, _]) (C' := [_, _, _, _, _, _, _, _, _, _, _, _, _, _, _]) ti31 rfl rfl rfl rfl (by first | rfl | assumption | (simp only [ones, List.all_cons, List.all_nil, Bool.and_true, one_of (by assumption)]; done)) (by repeat (first | exact .z | apply Upd.s | apply Upd.a)) (by exact Nat.le_of_ble_eq_true rfl) (by rfl) ?_
    refine o_y (y_assign rfl) ?_
    refine o_nil ?_
    refine x_ret ?_
    refine x_fin 1 (retC2 rfl rfl rfl ti31 inn rfl) ?_
    have hb : ¬ (0 ≤ i ∧ i < (commitsOf xs g).length) := by omega
    rw [getB, decide_eq_false hb]
    refine ⟨Ext.refl _, rfl, _, rfl, ?_⟩
    have e : getC xs g i = default := by
      unfold getC
      by_cases h0 : 0 ≤ i
      · rw [if_pos h0, List.getD_eq_getElem?_getD, List.getElem?_eq_none (by omega)]; rfl
      rw [if_neg h0]
    rw [e]; exact commit_zero H
  try simp only [kk] at hc0
  have hk : i.toNat < (commitsOf xs g).length := by omega
  obtain ⟨hv, j, hj, e1, e2⟩ := commits_some (show 0 < (commitsOf xs g).length by omega)
  have hk2 : i.toNat < xs[j].commits.length := by rw [← e2]; exact hk
  refine x_skip ?_
  refine x_seq ?_
  refine x_region rfl ?_
  refine o_y (y_move rfl) ?_
  refine o_y (y_move rfl) ?_
  refine o_y (y_move rfl) ?_
  refine o_call fn165 rfl (rplace_ok h) ?_
  rintro _ _ _ ⟨rfl, rfl, rfl⟩
  obtain ⟨ce22, ae22, re22⟩ := RdL.at h _ j hj
  have se22 := AtS.isSl ae22
  have te22 := re22
  obtain ⟨u22_1, z22, q22_0, q22_1⟩ := re22
  subst z22
  have w22 := Rep.one te22
  refine o_y (y_idxL h j hj underlying22 ti95 rfl rfl (by omega)) ?_
  refine o_y (y_fieldAddrP fd95_1 ti93 (by decide) (by assumption) rfl) ?_
  refine o_y (y_loadS1 ti93 rfl (by assumption) rfl) ?_
  refine o_y (y_move rfl) ?_
  obtain ⟨ce26, ae26, re26⟩ := RdL.at q22_1 _ i.toNat hk2
  have se26 := AtS.isSl ae26
  have te26 := re26
  obtain ⟨u26_6, u26_7, u26_8, u26_9, u26_12, z26, q26_0, q26_1, q26_2, q26_3, q26_4, q26_5, q26_6, q26_7, q26_8, q26_9, q26_10, q26_11, q26_12, q26_13⟩ := re26
  subst z26
  have w26 := Rep.one te26
  refine o_y (y_idxL q22_1 i.toNat hk2 underlying93 ti31 rfl rfl (by omega)) ?_
  refine o_y (y_loadS ti31 rfl (by assumption) rfl (fun e => by cases e)) ?_
  refine o_store (u := [_, _, _, _, _, _, _, _, _, _, _, _, _, _, _]) (C' := [_, _, _, _, _, _, _, _, _, _, _, _, _, _, _]) ti31 rfl rfl rfl rfl (by first | rfl | assumption | (simp only [ones, List.all_cons, List.all_nil, Bool.and_true, one_of (by assumption)]; done)) (by repeat (first | exact .z | apply Upd.s | apply Upd.a)) (by exact Nat.le_of_ble_eq_true rfl) (by rfl) ?_
  refine o_y (y_assign rfl) ?_
  refine o_nil ?_
  refine x_ret ?_
  refine x_fin 1 (retC2 rfl rfl rfl ti31 inn rfl) ?_
  rw [getB, decide_eq_true (by omega)]
  refine ⟨Ext.refl _, rfl, _, rfl, ?_⟩
  have e : getC xs g i = xs[j].commits[i.toNat] := by
    unfold getC
    rw [if_pos (by omega), e2, List.getD_eq_getElem?_getD, List.getElem?_eq_getElem hk2]; rfl
  rw [e]; exact te26
theorem rlast_ok {B : World} {H : HM} {O : OL} {v : Value} {xs : List Log} {g : Int} (h : RdL H v xs) : CallsM prog 23 [v, .int .i64 g].toArray B H O (Got (getC xs g (((commitsOf xs g).length : Int) - 1)) (getB xs g (((commitsOf xs g).length : Int) - 1)) H O) := by
  have hl := commits_len (g := g) h
  refine enter func23 rfl ntmps23 (l := [(0, _), (1, _)]) rfl rfl ?_
  refine x_seq ?_
  refine x_region rfl ?_
  refine o_alloc ti31 rfl (fun b4 => ?_)
  refine o_y (y_assign rfl) ?_
  refine o_nil ?_
  refine x_seq ?_
  refine x_region rfl ?_
  refine o_y (y_move rfl) ?_
  refine o_y (y_move rfl) ?_
  refine o_y (y_move rfl) ?_
  refine o_y (y_move rfl) ?_
  refine o_call fn28 rfl (rlen_ok h) ?_
  rintro _ _ _ ⟨rfl, rfl, rfl⟩
  refine o_y (y_subN rfl rfl (by omega) (by omega)) ?_
  refine o_call fn22 rfl (rget_ok h) ?_
  rintro v12 H1 _ ⟨x12, rfl, cs12, rfl, r12⟩
  have w12 := Rep.one r12
  obtain ⟨u6, u7, u8, u9, u12, rfl, r12⟩ := r12
  refine o_y (y_extract rfl rfl) ?_
  refine o_y (y_extract rfl rfl) ?_
  refine o_store (u := [_, _, _, _, _, _, _, _, _, _, _, _, _, _, _]) (C' := [_, _, _, _, _, _, _, _, _, _, _, _, _, _, _]) ti31 rfl rfl rfl rfl (by first | rfl | assumption | (simp only [ones, List.all_cons, List.all_nil, Bool.and_true, one_of (by assumption)]; done)) (by repeat (first | exact .z | apply Upd.s | apply Upd.a)) (by exact Nat.le_of_ble_eq_true rfl) (by rfl) ?_
  refine o_y (y_assign rfl) ?_
  refine o_nil ?_
  refine x_ret ?_
  refine x_fin 1 (retC2 rfl rfl rfl ti31 inn rfl) ?_
  exact ⟨x12, rfl, _, rfl, _, _, _, _, _, rfl, r12⟩
theorem memsTo_end {xs : List Node} {k : Nat} (h1 : xs.length ≤ 2 * k) (h2 : 2 * k ≤ xs.length + 1) : memsTo xs (2 * k) = memsTo xs xs.length := by
  by_cases e : 2 * k = xs.length
  · rw [e]
  have e2 : 2 * k = xs.length + 1 := by omega
  rw [e2, memsTo_no (isLeaf_odd (by omega))]
theorem leaf_nn {xs : List Node} (hc : checkB xs = true) {k : Nat} (hk : 2 * k < xs.length) : 0 ≤ (nodeAt xs (2 * k)).pub ∧ xs.length ≤ 15 := by
  rcases checkB_spec hc with h1 | ⟨h0, h1, _⟩
  · omega
  refine ⟨?_, by unfold leavesN at h0; (repeat' split at h0) <;> omega⟩
  have := h1 _ hk
  unfold goodAt at this
  rw [if_neg (by omega)] at this
  simp only [Bool.or_eq_true, Bool.and_eq_true, decide_eq_true_eq, Node.blankB] at this
  omega
theorem rmembersR_ok {B : World} {H : HM} {O : OL} {v : Value} {xs : List Node} (h : RdL H v xs) : CallsM prog 260 [.agg #[v]].toArray B H O (MadeR (membersL xs) 3 H O) := by
  have hs := h.lenle
  have hck := errI_cases (checkB xs)
  refine enter func260 rfl ntmps260 (l := [(0, _)]) rfl rfl ?_
  refine x_seq ?_
  refine x_region rfl ?_
  refine o_box rfl (cs := [_]) rfl (fun b1 => ?_)
  refine o_y (y_assign rfl) ?_
  refine o_nil ?_
  refine x_seq ?_
  refine x_seq ?_
  refine x_region rfl ?_
  refine o_y (y_loadA ti29 rfl inn rfl) ?_
  refine o_call fn188 rfl (rcheck_ok h) ?_
  rintro _ _ _ ⟨rfl, rfl, rfl⟩
  refine o_y (y_neq rfl rfl) ?_
  refine o_nil ?_
  refine x_cond rfl (fun hc0 => ?_) (fun hc0 => ?_)
  · try simp only [kk] at hc0
    refine x_seq ?_
    refine x_region rfl ?_
    refine o_y (y_assign rfl) ?_
    refine o_nil ?_
    refine x_ret ?_
    refine x_fin 1 (ret1 rfl rfl) ?_
    have e : membersL xs = [] := by
      rcases hck with ⟨e1, e2⟩ | ⟨e1, e2⟩
      · exfalso; omega
      rw [membersL, e1]; rfl
    rw [e]; exact ⟨rfl, [], [], rfl, Row.nil _ _, .n⟩
  try simp only [kk] at hc0
  refine x_skip ?_
  refine x_seq ?_
  refine x_region rfl ?_
  refine o_y (y_assign rfl) ?_
  refine o_nil ?_
  refine x_seq ?_
  refine x_seq ?_
  refine x_region rfl ?_
  refine o_y (y_assign rfl) ?_
  refine o_nil ?_
  refine x_block ?_
  have hc : checkB xs = true := by
    rcases hck with ⟨e1, e2⟩ | ⟨e1, e2⟩
    · exact e1
    exfalso; omega
  refine x_loopf (σ := Nat × Value × OL × List Value) (fun s => [(4, .int .i64 (2 * s.1 : Nat)), (3, s.2.1), (1, .pointer (some ⟨b1, 0, none⟩))]) (fun s => s.2.2.1 ++ ((b1, cl [v] 29) :: O)) (fun s => 2 * s.1 ≤ xs.length + 1 ∧ Row s.2.1 (memsTo xs (2 * s.1)).length s.2.2.2 3 1 s.2.2.1 ∧ El H s.2.2.2 (memsTo xs (2 * s.1))) (fun s => xs.length + 1 - 2 * s.1) (0, .slice none 0 0, [], []) ⟨by simp, Row.nil _ _, .n⟩ (.c rfl (.c rfl (.c rfl .n))) rfl ?_
  rintro ⟨k, v3, R, cs⟩ ⟨i1, i2, i3⟩
  simp only at i1 i2 i3
  refine x_seq ?_
  refine x_seq ?_
  refine x_region rfl ?_
  refine o_y (y_move rfl) ?_
  refine o_y (y_fieldAddr fd29_0 ti27 (by decide) rfl) ?_
  refine o_y (y_loadO ti27 rfl inn rfl) ?_
  refine o_y (y_lenA underlying27 rfl) ?_
  refine o_y (y_lss rfl rfl) ?_
  refine o_nil ?_
  refine x_cond rfl (fun hc1 => ?_) (fun hc1 => ?_)
  · try simp only [kk] at hc1
    have hk2 : 2 * k < xs.length := by omega
    have hml := memsTo_len xs (2 * k)
    have en := nodeAt_eq hk2
    obtain ⟨hnn, h15⟩ := leaf_nn hc hk2
    rw [en] at hnn
    refine x_skip ?_
    refine x_seq ?_
    refine x_block ?_
    refine x_seq ?_
    refine x_region rfl ?_
    refine o_y (y_fieldAddr fd29_0 ti27 (by decide) rfl) ?_
    refine o_y (y_loadO ti27 rfl inn rfl) ?_
    refine o_y (y_move rfl) ?_
    obtain ⟨ce18, ae18, re18⟩ := RdL.at h _ (2 * k) hk2
    have se18 := AtS.isSl ae18
    have te18 := re18
    obtain ⟨u18_3, z18, q18_0, q18_1, q18_2, q18_3⟩ := re18
    subst z18
    have w18 := Rep.one te18
    refine o_y (y_idxL h (2 * k) hk2 underlying27 ti127 rfl rfl (by omega)) ?_
    refine o_y (y_fieldAddrP fd127_0 ti3 (by decide) (by assumption) rfl) ?_
    refine o_y (y_loadS1 ti3 rfl (by assumption) rfl) ?_
    refine o_y (y_neq rfl rfl) ?_
    refine o_nil ?_
    refine x_cond rfl (fun hc2 => ?_) (fun hc2 => ?_)
    · try simp only [kk] at hc2
      refine x_region rfl ?_
      refine o_y (y_move rfl) ?_
      refine o_y (y_fieldAddr fd29_0 ti27 (by decide) rfl) ?_
      refine o_y (y_loadO ti27 rfl inn rfl) ?_
      refine o_y (y_move rfl) ?_
      obtain ⟨ce26, ae26, re26⟩ := RdL.at h _ (2 * k) hk2
      have se26 := AtS.isSl ae26
      have te26 := re26
      obtain ⟨u26_3, z26, q26_0, q26_1, q26_2, q26_3⟩ := re26
      subst z26
      have w26 := Rep.one te26
      refine o_y (y_idxL h (2 * k) hk2 underlying27 ti127 rfl rfl (by omega)) ?_
      refine o_y (y_fieldAddrP fd127_1 ti3 (by decide) (by assumption) rfl) ?_
      refine o_y (y_loadS1 ti3 rfl (by assumption) rfl) ?_
      refine o_slice1 underlying24 ti3 (by decide) (by decide) rfl rfl (C := [_]) rfl rfl (fun b29 => ?_)
      refine o_append underlying24 ti3 rfl (by decide) rfl i2 rfl (At.all inn) rfl rfl (by omega) (by omega) hol (fun v' R' j1 => ?_)
      refine o_y (y_assign rfl) ?_
      refine o_nil ?_
      refine x_region rfl ?_
      refine o_y (y_move rfl) ?_
      refine o_y (y_addN rfl rfl (by omega) (by omega)) ?_
      refine o_y (y_assign rfl) ?_
      refine o_nil ?_
      first
      | exact ⟨(k + 1, v', R', _), 1, rfl, (.c (by show some (Value.int .i64 (((2 * k : Nat) : Int) + 2)) = some (Value.int .i64 ((2 * (k + 1) : Nat) : Int)); congr 2) (.c rfl (.c rfl .n))), rfl, ⟨by simp only; omega, by simp only; rw [memsTo_two hc hk2, if_pos (by rw [en]; omega), List.length_append]; exact j1, by simp only; rw [memsTo_two hc hk2, if_pos (by rw [en]; omega), en]; exact i3.snoc ⟨rfl, by assumption⟩⟩, by simp only; omega⟩
      | exact ⟨(k + 1, v3, R, _), 0, rfl, (.c (by show some (Value.int .i64 (((2 * k : Nat) : Int) + 2)) = some (Value.int .i64 ((2 * (k + 1) : Nat) : Int)); congr 2) (.c rfl (.c rfl .n))), rfl, ⟨by simp only; omega, by simp only; rw [memsTo_two hc hk2, if_neg (by rw [en]; omega), List.append_nil]; exact i2, by simp only; rw [memsTo_two hc hk2, if_neg (by rw [en]; omega), List.append_nil]; exact i3⟩, by simp only; omega⟩
    try simp only [kk] at hc2
    refine x_skip ?_
    refine x_region rfl ?_
    refine o_y (y_move rfl) ?_
    refine o_y (y_addN rfl rfl (by omega) (by omega)) ?_
    refine o_y (y_assign rfl) ?_
    refine o_nil ?_
    first
    | exact ⟨(k + 1, v', R', _), 1, rfl, (.c (by show some (Value.int .i64 (((2 * k : Nat) : Int) + 2)) = some (Value.int .i64 ((2 * (k + 1) : Nat) : Int)); congr 2) (.c rfl (.c rfl .n))), rfl, ⟨by simp only; omega, by simp only; rw [memsTo_two hc hk2, if_pos (by rw [en]; omega), List.length_append]; exact j1, by simp only; rw [memsTo_two hc hk2, if_pos (by rw [en]; omega), en]; exact i3.snoc ⟨rfl, by assumption⟩⟩, by simp only; omega⟩
    | exact ⟨(k + 1, v3, R, _), 0, rfl, (.c (by show some (Value.int .i64 (((2 * k : Nat) : Int) + 2)) = some (Value.int .i64 ((2 * (k + 1) : Nat) : Int)); congr 2) (.c rfl (.c rfl .n))), rfl, ⟨by simp only; omega, by simp only; rw [memsTo_two hc hk2, if_neg (by rw [en]; omega), List.append_nil]; exact i2, by simp only; rw [memsTo_two hc hk2, if_neg (by rw [en]; omega), List.append_nil]; exact i3⟩, by simp only; omega⟩
  try simp only [kk] at hc1
  refine x_exit ?_
  refine x_seq ?_
  refine x_region rfl ?_
  refine o_y (y_move rfl) ?_
  refine o_y (y_assign rfl) ?_
  refine o_nil ?_
  have e : memsTo xs (2 * k) = membersL xs := by rw [memsTo_end (by omega) (by omega), membersL, hc]; rfl
  rw [e] at i2 i3
  refine x_pick (sub_mid R O _) ?_
  refine x_ret ?_
  refine x_fin 0 (ret1 rfl rfl) ?_
  exact ⟨rfl, R, cs, rfl, i2, i3⟩
end Go.Ph
set_option linter.unusedVariables false
set_option linter.unusedSimpArgs false
set_option maxRecDepth 100000
namespace Go.Ph
open Go Go.RowKit Go.Proofs.YtmgnagpgnoikfaaGreatDoor Go.Proofs.Tryz
theorem asc_ext : ∀ {A B : List Int}, A.Pairwise (· < ·) → B.Pairwise (· < ·) → (∀ x, x ∈ A ↔ x ∈ B) → A = B
  | [], [], _, _, _ => rfl
  | [], b :: B, _, _, h => by have := (h b).2 (by simp); simp at this
  | a :: A, [], _, _, h => by have := (h a).1 (by simp); simp at this
  | a :: A, b :: B, hA, hB, h => by
    obtain ⟨a1, a2⟩ := List.pairwise_cons.1 hA
    obtain ⟨b1, b2⟩ := List.pairwise_cons.1 hB
    have e : a = b := by
      rcases List.mem_cons.1 ((h a).1 (by simp)) with e | e
      · exact e
      rcases List.mem_cons.1 ((h b).2 (by simp)) with e2 | e2
      · exact e2.symm
      have := a1 b e2; have := b1 a e; omega
    subst e
    rw [asc_ext a2 b2 (fun x => ?_)]
    have hx := h x
    simp only [List.mem_cons] at hx
    constructor
    · intro hm
      rcases hx.1 (.inr hm) with e | e
      · subst e; have := a1 x hm; omega
      exact e
    intro hm
    rcases hx.2 (.inr hm) with e | e
    · subst e; have := b1 x hm; omega
    exact e
def gtL (out : List Int) (z : Int) : Prop := ∀ x ∈ out, x < z
instance (out : List Int) (z : Int) : Decidable (gtL out z) := by unfold gtL; infer_instance
theorem gtL_last {out : List Int} {z : Int} (ha : out.Pairwise (· < ·)) (h0 : out.length - 1 < out.length) : gtL out z ↔ out[out.length - 1] < z := by
  constructor
  · intro h; exact h _ (List.getElem_mem h0)
  intro h x hx
  obtain ⟨i, hi, rfl⟩ := List.getElem_of_mem hx
  by_cases e : i = out.length - 1
  · subst e; exact h
  have := List.pairwise_iff_getElem.1 ha i (out.length - 1) hi h0 (by omega)
  omega
theorem gtL_nil (z : Int) : gtL [] z := fun x hx => by simp at hx
def left (zs out : List Int) : Nat := (zs.filter fun z => decide (gtL out z)).length
theorem filter_le {p q : Int → Bool} (h : ∀ y, p y = true → q y = true) : ∀ l : List Int, (l.filter p).length ≤ (l.filter q).length
  | [] => by simp
  | w :: l => by
    have ih := filter_le h l
    by_cases h1 : p w = true
    · rw [List.filter_cons_of_pos h1, List.filter_cons_of_pos (h w h1)]; simp only [List.length_cons]; omega
    rw [List.filter_cons_of_neg h1]
    by_cases h2 : q w = true
    · rw [List.filter_cons_of_pos h2]; simp only [List.length_cons]; omega
    rw [List.filter_cons_of_neg h2]; exact ih
theorem filter_lt {p q : Int → Bool} (h : ∀ y, p y = true → q y = true) {z : Int} (hp : p z = false) (hq : q z = true) : ∀ {l : List Int}, z ∈ l → (l.filter p).length < (l.filter q).length
  | w :: l, hz => by
    by_cases e : w = z
    · subst e
      rw [List.filter_cons_of_neg (by rw [hp]; simp), List.filter_cons_of_pos hq]
      have := filter_le h l
      simp only [List.length_cons]; omega
    have ih := filter_lt h hp hq (l := l) (by
      rcases List.mem_cons.1 hz with e2 | hm
      · exact absurd e2.symm e
      exact hm)
    by_cases h1 : p w = true
    · rw [List.filter_cons_of_pos h1, List.filter_cons_of_pos (h w h1)]; simp only [List.length_cons]; omega
    rw [List.filter_cons_of_neg h1]
    by_cases h2 : q w = true
    · rw [List.filter_cons_of_pos h2]; simp only [List.length_cons]; omega
    rw [List.filter_cons_of_neg h2]; exact ih
theorem left_lt {zs out : List Int} {z : Int} (hz : z ∈ zs) (hg : gtL out z) : left zs (out ++ [z]) < left zs out := by
  refine filter_lt (fun y hy => ?_) ?_ (by simpa using hg) hz
  · simp only [decide_eq_true_eq] at hy ⊢
    exact fun x hx => hy x (by simp [hx])
  rw [decide_eq_false_iff_not]
  intro h; have := h z (by simp); omega
structure Uni (zs out : List Int) : Prop where
  asc : out.Pairwise (· < ·)
  sub : ∀ x ∈ out, x ∈ zs
  all : ∀ z ∈ zs, gtL out z ∨ z ∈ out
theorem Uni.nil (zs : List Int) : Uni zs [] := ⟨by simp, by simp, fun z _ => .inl (gtL_nil z)⟩
theorem Uni.step {zs out : List Int} {z : Int} (h : Uni zs out) (hz : z ∈ zs) (hg : gtL out z) (hm : ∀ y ∈ zs, gtL out y → z ≤ y) : Uni zs (out ++ [z]) := by
  refine ⟨?_, fun x hx => ?_, fun y hy => ?_⟩
  · rw [List.pairwise_append]
    exact ⟨h.asc, by simp, fun a ha b hb => by rw [List.mem_singleton.1 hb]; exact hg a ha⟩
  · rcases List.mem_append.1 hx with hx | hx
    · exact h.sub x hx
    rw [List.mem_singleton.1 hx]; exact hz
  rcases h.all y hy with hy2 | hy2
  · have h1 := hm y hy hy2
    by_cases e : y = z
    · subst e; exact .inr (by simp)
    refine .inl fun x hx => ?_
    rcases List.mem_append.1 hx with hx | hx
    · exact hy2 x hx
    rw [List.mem_singleton.1 hx]; omega
  exact .inr (by simp [hy2])
theorem Uni.done {zs out ws : List Int} (h : Uni zs out) (hn : ∀ z ∈ zs, ¬ gtL out z) (ha : ws.Pairwise (· < ·)) (hw : ∀ x, x ∈ ws ↔ x ∈ zs) : out = ws :=
  asc_ext h.asc ha fun x => ⟨fun hx => (hw x).2 (h.sub x hx), fun hx => by
    rcases h.all x ((hw x).1 hx) with h1 | h1
    · exact absurd h1 (hn x ((hw x).1 hx))
    exact h1⟩
def at0 (zs out : List Int) (i : Nat) (a : Int) : Prop := (a = -1 ∧ ∀ j (h : j < zs.length), j < i → ¬ gtL out zs[j]) ∨ ∃ j, ∃ h : j < zs.length, a = (j : Int) ∧ gtL out zs[j] ∧ ∀ m (h2 : m < zs.length), m < i → gtL out zs[m] → zs[j] ≤ zs[m]
theorem at0_some {zs out : List Int} {i : Nat} {a : Int} (h : at0 zs out i a) (h0 : 0 ≤ a) : ∃ h : a.toNat < zs.length, gtL out zs[a.toNat] ∧ ∀ m (h2 : m < zs.length), m < i → gtL out zs[m] → zs[a.toNat] ≤ zs[m] := by
  rcases h with ⟨h1, _⟩ | ⟨j, hj, rfl, h2, h3⟩
  · omega
  exact ⟨by omega, by simpa using h2, fun m hm hi hg => by have := h3 m hm hi hg; simpa using this⟩
theorem at0_new {zs out : List Int} {i : Nat} {a : Int} (h : at0 zs out i a) (hi : i < zs.length) (hg : gtL out zs[i]) (hc : a < 0 ∨ ∃ h : a.toNat < zs.length, zs[i] < zs[a.toNat]) : at0 zs out (i + 1) (i : Int) := by
  refine .inr ⟨i, hi, rfl, hg, fun m hm hmi hgm => ?_⟩
  by_cases e : m = i
  · subst e; exact Int.le_refl _
  rcases h with ⟨h1, h2⟩ | ⟨j, hj, rfl, h2, h3⟩
  · exact absurd hgm (h2 m hm (by omega))
  have := h3 m hm (by omega) hgm
  rcases hc with hc | ⟨h4, h5⟩
  · omega
  simp only [Int.toNat_natCast] at h5; omega
theorem at0_same {zs out : List Int} {i : Nat} {a : Int} (h : at0 zs out i a) (hi : i < zs.length) (hc : ¬ gtL out zs[i] ∨ (0 ≤ a ∧ ∃ h : a.toNat < zs.length, zs[a.toNat] ≤ zs[i])) : at0 zs out (i + 1) a := by
  rcases h with ⟨h1, h2⟩ | ⟨j, hj, rfl, h2, h3⟩
  · refine .inl ⟨h1, fun m hm hmi => ?_⟩
    by_cases e : m = i
    · subst e
      rcases hc with hc | ⟨h4, _⟩
      · exact hc
      omega
    exact h2 m hm (by omega)
  refine .inr ⟨j, hj, rfl, h2, fun m hm hmi hgm => ?_⟩
  by_cases e : m = i
  · subst e
    rcases hc with hc | ⟨_, h5, h6⟩
    · exact absurd hgm hc
    simpa using h6
  exact h3 m hm (by omega) hgm
theorem gtL_0 {out : List Int} {z : Int} (h : out.length = 0) : gtL out z := by
  have := List.eq_nil_of_length_eq_zero h
  subst this; exact gtL_nil z
theorem rmembers_ok {B : World} {H : HM} {O : OL} {v : Value} {xs : List Node} (h : RdL H v xs) : CallsM prog 260 [.agg #[v]].toArray B H O (Made (membersL xs) H O) :=
  (rmembersR_ok h).freeze (by have := membersL_small h; have e : Rep.bytes Int = 8 := rfl; rw [e]; omega)
abbrev UniR (zs : List Int) (H : HM) (O : OL) : Value → HM → OL → Prop := fun v' H' O' => Ext H H' ∧ ∃ (R : OL) (cs : List Value) (out : List Int), O' = R ++ O ∧ Uni zs out ∧ (∀ z ∈ zs, ¬ gtL out z) ∧ Row v' out.length cs 3 1 R ∧ El H' cs out
theorem runion_ok {B : World} {H : HM} {O : OL} {v u : Value} {xs ys : List Node} (h : RdL H v xs) (hu : RdL H u ys) (hp : 0 < (membersL ys).length) : CallsM prog 166 [.agg #[v], .agg #[u]].toArray B H O (UniR (membersL xs ++ membersL ys) H O) := by
  have hm1 := membersL_small h
  have hm2 := membersL_small hu
  refine enter func166 rfl ntmps166 (l := [(0, _), (1, _)]) rfl rfl ?_
  refine x_seq ?_
  refine x_region rfl ?_
  refine o_box rfl (cs := [_]) rfl (fun b2 => ?_)
  refine o_box rfl (cs := [_]) rfl (fun b3 => ?_)
  refine o_y (y_assign rfl) ?_
  refine o_nil ?_
  refine x_seq ?_
  refine x_region rfl ?_
  refine o_y (y_assign rfl) ?_
  refine o_nil ?_
  refine x_seq ?_
  refine x_regionG _ (fun _ h => h) [] [4] mixed (by kernel_rfl) npa ?_
  have hE := Ext.refl H
  refine g_all2 (i := 0) (j := 2) (by kernel_rfl) ?g1a ?g1b
  case' g1a =>
    refine g_one rfl rfl rfl rfl ?_
    refine o_y (y_loadA ti29 rfl inn rfl) ?_
    refine o_nil ?_
    refine ⟨.inr ⟨hE, hld⟩, ?_⟩
    refine g_all2 (i := 1) (j := 2) (by kernel_rfl) ?g2a ?g2b
    case' g2a =>
      refine g_one rfl rfl rfl rfl ?_
      refine o_call fn260 rfl (rmembersR_ok h) ?_
      rintro v10 _ _ ⟨rfl, R10, cs10, rfl, j10, n10⟩
      refine o_nil ?_
      refine ⟨.inr ⟨hE, hld⟩, ?_⟩
      refine g_all1 (i := 2) (by kernel_rfl) ?_
      refine g_one rfl rfl rfl rfl ?_
      refine o_y (y_loadA ti29 rfl inn rfl) ?_
      refine o_nil ?_
      refine ⟨.inr ⟨hE, hld⟩, ?_⟩
      refine g_all1 (i := 3) (by kernel_rfl) ?_
      refine g_one rfl rfl rfl rfl ?_
      refine o_call fn260 rfl (rmembers_ok hu) ?_
      rintro v12 H1 _ ⟨x12, rfl, r12⟩
      refine o_nil ?_
      replace hE := hE.trans x12
      have hs12 : ∃ a n c, v12 = .slice (some a) n c := by
        obtain ⟨p, c, rfl⟩ := r12.shape
        obtain ⟨q, h4, _⟩ := r12.at [] 0 hp
        have h5 := AtS.isSl h4
        cases p with
        | none => simp [isSl] at h5
        | some a => exact ⟨a, _, c, rfl⟩
      refine ⟨.inr ⟨hE, hld⟩, ?_⟩
      refine g_all1 (i := 4) (by kernel_rfl) ?_
      refine g_one rfl rfl rfl rfl ?_
      refine o_appendL (α := Int) underlying24 ti3 rfl (by decide) rfl rfl j10 rfl r12 hs12 (by omega) (by omega) hol (fun v6 R6 nw6 n6 j6 => ?_)
      refine o_nil ?_
      obtain ⟨zs, hz⟩ : ∃ zs, zs = membersL xs ++ membersL ys := ⟨_, rfl⟩
      have jz : Row v6 zs.length (cs10 ++ nw6) 3 1 R6 := by rw [hz, List.length_append]; exact j6
      have ez : El H1 (cs10 ++ nw6) zs := by rw [hz]; exact (n10.mono x12).append n6
      have hz16 : zs.length ≤ 16 := by rw [hz, List.length_append]; omega
      refine ⟨.inl rfl, ?_⟩
      refine g_all1 (i := 5) (by kernel_rfl) ?_
      refine g_one rfl rfl rfl rfl ?_
      refine o_y (y_assign rfl) ?_
      refine o_nil ?_
      refine ⟨.inr ⟨hE, hld⟩, ?_⟩
      refine g_nil (by kernel_rfl) ?_
    case' g2b =>
      refine g_one rfl rfl rfl rfl ?_
      refine o_y (y_loadA ti29 rfl inn rfl) ?_
      refine o_nil ?_
      refine ⟨.inr ⟨hE, hld⟩, ?_⟩
      refine g_all1 (i := 1) (by kernel_rfl) ?_
      refine g_one rfl rfl rfl rfl ?_
      refine o_call fn260 rfl (rmembersR_ok h) ?_
      rintro v10 _ _ ⟨rfl, R10, cs10, rfl, j10, n10⟩
      refine o_nil ?_
      refine ⟨.inr ⟨hE, hld⟩, ?_⟩
      refine g_all1 (i := 3) (by kernel_rfl) ?_
      refine g_one rfl rfl rfl rfl ?_
      refine o_call fn260 rfl (rmembers_ok hu) ?_
      rintro v12 H1 _ ⟨x12, rfl, r12⟩
      refine o_nil ?_
      replace hE := hE.trans x12
      have hs12 : ∃ a n c, v12 = .slice (some a) n c := by
        obtain ⟨p, c, rfl⟩ := r12.shape
        obtain ⟨q, h4, _⟩ := r12.at [] 0 hp
        have h5 := AtS.isSl h4
        cases p with
        | none => simp [isSl] at h5
        | some a => exact ⟨a, _, c, rfl⟩
      refine ⟨.inr ⟨hE, hld⟩, ?_⟩
      refine g_all1 (i := 4) (by kernel_rfl) ?_
      refine g_one rfl rfl rfl rfl ?_
      refine o_appendL (α := Int) underlying24 ti3 rfl (by decide) rfl rfl j10 rfl r12 hs12 (by omega) (by omega) hol (fun v6 R6 nw6 n6 j6 => ?_)
      refine o_nil ?_
      obtain ⟨zs, hz⟩ : ∃ zs, zs = membersL xs ++ membersL ys := ⟨_, rfl⟩
      have jz : Row v6 zs.length (cs10 ++ nw6) 3 1 R6 := by rw [hz, List.length_append]; exact j6
      have ez : El H1 (cs10 ++ nw6) zs := by rw [hz]; exact (n10.mono x12).append n6
      have hz16 : zs.length ≤ 16 := by rw [hz, List.length_append]; omega
      refine ⟨.inl rfl, ?_⟩
      refine g_all1 (i := 5) (by kernel_rfl) ?_
      refine g_one rfl rfl rfl rfl ?_
      refine o_y (y_assign rfl) ?_
      refine o_nil ?_
      refine ⟨.inr ⟨hE, hld⟩, ?_⟩
      refine g_nil (by kernel_rfl) ?_
  case' g1b =>
    refine g_one rfl rfl rfl rfl ?_
    refine o_y (y_loadA ti29 rfl inn rfl) ?_
    refine o_nil ?_
    refine ⟨.inr ⟨hE, hld⟩, ?_⟩
    refine g_all1 (i := 0) (by kernel_rfl) ?_
    refine g_one rfl rfl rfl rfl ?_
    refine o_y (y_loadA ti29 rfl inn rfl) ?_
    refine o_nil ?_
    refine ⟨.inr ⟨hE, hld⟩, ?_⟩
    refine g_all1 (i := 1) (by kernel_rfl) ?_
    refine g_one rfl rfl rfl rfl ?_
    refine o_call fn260 rfl (rmembersR_ok h) ?_
    rintro v10 _ _ ⟨rfl, R10, cs10, rfl, j10, n10⟩
    refine o_nil ?_
    refine ⟨.inr ⟨hE, hld⟩, ?_⟩
    refine g_all1 (i := 3) (by kernel_rfl) ?_
    refine g_one rfl rfl rfl rfl ?_
    refine o_call fn260 rfl (rmembers_ok hu) ?_
    rintro v12 H1 _ ⟨x12, rfl, r12⟩
    refine o_nil ?_
    replace hE := hE.trans x12
    have hs12 : ∃ a n c, v12 = .slice (some a) n c := by
      obtain ⟨p, c, rfl⟩ := r12.shape
      obtain ⟨q, h4, _⟩ := r12.at [] 0 hp
      have h5 := AtS.isSl h4
      cases p with
      | none => simp [isSl] at h5
      | some a => exact ⟨a, _, c, rfl⟩
    refine ⟨.inr ⟨hE, hld⟩, ?_⟩
    refine g_all1 (i := 4) (by kernel_rfl) ?_
    refine g_one rfl rfl rfl rfl ?_
    refine o_appendL (α := Int) underlying24 ti3 rfl (by decide) rfl rfl j10 rfl r12 hs12 (by omega) (by omega) hol (fun v6 R6 nw6 n6 j6 => ?_)
    refine o_nil ?_
    obtain ⟨zs, hz⟩ : ∃ zs, zs = membersL xs ++ membersL ys := ⟨_, rfl⟩
    have jz : Row v6 zs.length (cs10 ++ nw6) 3 1 R6 := by rw [hz, List.length_append]; exact j6
    have ez : El H1 (cs10 ++ nw6) zs := by rw [hz]; exact (n10.mono x12).append n6
    have hz16 : zs.length ≤ 16 := by rw [hz, List.length_append]; omega
    refine ⟨.inl rfl, ?_⟩
    refine g_all1 (i := 5) (by kernel_rfl) ?_
    refine g_one rfl rfl rfl rfl ?_
    refine o_y (y_assign rfl) ?_
    refine o_nil ?_
    refine ⟨.inr ⟨hE, hld⟩, ?_⟩
    refine g_nil (by kernel_rfl) ?_
  all_goals
    refine x_block ?_
    refine x_loopf (σ := OL × Value × List Value × List Int) (fun s => [(5, s.2.1), (6, v6)]) (fun s => s.1 ++ (R6 ++ _)) (fun s => Row s.2.1 s.2.2.2.length s.2.2.1 3 1 s.1 ∧ El H1 s.2.2.1 s.2.2.2 ∧ Uni zs s.2.2.2 ∧ left zs s.2.2.2 + s.2.2.2.length ≤ zs.length) (fun s => left zs s.2.2.2) ([], .slice none 0 0, [], []) ⟨Row.nil _ _, .n, Uni.nil zs, by simp only [List.length_nil]; exact List.length_filter_le _ _⟩ (.c rfl (.c rfl .n)) rfl ?_
    rintro ⟨R5, v5, cs5, out⟩ ⟨i1, i2, i3, i4⟩
    simp only at i1 i2 i3 i4
    refine x_block ?_
    refine x_seq ?_
    refine x_region rfl ?_
    refine o_y (y_assign rfl) ?_
    refine o_nil ?_
    refine x_seq ?_
    refine x_seq ?_
    refine x_region rfl ?_
    refine o_y (y_assign rfl) ?_
    refine o_nil ?_
    refine x_block ?_
    refine x_loopf (σ := Nat × Int) (fun s => [(8, .int .i64 (s.1 : Int)), (7, .int .i64 s.2), (5, v5), (6, v6)]) (fun _ => _) (fun s => s.1 ≤ zs.length ∧ at0 zs out s.1 s.2) (fun s => zs.length - s.1) (0, -1) ⟨by simp, .inl ⟨rfl, fun j _ hj => by omega⟩⟩ (.c rfl (.c rfl (.c rfl (.c rfl .n)))) rfl ?_
    rintro ⟨k, a⟩ ⟨l1, l2⟩
    simp only at l1 l2
    refine x_seq ?_
    refine x_seq ?_
    refine x_region rfl ?_
    refine o_y (y_move rfl) ?_
    refine o_y (y_move rfl) ?_
    refine o_y (y_lenA underlying24 rfl) ?_
    refine o_y (y_lss rfl rfl) ?_
    refine o_nil ?_
    refine x_cond rfl (fun hc0 => ?_) (fun hc0 => ?_)
    · try simp only [kk] at hc0
      have hk : k < zs.length := by omega
      have hlt : 0 ≤ a → a.toNat < zs.length := fun h0 => (at0_some l2 h0).1
      refine x_skip ?_
      refine x_seq ?_
      refine x_block ?_
      refine x_seq ?_
      refine x_regionQ mixed (by kernel_rfl) rfl ?_
      refine q_y (y_move rfl) ?_
      first | refine q_y (y_lenL (by assumption) underlying24 rfl) ?_ | refine q_y (y_lenR (by assumption) underlying24 rfl) ?_ | refine q_y (y_len underlying24 rfl) ?_
      refine q_y (y_eql rfl rfl) ?_
      refine q_y (y_move rfl) ?_
      refine q_split 23 rfl (fun hg7_23 => ?_) (fun hg7_23 => ?_)
      · try simp only [kk] at hg7_23
        refine q_gn 23 rfl rfl rfl ?_
        refine q_gn 23 rfl rfl rfl ?_
        refine q_gn 23 rfl rfl rfl ?_
        refine q_gn 23 rfl rfl rfl ?_
        refine q_gn 23 rfl rfl rfl ?_
        refine q_gn 23 rfl rfl rfl ?_
        refine q_gn 23 rfl rfl rfl ?_
        refine q_gn 23 rfl rfl rfl ?_
        refine q_gn 23 rfl rfl rfl ?_
        refine q_gn 23 rfl rfl rfl ?_
        refine q_gn 23 rfl rfl rfl ?_
        refine q_y (y_pick rfl rfl) ?_
        refine q_y (y_move rfl) ?_
        refine q_gy 36 rfl rfl (y_move rfl) ?_
        refine q_gy 36 rfl rfl (y_lss rfl rfl) ?_
        refine q_gy 36 rfl rfl (y_move rfl) ?_
        refine q_split 39 rfl (fun hg7_39 => ?_) (fun hg7_39 => ?_)
        · try simp only [kk] at hg7_39
          refine q_gn 39 rfl rfl rfl ?_
          refine q_gn 39 rfl rfl rfl ?_
          refine q_gn 39 rfl rfl rfl ?_
          refine q_gn 39 rfl rfl rfl ?_
          refine q_gn 39 rfl rfl rfl ?_
          refine q_gn 39 rfl rfl rfl ?_
          refine q_gn 39 rfl rfl rfl ?_
          refine q_gn 39 rfl rfl rfl ?_
          refine q_gn 39 rfl rfl rfl ?_
          refine q_gy 36 rfl rfl (y_pick rfl rfl) ?_
          refine q_y (y_pick rfl rfl) ?_
          refine q_nil ?_
          refine x_condT rfl ?_
          refine x_region rfl ?_
          refine o_y (y_move rfl) ?_
          refine o_y (y_assign rfl) ?_
          refine o_nil ?_
          refine x_region rfl ?_
          refine o_y (y_move rfl) ?_
          refine o_y (y_addN rfl rfl (by omega) (by omega)) ?_
          refine o_y (y_assign rfl) ?_
          refine o_nil ?_
          first
          | exact ⟨(k + 1, (k : Int)), 0, rfl, (.c rfl (.c rfl (.c rfl (.c rfl .n)))), rfl, ⟨hk, at0_new l2 hk (by first | exact gtL_0 (by omega) | exact (gtL_last i3.asc (by omega)).2 (by omega)) (by first | exact .inl (by omega) | exact .inr ⟨hlt (by omega), by omega⟩)⟩, by simp only; omega⟩
          | exact ⟨(k + 1, a), 0, rfl, (.c rfl (.c rfl (.c rfl (.c rfl .n)))), rfl, ⟨hk, at0_same l2 hk (by first | exact .inl (fun hg => by have := (gtL_last i3.asc (by omega)).1 hg; omega) | exact .inr ⟨by omega, hlt (by omega), by omega⟩)⟩, by simp only; omega⟩
        try simp only [kk] at hg7_39
        refine q_gy 39 rfl rfl (y_move rfl) ?_
        refine q_gy 39 rfl rfl (y_move rfl) ?_
        obtain ⟨ce42, ae42, re42⟩ := Row.elAt jz ez rfl k hk (by omega) (fun p hp => hp)
        have se42 := AtS.isSl ae42
        obtain ⟨rfl, q42⟩ := re42
        refine q_gy 39 rfl rfl (y_idxR jz k (by omega) underlying24 ti3 rfl rfl (by omega)) ?_
        refine q_gy 39 rfl rfl (y_loadS ti3 rfl (AtS.sub (by assumption) (fun p hp => by repeat (first | exact hp | exact List.mem_append_left _ hp | apply List.mem_cons_of_mem | apply List.mem_append_right))) rfl (fun _ => rfl)) ?_
        refine q_gy 39 rfl rfl (y_move rfl) ?_
        refine q_gy 39 rfl rfl (y_move rfl) ?_
        obtain ⟨ce46, ae46, re46⟩ := Row.elAt jz ez rfl a.toNat (hlt (by omega)) (by omega) (fun p hp => hp)
        have se46 := AtS.isSl ae46
        obtain ⟨rfl, q46⟩ := re46
        refine q_gy 39 rfl rfl (y_idxR jz a.toNat (by omega) underlying24 ti3 rfl rfl (by omega)) ?_
        refine q_gy 39 rfl rfl (y_loadS ti3 rfl (AtS.sub (by assumption) (fun p hp => by repeat (first | exact hp | exact List.mem_append_left _ hp | apply List.mem_cons_of_mem | apply List.mem_append_right))) rfl (fun _ => rfl)) ?_
        refine q_gy 39 rfl rfl (y_lss rfl rfl) ?_
        refine q_gy 36 rfl rfl (y_pick rfl rfl) ?_
        refine q_y (y_pick rfl rfl) ?_
        refine q_nil ?_
        refine x_cond rfl (fun hc1 => ?_) (fun hc1 => ?_)
        · try simp only [kk] at hc1
          refine x_region rfl ?_
          refine o_y (y_move rfl) ?_
          refine o_y (y_assign rfl) ?_
          refine o_nil ?_
          refine x_region rfl ?_
          refine o_y (y_move rfl) ?_
          refine o_y (y_addN rfl rfl (by omega) (by omega)) ?_
          refine o_y (y_assign rfl) ?_
          refine o_nil ?_
          first
          | exact ⟨(k + 1, (k : Int)), 0, rfl, (.c rfl (.c rfl (.c rfl (.c rfl .n)))), rfl, ⟨hk, at0_new l2 hk (by first | exact gtL_0 (by omega) | exact (gtL_last i3.asc (by omega)).2 (by omega)) (by first | exact .inl (by omega) | exact .inr ⟨hlt (by omega), by omega⟩)⟩, by simp only; omega⟩
          | exact ⟨(k + 1, a), 0, rfl, (.c rfl (.c rfl (.c rfl (.c rfl .n)))), rfl, ⟨hk, at0_same l2 hk (by first | exact .inl (fun hg => by have := (gtL_last i3.asc (by omega)).1 hg; omega) | exact .inr ⟨by omega, hlt (by omega), by omega⟩)⟩, by simp only; omega⟩
        try simp only [kk] at hc1
        refine x_skip ?_
        refine x_region rfl ?_
        refine o_y (y_move rfl) ?_
        refine o_y (y_addN rfl rfl (by omega) (by omega)) ?_
        refine o_y (y_assign rfl) ?_
        refine o_nil ?_
        first
        | exact ⟨(k + 1, (k : Int)), 0, rfl, (.c rfl (.c rfl (.c rfl (.c rfl .n)))), rfl, ⟨hk, at0_new l2 hk (by first | exact gtL_0 (by omega) | exact (gtL_last i3.asc (by omega)).2 (by omega)) (by first | exact .inl (by omega) | exact .inr ⟨hlt (by omega), by omega⟩)⟩, by simp only; omega⟩
        | exact ⟨(k + 1, a), 0, rfl, (.c rfl (.c rfl (.c rfl (.c rfl .n)))), rfl, ⟨hk, at0_same l2 hk (by first | exact .inl (fun hg => by have := (gtL_last i3.asc (by omega)).1 hg; omega) | exact .inr ⟨by omega, hlt (by omega), by omega⟩)⟩, by simp only; omega⟩
      try simp only [kk] at hg7_23
      refine q_gy 23 rfl rfl (y_move rfl) ?_
      refine q_gy 23 rfl rfl (y_move rfl) ?_
      obtain ⟨ce26, ae26, re26⟩ := Row.elAt jz ez rfl k hk (by omega) (fun p hp => hp)
      have se26 := AtS.isSl ae26
      obtain ⟨rfl, q26⟩ := re26
      refine q_gy 23 rfl rfl (y_idxR jz k (by omega) underlying24 ti3 rfl rfl (by omega)) ?_
      refine q_gy 23 rfl rfl (y_loadS ti3 rfl (AtS.sub (by assumption) (fun p hp => by repeat (first | exact hp | exact List.mem_append_left _ hp | apply List.mem_cons_of_mem | apply List.mem_append_right))) rfl (fun _ => rfl)) ?_
      refine q_gy 23 rfl rfl (y_move rfl) ?_
      refine q_gy 23 rfl rfl (y_move rfl) ?_
      first | refine q_gy 23 rfl rfl (y_lenL (by assumption) underlying24 rfl) ?_ | refine q_gy 23 rfl rfl (y_lenR (by assumption) underlying24 rfl) ?_ | refine q_gy 23 rfl rfl (y_len underlying24 rfl) ?_
      refine q_gy 23 rfl rfl (y_subN rfl rfl (by omega) (by omega)) ?_
      obtain ⟨ce32, ae32, re32⟩ := Row.elAt i1 i2 rfl (out.length - 1) (by omega) (by omega) (fun p hp => hp)
      have se32 := AtS.isSl ae32
      obtain ⟨rfl, q32⟩ := re32
      refine q_gy 23 rfl rfl (y_idxR i1 (out.length - 1) (by omega) underlying24 ti3 rfl rfl (by omega)) ?_
      refine q_gy 23 rfl rfl (y_loadS ti3 rfl (AtS.sub (by assumption) (fun p hp => by repeat (first | exact hp | exact List.mem_append_left _ hp | apply List.mem_cons_of_mem | apply List.mem_append_right))) rfl (fun _ => rfl)) ?_
      refine q_gy 23 rfl rfl (y_gtr rfl rfl) ?_
      refine q_y (y_pick rfl rfl) ?_
      refine q_y (y_move rfl) ?_
      refine q_split 36 rfl (fun hg7_36 => ?_) (fun hg7_36 => ?_)
      · try simp only [kk] at hg7_36
        refine q_gy 36 rfl rfl (y_move rfl) ?_
        refine q_gy 36 rfl rfl (y_lss rfl rfl) ?_
        refine q_gy 36 rfl rfl (y_move rfl) ?_
        refine q_split 39 rfl (fun hg7_39 => ?_) (fun hg7_39 => ?_)
        · try simp only [kk] at hg7_39
          refine q_gn 39 rfl rfl rfl ?_
          refine q_gn 39 rfl rfl rfl ?_
          refine q_gn 39 rfl rfl rfl ?_
          refine q_gn 39 rfl rfl rfl ?_
          refine q_gn 39 rfl rfl rfl ?_
          refine q_gn 39 rfl rfl rfl ?_
          refine q_gn 39 rfl rfl rfl ?_
          refine q_gn 39 rfl rfl rfl ?_
          refine q_gn 39 rfl rfl rfl ?_
          refine q_gy 36 rfl rfl (y_pick rfl rfl) ?_
          refine q_y (y_pick rfl rfl) ?_
          refine q_nil ?_
          refine x_condT rfl ?_
          refine x_region rfl ?_
          refine o_y (y_move rfl) ?_
          refine o_y (y_assign rfl) ?_
          refine o_nil ?_
          refine x_region rfl ?_
          refine o_y (y_move rfl) ?_
          refine o_y (y_addN rfl rfl (by omega) (by omega)) ?_
          refine o_y (y_assign rfl) ?_
          refine o_nil ?_
          first
          | exact ⟨(k + 1, (k : Int)), 0, rfl, (.c rfl (.c rfl (.c rfl (.c rfl .n)))), rfl, ⟨hk, at0_new l2 hk (by first | exact gtL_0 (by omega) | exact (gtL_last i3.asc (by omega)).2 (by omega)) (by first | exact .inl (by omega) | exact .inr ⟨hlt (by omega), by omega⟩)⟩, by simp only; omega⟩
          | exact ⟨(k + 1, a), 0, rfl, (.c rfl (.c rfl (.c rfl (.c rfl .n)))), rfl, ⟨hk, at0_same l2 hk (by first | exact .inl (fun hg => by have := (gtL_last i3.asc (by omega)).1 hg; omega) | exact .inr ⟨by omega, hlt (by omega), by omega⟩)⟩, by simp only; omega⟩
        try simp only [kk] at hg7_39
        refine q_gy 39 rfl rfl (y_move rfl) ?_
        refine q_gy 39 rfl rfl (y_move rfl) ?_
        obtain ⟨ce42, ae42, re42⟩ := Row.elAt jz ez rfl k hk (by omega) (fun p hp => hp)
        have se42 := AtS.isSl ae42
        obtain ⟨rfl, q42⟩ := re42
        refine q_gy 39 rfl rfl (y_idxR jz k (by omega) underlying24 ti3 rfl rfl (by omega)) ?_
        refine q_gy 39 rfl rfl (y_loadS ti3 rfl (AtS.sub (by assumption) (fun p hp => by repeat (first | exact hp | exact List.mem_append_left _ hp | apply List.mem_cons_of_mem | apply List.mem_append_right))) rfl (fun _ => rfl)) ?_
        refine q_gy 39 rfl rfl (y_move rfl) ?_
        refine q_gy 39 rfl rfl (y_move rfl) ?_
        obtain ⟨ce46, ae46, re46⟩ := Row.elAt jz ez rfl a.toNat (hlt (by omega)) (by omega) (fun p hp => hp)
        have se46 := AtS.isSl ae46
        obtain ⟨rfl, q46⟩ := re46
        refine q_gy 39 rfl rfl (y_idxR jz a.toNat (by omega) underlying24 ti3 rfl rfl (by omega)) ?_
        refine q_gy 39 rfl rfl (y_loadS ti3 rfl (AtS.sub (by assumption) (fun p hp => by repeat (first | exact hp | exact List.mem_append_left _ hp | apply List.mem_cons_of_mem | apply List.mem_append_right))) rfl (fun _ => rfl)) ?_
        refine q_gy 39 rfl rfl (y_lss rfl rfl) ?_
        refine q_gy 36 rfl rfl (y_pick rfl rfl) ?_
        refine q_y (y_pick rfl rfl) ?_
        refine q_nil ?_
        refine x_cond rfl (fun hc1 => ?_) (fun hc1 => ?_)
        · try simp only [kk] at hc1
          refine x_region rfl ?_
          refine o_y (y_move rfl) ?_
          refine o_y (y_assign rfl) ?_
          refine o_nil ?_
          refine x_region rfl ?_
          refine o_y (y_move rfl) ?_
          refine o_y (y_addN rfl rfl (by omega) (by omega)) ?_
          refine o_y (y_assign rfl) ?_
          refine o_nil ?_
          first
          | exact ⟨(k + 1, (k : Int)), 0, rfl, (.c rfl (.c rfl (.c rfl (.c rfl .n)))), rfl, ⟨hk, at0_new l2 hk (by first | exact gtL_0 (by omega) | exact (gtL_last i3.asc (by omega)).2 (by omega)) (by first | exact .inl (by omega) | exact .inr ⟨hlt (by omega), by omega⟩)⟩, by simp only; omega⟩
          | exact ⟨(k + 1, a), 0, rfl, (.c rfl (.c rfl (.c rfl (.c rfl .n)))), rfl, ⟨hk, at0_same l2 hk (by first | exact .inl (fun hg => by have := (gtL_last i3.asc (by omega)).1 hg; omega) | exact .inr ⟨by omega, hlt (by omega), by omega⟩)⟩, by simp only; omega⟩
        try simp only [kk] at hc1
        refine x_skip ?_
        refine x_region rfl ?_
        refine o_y (y_move rfl) ?_
        refine o_y (y_addN rfl rfl (by omega) (by omega)) ?_
        refine o_y (y_assign rfl) ?_
        refine o_nil ?_
        first
        | exact ⟨(k + 1, (k : Int)), 0, rfl, (.c rfl (.c rfl (.c rfl (.c rfl .n)))), rfl, ⟨hk, at0_new l2 hk (by first | exact gtL_0 (by omega) | exact (gtL_last i3.asc (by omega)).2 (by omega)) (by first | exact .inl (by omega) | exact .inr ⟨hlt (by omega), by omega⟩)⟩, by simp only; omega⟩
        | exact ⟨(k + 1, a), 0, rfl, (.c rfl (.c rfl (.c rfl (.c rfl .n)))), rfl, ⟨hk, at0_same l2 hk (by first | exact .inl (fun hg => by have := (gtL_last i3.asc (by omega)).1 hg; omega) | exact .inr ⟨by omega, hlt (by omega), by omega⟩)⟩, by simp only; omega⟩
      try simp only [kk] at hg7_36
      refine q_gn 36 rfl rfl rfl ?_
      refine q_gn 36 rfl rfl rfl ?_
      refine q_gn 36 rfl rfl rfl ?_
      refine q_gu 39 rfl rfl ?_
      refine q_gu 39 rfl rfl ?_
      refine q_gu 39 rfl rfl ?_
      refine q_gu 39 rfl rfl ?_
      refine q_gu 39 rfl rfl ?_
      refine q_gu 39 rfl rfl ?_
      refine q_gu 39 rfl rfl ?_
      refine q_gu 39 rfl rfl ?_
      refine q_gu 39 rfl rfl ?_
      refine q_gn 36 rfl rfl rfl ?_
      refine q_y (y_pick rfl rfl) ?_
      refine q_nil ?_
      refine x_condF rfl ?_
      refine x_skip ?_
      refine x_region rfl ?_
      refine o_y (y_move rfl) ?_
      refine o_y (y_addN rfl rfl (by omega) (by omega)) ?_
      refine o_y (y_assign rfl) ?_
      refine o_nil ?_
      first
      | exact ⟨(k + 1, (k : Int)), 0, rfl, (.c rfl (.c rfl (.c rfl (.c rfl .n)))), rfl, ⟨hk, at0_new l2 hk (by first | exact gtL_0 (by omega) | exact (gtL_last i3.asc (by omega)).2 (by omega)) (by first | exact .inl (by omega) | exact .inr ⟨hlt (by omega), by omega⟩)⟩, by simp only; omega⟩
      | exact ⟨(k + 1, a), 0, rfl, (.c rfl (.c rfl (.c rfl (.c rfl .n)))), rfl, ⟨hk, at0_same l2 hk (by first | exact .inl (fun hg => by have := (gtL_last i3.asc (by omega)).1 hg; omega) | exact .inr ⟨by omega, hlt (by omega), by omega⟩)⟩, by simp only; omega⟩
    try simp only [kk] at hc0
    refine x_exit ?_
    refine x_seq ?_
    refine x_seq ?_
    obtain rfl : k = zs.length := by omega
    refine x_region rfl ?_
    refine o_y (y_move rfl) ?_
    refine o_y (y_lss rfl rfl) ?_
    refine o_nil ?_
    refine x_cond rfl (fun hc2 => ?_) (fun hc2 => ?_)
    · try simp only [kk] at hc2
      refine x_seq ?_
      refine x_region rfl ?_
      refine o_y (y_move rfl) ?_
      refine o_y (y_assign rfl) ?_
      refine o_nil ?_
      refine x_pick (O' := R5 ++ O) ((List.Sublist.refl R5).append (List.sublist_append_of_sublist_right (.cons _ (.cons _ (List.Sublist.refl _))))) ?_
      refine x_ret ?_
      refine x_fin 0 (ret1 rfl rfl) ?_
      have hno : ∀ z ∈ zs, ¬ gtL out z := by
        rcases l2 with ⟨_, h2⟩ | ⟨j, _, e, _⟩
        · intro z hz
          obtain ⟨j, hj, rfl⟩ := List.getElem_of_mem hz
          exact h2 j hj hj
        omega
      subst hz
      exact ⟨x12, R5, cs5, out, rfl, i3, hno, i1, i2⟩
    try simp only [kk] at hc2
    obtain ⟨ha, hg, hmin⟩ := at0_some l2 (by omega)
    refine x_skip ?_
    refine x_region rfl ?_
    refine o_y (y_move rfl) ?_
    refine o_y (y_move rfl) ?_
    refine o_y (y_move rfl) ?_
    obtain ⟨ce58, ae58, re58⟩ := Row.elAt jz ez rfl a.toNat ha (by omega) (fun p hp => hp)
    have se58 := AtS.isSl ae58
    obtain ⟨rfl, q58⟩ := re58
    refine o_y (y_idxR jz a.toNat (by omega) underlying24 ti3 rfl rfl (by omega)) ?_
    refine o_y (y_loadS ti3 rfl (AtS.sub (by assumption) (fun p hp => by repeat (first | exact hp | exact List.mem_append_left _ hp | apply List.mem_cons_of_mem | apply List.mem_append_right))) rfl (fun _ => rfl)) ?_
    refine o_slice1 underlying24 ti3 (by decide) (by decide) rfl rfl (C := [_]) rfl rfl (fun b60 => ?_)
    refine o_append underlying24 ti3 rfl (by decide) rfl i1 rfl (At.all inn) rfl rfl (by omega) (by omega) hol (fun v' R' j1 => ?_)
    refine o_y (y_assign rfl) ?_
    refine o_nil ?_
    refine ⟨(R', v', _, out ++ [zs[a.toNat]]), 1, rfl, (.c rfl (.c rfl .n)), rfl, ⟨by simp only; rw [List.length_append]; exact j1, i2.snoc ⟨rfl, by assumption⟩, i3.step (List.getElem_mem ha) hg (fun y hy hgy => ?_), ?_⟩, left_lt (List.getElem_mem ha) hg⟩
    · obtain ⟨m, hm, rfl⟩ := List.getElem_of_mem hy
      exact hmin m hm hm hgy
    have := left_lt (List.getElem_mem ha) hg
    simp only [List.length_append, List.length_singleton]; omega
end Go.Ph
set_option linter.unusedVariables false
set_option linter.unusedSimpArgs false
set_option maxRecDepth 100000
namespace Go.Ph
open Go Go.RowKit Go.Proofs.YtmgnagpgnoikfaaGreatDoor Go.Proofs.Tryz
theorem cu_mem {d : Array Int} : ∀ m, ∀ i, i < m → d[i]! ∈ Lib.compactUpTo d m
  | 0, i, hi => by omega
  | m + 1, i, hi => by
    rw [Lib.compactUpTo_succ]
    by_cases e : i = m
    · subst e
      by_cases h0 : i = 0
      · subst h0
        rw [if_pos (by simp [Lib.keeps])]; simp
      by_cases hk : d[i]! = d[i - 1]!
      · have := cu_mem (d := d) i (i - 1) (by omega)
        rw [← hk] at this
        exact List.mem_append_left _ this
      rw [if_pos (Lib.keeps_pos hk)]; simp
    exact List.mem_append_left _ (cu_mem m i (by omega))
theorem compL_iff {xs : List Int} {x : Int} : x ∈ compL xs ↔ x ∈ xs := by
  refine ⟨compL_mem, fun h => ?_⟩
  obtain ⟨i, hi, rfl⟩ := List.getElem_of_mem h
  have := cu_mem (d := xs.toArray) xs.length i hi
  rw [getElem!_pos _ _ (by simpa using hi)] at this
  simpa [compL, Lib.compact] using this
theorem getC_no {xs : List Log} {g i : Int} (h : getB xs g i = false) : getC xs g i = default := by
  have hb := of_decide_eq_false h
  unfold getC
  by_cases h0 : 0 ≤ i
  · rw [if_pos h0, List.getD_eq_getElem?_getD, List.getElem?_eq_none (by omega)]; rfl
  rw [if_neg h0]
theorem membersL_nil : membersL [] = [] := by unfold membersL; split <;> rfl
theorem touched_mem {xs : List Log} {g i : Int} (x : Int) : x ∈ touchedL xs g i ↔ x ∈ membersL (getC xs g (i - 1)).next_.nodes ++ membersL (getC xs g i).next_.nodes := by
  unfold touchedL
  rw [compL_iff, sortL_mem, touch0]
  cases hb : getB xs g (i - 1) with
  | true => rw [if_pos rfl, List.mem_append, List.mem_append]; exact Or.comm
  | false =>
    rw [if_neg (by simp), getC_no hb, show (default : Commit).next_.nodes = [] from rfl, membersL_nil]; simp
abbrev RTouch (b : Bool) (ys : List Int) (H : HM) (O : OL) : Value → HM → OL → Prop := fun v' H' O' => Ext H H' ∧ O = O' ∧ ∃ u, v' = .tuple #[u, .bool b] ∧ RdL H' u (if b = true then ys else [])
theorem rtouched_ok {B : World} {H : HM} {O : OL} {v : Value} {xs : List Log} {g i : Int} (h : RdL H v xs) (hi : InR i) : CallsM prog 24 [v, .int .i64 g, .int .i64 i].toArray B H O (RTouch (getB xs g i) (touchedL xs g i) H O) := by
  refine enter func24 rfl ntmps24 (l := [(0, _), (1, _), (2, _)]) rfl rfl ?_
  refine x_seq ?_
  refine x_region rfl ?_
  refine o_y (y_assign rfl) ?_
  refine o_y (y_assign rfl) ?_
  refine o_nil ?_
  refine x_seq ?_
  refine x_region rfl ?_
  refine o_y (y_move rfl) ?_
  refine o_y (y_move rfl) ?_
  refine o_y (y_move rfl) ?_
  refine o_call fn22 rfl (rget_ok h) ?_
  rintro v16 H1 _ ⟨x16, rfl, cs16, rfl, r16⟩
  have w16 := Rep.one r16
  obtain ⟨u6, u7, u8, u9, u12, rfl, a0, a1, a2, a3, a4, a5, a6, a7, a8, a9, a10, a11, a12, a13⟩ := r16
  refine o_y (y_move rfl) ?_
  refine o_y (y_extract rfl rfl) ?_
  refine o_y (y_extract rfl rfl) ?_
  refine o_alloc ti31 rfl (fun b8 => ?_)
  refine o_store (u := [_, _, _, _, _, _, _, _, _, _, _, _, _, _, _]) (C' := [_, _, _, _, _, _, _, _, _, _, _, _, _, _, _]) ti31 rfl rfl rfl rfl (by first | rfl | assumption | (simp only [ones, List.all_cons, List.all_nil, Bool.and_true, one_of (by assumption)]; done)) (by repeat (first | exact .z | apply Upd.s | apply Upd.a)) (by exact Nat.le_of_ble_eq_true rfl) (by rfl) ?_
  refine o_y (y_assign rfl) ?_
  refine o_nil ?_
  refine x_seq ?_
  refine x_seq ?_
  refine x_region rfl ?_
  refine o_y (y_move rfl) ?_
  refine o_y (y_not rfl) ?_
  refine o_nil ?_
  refine x_cond rfl (fun hc0 => ?_) (fun hc0 => ?_)
  · try simp only [kk] at hc0
    refine x_seq ?_
    refine x_region rfl ?_
    refine o_y (y_assign rfl) ?_
    refine o_y (y_assign rfl) ?_
    refine o_nil ?_
    refine x_ret ?_
    refine x_fin 1 (ret2 rfl rfl rfl) ?_
    have hb : getB xs g i = false := by assumption
    rw [hb]
    exact ⟨x16, rfl, .slice none 0 0, rfl, RdL.nil _⟩
  try simp only [kk] at hc0
  have hgb : getB xs g i = true := by assumption
  have hiR := hi
  unfold InR at hiR
  have hi0 := (of_decide_eq_true hgb).1
  have hm0 := take_pos (get_take hgb).1
  refine x_skip ?_
  refine x_seq ?_
  refine x_region rfl ?_
  refine o_y (y_move rfl) ?_
  refine o_y (y_move rfl) ?_
  refine o_y (y_move rfl) ?_
  refine o_y (y_subN rfl rfl (by omega) (by omega)) ?_
  refine o_call fn22 rfl (rget_ok (h.mono x16)) ?_
  rintro v26 H2 _ ⟨x26, rfl, cs26, rfl, r26⟩
  have w26 := Rep.one r26
  obtain ⟨u6', u7', u8', u9', u12', rfl, c0, c1, c2, c3, c4, c5, c6, c7, c8, c9, c10, c11, c12, c13⟩ := r26
  refine o_y (y_move rfl) ?_
  refine o_y (y_extract rfl rfl) ?_
  refine o_y (y_extract rfl rfl) ?_
  refine o_alloc ti31 rfl (fun b10 => ?_)
  refine o_store (u := [_, _, _, _, _, _, _, _, _, _, _, _, _, _, _]) (C' := [_, _, _, _, _, _, _, _, _, _, _, _, _, _, _]) ti31 rfl rfl rfl rfl (by first | rfl | assumption | (simp only [ones, List.all_cons, List.all_nil, Bool.and_true, one_of (by assumption)]; done)) (by repeat (first | exact .z | apply Upd.s | apply Upd.a)) (by exact Nat.le_of_ble_eq_true rfl) (by rfl) ?_
  refine o_y (y_assign rfl) ?_
  refine o_nil ?_
  refine x_seq ?_
  refine x_region rfl ?_
  refine o_y (y_fieldAddr fd31_12 ti29 (by decide) rfl) ?_
  refine o_y (y_loadP ti29 rfl inn (cs := [_]) rfl rfl) ?_
  refine o_y (y_fieldAddr fd31_12 ti29 (by decide) rfl) ?_
  refine o_y (y_loadP ti29 rfl inn (cs := [_]) rfl rfl) ?_
  refine o_call fn166 rfl (runion_ok c11 (a11.mono x26) hm0) ?_
  rintro v33 H3 _ ⟨x33, R, cs, out, rfl, hU, hN, jU, eU⟩
  refine o_y (y_assign rfl) ?_
  refine o_y (y_assign rfl) ?_
  refine o_nil ?_
  have eo := hU.done hN (touched_asc xs g i) (fun x => touched_mem x)
  have hol : out.length ≤ 16 := by
    have h1 := membersL_small c11
    have h2 := membersL_small a11
    rw [eo, touchedL]
    have h3 := compL_le (sortL (touch0 xs g i))
    rw [sortL_len] at h3
    have h4 : (touch0 xs g i).length ≤ 16 := by
      unfold touch0
      rw [List.length_append]
      split
      · omega
      simp only [List.length_nil]; omega
    omega
  refine x_freezeP (S := R) (O' := _) (List.Perm.refl _) (fun H9 hX9 hI9 => ?_)
  refine x_ret ?_
  refine x_fin 2 (ret2 rfl rfl rfl) ?_
  rw [hgb]
  refine ⟨((x16.trans x26).trans x33).trans hX9, rfl, _, rfl, ?_⟩
  rw [if_pos rfl, ← eo]
  exact Row.inH jU rfl (eU.mono hX9) (by have e : Rep.bytes Int = 8 := rfl; rw [e]; omega) hI9
end Go.Ph
set_option linter.unusedVariables false
set_option linter.unusedSimpArgs false
set_option maxRecDepth 100000
namespace Go.Ph
open Go Go.RowKit Go.Proofs.YtmgnagpgnoikfaaGreatDoor Go.Proofs.Tryz
theorem beyond1 {a : Nat} (h : beyondI [(a : Int)] 0 = false) : a ≤ 262144 := by
  simp only [beyondI] at h
  split at h
  · cases h
  split at h
  · cases h
  omega
theorem row1 {H : HM} {b : Nat} {x : Int} (hx : InR x) (hN : ∀ c o, (c, o) ∈ [(b, cl [.int .i64 x] 3)] → H c = none) : RdL (H.add [(b, cl [.int .i64 x] 3)]) (.slice (some ⟨b, 0, none⟩) 1 1) [x] :=
  Row.freeze (n := 1) (e := 3) (cs := [.int .i64 x]) ⟨rfl, .inr ⟨b, 1, [], rfl, Nat.le_refl _, rfl, rfl⟩⟩ rfl (El.c (cs := [.int .i64 x]) ⟨rfl, hx⟩ .n) (by exact Nat.le_of_ble_eq_true rfl) hN
theorem sameCommit_yes {B : World} {H : HM} {O : OL} {cs ds : List Value} {c : Commit} (h : Rep.rd H cs c) (hu : Rep.rd H ds c) : CallsM prog 29 [.agg cs.toArray, .agg ds.toArray].toArray B H O (Same (.bool true) H O) := by
  have := sameCommit_ok (B := B) (O := O) h hu
  rwa [decide_eq_true rfl] at this
theorem sameNumbers_yes {B : World} {H : HM} {O : OL} {v u : Value} {xs : List Int} (h : RdL H v xs) (hu : RdL H u xs) : CallsM prog 30 [v, u].toArray B H O (Same (.bool true) H O) := by
  have := sameNumbers_ok (B := B) (O := O) h hu
  rwa [decide_eq_true rfl] at this
theorem nlGet {xs : List Log} {g i : Int} : nlCommit (getC xs g i) ≤ nlLogs xs + 5 := by
  cases hb : getB xs g i with
  | false =>
    rw [getC_no hb]
    have : nlCommit (default : Commit) = 5 := by unfold nlCommit; rw [nlNodes_eq]; rfl
    omega
  | true =>
    have hb2 := of_decide_eq_true hb
    obtain ⟨hv, j, hj, e1, e2⟩ := commits_some (xs := xs) (g := g) (by omega)
    have hk : i.toNat < xs[j].commits.length := by rw [← e2]; omega
    have e : getC xs g i = xs[j].commits[i.toNat] := by
      unfold getC
      rw [if_pos (by omega), e2, List.getD_eq_getElem?_getD, List.getElem?_eq_getElem hk]; rfl
    rw [e]
    have h1 : nlCommit xs[j].commits[i.toNat] ≤ (xs[j].commits.map nlCommit).sum := sum_mem (List.mem_map.2 ⟨_, List.getElem_mem hk, rfl⟩)
    have h2 : nlLog xs[j] ≤ (xs.map nlLog).sum := sum_mem (List.mem_map.2 ⟨_, List.getElem_mem hj, rfl⟩)
    unfold nlLogs
    unfold nlLog nlCommits at h2
    unfold nlLog nlCommits
    omega
set_option maxHeartbeats 2000000 in
theorem tells_true {B : World} {H : HM} {O : OL} {v : Value} {xs : List Log} {g i : Int} (hT : TabAt H) (h : RdL H v xs) (hg : InR g) (hi : InR i) : CallsM prog 4 [v, .int .i64 g, .int .i64 i].toArray B H O (Yes H O) := by
  refine CallsM.base fun hB => ?_
  have hls := logsSize_le h
  refine enter func4 rfl ntmps4 (l := [(0, _), (1, _), (2, _)]) rfl rfl ?_
  refine x_seq ?_
  refine x_region rfl ?_
  refine o_y (y_assign rfl) ?_
  refine o_nil ?_
  refine x_seq ?_
  refine x_seq ?_
  refine x_region rfl ?_
  refine o_y (y_move rfl) ?_
  refine o_call fn6 rfl (logsSize_ok h) ?_
  rintro _ _ _ ⟨rfl, rfl, rfl⟩
  refine o_slice1 underlying24 ti3 (by decide) (by decide) rfl rfl (C := [_]) rfl rfl (fun b23 => ?_)
  refine o_call fn5 rfl (CallsM.lend (A := []) (O' := _) [(b23, _)] rfl (fun hN hX => beyond_ok (xs := [(logsSize xs : Int)]) (row1 (by show InR (logsSize xs : Int); unfold InR; omega) hN))) ?_
  rintro _ _ _ ⟨rfl, rfl, rfl⟩
  refine o_nil ?_
  refine x_cond rfl (fun hc0 => ?_) (fun hc0 => ?_)
  · try simp only [kk] at hc0
    refine x_seq ?_
    refine x_region rfl ?_
    refine o_y (y_assign rfl) ?_
    refine o_nil ?_
    refine x_ret ?_
    refine x_fin 1 (ret1 rfl rfl) ?_
    exact ⟨rfl, Ext.refl _, rfl⟩
  try simp only [kk] at hc0
  have hz1 := beyond1 hc0
  have n1 := nlLogs_le hz1
  have n2 := nlGet (xs := xs) (g := g) (i := i)
  have n3 := nlGet (xs := xs) (g := g) (i := ((commitsOf xs g).length : Int) - 1)
  refine x_skip ?_
  refine x_seq ?_
  refine x_region rfl ?_
  refine o_y (y_move rfl) ?_
  refine o_call fn8 rfl (twinLogs_ok h) ?_
  rintro v26 H1 _ ⟨rfl, F26, g26, r26⟩
  obtain ⟨p26, c26, rfl⟩ := r26.shape
  refine o_y (y_assign rfl) ?_
  refine o_nil ?_
  refine x_seq ?_
  have hT1 := hT.ext g26.ext
  refine x_region rfl ?_
  refine o_y (y_move rfl) ?_
  refine o_y (y_move rfl) ?_
  refine o_y (y_move rfl) ?_
  refine o_call fn19 rfl (get_own hT1 r26.rdL hg hi) ?_
  rintro v31 H2 _ ⟨rfl, F31, cs31, g31, rfl, r31⟩
  have w31 := Rep.one (Own.ow_rd r31)
  have r31k := r31
  obtain ⟨d6, d7, d8, d9, d12, f6, f7, f8, f9, f12, rfl, r31⟩ := r31
  refine o_y (y_move rfl) ?_
  refine o_y (y_extract rfl rfl) ?_
  refine o_y (y_extract rfl rfl) ?_
  refine o_alloc ti31 rfl (fun b8 => ?_)
  refine o_store (u := [_, _, _, _, _, _, _, _, _, _, _, _, _, _, _]) (C' := [_, _, _, _, _, _, _, _, _, _, _, _, _, _, _]) ti31 rfl rfl rfl rfl (by first | rfl | assumption | (simp only [ones, List.all_cons, List.all_nil, Bool.and_true, one_of (by assumption)]; done)) (by repeat (first | exact .z | apply Upd.s | apply Upd.a)) (by exact Nat.le_of_ble_eq_true rfl) (by rfl) ?_
  refine o_y (y_assign rfl) ?_
  refine o_nil ?_
  refine x_seq ?_
  have hT2 := hT1.ext g31.ext
  have r26b := r26.mono g31.ext
  refine x_region rfl ?_
  refine o_y (y_move rfl) ?_
  refine o_y (y_move rfl) ?_
  refine o_call fn20 rfl (last_own hT2 r26b.rdL hg) ?_
  rintro v37 H3 _ ⟨rfl, F37, cs37, g37, rfl, r37⟩
  have w37 := Rep.one (Own.ow_rd r37)
  have r37k := r37
  obtain ⟨e6, e7, e8, e9, e12, m6, m7, m8, m9, m12, rfl, r37⟩ := r37
  refine o_y (y_move rfl) ?_
  refine o_y (y_extract rfl rfl) ?_
  refine o_y (y_extract rfl rfl) ?_
  refine o_alloc ti31 rfl (fun b10 => ?_)
  refine o_store (u := [_, _, _, _, _, _, _, _, _, _, _, _, _, _, _]) (C' := [_, _, _, _, _, _, _, _, _, _, _, _, _, _, _]) ti31 rfl rfl rfl rfl (by first | rfl | assumption | (simp only [ones, List.all_cons, List.all_nil, Bool.and_true, one_of (by assumption)]; done)) (by repeat (first | exact .z | apply Upd.s | apply Upd.a)) (by exact Nat.le_of_ble_eq_true rfl) (by rfl) ?_
  refine o_y (y_assign rfl) ?_
  refine o_nil ?_
  refine x_seq ?_
  have hT3 := hT2.ext g37.ext
  have r26c := r26b.mono g37.ext
  refine x_region rfl ?_
  refine o_y (y_move rfl) ?_
  refine o_y (y_move rfl) ?_
  refine o_y (y_move rfl) ?_
  refine o_call fn21 rfl (touched_own hT3 r26c.rdL hg hi) ?_
  rintro v44 H4 _ ⟨rfl, F44, u44, g44, rfl, r44⟩
  obtain ⟨p44, c44, rfl⟩ := r44.shape
  refine o_y (y_move rfl) ?_
  refine o_y (y_extract rfl rfl) ?_
  refine o_y (y_extract rfl rfl) ?_
  refine o_y (y_assign rfl) ?_
  refine o_y (y_assign rfl) ?_
  refine o_nil ?_
  refine x_seq ?_
  have x4 := ((g26.ext.trans g31.ext).trans g37.ext).trans g44.ext
  refine x_region rfl ?_
  refine o_y (y_move rfl) ?_
  refine o_y (y_move rfl) ?_
  refine o_y (y_move rfl) ?_
  refine o_call fn22 rfl (rget_ok (h.mono x4)) ?_
  rintro v51 H5 _ ⟨x51, rfl, cs51, rfl, r51⟩
  have w51 := Rep.one r51
  have r51k := r51
  obtain ⟨a6, a7, a8, a9, a12, rfl, r51⟩ := r51
  refine o_y (y_move rfl) ?_
  refine o_y (y_extract rfl rfl) ?_
  refine o_y (y_extract rfl rfl) ?_
  refine o_alloc ti31 rfl (fun b14 => ?_)
  refine o_store (u := [_, _, _, _, _, _, _, _, _, _, _, _, _, _, _]) (C' := [_, _, _, _, _, _, _, _, _, _, _, _, _, _, _]) ti31 rfl rfl rfl rfl (by first | rfl | assumption | (simp only [ones, List.all_cons, List.all_nil, Bool.and_true, one_of (by assumption)]; done)) (by repeat (first | exact .z | apply Upd.s | apply Upd.a)) (by exact Nat.le_of_ble_eq_true rfl) (by rfl) ?_
  refine o_y (y_assign rfl) ?_
  refine o_nil ?_
  refine x_seq ?_
  refine x_region rfl ?_
  refine o_y (y_move rfl) ?_
  refine o_y (y_move rfl) ?_
  refine o_call fn23 rfl (rlast_ok (h.mono (x4.trans x51))) ?_
  rintro v57 H6 _ ⟨x57, rfl, cs57, rfl, r57⟩
  have w57 := Rep.one r57
  have r57k := r57
  obtain ⟨q6, q7, q8, q9, q12, rfl, r57⟩ := r57
  refine o_y (y_move rfl) ?_
  refine o_y (y_extract rfl rfl) ?_
  refine o_y (y_extract rfl rfl) ?_
  refine o_alloc ti31 rfl (fun b16 => ?_)
  refine o_store (u := [_, _, _, _, _, _, _, _, _, _, _, _, _, _, _]) (C' := [_, _, _, _, _, _, _, _, _, _, _, _, _, _, _]) ti31 rfl rfl rfl rfl (by first | rfl | assumption | (simp only [ones, List.all_cons, List.all_nil, Bool.and_true, one_of (by assumption)]; done)) (by repeat (first | exact .z | apply Upd.s | apply Upd.a)) (by exact Nat.le_of_ble_eq_true rfl) (by rfl) ?_
  refine o_y (y_assign rfl) ?_
  refine o_nil ?_
  refine x_seq ?_
  refine x_region rfl ?_
  refine o_y (y_move rfl) ?_
  refine o_y (y_move rfl) ?_
  refine o_y (y_move rfl) ?_
  refine o_call fn24 rfl (rtouched_ok (h.mono ((x4.trans x51).trans x57)) hi) ?_
  rintro v64 H7 _ ⟨x64, rfl, u64, rfl, r64⟩
  obtain ⟨p64, c64, rfl⟩ := r64.shape
  refine o_y (y_move rfl) ?_
  refine o_y (y_extract rfl rfl) ?_
  refine o_y (y_extract rfl rfl) ?_
  refine o_y (y_assign rfl) ?_
  refine o_y (y_assign rfl) ?_
  refine o_nil ?_
  refine x_seq ?_
  refine x_seq ?_
  have x7 := ((x4.trans x51).trans x57).trans x64
  have y7 := (x51.trans x57).trans x64
  have hT7 := hT.ext x7
  have h7 := h.mono x7
  have r26d := r26c.mono (g44.ext.trans y7)
  have r31d := Own.ow_mono ((g37.ext.trans g44.ext).trans y7) r31k
  have r37d := Own.ow_mono (g44.ext.trans y7) r37k
  have r44d := r44.mono y7
  have r51d := Rep.mono (x57.trans x64) r51k
  have r57d := Rep.mono x64 r57k
  have gg := (((g26.trans g31).trans g37).trans g44).ext' y7
  refine x_region rfl ?_
  refine o_y (y_move rfl) ?_
  refine o_call fn25 rfl (lcheck_ok hT7 r26d.rdL) ?_
  rintro _ _ _ ⟨rfl, rfl, rfl⟩
  refine o_y (y_move rfl) ?_
  refine o_call fn26 rfl (rlcheck_ok h7) ?_
  rintro _ _ _ ⟨rfl, rfl, rfl⟩
  refine o_y (y_neq rfl rfl) ?_
  refine o_y (y_move rfl) ?_
  refine o_split 72 rfl (fun hg10_72 => ?_) (fun hg10_72 => ?_)
  · try simp only [kk] at hg10_72
    exfalso; simp at hg10_72
  try simp only [kk] at hg10_72
  refine o_gy 72 rfl rfl (y_move rfl) ?_
  refine o_gy 72 rfl rfl (y_move rfl) ?_
  refine o_gcall 72 rfl rfl fn27 rfl (len_ok hT7 r26d.rdL hg) ?_
  rintro _ _ _ ⟨rfl, rfl, rfl⟩
  refine o_gy 72 rfl rfl (y_move rfl) ?_
  refine o_gy 72 rfl rfl (y_move rfl) ?_
  refine o_gcall 72 rfl rfl fn28 rfl (rlen_ok h7) ?_
  rintro _ _ _ ⟨rfl, rfl, rfl⟩
  refine o_gy 72 rfl rfl (y_neq rfl rfl) ?_
  refine o_y (y_pick rfl rfl) ?_
  refine o_y (y_move rfl) ?_
  refine o_split 81 rfl (fun hg10_81 => ?_) (fun hg10_81 => ?_)
  · try simp only [kk] at hg10_81
    exfalso; simp at hg10_81
  try simp only [kk] at hg10_81
  refine o_gy 81 rfl rfl (y_move rfl) ?_
  refine o_gy 81 rfl rfl (y_move rfl) ?_
  refine o_gy 81 rfl rfl (y_bneq underlying4 rfl rfl) ?_
  refine o_y (y_pick rfl rfl) ?_
  refine o_y (y_move rfl) ?_
  refine o_split 86 rfl (fun hg10_86 => ?_) (fun hg10_86 => ?_)
  · try simp only [kk] at hg10_86
    exfalso; simp at hg10_86
  try simp only [kk] at hg10_86
  refine o_gy 86 rfl rfl (y_move rfl) ?_
  refine o_gy 86 rfl rfl (y_move rfl) ?_
  refine o_gy 86 rfl rfl (y_bneq underlying4 rfl rfl) ?_
  refine o_y (y_pick rfl rfl) ?_
  refine o_y (y_move rfl) ?_
  refine o_split 91 rfl (fun hg10_91 => ?_) (fun hg10_91 => ?_)
  · try simp only [kk] at hg10_91
    exfalso; simp at hg10_91
  try simp only [kk] at hg10_91
  refine o_gy 91 rfl rfl (y_move rfl) ?_
  refine o_gy 91 rfl rfl (y_move rfl) ?_
  refine o_gy 91 rfl rfl (y_bneq underlying4 rfl rfl) ?_
  refine o_y (y_pick rfl rfl) ?_
  refine o_y (y_move rfl) ?_
  refine o_split 96 rfl (fun hg10_96 => ?_) (fun hg10_96 => ?_)
  · try simp only [kk] at hg10_96
    exfalso; simp at hg10_96
  try simp only [kk] at hg10_96
  refine o_gy 96 rfl rfl (y_loadA ti31 rfl inn rfl) ?_
  refine o_gy 96 rfl rfl (y_loadA ti31 rfl inn rfl) ?_
  refine o_gcall 96 rfl rfl fn29 rfl (sameCommit_yes (Own.ow_rd r31d) r51d) ?_
  rintro _ _ _ ⟨rfl, rfl, rfl⟩
  refine o_gy 96 rfl rfl (y_not rfl) ?_
  refine o_y (y_pick rfl rfl) ?_
  refine o_y (y_move rfl) ?_
  refine o_gy 102 rfl rfl (y_loadA ti31 rfl inn rfl) ?_
  refine o_gy 102 rfl rfl (y_loadA ti31 rfl inn rfl) ?_
  refine o_gcall 102 rfl rfl fn29 rfl (sameCommit_yes (Own.ow_rd r37d) r57d) ?_
  rintro _ _ _ ⟨rfl, rfl, rfl⟩
  refine o_gy 102 rfl rfl (y_not rfl) ?_
  refine o_y (y_pick rfl rfl) ?_
  refine o_y (y_move rfl) ?_
  refine o_gy 108 rfl rfl (y_move rfl) ?_
  refine o_gy 108 rfl rfl (y_move rfl) ?_
  refine o_gcall 108 rfl rfl fn30 rfl (sameNumbers_yes r44d.rdL r64) ?_
  rintro _ _ _ ⟨rfl, rfl, rfl⟩
  refine o_gy 108 rfl rfl (y_not rfl) ?_
  refine o_y (y_pick rfl rfl) ?_
  refine o_y (y_move rfl) ?_
  refine o_gy 114 rfl rfl (y_move rfl) ?_
  refine o_gy 114 rfl rfl (y_move rfl) ?_
  refine o_gcall 114 rfl rfl fn13 rfl (leftLogs_ok r26d h7) ?_
  rintro _ _ _ ⟨rfl, rfl, rfl⟩
  refine o_gy 114 rfl rfl (y_not rfl) ?_
  refine o_y (y_pick rfl rfl) ?_
  refine o_nil ?_
  refine x_condF rfl ?_
  refine x_skip ?_
  refine x_seq ?_
  refine x_region rfl ?_
  refine o_y (y_buildS bt77 rfl (C := [_, _, _, _, _, _, _, _, _, _, _, _, _, _, _, _, _, _, _, _, _, _, _, _, _, _, _, _, _, _, _, _, _, _, _]) rfl) ?_
  refine o_alloc ti77 rfl (fun b20 => ?_)
  refine o_store (u := [_, _, _, _, _, _, _, _, _, _, _, _, _, _, _, _, _, _, _, _, _, _, _, _, _, _, _, _, _, _, _, _, _, _, _]) (C' := [_, _, _, _, _, _, _, _, _, _, _, _, _, _, _, _, _, _, _, _, _, _, _, _, _, _, _, _, _, _, _, _, _, _, _]) ti77 rfl rfl rfl rfl (by first | rfl | assumption | (simp only [ones, List.all_cons, List.all_nil, Bool.and_true, one_of (by assumption)]; done)) (by repeat (first | exact .z | apply Upd.s | apply Upd.a)) (by exact Nat.le_of_ble_eq_true rfl) (by rfl) ?_
  refine o_nil ?_
  refine x_seq ?_
  refine x_region rfl ?_
  refine o_y (y_move rfl) ?_
  refine o_call fn15 rfl (bookLogs_ok (S := [(b20, _)]) (O := _) (BkMem.zero rfl) r26d (by show 0 + nlLogs xs ≤ 1000000000000; omega)) ?_
  rintro _ _ _ ⟨rfl, S1, l1, rfl, e1, m1, f1⟩
  refine o_nil ?_
  refine x_seq ?_
  refine x_region rfl ?_
  refine o_y (y_loadA ti31 rfl inn rfl) ?_
  refine o_call fn16 rfl (bookCommit_ok m1 r31d (by rw [BK.adds_count]; show 0 + _ + _ ≤ _; omega)) ?_
  rintro _ _ _ ⟨rfl, S2, l2, rfl, e2, m2, f2⟩
  refine o_nil ?_
  refine x_seq ?_
  refine x_region rfl ?_
  refine o_y (y_loadA ti31 rfl inn rfl) ?_
  refine o_call fn16 rfl (bookCommit_ok m2 r37d (by rw [BK.adds_count, BK.adds_count]; show 0 + _ + _ + _ ≤ _; omega)) ?_
  rintro _ _ _ ⟨rfl, S3, l3, rfl, e3, m3, f3⟩
  refine o_nil ?_
  refine x_seq ?_
  refine x_region rfl ?_
  refine o_y (y_move rfl) ?_
  refine o_call fn31 rfl (bookNumbers_ok m3 r44d (by rw [BK.adds_count, BK.adds_count, BK.adds_count]; show 0 + _ + _ + _ + 1 ≤ _; omega)) ?_
  rintro _ _ _ ⟨rfl, S4, l4, rfl, e4, m4, f4⟩
  refine o_nil ?_
  refine x_seq ?_
  rw [← BK.adds_append, ← BK.adds_append, ← BK.adds_append] at m4
  have fA := Flat.perm (f1.append (f2.append (f3.append f4))) (G := F26 ++ F31 ++ F37 ++ F44) (perm_count fun a => by simp only [List.count_append]; omega)
  refine x_region rfl ?_
  refine o_call fn17 rfl (apart_call hB gg (l := l1 ++ (l2 ++ (l3 ++ l4))) (by simpa using m4) fA (by simp only [List.length_append]; omega)) ?_
  rintro v130 H8 _ ⟨rfl, x130, rfl⟩
  refine o_y (y_move rfl) ?_
  refine o_gcall 130 rfl rfl fn18 rfl (alive_ok (hT.ext x130)) ?_
  rintro v131 H9 _ ⟨rfl, x131, rfl⟩
  refine o_y (y_pick rfl rfl) ?_
  refine o_y (y_assign rfl) ?_
  refine o_nil ?_
  refine x_ret ?_
  refine x_fin 5 (ret1 rfl rfl) ?_
  exact ⟨rfl, x130.trans x131, rfl⟩
end Go.Ph
set_option linter.unusedVariables false
set_option linter.unusedSimpArgs false
set_option maxRecDepth 100000
namespace Go.Ph
open Go Go.RowKit Go.Proofs.YtmgnagpgnoikfaaGreatDoor Go.Proofs.Tryz
theorem reads_Int : Reads prog Int 3 := reads_int underlying3
theorem reads_Bool : Reads prog Bool 4 := reads_bool underlying4
theorem reads_AddE : Reads prog AddE 131 := by
  intro J enc W sp fuel cs d p h hw
  obtain ⟨hl, hf⟩ := trod_field underlying131 h hw
  rw [show prog.cellsOf 131 = 3 by kernel_rfl] at hl
  match cs, hl with
  | [a0, a1, a2], _ =>
    obtain ⟨_, _, _, h0, w0⟩ := hf 0 _ rfl
    obtain ⟨x0, r0⟩ := reads_Int h0 w0
    change Rep.rd _ (List.take (prog.cellsOf 3) (List.drop 0 [a0, a1, a2])) x0 at r0
    rw [show prog.cellsOf 3 = 1 by kernel_rfl] at r0
    change Rep.rd _ [a0] x0 at r0
    obtain ⟨e0, r0⟩ := r0
    simp only [List.cons.injEq, and_true] at e0
    obtain ⟨_, _, _, h1, w1⟩ := hf 1 _ rfl
    obtain ⟨x1, r1⟩ := reads_Int h1 w1
    change Rep.rd _ (List.take (prog.cellsOf 3) (List.drop 1 [a0, a1, a2])) x1 at r1
    rw [show prog.cellsOf 3 = 1 by kernel_rfl] at r1
    change Rep.rd _ [a1] x1 at r1
    obtain ⟨e1, r1⟩ := r1
    simp only [List.cons.injEq, and_true] at e1
    obtain ⟨_, _, _, h2, w2⟩ := hf 2 _ rfl
    obtain ⟨x2, r2⟩ := reads_Int h2 w2
    change Rep.rd _ (List.take (prog.cellsOf 3) (List.drop 2 [a0, a1, a2])) x2 at r2
    rw [show prog.cellsOf 3 = 1 by kernel_rfl] at r2
    change Rep.rd _ [a2] x2 at r2
    obtain ⟨e2, r2⟩ := r2
    simp only [List.cons.injEq, and_true] at e2
    subst e0
    subst e1
    subst e2
    exact ⟨⟨x0, x1, x2⟩, ⟨rfl, r0, r1, r2⟩⟩
theorem reads_Seal : Reads prog Seal 135 := by
  intro J enc W sp fuel cs d p h hw
  obtain ⟨hl, hf⟩ := trod_field underlying135 h hw
  rw [show prog.cellsOf 135 = 3 by kernel_rfl] at hl
  match cs, hl with
  | [a0, a1, a2], _ =>
    obtain ⟨_, _, _, h0, w0⟩ := hf 0 _ rfl
    obtain ⟨x0, r0⟩ := reads_Int h0 w0
    change Rep.rd _ (List.take (prog.cellsOf 3) (List.drop 0 [a0, a1, a2])) x0 at r0
    rw [show prog.cellsOf 3 = 1 by kernel_rfl] at r0
    change Rep.rd _ [a0] x0 at r0
    obtain ⟨e0, r0⟩ := r0
    simp only [List.cons.injEq, and_true] at e0
    obtain ⟨_, _, _, h1, w1⟩ := hf 1 _ rfl
    obtain ⟨x1, r1⟩ := reads_Int h1 w1
    change Rep.rd _ (List.take (prog.cellsOf 3) (List.drop 1 [a0, a1, a2])) x1 at r1
    rw [show prog.cellsOf 3 = 1 by kernel_rfl] at r1
    change Rep.rd _ [a1] x1 at r1
    obtain ⟨e1, r1⟩ := r1
    simp only [List.cons.injEq, and_true] at e1
    obtain ⟨_, _, _, h2, w2⟩ := hf 2 _ rfl
    obtain ⟨x2, r2⟩ := reads_Int h2 w2
    change Rep.rd _ (List.take (prog.cellsOf 3) (List.drop 2 [a0, a1, a2])) x2 at r2
    rw [show prog.cellsOf 3 = 1 by kernel_rfl] at r2
    change Rep.rd _ [a2] x2 at r2
    obtain ⟨e2, r2⟩ := r2
    simp only [List.cons.injEq, and_true] at e2
    subst e0
    subst e1
    subst e2
    exact ⟨⟨x0, x1, x2⟩, ⟨rfl, r0, r1, r2⟩⟩
theorem reads_Join : Reads prog Join 138 := by
  intro J enc W sp fuel cs d p h hw
  obtain ⟨hl, hf⟩ := trod_field underlying138 h hw
  rw [show prog.cellsOf 138 = 2 by kernel_rfl] at hl
  match cs, hl with
  | [a0, a1], _ =>
    obtain ⟨_, _, _, h0, w0⟩ := hf 0 _ rfl
    obtain ⟨x0, r0⟩ := reads_Int h0 w0
    change Rep.rd _ (List.take (prog.cellsOf 3) (List.drop 0 [a0, a1])) x0 at r0
    rw [show prog.cellsOf 3 = 1 by kernel_rfl] at r0
    change Rep.rd _ [a0] x0 at r0
    obtain ⟨e0, r0⟩ := r0
    simp only [List.cons.injEq, and_true] at e0
    obtain ⟨_, _, _, h1, w1⟩ := hf 1 _ rfl
    obtain ⟨x1, r1⟩ := reads_Int h1 w1
    change Rep.rd _ (List.take (prog.cellsOf 3) (List.drop 1 [a0, a1])) x1 at r1
    rw [show prog.cellsOf 3 = 1 by kernel_rfl] at r1
    change Rep.rd _ [a1] x1 at r1
    obtain ⟨e1, r1⟩ := r1
    simp only [List.cons.injEq, and_true] at e1
    subst e0
    subst e1
    exact ⟨⟨x0, x1⟩, ⟨rfl, r0, r1⟩⟩
theorem reads_sInt : Reads prog (List Int) 24 := reads_slice underlying24 (by kernel_rfl) (by decide) (by kernel_rfl) reads_Int
theorem reads_Node : Reads prog Node 127 := by
  intro J enc W sp fuel cs d p h hw
  obtain ⟨hl, hf⟩ := trod_field underlying127 h hw
  rw [show prog.cellsOf 127 = 4 by kernel_rfl] at hl
  match cs, hl with
  | [a0, a1, a2, a3], _ =>
    obtain ⟨_, _, _, h0, w0⟩ := hf 0 _ rfl
    obtain ⟨x0, r0⟩ := reads_Int h0 w0
    change Rep.rd _ (List.take (prog.cellsOf 3) (List.drop 0 [a0, a1, a2, a3])) x0 at r0
    rw [show prog.cellsOf 3 = 1 by kernel_rfl] at r0
    change Rep.rd _ [a0] x0 at r0
    obtain ⟨e0, r0⟩ := r0
    simp only [List.cons.injEq, and_true] at e0
    obtain ⟨_, _, _, h1, w1⟩ := hf 1 _ rfl
    obtain ⟨x1, r1⟩ := reads_Int h1 w1
    change Rep.rd _ (List.take (prog.cellsOf 3) (List.drop 1 [a0, a1, a2, a3])) x1 at r1
    rw [show prog.cellsOf 3 = 1 by kernel_rfl] at r1
    change Rep.rd _ [a1] x1 at r1
    obtain ⟨e1, r1⟩ := r1
    simp only [List.cons.injEq, and_true] at e1
    obtain ⟨_, _, _, h2, w2⟩ := hf 2 _ rfl
    obtain ⟨x2, r2⟩ := reads_Int h2 w2
    change Rep.rd _ (List.take (prog.cellsOf 3) (List.drop 2 [a0, a1, a2, a3])) x2 at r2
    rw [show prog.cellsOf 3 = 1 by kernel_rfl] at r2
    change Rep.rd _ [a2] x2 at r2
    obtain ⟨e2, r2⟩ := r2
    simp only [List.cons.injEq, and_true] at e2
    obtain ⟨_, _, _, h3, w3⟩ := hf 3 _ rfl
    obtain ⟨x3, r3⟩ := reads_sInt h3 w3
    change Rep.rd _ (List.take (prog.cellsOf 24) (List.drop 3 [a0, a1, a2, a3])) x3 at r3
    rw [show prog.cellsOf 24 = 1 by kernel_rfl] at r3
    change Rep.rd _ [a3] x3 at r3
    obtain ⟨v3, e3, r3⟩ := r3
    simp only [List.cons.injEq, and_true] at e3
    subst e0
    subst e1
    subst e2
    subst e3
    exact ⟨⟨x0, x1, x2, x3⟩, ⟨_, rfl, r0, r1, r2, r3⟩⟩
theorem reads_sNode : Reads prog (List Node) 27 := reads_slice underlying27 (by kernel_rfl) (by decide) (by kernel_rfl) reads_Node
theorem reads_Tree : Reads prog Tree 29 := by
  intro J enc W sp fuel cs d p h hw
  obtain ⟨hl, hf⟩ := trod_field underlying29 h hw
  rw [show prog.cellsOf 29 = 1 by kernel_rfl] at hl
  match cs, hl with
  | [a0], _ =>
    obtain ⟨_, _, _, h0, w0⟩ := hf 0 _ rfl
    obtain ⟨x0, r0⟩ := reads_sNode h0 w0
    change Rep.rd _ (List.take (prog.cellsOf 27) (List.drop 0 [a0])) x0 at r0
    rw [show prog.cellsOf 27 = 1 by kernel_rfl] at r0
    change Rep.rd _ [a0] x0 at r0
    obtain ⟨v0, e0, r0⟩ := r0
    simp only [List.cons.injEq, and_true] at e0
    subst e0
    exact ⟨⟨x0⟩, ⟨_, rfl, r0⟩⟩
theorem reads_sAddE : Reads prog (List AddE) 23 := reads_slice underlying23 (by kernel_rfl) (by decide) (by kernel_rfl) reads_AddE
theorem reads_sSeal : Reads prog (List Seal) 25 := reads_slice underlying25 (by kernel_rfl) (by decide) (by kernel_rfl) reads_Seal
theorem reads_sJoin : Reads prog (List Join) 26 := reads_slice underlying26 (by kernel_rfl) (by decide) (by kernel_rfl) reads_Join
theorem reads_Commit : Reads prog Commit 31 := by
  intro J enc W sp fuel cs d p h hw
  obtain ⟨hl, hf⟩ := trod_field underlying31 h hw
  rw [show prog.cellsOf 31 = 15 by kernel_rfl] at hl
  match cs, hl with
  | [a0, a1, a2, a3, a4, a5, a6, a7, a8, a9, a10, a11, a12, a13, a14], _ =>
    obtain ⟨_, _, _, h0, w0⟩ := hf 0 _ rfl
    obtain ⟨x0, r0⟩ := reads_Int h0 w0
    change Rep.rd _ (List.take (prog.cellsOf 3) (List.drop 0 [a0, a1, a2, a3, a4, a5, a6, a7, a8, a9, a10, a11, a12, a13, a14])) x0 at r0
    rw [show prog.cellsOf 3 = 1 by kernel_rfl] at r0
    change Rep.rd _ [a0] x0 at r0
    obtain ⟨e0, r0⟩ := r0
    simp only [List.cons.injEq, and_true] at e0
    obtain ⟨_, _, _, h1, w1⟩ := hf 1 _ rfl
    obtain ⟨x1, r1⟩ := reads_Int h1 w1
    change Rep.rd _ (List.take (prog.cellsOf 3) (List.drop 1 [a0, a1, a2, a3, a4, a5, a6, a7, a8, a9, a10, a11, a12, a13, a14])) x1 at r1
    rw [show prog.cellsOf 3 = 1 by kernel_rfl] at r1
    change Rep.rd _ [a1] x1 at r1
    obtain ⟨e1, r1⟩ := r1
    simp only [List.cons.injEq, and_true] at e1
    obtain ⟨_, _, _, h2, w2⟩ := hf 2 _ rfl
    obtain ⟨x2, r2⟩ := reads_Int h2 w2
    change Rep.rd _ (List.take (prog.cellsOf 3) (List.drop 2 [a0, a1, a2, a3, a4, a5, a6, a7, a8, a9, a10, a11, a12, a13, a14])) x2 at r2
    rw [show prog.cellsOf 3 = 1 by kernel_rfl] at r2
    change Rep.rd _ [a2] x2 at r2
    obtain ⟨e2, r2⟩ := r2
    simp only [List.cons.injEq, and_true] at e2
    obtain ⟨_, _, _, h3, w3⟩ := hf 3 _ rfl
    obtain ⟨x3, r3⟩ := reads_Int h3 w3
    change Rep.rd _ (List.take (prog.cellsOf 3) (List.drop 3 [a0, a1, a2, a3, a4, a5, a6, a7, a8, a9, a10, a11, a12, a13, a14])) x3 at r3
    rw [show prog.cellsOf 3 = 1 by kernel_rfl] at r3
    change Rep.rd _ [a3] x3 at r3
    obtain ⟨e3, r3⟩ := r3
    simp only [List.cons.injEq, and_true] at e3
    obtain ⟨_, _, _, h4, w4⟩ := hf 4 _ rfl
    obtain ⟨x4, r4⟩ := reads_Int h4 w4
    change Rep.rd _ (List.take (prog.cellsOf 3) (List.drop 4 [a0, a1, a2, a3, a4, a5, a6, a7, a8, a9, a10, a11, a12, a13, a14])) x4 at r4
    rw [show prog.cellsOf 3 = 1 by kernel_rfl] at r4
    change Rep.rd _ [a4] x4 at r4
    obtain ⟨e4, r4⟩ := r4
    simp only [List.cons.injEq, and_true] at e4
    obtain ⟨_, _, _, h5, w5⟩ := hf 5 _ rfl
    obtain ⟨x5, r5⟩ := reads_Bool h5 w5
    change Rep.rd _ (List.take (prog.cellsOf 4) (List.drop 5 [a0, a1, a2, a3, a4, a5, a6, a7, a8, a9, a10, a11, a12, a13, a14])) x5 at r5
    rw [show prog.cellsOf 4 = 1 by kernel_rfl] at r5
    change Rep.rd _ [a5] x5 at r5
    have e5 : [a5] = [Value.bool x5] := r5
    simp only [List.cons.injEq, and_true] at e5
    obtain ⟨_, _, _, h6, w6⟩ := hf 6 _ rfl
    obtain ⟨x6, r6⟩ := reads_sAddE h6 w6
    change Rep.rd _ (List.take (prog.cellsOf 23) (List.drop 6 [a0, a1, a2, a3, a4, a5, a6, a7, a8, a9, a10, a11, a12, a13, a14])) x6 at r6
    rw [show prog.cellsOf 23 = 1 by kernel_rfl] at r6
    change Rep.rd _ [a6] x6 at r6
    obtain ⟨v6, e6, r6⟩ := r6
    simp only [List.cons.injEq, and_true] at e6
    obtain ⟨_, _, _, h7, w7⟩ := hf 7 _ rfl
    obtain ⟨x7, r7⟩ := reads_sInt h7 w7
    change Rep.rd _ (List.take (prog.cellsOf 24) (List.drop 7 [a0, a1, a2, a3, a4, a5, a6, a7, a8, a9, a10, a11, a12, a13, a14])) x7 at r7
    rw [show prog.cellsOf 24 = 1 by kernel_rfl] at r7
    change Rep.rd _ [a7] x7 at r7
    obtain ⟨v7, e7, r7⟩ := r7
    simp only [List.cons.injEq, and_true] at e7
    obtain ⟨_, _, _, h8, w8⟩ := hf 8 _ rfl
    obtain ⟨x8, r8⟩ := reads_sSeal h8 w8
    change Rep.rd _ (List.take (prog.cellsOf 25) (List.drop 8 [a0, a1, a2, a3, a4, a5, a6, a7, a8, a9, a10, a11, a12, a13, a14])) x8 at r8
    rw [show prog.cellsOf 25 = 1 by kernel_rfl] at r8
    change Rep.rd _ [a8] x8 at r8
    obtain ⟨v8, e8, r8⟩ := r8
    simp only [List.cons.injEq, and_true] at e8
    obtain ⟨_, _, _, h9, w9⟩ := hf 9 _ rfl
    obtain ⟨x9, r9⟩ := reads_sJoin h9 w9
    change Rep.rd _ (List.take (prog.cellsOf 26) (List.drop 9 [a0, a1, a2, a3, a4, a5, a6, a7, a8, a9, a10, a11, a12, a13, a14])) x9 at r9
    rw [show prog.cellsOf 26 = 1 by kernel_rfl] at r9
    change Rep.rd _ [a9] x9 at r9
    obtain ⟨v9, e9, r9⟩ := r9
    simp only [List.cons.injEq, and_true] at e9
    obtain ⟨_, _, _, h10, w10⟩ := hf 10 _ rfl
    obtain ⟨x10, r10⟩ := reads_Int h10 w10
    change Rep.rd _ (List.take (prog.cellsOf 3) (List.drop 10 [a0, a1, a2, a3, a4, a5, a6, a7, a8, a9, a10, a11, a12, a13, a14])) x10 at r10
    rw [show prog.cellsOf 3 = 1 by kernel_rfl] at r10
    change Rep.rd _ [a10] x10 at r10
    obtain ⟨e10, r10⟩ := r10
    simp only [List.cons.injEq, and_true] at e10
    obtain ⟨_, _, _, h11, w11⟩ := hf 11 _ rfl
    obtain ⟨x11, r11⟩ := reads_Int h11 w11
    change Rep.rd _ (List.take (prog.cellsOf 3) (List.drop 11 [a0, a1, a2, a3, a4, a5, a6, a7, a8, a9, a10, a11, a12, a13, a14])) x11 at r11
    rw [show prog.cellsOf 3 = 1 by kernel_rfl] at r11
    change Rep.rd _ [a11] x11 at r11
    obtain ⟨e11, r11⟩ := r11
    simp only [List.cons.injEq, and_true] at e11
    obtain ⟨_, _, _, h12, w12⟩ := hf 12 _ rfl
    obtain ⟨x12, r12⟩ := reads_Tree h12 w12
    change Rep.rd _ (List.take (prog.cellsOf 29) (List.drop 12 [a0, a1, a2, a3, a4, a5, a6, a7, a8, a9, a10, a11, a12, a13, a14])) x12 at r12
    rw [show prog.cellsOf 29 = 1 by kernel_rfl] at r12
    change Rep.rd _ [a12] x12 at r12
    obtain ⟨v12, e12, r12⟩ := r12
    simp only [List.cons.injEq, and_true] at e12
    obtain ⟨_, _, _, h13, w13⟩ := hf 13 _ rfl
    obtain ⟨x13, r13⟩ := reads_Int h13 w13
    change Rep.rd _ (List.take (prog.cellsOf 3) (List.drop 13 [a0, a1, a2, a3, a4, a5, a6, a7, a8, a9, a10, a11, a12, a13, a14])) x13 at r13
    rw [show prog.cellsOf 3 = 1 by kernel_rfl] at r13
    change Rep.rd _ [a13] x13 at r13
    obtain ⟨e13, r13⟩ := r13
    simp only [List.cons.injEq, and_true] at e13
    obtain ⟨_, _, _, h14, w14⟩ := hf 14 _ rfl
    obtain ⟨x14, r14⟩ := reads_Int h14 w14
    change Rep.rd _ (List.take (prog.cellsOf 3) (List.drop 14 [a0, a1, a2, a3, a4, a5, a6, a7, a8, a9, a10, a11, a12, a13, a14])) x14 at r14
    rw [show prog.cellsOf 3 = 1 by kernel_rfl] at r14
    change Rep.rd _ [a14] x14 at r14
    obtain ⟨e14, r14⟩ := r14
    simp only [List.cons.injEq, and_true] at e14
    subst e0
    subst e1
    subst e2
    subst e3
    subst e4
    subst e5
    subst e6
    subst e7
    subst e8
    subst e9
    subst e10
    subst e11
    subst e12
    subst e13
    subst e14
    exact ⟨⟨x0, x1, x2, x3, x4, x5, x6, x7, x8, x9, x10, x11, x12, x13, x14⟩, ⟨_, _, _, _, _, rfl, r0, r1, r2, r3, r4, r6, r7, r8, r9, r10, r11, r12, r13, r14⟩⟩
theorem reads_sCommit : Reads prog (List Commit) 93 := reads_slice underlying93 (by kernel_rfl) (by decide) (by kernel_rfl) reads_Commit
theorem reads_Log : Reads prog Log 95 := by
  intro J enc W sp fuel cs d p h hw
  obtain ⟨hl, hf⟩ := trod_field underlying95 h hw
  rw [show prog.cellsOf 95 = 2 by kernel_rfl] at hl
  match cs, hl with
  | [a0, a1], _ =>
    obtain ⟨_, _, _, h0, w0⟩ := hf 0 _ rfl
    obtain ⟨x0, r0⟩ := reads_Int h0 w0
    change Rep.rd _ (List.take (prog.cellsOf 3) (List.drop 0 [a0, a1])) x0 at r0
    rw [show prog.cellsOf 3 = 1 by kernel_rfl] at r0
    change Rep.rd _ [a0] x0 at r0
    obtain ⟨e0, r0⟩ := r0
    simp only [List.cons.injEq, and_true] at e0
    obtain ⟨_, _, _, h1, w1⟩ := hf 1 _ rfl
    obtain ⟨x1, r1⟩ := reads_sCommit h1 w1
    change Rep.rd _ (List.take (prog.cellsOf 93) (List.drop 1 [a0, a1])) x1 at r1
    rw [show prog.cellsOf 93 = 1 by kernel_rfl] at r1
    change Rep.rd _ [a1] x1 at r1
    obtain ⟨v1, e1, r1⟩ := r1
    simp only [List.cons.injEq, and_true] at e1
    subst e0
    subst e1
    exact ⟨⟨x0, x1⟩, ⟨_, rfl, r0, r1⟩⟩
theorem reads_sLog : Reads prog (List Log) 22 := reads_slice underlying22 (by kernel_rfl) (by decide) (by kernel_rfl) reads_Log
end Go.Ph
