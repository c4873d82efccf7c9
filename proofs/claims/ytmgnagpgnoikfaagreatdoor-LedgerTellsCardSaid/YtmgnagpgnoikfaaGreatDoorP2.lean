/- What the claim stands on, part 2. -/
import Derived.Test.YtmgnagpgnoikfaaGreatDoorP1
set_option linter.unusedVariables false
set_option linter.unusedSimpArgs false
set_option maxRecDepth 100000
namespace Go.Ph
open Go Go.RowKit Go.Proofs.YtmgnagpgnoikfaaGreatDoor Go.Proofs.Tryz
theorem itree_ok {B : World} {H : HM} {O : OL} (n : Nat) (hn : n ≤ 8) : CallsM prog 301 [.int .i64 n].toArray B H O (Same (.bool (isPow n)) H O) := by
  refine enter func301 rfl ntmps301 (l := [(0, _)]) rfl rfl ?_
  refine x_seq ?_
  refine x_region rfl ?_
  refine o_y (y_assign rfl) ?_
  refine o_nil ?_
  refine x_seq ?_
  refine x_region rfl ?_
  refine o_y (y_move rfl) ?_
  refine o_y (y_gtr rfl rfl) ?_
  refine o_y (y_move rfl) ?_
  refine o_split 5 rfl (fun hg1_5 => ?_) (fun hg1_5 => ?_)
  · try simp only [kk] at hg1_5
    refine o_gy 5 rfl rfl (y_move rfl) ?_
    refine o_gy 5 rfl rfl (y_leq rfl rfl) ?_
    refine o_y (y_pick rfl rfl) ?_
    refine o_y (y_move rfl) ?_
    refine o_split 9 rfl (fun hg1_9 => ?_) (fun hg1_9 => ?_)
    · try simp only [kk] at hg1_9
      refine o_gy 9 rfl rfl (y_move rfl) ?_
      refine o_gy 9 rfl rfl (y_move rfl) ?_
      refine o_gy 9 rfl rfl (y_subN rfl rfl (by omega) (by omega)) ?_
      refine o_gy 9 rfl rfl (y_and rfl rfl) ?_
      refine o_gy 9 rfl rfl (y_eql rfl rfl) ?_
      refine o_y (y_pick rfl rfl) ?_
      refine o_y (y_assign rfl) ?_
      refine o_nil ?_
      refine x_ret ?_
      refine x_fin 0 (ret1 rfl rfl) ?_
      refine ⟨?_, rfl, rfl⟩
      congr 1
      by_cases e : n = 0
      · subst e; first | rfl | (exfalso; omega)
      first | exact isPow_bits n hn (Nat.pos_of_ne_zero e) | (exfalso; omega)
    try simp only [kk] at hg1_9
    refine o_gn 9 rfl rfl rfl ?_
    refine o_gn 9 rfl rfl rfl ?_
    refine o_gn 9 rfl rfl rfl ?_
    refine o_gn 9 rfl rfl rfl ?_
    refine o_gn 9 rfl rfl rfl ?_
    refine o_y (y_pick rfl rfl) ?_
    refine o_y (y_assign rfl) ?_
    refine o_nil ?_
    refine x_ret ?_
    refine x_fin 0 (ret1 rfl rfl) ?_
    refine ⟨?_, rfl, rfl⟩
    congr 1
    by_cases e : n = 0
    · subst e; first | rfl | (exfalso; omega)
    first | exact isPow_bits n hn (Nat.pos_of_ne_zero e) | (exfalso; omega)
  try simp only [kk] at hg1_5
  refine o_gn 5 rfl rfl rfl ?_
  refine o_gn 5 rfl rfl rfl ?_
  refine o_y (y_pick rfl rfl) ?_
  refine o_y (y_move rfl) ?_
  refine o_gn 9 rfl rfl rfl ?_
  refine o_gn 9 rfl rfl rfl ?_
  refine o_gn 9 rfl rfl rfl ?_
  refine o_gn 9 rfl rfl rfl ?_
  refine o_gn 9 rfl rfl rfl ?_
  refine o_y (y_pick rfl rfl) ?_
  refine o_y (y_assign rfl) ?_
  refine o_nil ?_
  refine x_ret ?_
  refine x_fin 0 (ret1 rfl rfl) ?_
  refine ⟨?_, rfl, rfl⟩
  congr 1
  by_cases e : n = 0
  · subst e; first | rfl | (exfalso; omega)
  first | exact isPow_bits n hn (Nat.pos_of_ne_zero e) | (exfalso; omega)
def widthN (n : Nat) : Int := if isPow n then 2 * n - 1 else 0
theorem width_ok {B : World} {H : HM} {O : OL} (n : Nat) (hn : n ≤ 8) : CallsM prog 289 [.int .i64 n].toArray B H O (Same (.int .i64 (widthN n)) H O) := by
  refine enter func289 rfl ntmps289 (l := [(0, _)]) rfl rfl ?_
  refine x_seq ?_
  refine x_region rfl ?_
  refine o_y (y_assign rfl) ?_
  refine o_nil ?_
  refine x_seq ?_
  refine x_seq ?_
  refine x_region rfl ?_
  refine o_y (y_move rfl) ?_
  refine o_call fn301 rfl (itree_ok n hn) ?_
  rintro _ _ _ ⟨rfl, rfl, rfl⟩
  refine o_y (y_not rfl) ?_
  refine o_nil ?_
  refine x_cond rfl (fun hc0 => ?_) (fun hc0 => ?_)
  · try simp only [kk] at hc0
    refine x_seq ?_
    refine x_region rfl ?_
    refine o_y (y_assign rfl) ?_
    refine o_nil ?_
    refine x_ret ?_
    refine x_fin 0 (ret1 rfl rfl) ?_
    exact ⟨by simp [widthN, *], rfl, rfl⟩
  try simp only [kk] at hc0
  refine x_skip ?_
  refine x_seq ?_
  refine x_region rfl ?_
  refine o_y (y_move rfl) ?_
  refine o_y (y_mulN rfl rfl (by omega) (by omega)) ?_
  refine o_y (y_subN rfl rfl (by omega) (by omega)) ?_
  refine o_y (y_assign rfl) ?_
  refine o_nil ?_
  refine x_ret ?_
  refine x_fin 0 (ret1 rfl rfl) ?_
  exact ⟨by simp [widthN, *], rfl, rfl⟩
def leavesN (m : Nat) : Nat := if m = 1 then 1 else if m = 3 then 2 else if m = 7 then 4 else if m = 15 then 8 else 0
theorem leaves_pure (m : Nat) : (8 < (m + 1) / 2 → leavesN m = 0) ∧ (m = 0 → leavesN m = 0) ∧ ((m + 1) / 2 ≤ 8 → m ≠ 0 → widthN ((m + 1) / 2) ≠ m → leavesN m = 0) ∧ ((m + 1) / 2 ≤ 8 → m ≠ 0 → widthN ((m + 1) / 2) = m → leavesN m = (m + 1) / 2) := by
  have hw : ∀ n, n ≤ 8 → widthN n = if n = 1 then 1 else if n = 2 then 3 else if n = 4 then 7 else if n = 8 then 15 else 0 := by decide
  refine ⟨fun h => ?_, fun h => ?_, fun h h0 h1 => ?_, fun h h0 h1 => ?_⟩
  · unfold leavesN; (repeat' split) <;> omega
  · subst h; rfl
  · rw [hw _ h] at h1
    unfold leavesN
    (repeat' split at h1) <;> (repeat' split) <;> omega
  rw [hw _ h] at h1
  unfold leavesN
  (repeat' split at h1) <;> (repeat' split) <;> omega
theorem leaves_ok {B : World} {H : HM} {O : OL} {v : Value} {xs : List Node} (h : RdL H v xs) : CallsM prog 263 [.agg #[v]].toArray B H O (Same (.int .i64 (leavesN xs.length)) H O) := by
  have hs := h.lenle
  obtain ⟨q1, q2, q3, q4⟩ := leaves_pure xs.length
  refine enter func263 rfl ntmps263 (l := [(0, _)]) rfl rfl ?_
  refine x_seq ?_
  refine x_region rfl ?_
  refine o_box rfl (cs := [_]) rfl (fun b1 => ?_)
  refine o_y (y_assign rfl) ?_
  refine o_nil ?_
  refine x_seq ?_
  refine x_region rfl ?_
  refine o_y (y_fieldAddr fd29_0 ti27 (by decide) rfl) ?_
  refine o_y (y_loadO ti27 rfl inn rfl) ?_
  refine o_y (y_lenA underlying27 rfl) ?_
  refine o_y (y_addN rfl rfl (by omega) (by omega)) ?_
  refine o_y (y_quoN rfl rfl (by omega) (by omega) (by omega)) ?_
  refine o_y (y_assign rfl) ?_
  refine o_nil ?_
  refine x_seq ?_
  refine x_seq ?_
  refine x_regionQ mixed (by kernel_rfl) rfl ?_
  refine q_y (y_move rfl) ?_
  refine q_y (y_gtr rfl rfl) ?_
  refine q_y (y_move rfl) ?_
  refine q_split 11 rfl (fun hg2_11 => ?_) (fun hg2_11 => ?_)
  · try simp only [kk] at hg2_11
    refine q_gn 11 rfl rfl rfl ?_
    refine q_gn 11 rfl rfl rfl ?_
    refine q_gn 11 rfl rfl rfl ?_
    refine q_gn 11 rfl rfl rfl ?_
    refine q_y (y_pick rfl rfl) ?_
    refine q_y (y_move rfl) ?_
    refine q_gn 17 rfl rfl rfl ?_
    refine q_gn 17 rfl rfl rfl ?_
    refine q_gn 17 rfl rfl rfl ?_
    refine q_gn 17 rfl rfl rfl ?_
    refine q_gn 17 rfl rfl rfl ?_
    refine q_gn 17 rfl rfl rfl ?_
    refine q_y (y_pick rfl rfl) ?_
    refine q_nil ?_
    refine x_condT rfl ?_
    refine x_seq ?_
    refine x_region rfl ?_
    refine o_y (y_assign rfl) ?_
    refine o_nil ?_
    refine x_ret ?_
    refine x_fin 1 (ret1 rfl rfl) ?_
    refine ⟨?_, rfl, rfl⟩
    congr 1
    first
      | (rw [q1 (by omega)]; rfl)
      | (rw [q2 (by omega)]; rfl)
      | (rw [q3 (by omega) (by omega) (by omega)]; rfl)
      | (rw [q4 (by omega) (by omega) (by omega)]; rfl)
  try simp only [kk] at hg2_11
  refine q_gy 11 rfl rfl (y_fieldAddr fd29_0 ti27 (by decide) rfl) ?_
  refine q_gy 11 rfl rfl (y_loadO ti27 rfl inn rfl) ?_
  first | refine q_gy 11 rfl rfl (y_lenL (by assumption) underlying27 rfl) ?_ | refine q_gy 11 rfl rfl (y_lenR (by assumption) underlying27 rfl) ?_ | refine q_gy 11 rfl rfl (y_len underlying27 rfl) ?_
  refine q_gy 11 rfl rfl (y_eql rfl rfl) ?_
  refine q_y (y_pick rfl rfl) ?_
  refine q_y (y_move rfl) ?_
  refine q_split 17 rfl (fun hg2_17 => ?_) (fun hg2_17 => ?_)
  · try simp only [kk] at hg2_17
    refine q_gn 17 rfl rfl rfl ?_
    refine q_gn 17 rfl rfl rfl ?_
    refine q_gn 17 rfl rfl rfl ?_
    refine q_gn 17 rfl rfl rfl ?_
    refine q_gn 17 rfl rfl rfl ?_
    refine q_gn 17 rfl rfl rfl ?_
    refine q_y (y_pick rfl rfl) ?_
    refine q_nil ?_
    refine x_condT rfl ?_
    refine x_seq ?_
    refine x_region rfl ?_
    refine o_y (y_assign rfl) ?_
    refine o_nil ?_
    refine x_ret ?_
    refine x_fin 1 (ret1 rfl rfl) ?_
    refine ⟨?_, rfl, rfl⟩
    congr 1
    first
      | (rw [q1 (by omega)]; rfl)
      | (rw [q2 (by omega)]; rfl)
      | (rw [q3 (by omega) (by omega) (by omega)]; rfl)
      | (rw [q4 (by omega) (by omega) (by omega)]; rfl)
  try simp only [kk] at hg2_17
  refine q_gy 17 rfl rfl (y_move rfl) ?_
  have hle : (xs.length + 1) / 2 ≤ 8 := by omega
  refine q_gcall 17 rfl rfl fn289 rfl (width_ok ((xs.length + 1) / 2) hle) ?_
  refine q_gy 17 rfl rfl (y_fieldAddr fd29_0 ti27 (by decide) rfl) ?_
  refine q_gy 17 rfl rfl (y_loadO ti27 rfl inn rfl) ?_
  first | refine q_gy 17 rfl rfl (y_lenL (by assumption) underlying27 rfl) ?_ | refine q_gy 17 rfl rfl (y_lenR (by assumption) underlying27 rfl) ?_ | refine q_gy 17 rfl rfl (y_len underlying27 rfl) ?_
  refine q_gy 17 rfl rfl (y_neq rfl rfl) ?_
  refine q_y (y_pick rfl rfl) ?_
  refine q_nil ?_
  refine x_cond rfl (fun hc0 => ?_) (fun hc0 => ?_)
  · try simp only [kk] at hc0
    refine x_seq ?_
    refine x_region rfl ?_
    refine o_y (y_assign rfl) ?_
    refine o_nil ?_
    refine x_ret ?_
    refine x_fin 1 (ret1 rfl rfl) ?_
    refine ⟨?_, rfl, rfl⟩
    congr 1
    first
      | (rw [q1 (by omega)]; rfl)
      | (rw [q2 (by omega)]; rfl)
      | (rw [q3 (by omega) (by omega) (by omega)]; rfl)
      | (rw [q4 (by omega) (by omega) (by omega)]; rfl)
  try simp only [kk] at hc0
  refine x_skip ?_
  refine x_seq ?_
  refine x_region rfl ?_
  refine o_y (y_move rfl) ?_
  refine o_y (y_assign rfl) ?_
  refine o_nil ?_
  refine x_ret ?_
  refine x_fin 1 (ret1 rfl rfl) ?_
  refine ⟨?_, rfl, rfl⟩
  congr 1
  first
    | (rw [q1 (by omega)]; rfl)
    | (rw [q2 (by omega)]; rfl)
    | (rw [q3 (by omega) (by omega) (by omega)]; rfl)
    | (rw [q4 (by omega) (by omega) (by omega)]; rfl)
end Go.Ph
set_option linter.unusedVariables false
set_option linter.unusedSimpArgs false
set_option maxRecDepth 100000
namespace Go.Ph
open Go Go.RowKit Go.Proofs.YtmgnagpgnoikfaaGreatDoor Go.Proofs.Tryz
def tab64 : List Nat := [0, 1, 56, 2, 57, 49, 28, 3, 61, 58, 42, 50, 38, 29, 17, 4, 62, 47, 59, 36, 45, 43, 51, 22, 53, 39, 33, 30, 24, 18, 12, 5, 63, 55, 48, 27, 60, 41, 37, 16, 46, 35, 44, 21, 52, 32, 23, 11, 54, 26, 40, 15, 34, 20, 31, 10, 25, 14, 19, 9, 13, 8, 7, 6]
def TabAt (H : HM) : Prop := ∃ T fr, H 0 = some (.cells (tab64.map fun (n : Nat) => Value.int .u8 n).toArray T fr)
theorem TabAt.ext {H H' : HM} (h : TabAt H) (e : Ext H H') : TabAt H' := by obtain ⟨T, fr, h⟩ := h; exact ⟨T, fr, e _ _ h⟩
def lvlN (x : Nat) : Nat := if x % 2 = 0 then 0 else if x % 4 = 1 then 1 else if x % 8 = 3 then 2 else if x % 16 = 7 then 3 else 4
def tzI (x : Nat) : Int := ishr .u64 (IntKind.u64.wrap (ibit .and .u64 (18446744073709551615 - x) (IntKind.u64.wrap (0 - (18446744073709551615 - x))) * 285870213051353865)) 58
theorem tzI_ok : ∀ x : Nat, x < 15 → 0 ≤ tzI x ∧ tzI x < 64 ∧ tab64[(tzI x).toNat]? = some (lvlN x) := by decide +kernel
theorem tz_ok {B : World} {H : HM} {O : OL} (hT : TabAt H) (x : Nat) (hx : x < 15) : CallsM prog 306 [.int .u64 (18446744073709551615 - x)].toArray B H O (Same (.int .i64 (lvlN x)) H O) := by
  obtain ⟨T, fr, hT⟩ := hT
  obtain ⟨h1, h2, h3⟩ := tzI_ok x hx
  have h4 : lvlN x ≤ 4 := by unfold lvlN; (repeat' split) <;> omega
  have h5 : IntKind.i64.wrap (lvlN x : Int) = lvlN x := wrap_id (by omega) (by omega)
  refine enter func306 rfl ntmps306 (l := [(0, _)]) rfl rfl ?_
  refine x_seq ?_
  refine x_region rfl ?_
  refine o_y (y_assign rfl) ?_
  refine o_nil ?_
  refine x_seq ?_
  refine x_seq ?_
  refine x_region rfl ?_
  refine o_y (y_move rfl) ?_
  refine o_y (y_eql rfl rfl) ?_
  refine o_nil ?_
  refine x_cond rfl (fun hc0 => ?_) (fun hc0 => ?_)
  · try simp only [kk] at hc0
    exfalso; omega
  try simp only [kk] at hc0
  refine x_skip ?_
  refine x_seq ?_
  refine x_region rfl ?_
  refine o_y (y_move rfl) ?_
  refine o_y (y_move rfl) ?_
  refine o_y (y_neg rfl) ?_
  refine o_y (y_and rfl rfl) ?_
  refine o_y (y_mul rfl rfl) ?_
  refine o_y (y_shr rfl rfl (by omega)) ?_
  refine o_y (y_idxArr underlying413 ti5 (i := tzI x) rfl rfl h1 h2) ?_
  refine o_y (y_loadH ti5 rfl hT (u := .int .u8 (lvlN x)) (by simp [h3])) ?_
  refine o_y (y_conv underlying5 underlying3 rfl) ?_
  refine o_y (y_assign rfl) ?_
  refine o_nil ?_
  refine x_ret ?_
  refine x_fin 0 (ret1 rfl rfl) ?_
  refine ⟨?_, rfl, rfl⟩
  rw [h5]
theorem xor_ok : ∀ x : Nat, x < 15 → ibit .xor .u64 (if IntKind.u64.signed then -1 else IntKind.u64.max) (IntKind.u64.wrap (x : Int)) = 18446744073709551615 - x := by decide +kernel
theorem level_ok {B : World} {H : HM} {O : OL} (hT : TabAt H) (x : Nat) (hx : x < 15) : CallsM prog 302 [.int .i64 x].toArray B H O (Same (.int .i64 (lvlN x)) H O) := by
  have h1 := xor_ok x hx
  refine enter func302 rfl ntmps302 (l := [(0, _)]) rfl rfl ?_
  refine x_seq ?_
  refine x_region rfl ?_
  refine o_y (y_assign rfl) ?_
  refine o_nil ?_
  refine x_seq ?_
  refine x_seq ?_
  refine x_region rfl ?_
  refine o_y (y_move rfl) ?_
  refine o_y (y_lss rfl rfl) ?_
  refine o_nil ?_
  refine x_cond rfl (fun hc0 => ?_) (fun hc0 => ?_)
  · try simp only [kk] at hc0
    exfalso; omega
  try simp only [kk] at hc0
  refine x_skip ?_
  refine x_seq ?_
  refine x_region rfl ?_
  refine o_y (y_move rfl) ?_
  refine o_y (y_conv underlying3 underlying401 rfl) ?_
  refine o_y (y_xor rfl) ?_
  rw [h1]
  refine o_call fn306 rfl (tz_ok hT x hx) ?_
  rintro _ _ _ ⟨rfl, rfl, rfl⟩
  refine o_y (y_assign rfl) ?_
  refine o_nil ?_
  refine x_ret ?_
  refine x_fin 0 (ret1 rfl rfl) ?_
  exact ⟨rfl, rfl, rfl⟩
def spanLo (x : Nat) : Int := ishl .i64 (ishr .i64 x ((lvlN x : Int) + 1)) (lvlN x)
def spanHi (x : Nat) : Int := spanLo x + ishl .i64 1 (lvlN x) - 1
theorem span_ok' : ∀ x : Nat, x < 15 → 0 ≤ spanLo x ∧ spanLo x ≤ 8 ∧ 0 ≤ ishl .i64 1 (lvlN x) ∧ ishl .i64 1 (lvlN x) ≤ 16 := by decide +kernel
theorem span_ok {B : World} {H : HM} {O : OL} (hT : TabAt H) (x : Nat) (hx : x < 15) : CallsM prog 290 [.int .i64 x].toArray B H O (Same (.tuple #[.int .i64 (spanLo x), .int .i64 (spanHi x)]) H O) := by
  obtain ⟨h1, h2, h3, h4⟩ := span_ok' x hx
  have h5 : lvlN x ≤ 4 := by unfold lvlN; (repeat' split) <;> omega
  refine enter func290 rfl ntmps290 (l := [(0, _)]) rfl rfl ?_
  refine x_seq ?_
  refine x_region rfl ?_
  refine o_y (y_assign rfl) ?_
  refine o_y (y_assign rfl) ?_
  refine o_nil ?_
  refine x_seq ?_
  refine x_region rfl ?_
  refine o_y (y_move rfl) ?_
  refine o_call fn302 rfl (level_ok hT x hx) ?_
  rintro _ _ _ ⟨rfl, rfl, rfl⟩
  refine o_y (y_assign rfl) ?_
  refine o_nil ?_
  refine x_seq ?_
  refine x_seq ?_
  refine x_region rfl ?_
  refine o_y (y_move rfl) ?_
  refine o_y (y_lss rfl rfl) ?_
  refine o_y (y_move rfl) ?_
  refine o_split 10 rfl (fun hg2_10 => ?_) (fun hg2_10 => ?_)
  · try simp only [kk] at hg2_10
    exfalso; omega
  try simp only [kk] at hg2_10
  refine o_gy 10 rfl rfl (y_move rfl) ?_
  refine o_gy 10 rfl rfl (y_eql rfl rfl) ?_
  refine o_y (y_pick rfl rfl) ?_
  refine o_nil ?_
  refine x_cond rfl (fun hc0 => ?_) (fun hc0 => ?_)
  · try simp only [kk] at hc0
    exfalso; omega
  try simp only [kk] at hc0
  refine x_skip ?_
  refine x_seq ?_
  refine x_region rfl ?_
  refine o_y (y_move rfl) ?_
  refine o_y (y_move rfl) ?_
  refine o_y (y_addN rfl rfl (by omega) (by omega)) ?_
  refine o_y (y_shr rfl rfl (by omega)) ?_
  refine o_y (y_move rfl) ?_
  refine o_y (y_shl (n := (lvlN x : Int)) rfl rfl (by omega)) ?_
  rw [show ishl .i64 (ishr .i64 x ((lvlN x : Int) + 1)) (lvlN x) = spanLo x from rfl]
  refine o_y (y_assign rfl) ?_
  refine o_nil ?_
  refine x_seq ?_
  refine x_regionQ mixed (by kernel_rfl) rfl ?_
  refine q_y (y_move rfl) ?_
  refine q_y (y_move rfl) ?_
  refine q_y (y_move rfl) ?_
  refine q_y (y_shl rfl rfl (by omega)) ?_
  refine q_y (y_addN rfl rfl (by omega) (by omega)) ?_
  refine q_y (y_subN rfl rfl (by omega) (by omega)) ?_
  refine q_y (y_assign rfl) ?_
  refine q_y (y_assign rfl) ?_
  refine q_nil ?_
  refine x_ret ?_
  refine x_fin 0 (ret2 rfl rfl rfl) ?_
  exact ⟨rfl, rfl, rfl⟩
end Go.Ph
set_option linter.unusedVariables false
set_option linter.unusedSimpArgs false
set_option maxRecDepth 100000
namespace Go.Ph
open Go Go.RowKit Go.Proofs.YtmgnagpgnoikfaaGreatDoor Go.Proofs.Tryz
def nodeAt (xs : List Node) (j : Nat) : Node := xs.getD j default
theorem nodeAt_eq {xs : List Node} {j : Nat} (h : j < xs.length) : nodeAt xs j = xs[j] := by simp [nodeAt, List.getD_eq_getElem?_getD, h]
def TreeLen (m : Nat) : Prop := m = 1 ∨ m = 3 ∨ m = 7 ∨ m = 15
theorem TreeLen.le {m : Nat} (h : TreeLen m) : m ≤ 15 := by unfold TreeLen at h; omega
theorem span_in : ∀ m ∈ [1, 3, 7, 15], ∀ x : Nat, x < m → 2 * spanHi x < (m : Int) ∧ -1 ≤ spanHi x - spanLo x ∧ spanHi x ≤ 8 := by decide +kernel
theorem TreeLen.span {m : Nat} (h : TreeLen m) {x : Nat} (hx : x < m) : 2 * spanHi x < (m : Int) ∧ -1 ≤ spanHi x - spanLo x ∧ spanHi x ≤ 8 :=
  span_in m (by unfold TreeLen at h; simp; omega) x hx
def umOk (xs : List Node) (hi : Int) : Int → List Int → Bool
  | _, [] => true
  | lo, u :: us => if u < lo ∨ hi < u ∨ (nodeAt xs (2 * u.toNat)).pub = 0 then false else umOk xs hi (u + 1) us
def parentB (xs : List Node) (x : Nat) : Bool :=
  if (nodeAt xs x).pub < 1 ∨ (nodeAt xs x).member ≠ 0 ∨ (nodeAt xs x).epoch ≠ 0 then (nodeAt xs x).blankB else umOk xs (spanHi x) (spanLo x) (nodeAt xs x).unmerged
theorem parentB_1 {xs : List Node} {x : Nat} {n : Node} (e : nodeAt xs x = n) (h : n.pub < 1 ∨ n.member ≠ 0 ∨ n.epoch ≠ 0) : parentB xs x = n.blankB := by subst e; unfold parentB; rw [if_pos h]
theorem parentB_2 {xs : List Node} {x : Nat} {n : Node} (e : nodeAt xs x = n) (h : ¬ (n.pub < 1 ∨ n.member ≠ 0 ∨ n.epoch ≠ 0)) : parentB xs x = umOk xs (spanHi x) (spanLo x) n.unmerged := by subst e; unfold parentB; rw [if_neg h]
theorem umOk_no {xs : List Node} {hi f : Int} {us : List Int} {k : Nat} (hk : k < us.length) (h : us[k] < f ∨ hi < us[k] ∨ (nodeAt xs (2 * us[k].toNat)).pub = 0) : umOk xs hi f (us.drop k) = false := by
  rw [List.drop_eq_getElem_cons hk, umOk, if_pos h]
theorem umOk_yes {xs : List Node} {hi f : Int} {us : List Int} {k : Nat} (hk : k < us.length) (h : ¬ (us[k] < f ∨ hi < us[k] ∨ (nodeAt xs (2 * us[k].toNat)).pub = 0)) : umOk xs hi f (us.drop k) = umOk xs hi (us[k] + 1) (us.drop (k + 1)) := by
  rw [List.drop_eq_getElem_cons hk, umOk, if_neg h]
theorem parent_ok {B : World} {H : HM} {O : OL} {v : Value} {xs : List Node} (hT : TabAt H) (h : RdL H v xs) (hl : TreeLen xs.length) (x : Nat) (hx : x < xs.length) :
    CallsM prog 264 [.agg #[v], .int .i64 x].toArray B H O (Same (.bool (parentB xs x)) H O) := by
  have hs := h.lenle
  have h15 := hl.le
  obtain ⟨p1, p2, p3⟩ := hl.span hx
  obtain ⟨p4, p5, _, _⟩ := span_ok' x (by omega)
  have en := nodeAt_eq hx
  refine enter func264 rfl ntmps264 (l := [(0, _), (1, _)]) rfl rfl ?_
  refine x_seq ?_
  refine x_region rfl ?_
  refine o_box rfl (cs := [_]) rfl (fun b2 => ?_)
  refine o_y (y_assign rfl) ?_
  refine o_nil ?_
  refine x_seq ?_
  refine x_region rfl ?_
  refine o_y (y_fieldAddr fd29_0 ti27 (by decide) rfl) ?_
  refine o_y (y_loadO ti27 rfl inn rfl) ?_
  refine o_y (y_move rfl) ?_
  obtain ⟨ce13, ae13, re13⟩ := RdL.at h _ x hx
  have se13 := AtS.isSl ae13
  have te13 := re13
  obtain ⟨u13_3, z13, q13_0, q13_1, q13_2, q13_3⟩ := re13
  subst z13
  have w13 := Rep.one te13
  refine o_y (y_idxL h x hx underlying27 ti127 rfl rfl (by omega)) ?_
  refine o_y (y_loadS ti127 rfl (by assumption) rfl (fun e => by cases e)) ?_
  refine o_alloc ti127 rfl (fun b5 => ?_)
  refine o_store (u := [_, _, _, _]) (C' := [_, _, _, _]) ti127 rfl rfl rfl rfl (by first | rfl | assumption | (simp only [ones, List.all_cons, List.all_nil, Bool.and_true, one_of (by assumption)]; done)) (by repeat (first | exact .z | apply Upd.s | apply Upd.a)) (by exact Nat.le_of_ble_eq_true rfl) (by rfl) ?_
  refine o_nil ?_
  refine x_seq ?_
  refine x_seq ?_
  refine x_region rfl ?_
  refine o_y (y_fieldAddr fd127_0 ti3 (by decide) rfl) ?_
  refine o_y (y_loadO ti3 rfl inn rfl) ?_
  refine o_y (y_lss rfl rfl) ?_
  refine o_y (y_move rfl) ?_
  refine o_split 18 rfl (fun hg2_18 => ?_) (fun hg2_18 => ?_)
  · try simp only [kk] at hg2_18
    refine o_gn 18 rfl rfl rfl ?_
    refine o_gn 18 rfl rfl rfl ?_
    refine o_gn 18 rfl rfl rfl ?_
    refine o_y (y_pick rfl rfl) ?_
    refine o_y (y_move rfl) ?_
    refine o_gn 23 rfl rfl rfl ?_
    refine o_gn 23 rfl rfl rfl ?_
    refine o_gn 23 rfl rfl rfl ?_
    refine o_y (y_pick rfl rfl) ?_
    refine o_nil ?_
    refine x_condT rfl ?_
    refine x_seq ?_
    refine x_region rfl ?_
    refine o_y (y_loadA ti127 rfl inn rfl) ?_
    refine o_call fn265 rfl (blank_ok te13) ?_
    rintro _ _ _ ⟨rfl, rfl, rfl⟩
    refine o_y (y_assign rfl) ?_
    refine o_nil ?_
    refine x_ret ?_
    refine x_fin 2 (ret1 rfl rfl) ?_
    rw [parentB_1 en (by omega)]; exact ⟨rfl, rfl, rfl⟩
  try simp only [kk] at hg2_18
  refine o_gy 18 rfl rfl (y_fieldAddr fd127_1 ti3 (by decide) rfl) ?_
  refine o_gy 18 rfl rfl (y_loadO ti3 rfl inn rfl) ?_
  refine o_gy 18 rfl rfl (y_neq rfl rfl) ?_
  refine o_y (y_pick rfl rfl) ?_
  refine o_y (y_move rfl) ?_
  refine o_split 23 rfl (fun hg2_23 => ?_) (fun hg2_23 => ?_)
  · try simp only [kk] at hg2_23
    refine o_gn 23 rfl rfl rfl ?_
    refine o_gn 23 rfl rfl rfl ?_
    refine o_gn 23 rfl rfl rfl ?_
    refine o_y (y_pick rfl rfl) ?_
    refine o_nil ?_
    refine x_condT rfl ?_
    refine x_seq ?_
    refine x_region rfl ?_
    refine o_y (y_loadA ti127 rfl inn rfl) ?_
    refine o_call fn265 rfl (blank_ok te13) ?_
    rintro _ _ _ ⟨rfl, rfl, rfl⟩
    refine o_y (y_assign rfl) ?_
    refine o_nil ?_
    refine x_ret ?_
    refine x_fin 2 (ret1 rfl rfl) ?_
    rw [parentB_1 en (by omega)]; exact ⟨rfl, rfl, rfl⟩
  try simp only [kk] at hg2_23
  refine o_gy 23 rfl rfl (y_fieldAddr fd127_2 ti3 (by decide) rfl) ?_
  refine o_gy 23 rfl rfl (y_loadO ti3 rfl inn rfl) ?_
  refine o_gy 23 rfl rfl (y_neq rfl rfl) ?_
  refine o_y (y_pick rfl rfl) ?_
  refine o_nil ?_
  refine x_cond rfl (fun hc0 => ?_) (fun hc0 => ?_)
  · try simp only [kk] at hc0
    refine x_seq ?_
    refine x_region rfl ?_
    refine o_y (y_loadA ti127 rfl inn rfl) ?_
    refine o_call fn265 rfl (blank_ok te13) ?_
    rintro _ _ _ ⟨rfl, rfl, rfl⟩
    refine o_y (y_assign rfl) ?_
    refine o_nil ?_
    refine x_ret ?_
    refine x_fin 2 (ret1 rfl rfl) ?_
    rw [parentB_1 en (by omega)]; exact ⟨rfl, rfl, rfl⟩
  try simp only [kk] at hc0
  refine x_skip ?_
  refine x_seq ?_
  refine x_region rfl ?_
  refine o_y (y_move rfl) ?_
  refine o_call fn290 rfl (span_ok hT x (by omega)) ?_
  rintro _ _ _ ⟨rfl, rfl, rfl⟩
  refine o_y (y_move rfl) ?_
  refine o_y (y_extract rfl rfl) ?_
  refine o_y (y_extract rfl rfl) ?_
  refine o_y (y_assign rfl) ?_
  refine o_y (y_assign rfl) ?_
  refine o_nil ?_
  refine x_seq ?_
  refine x_seq ?_
  refine x_region rfl ?_
  refine o_y (y_fieldAddr fd127_3 ti24 (by decide) rfl) ?_
  refine o_y (y_loadO ti24 rfl inn rfl) ?_
  refine o_y (y_lenA underlying24 rfl) ?_
  refine o_y (y_move rfl) ?_
  refine o_nil ?_
  refine x_block ?_
  have hum := q13_3
  have hus := hum.lenle
  refine x_loopf (σ := Nat × Int) (fun s => [(38, .int .i64 (s.1 : Int)), (37, .int .i64 (xs[x].unmerged.length : Int)), (36, u13_3), (6, .int .i64 s.2), (7, .int .i64 (spanHi x)), (2, .pointer (some ⟨b2, 0, none⟩))]) (fun _ => _) (fun s => s.1 ≤ xs[x].unmerged.length ∧ spanLo x ≤ s.2 ∧ s.2 ≤ spanHi x + 1 ∧ umOk xs (spanHi x) s.2 (xs[x].unmerged.drop s.1) = umOk xs (spanHi x) (spanLo x) xs[x].unmerged) (fun s => xs[x].unmerged.length - s.1) (0, spanLo x) ⟨by simp, by simp, by simp; omega, by simp⟩ (.c rfl (.c rfl (.c rfl (.c rfl (.c rfl (.c rfl .n)))))) rfl ?_
  rintro ⟨k, f⟩ ⟨i1, i2, i3, i4⟩
  simp only at i1 i2 i3 i4
  refine x_seq ?_
  refine x_region rfl ?_
  refine o_y (y_lss rfl rfl) ?_
  refine o_nil ?_
  refine x_seq ?_
  refine x_cond rfl (fun hc1 => ?_) (fun hc1 => ?_)
  · try simp only [kk] at hc1
    have hk : k < xs[x].unmerged.length := by omega
    refine x_skip ?_
    refine x_seq ?_
    refine x_block ?_
    refine x_seq ?_
    refine x_region rfl ?_
    obtain ⟨ce40, ae40, re40⟩ := RdL.at hum _ k hk
    have se40 := AtS.isSl ae40
    obtain ⟨rfl, q40⟩ := re40
    refine o_y (y_idxL hum k hk underlying24 ti3 rfl rfl (by omega)) ?_
    refine o_y (y_loadS ti3 rfl (by assumption) rfl (fun _ => rfl)) ?_
    refine o_y (y_assign rfl) ?_
    refine o_nil ?_
    refine x_seq ?_
    refine x_seq ?_
    refine x_region rfl ?_
    refine o_y (y_move rfl) ?_
    refine o_y (y_move rfl) ?_
    refine o_y (y_lss rfl rfl) ?_
    refine o_y (y_move rfl) ?_
    refine o_split 45 rfl (fun hg8_45 => ?_) (fun hg8_45 => ?_)
    · try simp only [kk] at hg8_45
      refine o_gn 45 rfl rfl rfl ?_
      refine o_gn 45 rfl rfl rfl ?_
      refine o_gn 45 rfl rfl rfl ?_
      refine o_y (y_pick rfl rfl) ?_
      refine o_y (y_move rfl) ?_
      refine o_gn 50 rfl rfl rfl ?_
      refine o_gn 50 rfl rfl rfl ?_
      refine o_gn 50 rfl rfl rfl ?_
      refine o_gn 50 rfl rfl rfl ?_
      refine o_gn 50 rfl rfl rfl ?_
      refine o_gn 50 rfl rfl rfl ?_
      refine o_gn 50 rfl rfl rfl ?_
      refine o_gn 50 rfl rfl rfl ?_
      refine o_y (y_pick rfl rfl) ?_
      refine o_nil ?_
      refine x_condT rfl ?_
      refine x_seq ?_
      refine x_region rfl ?_
      refine o_y (y_assign rfl) ?_
      refine o_nil ?_
      refine x_ret ?_
      refine x_fin 2 (ret1 rfl rfl) ?_
      refine ⟨?_, rfl, rfl⟩
      rw [parentB_2 en (by omega), ← i4, umOk_no hk (by first | omega | (rw [e2]; omega))]
    try simp only [kk] at hg8_45
    refine o_gy 45 rfl rfl (y_move rfl) ?_
    refine o_gy 45 rfl rfl (y_move rfl) ?_
    refine o_gy 45 rfl rfl (y_gtr rfl rfl) ?_
    refine o_y (y_pick rfl rfl) ?_
    refine o_y (y_move rfl) ?_
    refine o_split 50 rfl (fun hg8_50 => ?_) (fun hg8_50 => ?_)
    · try simp only [kk] at hg8_50
      refine o_gn 50 rfl rfl rfl ?_
      refine o_gn 50 rfl rfl rfl ?_
      refine o_gn 50 rfl rfl rfl ?_
      refine o_gn 50 rfl rfl rfl ?_
      refine o_gn 50 rfl rfl rfl ?_
      refine o_gn 50 rfl rfl rfl ?_
      refine o_gn 50 rfl rfl rfl ?_
      refine o_gn 50 rfl rfl rfl ?_
      refine o_y (y_pick rfl rfl) ?_
      refine o_nil ?_
      refine x_condT rfl ?_
      refine x_seq ?_
      refine x_region rfl ?_
      refine o_y (y_assign rfl) ?_
      refine o_nil ?_
      refine x_ret ?_
      refine x_fin 2 (ret1 rfl rfl) ?_
      refine ⟨?_, rfl, rfl⟩
      rw [parentB_2 en (by omega), ← i4, umOk_no hk (by first | omega | (rw [e2]; omega))]
    try simp only [kk] at hg8_50
    refine o_gy 50 rfl rfl (y_fieldAddr fd29_0 ti27 (by decide) rfl) ?_
    refine o_gy 50 rfl rfl (y_loadO ti27 rfl inn rfl) ?_
    refine o_gy 50 rfl rfl (y_move rfl) ?_
    refine o_gy 50 rfl rfl (y_mulN rfl rfl (by omega) (by omega)) ?_
    have hj : 2 * (xs[x].unmerged[k]).toNat < xs.length := by omega
    have e2 := nodeAt_eq hj
    obtain ⟨ce55, ae55, re55⟩ := RdL.at h _ (2 * (xs[x].unmerged[k]).toNat) hj
    have se55 := AtS.isSl ae55
    have te55 := re55
    obtain ⟨u55_3, z55, q55_0, q55_1, q55_2, q55_3⟩ := re55
    subst z55
    have w55 := Rep.one te55
    refine o_gy 50 rfl rfl (y_idxL h (2 * (xs[x].unmerged[k]).toNat) hj underlying27 ti127 rfl rfl (by omega)) ?_
    refine o_gy 50 rfl rfl (y_fieldAddrP fd127_0 ti3 (by decide) (by assumption) rfl) ?_
    refine o_gy 50 rfl rfl (y_loadS1 ti3 rfl (by assumption) rfl) ?_
    refine o_gy 50 rfl rfl (y_eql rfl rfl) ?_
    refine o_y (y_pick rfl rfl) ?_
    refine o_nil ?_
    refine x_cond rfl (fun hc2 => ?_) (fun hc2 => ?_)
    · try simp only [kk] at hc2
      refine x_seq ?_
      refine x_region rfl ?_
      refine o_y (y_assign rfl) ?_
      refine o_nil ?_
      refine x_ret ?_
      refine x_fin 2 (ret1 rfl rfl) ?_
      refine ⟨?_, rfl, rfl⟩
      rw [parentB_2 en (by omega), ← i4, umOk_no hk (by first | omega | (rw [e2]; omega))]
    try simp only [kk] at hc2
    refine x_skip ?_
    refine x_region rfl ?_
    refine o_y (y_move rfl) ?_
    refine o_y (y_addN rfl rfl (by omega) (by omega)) ?_
    refine o_y (y_assign rfl) ?_
    refine o_nil ?_
    refine x_region rfl ?_
    refine o_y (y_addN rfl rfl (by omega) (by omega)) ?_
    refine o_y (y_move rfl) ?_
    refine o_nil ?_
    exact ⟨(k + 1, xs[x].unmerged[k] + 1), 0, rfl, (.c rfl (.c rfl (.c rfl (.c rfl (.c rfl (.c rfl .n)))))), rfl, ⟨by omega, by omega, by omega, by
      have z := umOk_yes (xs := xs) (hi := spanHi x) (f := f) hk (by rw [e2]; omega)
      rw [← z]; exact i4⟩, by omega⟩
  try simp only [kk] at hc1
  refine x_exit ?_
  refine x_seq ?_
  refine x_region rfl ?_
  refine o_y (y_assign rfl) ?_
  refine o_nil ?_
  refine x_ret ?_
  refine x_fin 2 (ret1 rfl rfl) ?_
  refine ⟨?_, rfl, rfl⟩
  obtain rfl : k = xs[x].unmerged.length := by omega
  rw [parentB_2 en (by omega), ← i4, List.drop_length]; rfl
end Go.Ph
set_option linter.unusedVariables false
set_option linter.unusedSimpArgs false
set_option maxRecDepth 100000
namespace Go.Ph
open Go Go.RowKit Go.Proofs.YtmgnagpgnoikfaaGreatDoor Go.Proofs.Tryz
def isLeaf (xs : List Node) (j : Nat) : Bool := Nat.beq (j % 2) 0 && !(nodeAt xs j).blankB
def memsTo (xs : List Node) : Nat → List Int
  | 0 => []
  | k + 1 => memsTo xs k ++ (if isLeaf xs k then [(nodeAt xs k).member] else [])
def lastTo (xs : List Node) : Nat → Int
  | 0 => -1
  | k + 1 => if isLeaf xs k then ((k / 2 : Nat) : Int) else lastTo xs k
def goodAt (xs : List Node) (j : Nat) : Bool :=
  if j % 2 = 1 then parentB xs j else (nodeAt xs j).blankB || (decide (1 ≤ (nodeAt xs j).pub) && decide (0 ≤ (nodeAt xs j).member) && decide (0 ≤ (nodeAt xs j).epoch) && decide ((nodeAt xs j).unmerged.length = 0) && !(memsTo xs j).contains (nodeAt xs j).member)
def checkB (xs : List Node) : Bool :=
  decide (xs.length = 0) || (decide (leavesN xs.length ≠ 0) && (List.range xs.length).all (goodAt xs) && decide (((leavesN xs.length : Nat) : Int) / 2 ≤ lastTo xs xs.length))
def errI (b : Bool) : Int := if b then 0 else 1
theorem leavesN_len {m : Nat} (h : leavesN m ≠ 0) : TreeLen m := by unfold leavesN at h; unfold TreeLen; (repeat' split at h) <;> omega
theorem memsTo_len (xs : List Node) : ∀ k, (memsTo xs k).length ≤ k
  | 0 => by simp [memsTo]
  | k + 1 => by
    have := memsTo_len xs k
    simp only [memsTo, List.length_append]
    split <;> simp <;> omega
theorem isLeaf_odd {xs : List Node} {k : Nat} (h : k % 2 = 1) : isLeaf xs k = false := by simp [isLeaf, h]
theorem isLeaf_blank {xs : List Node} {k : Nat} (h : (nodeAt xs k).blankB = true) : isLeaf xs k = false := by simp [isLeaf, h]
theorem isLeaf_yes {xs : List Node} {k : Nat} (h : k % 2 ≠ 1) (h2 : (nodeAt xs k).blankB = false) : isLeaf xs k = true := by
  have : k % 2 = 0 := by omega
  simp [isLeaf, this, h2]
theorem memsTo_no {xs : List Node} {k : Nat} (h : isLeaf xs k = false) : memsTo xs (k + 1) = memsTo xs k := by simp [memsTo, h]
theorem memsTo_yes {xs : List Node} {k : Nat} (h : isLeaf xs k = true) : memsTo xs (k + 1) = memsTo xs k ++ [(nodeAt xs k).member] := by simp [memsTo, h]
theorem lastTo_no {xs : List Node} {k : Nat} (h : isLeaf xs k = false) : lastTo xs (k + 1) = lastTo xs k := by simp [lastTo, h]
theorem lastTo_yes {xs : List Node} {k : Nat} (h : isLeaf xs k = true) : lastTo xs (k + 1) = ((k / 2 : Nat) : Int) := by simp [lastTo, h]
theorem checkB_bad {xs : List Node} {j : Nat} (hj : j < xs.length) (h : goodAt xs j = false) : errI (checkB xs) = 1 := by
  have h1 : (List.range xs.length).all (goodAt xs) = false := by
    rw [List.all_eq_false]; exact ⟨j, by simpa using hj, by simp [h]⟩
  have h2 : xs.length ≠ 0 := by omega
  simp [checkB, h1, h2, errI]
theorem checkB_ok {xs : List Node} (h0 : xs.length ≠ 0) (h1 : leavesN xs.length ≠ 0) (h : ∀ j, j < xs.length → goodAt xs j = true) : errI (checkB xs) = if ((leavesN xs.length : Nat) : Int) / 2 ≤ lastTo xs xs.length then 0 else 1 := by
  have h2 : (List.range xs.length).all (goodAt xs) = true := by
    rw [List.all_eq_true]; intro j hj; exact h j (by simpa using hj)
  simp [checkB, h0, h1, h2, errI]
theorem checkB_nil {xs : List Node} (h : xs.length = 0) : errI (checkB xs) = 0 := by simp [checkB, h, errI]
theorem checkB_len {xs : List Node} (h : xs.length ≠ 0) (h1 : leavesN xs.length = 0) : errI (checkB xs) = 1 := by simp [checkB, h, h1, errI]
theorem goodAt_odd {xs : List Node} {k : Nat} (h : k % 2 = 1) : goodAt xs k = parentB xs k := by simp [goodAt, h]
theorem goodAt_blank {xs : List Node} {k : Nat} (h : ¬ k % 2 = 1) (h2 : (nodeAt xs k).blankB = true) : goodAt xs k = true := by simp [goodAt, h, h2]
theorem goodAt_leaf {xs : List Node} {k : Nat} (h : ¬ k % 2 = 1) (h2 : (nodeAt xs k).blankB = false) : goodAt xs k = (decide (1 ≤ (nodeAt xs k).pub) && decide (0 ≤ (nodeAt xs k).member) && decide (0 ≤ (nodeAt xs k).epoch) && decide ((nodeAt xs k).unmerged.length = 0) && !(memsTo xs k).contains (nodeAt xs k).member) := by
  simp [goodAt, h, h2]
theorem goodAt_bad {xs : List Node} {k : Nat} (h : ¬ k % 2 = 1) (h2 : (nodeAt xs k).blankB = false) (h3 : (nodeAt xs k).pub < 1 ∨ (nodeAt xs k).member < 0 ∨ (nodeAt xs k).epoch < 0 ∨ 0 < (nodeAt xs k).unmerged.length ∨ 0 < (memsTo xs k).count (nodeAt xs k).member) : goodAt xs k = false := by
  rw [goodAt_leaf h h2]
  rcases h3 with h3 | h3 | h3 | h3 | h3
  · simp [show ¬ 1 ≤ (nodeAt xs k).pub by omega]
  · simp [show ¬ 0 ≤ (nodeAt xs k).member by omega]
  · simp [show ¬ 0 ≤ (nodeAt xs k).epoch by omega]
  · have : (nodeAt xs k).unmerged ≠ [] := by intro e; rw [e] at h3; simp at h3
    simp [this]
  rw [List.count_pos_iff] at h3
  simp [h3]
theorem goodAt_fine {xs : List Node} {k : Nat} (h : ¬ k % 2 = 1) (h2 : (nodeAt xs k).blankB = false) (h3 : ¬ ((nodeAt xs k).pub < 1 ∨ (nodeAt xs k).member < 0 ∨ (nodeAt xs k).epoch < 0 ∨ 0 < (nodeAt xs k).unmerged.length ∨ 0 < (memsTo xs k).count (nodeAt xs k).member)) : goodAt xs k = true := by
  rw [goodAt_leaf h h2]
  have h4 : ¬ (nodeAt xs k).member ∈ memsTo xs k := fun hm => h3 (.inr (.inr (.inr (.inr (List.count_pos_iff.2 hm)))))
  have h5 : (nodeAt xs k).unmerged = [] := List.eq_nil_of_length_eq_zero (by omega)
  simp [h4, h5, show 1 ≤ (nodeAt xs k).pub by omega, show 0 ≤ (nodeAt xs k).member by omega, show 0 ≤ (nodeAt xs k).epoch by omega]
theorem upto_succ {p : Nat → Bool} {k : Nat} (h : ∀ j, j < k → p j = true) (h2 : p k = true) : ∀ j, j < k + 1 → p j = true := fun j hj => by
  rcases Nat.lt_or_ge j k with h3 | h3
  · exact h j h3
  have : j = k := by omega
  subst this; exact h2
theorem MapF.congr {o : Obj} {f g : Int → Int} (h : MapF o f) (e : ∀ k, f k = g k) : MapF o g := (funext e : f = g) ▸ h
theorem leavesN_le (m : Nat) : leavesN m ≤ 8 := by unfold leavesN; (repeat' split) <;> omega
theorem check_ok {B : World} {H : HM} {O : OL} {v : Value} {xs : List Node} (hT : TabAt H) (h : RdL H v xs) :
    CallsM prog 178 [.agg #[v]].toArray B H O (Same (.int .i64 (errI (checkB xs))) H O) := by
  have hs := h.lenle
  have h8 := leavesN_le xs.length
  refine enter func178 rfl ntmps178 (l := [(0, _)]) rfl rfl ?_
  refine x_seq ?_
  refine x_region rfl ?_
  refine o_box rfl (cs := [_]) rfl (fun b1 => ?_)
  refine o_y (y_assign rfl) ?_
  refine o_nil ?_
  refine x_seq ?_
  refine x_seq ?_
  refine x_region rfl ?_
  refine o_y (y_fieldAddr fd29_0 ti27 (by decide) rfl) ?_
  refine o_y (y_loadO ti27 rfl inn rfl) ?_
  refine o_y (y_lenA underlying27 rfl) ?_
  refine o_y (y_eql rfl rfl) ?_
  refine o_nil ?_
  refine x_cond rfl (fun hc0 => ?_) (fun hc0 => ?_)
  · try simp only [kk] at hc0
    refine x_seq ?_
    refine x_region rfl ?_
    refine o_y (y_assign rfl) ?_
    refine o_nil ?_
    refine x_ret ?_
    refine x_fin 1 (ret1 rfl rfl) ?_
    rw [checkB_nil (by omega)]; exact ⟨rfl, rfl, rfl⟩
  try simp only [kk] at hc0
  refine x_skip ?_
  refine x_seq ?_
  refine x_region rfl ?_
  refine o_y (y_loadA ti29 rfl inn rfl) ?_
  refine o_call fn263 rfl (leaves_ok h) ?_
  rintro _ _ _ ⟨rfl, rfl, rfl⟩
  refine o_y (y_assign rfl) ?_
  refine o_nil ?_
  refine x_seq ?_
  refine x_seq ?_
  refine x_region rfl ?_
  refine o_y (y_move rfl) ?_
  refine o_y (y_eql rfl rfl) ?_
  refine o_nil ?_
  refine x_cond rfl (fun hc1 => ?_) (fun hc1 => ?_)
  · try simp only [kk] at hc1
    refine x_seq ?_
    refine x_region rfl ?_
    refine o_y (y_assign rfl) ?_
    refine o_nil ?_
    refine x_ret ?_
    refine x_fin 1 (ret1 rfl rfl) ?_
    rw [checkB_len (by omega) (by omega)]; exact ⟨rfl, rfl, rfl⟩
  try simp only [kk] at hc1
  have hl := leavesN_len (m := xs.length) (by omega)
  have h15 := hl.le
  refine x_skip ?_
  refine x_seq ?_
  refine x_region rfl ?_
  refine o_makeMap (fun r16 => ?_)
  refine o_y (y_assign rfl) ?_
  refine o_nil ?_
  refine x_seq ?_
  refine x_region rfl ?_
  refine o_y (y_assign rfl) ?_
  refine o_nil ?_
  refine x_seq ?_
  refine x_seq ?_
  refine x_region rfl ?_
  refine o_y (y_fieldAddr fd29_0 ti27 (by decide) rfl) ?_
  refine o_y (y_loadO ti27 rfl inn rfl) ?_
  refine o_y (y_lenA underlying27 rfl) ?_
  refine o_y (y_move rfl) ?_
  refine o_nil ?_
  refine x_block ?_
  refine x_loopf (σ := Nat × Obj) (fun s => [(20, .int .i64 (s.1 : Int)), (19, .int .i64 (xs.length : Int)), (18, v), (4, .map (some r16)), (5, .int .i64 (lastTo xs s.1)), (3, .int .i64 (leavesN xs.length : Int)), (1, .pointer (some ⟨b1, 0, none⟩))]) (fun s => (r16, s.2) :: (b1, cl [v] 29) :: O) (fun s => s.1 ≤ xs.length ∧ (∀ j, j < s.1 → goodAt xs j = true) ∧ MapF s.2 (fun m => ((memsTo xs s.1).count m : Int))) (fun s => xs.length - s.1) (0, .map #[] 0) ⟨by simp, fun j hj => by omega, MapF.empty⟩ (.c rfl (.c rfl (.c rfl (.c rfl (.c rfl (.c rfl (.c rfl .n))))))) rfl ?_
  rintro ⟨k, om⟩ ⟨i1, i2, i3⟩
  simp only at i1 i2 i3
  refine x_seq ?_
  refine x_region rfl ?_
  refine o_y (y_lss rfl rfl) ?_
  refine o_nil ?_
  refine x_seq ?_
  refine x_cond rfl (fun hc2 => ?_) (fun hc2 => ?_)
  · try simp only [kk] at hc2
    have hk : k < xs.length := by omega
    have en := nodeAt_eq hk
    have hml := memsTo_len xs k
    refine x_skip ?_
    refine x_seq ?_
    refine x_block ?_
    refine x_seq ?_
    refine x_region rfl ?_
    refine o_y (y_move rfl) ?_
    obtain ⟨ce23, ae23, re23⟩ := RdL.at h _ k hk
    have se23 := AtS.isSl ae23
    have te23 := re23
    obtain ⟨u23_3, z23, q23_0, q23_1, q23_2, q23_3⟩ := re23
    subst z23
    have w23 := Rep.one te23
    refine o_y (y_idxL h k hk underlying27 ti127 rfl rfl (by omega)) ?_
    refine o_y (y_loadS ti127 rfl (by assumption) rfl (fun e => by cases e)) ?_
    refine o_alloc ti127 rfl (fun b7 => ?_)
    refine o_y (y_assign rfl) ?_
    refine o_store (u := [_, _, _, _]) (C' := [_, _, _, _]) ti127 rfl rfl rfl rfl (by first | rfl | assumption | (simp only [ones, List.all_cons, List.all_nil, Bool.and_true, one_of (by assumption)]; done)) (by repeat (first | exact .z | apply Upd.s | apply Upd.a)) (by exact Nat.le_of_ble_eq_true rfl) (by rfl) ?_
    refine o_nil ?_
    refine x_seq ?_
    refine x_seq ?_
    refine x_region rfl ?_
    refine o_y (y_move rfl) ?_
    refine o_y (y_remN rfl rfl (by omega) (by omega)) ?_
    refine o_y (y_eql rfl rfl) ?_
    refine o_nil ?_
    refine x_cond rfl (fun hc3 => ?_) (fun hc3 => ?_)
    · try simp only [kk] at hc3
      refine x_seq ?_
      refine x_seq ?_
      refine x_region rfl ?_
      refine o_y (y_loadA ti29 rfl inn rfl) ?_
      refine o_y (y_move rfl) ?_
      refine o_call fn264 rfl (parent_ok hT h hl k hk) ?_
      rintro _ _ _ ⟨rfl, rfl, rfl⟩
      refine o_y (y_not rfl) ?_
      refine o_nil ?_
      refine x_cond rfl (fun hc4 => ?_) (fun hc4 => ?_)
      · try simp only [kk] at hc4
        refine x_seq ?_
        refine x_region rfl ?_
        refine o_y (y_assign rfl) ?_
        refine o_nil ?_
        refine x_ret ?_
        refine x_fin 3 (ret1 rfl rfl) ?_
        rw [checkB_bad hk (by rw [goodAt_odd (by omega)]; assumption)]; exact ⟨rfl, rfl, rfl⟩
      try simp only [kk] at hc4
      refine x_skip ?_
      refine x_exit ?_
      refine x_region rfl ?_
      refine o_y (y_addN rfl rfl (by omega) (by omega)) ?_
      refine o_y (y_move rfl) ?_
      refine o_nil ?_
      first
        | (have e6 : isLeaf xs k = false := isLeaf_odd (by omega)
           exact ⟨(k + 1, om), 1, rfl, (.c rfl (.c rfl (.c rfl (.c rfl (.c (by rw [lastTo_no e6]; rfl) (.c rfl (.c rfl .n))))))), rfl, ⟨by omega, upto_succ i2 (by rw [goodAt_odd (by omega)]; assumption), by simp only [memsTo_no e6]; exact i3⟩, by omega⟩)
        | (have e6 : isLeaf xs k = false := isLeaf_blank (by rw [en]; assumption)
           exact ⟨(k + 1, om), 1, rfl, (.c rfl (.c rfl (.c rfl (.c rfl (.c (by rw [lastTo_no e6]; rfl) (.c rfl (.c rfl .n))))))), rfl, ⟨by omega, upto_succ i2 (goodAt_blank (by omega) (by rw [en]; assumption)), by simp only [memsTo_no e6]; exact i3⟩, by omega⟩)
        | (have e6 : isLeaf xs k = true := isLeaf_yes (by omega) (by rw [en]; assumption)
           exact ⟨(k + 1, om15_5), 1, rfl, (.c rfl (.c rfl (.c rfl (.c rfl (.c (by rw [lastTo_yes e6]; rfl) (.c rfl (.c rfl .n))))))), rfl, ⟨by omega, upto_succ i2 (goodAt_fine (by omega) (by rw [en]; assumption) (by rw [en]; omega)), hm15_5.congr (fun m => by
             rw [memsTo_yes e6, en, List.count_append, List.count_singleton]
             by_cases hm : m = xs[k].member
             · subst hm; simp
             have hm' : ¬ xs[k].member = m := fun e => hm e.symm
             simp [hm, hm'])⟩, by omega⟩)
    try simp only [kk] at hc3
    refine x_skip ?_
    refine x_seq ?_
    refine x_seq ?_
    refine x_region rfl ?_
    refine o_y (y_loadA ti127 rfl inn rfl) ?_
    refine o_call fn265 rfl (blank_ok te23) ?_
    rintro _ _ _ ⟨rfl, rfl, rfl⟩
    refine o_nil ?_
    refine x_cond rfl (fun hc5 => ?_) (fun hc5 => ?_)
    · try simp only [kk] at hc5
      refine x_exit ?_
      refine x_region rfl ?_
      refine o_y (y_addN rfl rfl (by omega) (by omega)) ?_
      refine o_y (y_move rfl) ?_
      refine o_nil ?_
      first
        | (have e6 : isLeaf xs k = false := isLeaf_odd (by omega)
           exact ⟨(k + 1, om), 1, rfl, (.c rfl (.c rfl (.c rfl (.c rfl (.c (by rw [lastTo_no e6]; rfl) (.c rfl (.c rfl .n))))))), rfl, ⟨by omega, upto_succ i2 (by rw [goodAt_odd (by omega)]; assumption), by simp only [memsTo_no e6]; exact i3⟩, by omega⟩)
        | (have e6 : isLeaf xs k = false := isLeaf_blank (by rw [en]; assumption)
           exact ⟨(k + 1, om), 1, rfl, (.c rfl (.c rfl (.c rfl (.c rfl (.c (by rw [lastTo_no e6]; rfl) (.c rfl (.c rfl .n))))))), rfl, ⟨by omega, upto_succ i2 (goodAt_blank (by omega) (by rw [en]; assumption)), by simp only [memsTo_no e6]; exact i3⟩, by omega⟩)
        | (have e6 : isLeaf xs k = true := isLeaf_yes (by omega) (by rw [en]; assumption)
           exact ⟨(k + 1, om15_5), 1, rfl, (.c rfl (.c rfl (.c rfl (.c rfl (.c (by rw [lastTo_yes e6]; rfl) (.c rfl (.c rfl .n))))))), rfl, ⟨by omega, upto_succ i2 (goodAt_fine (by omega) (by rw [en]; assumption) (by rw [en]; omega)), hm15_5.congr (fun m => by
             rw [memsTo_yes e6, en, List.count_append, List.count_singleton]
             by_cases hm : m = xs[k].member
             · subst hm; simp
             have hm' : ¬ xs[k].member = m := fun e => hm e.symm
             simp [hm, hm'])⟩, by omega⟩)
    try simp only [kk] at hc5
    refine x_skip ?_
    refine x_seq ?_
    refine x_region rfl ?_
    refine o_y (y_move rfl) ?_
    refine o_y (y_fieldAddr fd127_1 ti3 (by decide) rfl) ?_
    refine o_y (y_loadO ti3 rfl inn rfl) ?_
    refine o_y (y_lookup underlying386 underlying3 ti3 (by assumption) rfl rfl inn) ?_
    have hcn := List.count_le_length (a := xs[k].member) (l := memsTo xs k)
    refine o_y (y_addN rfl rfl (by omega) (by omega)) ?_
    refine o_mapUpdate underlying386 underlying3 (by assumption) rfl rfl rfl hol (fun om15_5 hm15_5 => ?_)
    refine o_nil ?_
    refine x_seq ?_
    refine x_seq ?_
    refine x_region rfl ?_
    refine o_y (y_fieldAddr fd127_0 ti3 (by decide) rfl) ?_
    refine o_y (y_loadO ti3 rfl inn rfl) ?_
    refine o_y (y_lss rfl rfl) ?_
    refine o_y (y_move rfl) ?_
    refine o_split 42 rfl (fun hg16_42 => ?_) (fun hg16_42 => ?_)
    · try simp only [kk] at hg16_42
      refine o_gn 42 rfl rfl rfl ?_
      refine o_gn 42 rfl rfl rfl ?_
      refine o_gn 42 rfl rfl rfl ?_
      refine o_y (y_pick rfl rfl) ?_
      refine o_y (y_move rfl) ?_
      refine o_gn 47 rfl rfl rfl ?_
      refine o_gn 47 rfl rfl rfl ?_
      refine o_gn 47 rfl rfl rfl ?_
      refine o_y (y_pick rfl rfl) ?_
      refine o_y (y_move rfl) ?_
      refine o_gn 52 rfl rfl rfl ?_
      refine o_gn 52 rfl rfl rfl ?_
      refine o_gn 52 rfl rfl rfl ?_
      refine o_gn 52 rfl rfl rfl ?_
      refine o_y (y_pick rfl rfl) ?_
      refine o_y (y_move rfl) ?_
      refine o_gn 58 rfl rfl rfl ?_
      refine o_gn 58 rfl rfl rfl ?_
      refine o_gn 58 rfl rfl rfl ?_
      refine o_gn 58 rfl rfl rfl ?_
      refine o_gn 58 rfl rfl rfl ?_
      refine o_y (y_pick rfl rfl) ?_
      refine o_nil ?_
      refine x_condT rfl ?_
      refine x_seq ?_
      refine x_region rfl ?_
      refine o_y (y_assign rfl) ?_
      refine o_nil ?_
      refine x_ret ?_
      refine x_fin 3 (ret1 rfl rfl) ?_
      rw [checkB_bad hk (goodAt_bad (by omega) (by rw [en]; assumption) (by rw [en]; omega))]; exact ⟨rfl, rfl, rfl⟩
    try simp only [kk] at hg16_42
    refine o_gy 42 rfl rfl (y_fieldAddr fd127_1 ti3 (by decide) rfl) ?_
    refine o_gy 42 rfl rfl (y_loadO ti3 rfl inn rfl) ?_
    refine o_gy 42 rfl rfl (y_lss rfl rfl) ?_
    refine o_y (y_pick rfl rfl) ?_
    refine o_y (y_move rfl) ?_
    refine o_split 47 rfl (fun hg16_47 => ?_) (fun hg16_47 => ?_)
    · try simp only [kk] at hg16_47
      refine o_gn 47 rfl rfl rfl ?_
      refine o_gn 47 rfl rfl rfl ?_
      refine o_gn 47 rfl rfl rfl ?_
      refine o_y (y_pick rfl rfl) ?_
      refine o_y (y_move rfl) ?_
      refine o_gn 52 rfl rfl rfl ?_
      refine o_gn 52 rfl rfl rfl ?_
      refine o_gn 52 rfl rfl rfl ?_
      refine o_gn 52 rfl rfl rfl ?_
      refine o_y (y_pick rfl rfl) ?_
      refine o_y (y_move rfl) ?_
      refine o_gn 58 rfl rfl rfl ?_
      refine o_gn 58 rfl rfl rfl ?_
      refine o_gn 58 rfl rfl rfl ?_
      refine o_gn 58 rfl rfl rfl ?_
      refine o_gn 58 rfl rfl rfl ?_
      refine o_y (y_pick rfl rfl) ?_
      refine o_nil ?_
      refine x_condT rfl ?_
      refine x_seq ?_
      refine x_region rfl ?_
      refine o_y (y_assign rfl) ?_
      refine o_nil ?_
      refine x_ret ?_
      refine x_fin 3 (ret1 rfl rfl) ?_
      rw [checkB_bad hk (goodAt_bad (by omega) (by rw [en]; assumption) (by rw [en]; omega))]; exact ⟨rfl, rfl, rfl⟩
    try simp only [kk] at hg16_47
    refine o_gy 47 rfl rfl (y_fieldAddr fd127_2 ti3 (by decide) rfl) ?_
    refine o_gy 47 rfl rfl (y_loadO ti3 rfl inn rfl) ?_
    refine o_gy 47 rfl rfl (y_lss rfl rfl) ?_
    refine o_y (y_pick rfl rfl) ?_
    refine o_y (y_move rfl) ?_
    refine o_split 52 rfl (fun hg16_52 => ?_) (fun hg16_52 => ?_)
    · try simp only [kk] at hg16_52
      refine o_gn 52 rfl rfl rfl ?_
      refine o_gn 52 rfl rfl rfl ?_
      refine o_gn 52 rfl rfl rfl ?_
      refine o_gn 52 rfl rfl rfl ?_
      refine o_y (y_pick rfl rfl) ?_
      refine o_y (y_move rfl) ?_
      refine o_gn 58 rfl rfl rfl ?_
      refine o_gn 58 rfl rfl rfl ?_
      refine o_gn 58 rfl rfl rfl ?_
      refine o_gn 58 rfl rfl rfl ?_
      refine o_gn 58 rfl rfl rfl ?_
      refine o_y (y_pick rfl rfl) ?_
      refine o_nil ?_
      refine x_condT rfl ?_
      refine x_seq ?_
      refine x_region rfl ?_
      refine o_y (y_assign rfl) ?_
      refine o_nil ?_
      refine x_ret ?_
      refine x_fin 3 (ret1 rfl rfl) ?_
      rw [checkB_bad hk (goodAt_bad (by omega) (by rw [en]; assumption) (by rw [en]; omega))]; exact ⟨rfl, rfl, rfl⟩
    try simp only [kk] at hg16_52
    refine o_gy 52 rfl rfl (y_fieldAddr fd127_3 ti24 (by decide) rfl) ?_
    refine o_gy 52 rfl rfl (y_loadO ti24 rfl inn rfl) ?_
    first | refine o_gy 52 rfl rfl (y_lenL (by assumption) underlying24 rfl) ?_ | refine o_gy 52 rfl rfl (y_lenR (by assumption) underlying24 rfl) ?_ | refine o_gy 52 rfl rfl (y_len underlying24 rfl) ?_
    refine o_gy 52 rfl rfl (y_gtr rfl rfl) ?_
    refine o_y (y_pick rfl rfl) ?_
    refine o_y (y_move rfl) ?_
    refine o_split 58 rfl (fun hg16_58 => ?_) (fun hg16_58 => ?_)
    · try simp only [kk] at hg16_58
      refine o_gn 58 rfl rfl rfl ?_
      refine o_gn 58 rfl rfl rfl ?_
      refine o_gn 58 rfl rfl rfl ?_
      refine o_gn 58 rfl rfl rfl ?_
      refine o_gn 58 rfl rfl rfl ?_
      refine o_y (y_pick rfl rfl) ?_
      refine o_nil ?_
      refine x_condT rfl ?_
      refine x_seq ?_
      refine x_region rfl ?_
      refine o_y (y_assign rfl) ?_
      refine o_nil ?_
      refine x_ret ?_
      refine x_fin 3 (ret1 rfl rfl) ?_
      rw [checkB_bad hk (goodAt_bad (by omega) (by rw [en]; assumption) (by rw [en]; omega))]; exact ⟨rfl, rfl, rfl⟩
    try simp only [kk] at hg16_58
    refine o_gy 58 rfl rfl (y_move rfl) ?_
    refine o_gy 58 rfl rfl (y_fieldAddr fd127_1 ti3 (by decide) rfl) ?_
    refine o_gy 58 rfl rfl (y_loadO ti3 rfl inn rfl) ?_
    refine o_gy 58 rfl rfl (y_lookup underlying386 underlying3 ti3 (by assumption) rfl rfl inn) ?_
    refine o_gy 58 rfl rfl (y_gtr rfl rfl) ?_
    refine o_y (y_pick rfl rfl) ?_
    refine o_nil ?_
    refine x_cond rfl (fun hc6 => ?_) (fun hc6 => ?_)
    · try simp only [kk] at hc6
      try simp only [if_true] at hc6
      refine x_seq ?_
      refine x_region rfl ?_
      refine o_y (y_assign rfl) ?_
      refine o_nil ?_
      refine x_ret ?_
      refine x_fin 3 (ret1 rfl rfl) ?_
      rw [checkB_bad hk (goodAt_bad (by omega) (by rw [en]; assumption) (by rw [en]; omega))]; exact ⟨rfl, rfl, rfl⟩
    try simp only [kk] at hc6
    try simp only [if_true] at hc6
    refine x_skip ?_
    refine x_region rfl ?_
    refine o_y (y_move rfl) ?_
    refine o_y (y_quoN rfl rfl (by omega) (by omega) (by omega)) ?_
    refine o_y (y_assign rfl) ?_
    refine o_nil ?_
    refine x_region rfl ?_
    refine o_y (y_addN rfl rfl (by omega) (by omega)) ?_
    refine o_y (y_move rfl) ?_
    refine o_nil ?_
    first
      | (have e6 : isLeaf xs k = false := isLeaf_odd (by omega)
         exact ⟨(k + 1, om), 1, rfl, (.c rfl (.c rfl (.c rfl (.c rfl (.c (by rw [lastTo_no e6]; rfl) (.c rfl (.c rfl .n))))))), rfl, ⟨by omega, upto_succ i2 (by rw [goodAt_odd (by omega)]; assumption), by simp only [memsTo_no e6]; exact i3⟩, by omega⟩)
      | (have e6 : isLeaf xs k = false := isLeaf_blank (by rw [en]; assumption)
         exact ⟨(k + 1, om), 1, rfl, (.c rfl (.c rfl (.c rfl (.c rfl (.c (by rw [lastTo_no e6]; rfl) (.c rfl (.c rfl .n))))))), rfl, ⟨by omega, upto_succ i2 (goodAt_blank (by omega) (by rw [en]; assumption)), by simp only [memsTo_no e6]; exact i3⟩, by omega⟩)
      | (have e6 : isLeaf xs k = true := isLeaf_yes (by omega) (by rw [en]; assumption)
         exact ⟨(k + 1, om15_5), 1, rfl, (.c rfl (.c rfl (.c rfl (.c rfl (.c (by rw [lastTo_yes e6]; rfl) (.c rfl (.c rfl .n))))))), rfl, ⟨by omega, upto_succ i2 (goodAt_fine (by omega) (by rw [en]; assumption) (by rw [en]; omega)), hm15_5.congr (fun m => by
           rw [memsTo_yes e6, en, List.count_append, List.count_singleton]
           by_cases hm : m = xs[k].member
           · subst hm; simp
           have hm' : ¬ xs[k].member = m := fun e => hm e.symm
           simp [hm, hm'])⟩, by omega⟩)
  try simp only [kk] at hc2
  refine x_exit ?_
  refine x_seq ?_
  refine x_seq ?_
  refine x_region rfl ?_
  refine o_y (y_move rfl) ?_
  refine o_y (y_move rfl) ?_
  refine o_y (y_quoN rfl rfl (by omega) (by omega) (by omega)) ?_
  refine o_y (y_lss rfl rfl) ?_
  refine o_nil ?_
  refine x_cond rfl (fun hc7 => ?_) (fun hc7 => ?_)
  · try simp only [kk] at hc7
    refine x_seq ?_
    refine x_region rfl ?_
    refine o_y (y_assign rfl) ?_
    refine o_nil ?_
    refine x_ret ?_
    refine x_fin 2 (ret1 rfl rfl) ?_
    obtain rfl : k = xs.length := by omega
    rw [checkB_ok (by omega) (by omega) i2, if_neg (by omega)]; exact ⟨rfl, rfl, rfl⟩
  try simp only [kk] at hc7
  refine x_skip ?_
  refine x_seq ?_
  refine x_region rfl ?_
  refine o_y (y_assign rfl) ?_
  refine o_nil ?_
  refine x_ret ?_
  refine x_fin 2 (ret1 rfl rfl) ?_
  obtain rfl : k = xs.length := by omega
  rw [checkB_ok (by omega) (by omega) i2, if_pos (by omega)]; exact ⟨rfl, rfl, rfl⟩
end Go.Ph
set_option linter.unusedVariables false
set_option linter.unusedSimpArgs false
set_option maxRecDepth 100000
namespace Go.Ph
open Go Go.RowKit Go.Proofs.YtmgnagpgnoikfaaGreatDoor Go.Proofs.Tryz
theorem clone_intR {B : World} {H : HM} {O : OL} {v : Value} {xs : List Int} (h : RdL H v xs) : CallsM prog 182 [v].toArray B H O (MadeR xs 3 H O) := by
  obtain ⟨p, c, hv⟩ := h.shape
  subst hv
  have hs : xs.length * 8 ≤ 140737488351232 := h.small
  have hle := h.lenle
  refine enter func182 rfl ntmps182 (l := [(0, _)]) rfl rfl ?_
  refine x_seq ?_
  refine x_region rfl ?_
  refine o_y (y_assign rfl) ?_
  refine o_nil ?_
  refine x_seq ?_
  refine x_seq ?_
  refine x_region rfl ?_
  refine o_y (y_move rfl) ?_
  refine o_y (y_eqNil underlying24 rfl rfl) ?_
  refine o_nil ?_
  refine x_cond rfl (fun hc0 => ?_) (fun hc0 => ?_)
  · try simp only [kk] at hc0
    have e0 : xs = [] := by
      by_cases hx : 0 < xs.length
      · obtain ⟨cs, ⟨b, o, n, c', e1, _⟩, _⟩ := RdL.at h [] 0 hx
        injection e1 with e2
        subst e2
        simp at hc0
      exact List.eq_nil_of_length_eq_zero (by omega)
    subst e0
    refine x_seq ?_
    refine x_region rfl ?_
    refine o_y (y_assign rfl) ?_
    refine o_nil ?_
    refine x_ret ?_
    refine x_fin 0 (ret1 rfl rfl) ?_
    exact ⟨rfl, [], [], rfl, Row.nil _ _, .n⟩
  try simp only [kk] at hc0
  obtain ⟨a, rfl⟩ : ∃ a, p = some a := by cases p with | none => simp at hc0 | some a => exact ⟨a, rfl⟩
  refine x_skip ?_
  refine x_seq ?_
  refine x_region rfl ?_
  refine o_slice0 underlying24 ti3 (fun b5 => ?_)
  refine o_y (y_move rfl) ?_
  refine o_appendL (α := Int) underlying24 ti3 rfl (by decide) rfl rfl Row.made rfl h ⟨_, _, _, rfl⟩ (by omega) (by omega) hol (fun v' R' news j1 j2 => ?_)
  refine o_y (y_assign rfl) ?_
  refine o_nil ?_
  refine x_ret ?_
  refine x_fin 0 (ret1 rfl rfl) ?_
  exact ⟨rfl, R', news, rfl, by have z := j2; rw [Nat.zero_add, List.nil_append] at z; exact z, j1⟩
theorem clone_int {B : World} {H : HM} {O : OL} {v : Value} {xs : List Int} (h : RdL H v xs) : CallsM prog 182 [v].toArray B H O (Made xs H O) := (clone_intR h).freeze h.small
theorem clone_nodeR {B : World} {H : HM} {O : OL} {v : Value} {xs : List Node} (h : RdL H v xs) : CallsM prog 185 [v].toArray B H O (MadeR xs 127 H O) := by
  obtain ⟨p, c, hv⟩ := h.shape
  subst hv
  have hs : xs.length * 48 ≤ 140737488351232 := h.small
  have hle := h.lenle
  refine enter func185 rfl ntmps185 (l := [(0, _)]) rfl rfl ?_
  refine x_seq ?_
  refine x_region rfl ?_
  refine o_y (y_assign rfl) ?_
  refine o_nil ?_
  refine x_seq ?_
  refine x_seq ?_
  refine x_region rfl ?_
  refine o_y (y_move rfl) ?_
  refine o_y (y_eqNil underlying27 rfl rfl) ?_
  refine o_nil ?_
  refine x_cond rfl (fun hc0 => ?_) (fun hc0 => ?_)
  · try simp only [kk] at hc0
    have e0 : xs = [] := by
      by_cases hx : 0 < xs.length
      · obtain ⟨cs, ⟨b, o, n, c', e1, _⟩, _⟩ := RdL.at h [] 0 hx
        injection e1 with e2
        subst e2
        simp at hc0
      exact List.eq_nil_of_length_eq_zero (by omega)
    subst e0
    refine x_seq ?_
    refine x_region rfl ?_
    refine o_y (y_assign rfl) ?_
    refine o_nil ?_
    refine x_ret ?_
    refine x_fin 0 (ret1 rfl rfl) ?_
    exact ⟨rfl, [], [], rfl, Row.nil _ _, .n⟩
  try simp only [kk] at hc0
  obtain ⟨a, rfl⟩ : ∃ a, p = some a := by cases p with | none => simp at hc0 | some a => exact ⟨a, rfl⟩
  refine x_skip ?_
  refine x_seq ?_
  refine x_region rfl ?_
  refine o_slice0 underlying27 ti127 (fun b5 => ?_)
  refine o_y (y_move rfl) ?_
  refine o_appendL (α := Node) underlying27 ti127 rfl (by decide) rfl rfl Row.made rfl h ⟨_, _, _, rfl⟩ (by omega) (by omega) hol (fun v' R' news j1 j2 => ?_)
  refine o_y (y_assign rfl) ?_
  refine o_nil ?_
  refine x_ret ?_
  refine x_fin 0 (ret1 rfl rfl) ?_
  exact ⟨rfl, R', news, rfl, by have z := j2; rw [Nat.zero_add, List.nil_append] at z; exact z, j1⟩
theorem clone_addR {B : World} {H : HM} {O : OL} {v : Value} {xs : List AddE} (h : RdL H v xs) : CallsM prog 181 [v].toArray B H O (MadeR xs 131 H O) := by
  obtain ⟨p, c, hv⟩ := h.shape
  subst hv
  have hs : xs.length * 24 ≤ 140737488351232 := h.small
  have hle := h.lenle
  refine enter func181 rfl ntmps181 (l := [(0, _)]) rfl rfl ?_
  refine x_seq ?_
  refine x_region rfl ?_
  refine o_y (y_assign rfl) ?_
  refine o_nil ?_
  refine x_seq ?_
  refine x_seq ?_
  refine x_region rfl ?_
  refine o_y (y_move rfl) ?_
  refine o_y (y_eqNil underlying23 rfl rfl) ?_
  refine o_nil ?_
  refine x_cond rfl (fun hc0 => ?_) (fun hc0 => ?_)
  · try simp only [kk] at hc0
    have e0 : xs = [] := by
      by_cases hx : 0 < xs.length
      · obtain ⟨cs, ⟨b, o, n, c', e1, _⟩, _⟩ := RdL.at h [] 0 hx
        injection e1 with e2
        subst e2
        simp at hc0
      exact List.eq_nil_of_length_eq_zero (by omega)
    subst e0
    refine x_seq ?_
    refine x_region rfl ?_
    refine o_y (y_assign rfl) ?_
    refine o_nil ?_
    refine x_ret ?_
    refine x_fin 0 (ret1 rfl rfl) ?_
    exact ⟨rfl, [], [], rfl, Row.nil _ _, .n⟩
  try simp only [kk] at hc0
  obtain ⟨a, rfl⟩ : ∃ a, p = some a := by cases p with | none => simp at hc0 | some a => exact ⟨a, rfl⟩
  refine x_skip ?_
  refine x_seq ?_
  refine x_region rfl ?_
  refine o_slice0 underlying23 ti131 (fun b5 => ?_)
  refine o_y (y_move rfl) ?_
  refine o_appendL (α := AddE) underlying23 ti131 rfl (by decide) rfl rfl Row.made rfl h ⟨_, _, _, rfl⟩ (by omega) (by omega) hol (fun v' R' news j1 j2 => ?_)
  refine o_y (y_assign rfl) ?_
  refine o_nil ?_
  refine x_ret ?_
  refine x_fin 0 (ret1 rfl rfl) ?_
  exact ⟨rfl, R', news, rfl, by have z := j2; rw [Nat.zero_add, List.nil_append] at z; exact z, j1⟩
theorem clone_add {B : World} {H : HM} {O : OL} {v : Value} {xs : List AddE} (h : RdL H v xs) : CallsM prog 181 [v].toArray B H O (Made xs H O) := (clone_addR h).freeze h.small
theorem clone_sealR {B : World} {H : HM} {O : OL} {v : Value} {xs : List Seal} (h : RdL H v xs) : CallsM prog 183 [v].toArray B H O (MadeR xs 135 H O) := by
  obtain ⟨p, c, hv⟩ := h.shape
  subst hv
  have hs : xs.length * 24 ≤ 140737488351232 := h.small
  have hle := h.lenle
  refine enter func183 rfl ntmps183 (l := [(0, _)]) rfl rfl ?_
  refine x_seq ?_
  refine x_region rfl ?_
  refine o_y (y_assign rfl) ?_
  refine o_nil ?_
  refine x_seq ?_
  refine x_seq ?_
  refine x_region rfl ?_
  refine o_y (y_move rfl) ?_
  refine o_y (y_eqNil underlying25 rfl rfl) ?_
  refine o_nil ?_
  refine x_cond rfl (fun hc0 => ?_) (fun hc0 => ?_)
  · try simp only [kk] at hc0
    have e0 : xs = [] := by
      by_cases hx : 0 < xs.length
      · obtain ⟨cs, ⟨b, o, n, c', e1, _⟩, _⟩ := RdL.at h [] 0 hx
        injection e1 with e2
        subst e2
        simp at hc0
      exact List.eq_nil_of_length_eq_zero (by omega)
    subst e0
    refine x_seq ?_
    refine x_region rfl ?_
    refine o_y (y_assign rfl) ?_
    refine o_nil ?_
    refine x_ret ?_
    refine x_fin 0 (ret1 rfl rfl) ?_
    exact ⟨rfl, [], [], rfl, Row.nil _ _, .n⟩
  try simp only [kk] at hc0
  obtain ⟨a, rfl⟩ : ∃ a, p = some a := by cases p with | none => simp at hc0 | some a => exact ⟨a, rfl⟩
  refine x_skip ?_
  refine x_seq ?_
  refine x_region rfl ?_
  refine o_slice0 underlying25 ti135 (fun b5 => ?_)
  refine o_y (y_move rfl) ?_
  refine o_appendL (α := Seal) underlying25 ti135 rfl (by decide) rfl rfl Row.made rfl h ⟨_, _, _, rfl⟩ (by omega) (by omega) hol (fun v' R' news j1 j2 => ?_)
  refine o_y (y_assign rfl) ?_
  refine o_nil ?_
  refine x_ret ?_
  refine x_fin 0 (ret1 rfl rfl) ?_
  exact ⟨rfl, R', news, rfl, by have z := j2; rw [Nat.zero_add, List.nil_append] at z; exact z, j1⟩
theorem clone_seal {B : World} {H : HM} {O : OL} {v : Value} {xs : List Seal} (h : RdL H v xs) : CallsM prog 183 [v].toArray B H O (Made xs H O) := (clone_sealR h).freeze h.small
theorem clone_joinR {B : World} {H : HM} {O : OL} {v : Value} {xs : List Join} (h : RdL H v xs) : CallsM prog 184 [v].toArray B H O (MadeR xs 138 H O) := by
  obtain ⟨p, c, hv⟩ := h.shape
  subst hv
  have hs : xs.length * 16 ≤ 140737488351232 := h.small
  have hle := h.lenle
  refine enter func184 rfl ntmps184 (l := [(0, _)]) rfl rfl ?_
  refine x_seq ?_
  refine x_region rfl ?_
  refine o_y (y_assign rfl) ?_
  refine o_nil ?_
  refine x_seq ?_
  refine x_seq ?_
  refine x_region rfl ?_
  refine o_y (y_move rfl) ?_
  refine o_y (y_eqNil underlying26 rfl rfl) ?_
  refine o_nil ?_
  refine x_cond rfl (fun hc0 => ?_) (fun hc0 => ?_)
  · try simp only [kk] at hc0
    have e0 : xs = [] := by
      by_cases hx : 0 < xs.length
      · obtain ⟨cs, ⟨b, o, n, c', e1, _⟩, _⟩ := RdL.at h [] 0 hx
        injection e1 with e2
        subst e2
        simp at hc0
      exact List.eq_nil_of_length_eq_zero (by omega)
    subst e0
    refine x_seq ?_
    refine x_region rfl ?_
    refine o_y (y_assign rfl) ?_
    refine o_nil ?_
    refine x_ret ?_
    refine x_fin 0 (ret1 rfl rfl) ?_
    exact ⟨rfl, [], [], rfl, Row.nil _ _, .n⟩
  try simp only [kk] at hc0
  obtain ⟨a, rfl⟩ : ∃ a, p = some a := by cases p with | none => simp at hc0 | some a => exact ⟨a, rfl⟩
  refine x_skip ?_
  refine x_seq ?_
  refine x_region rfl ?_
  refine o_slice0 underlying26 ti138 (fun b5 => ?_)
  refine o_y (y_move rfl) ?_
  refine o_appendL (α := Join) underlying26 ti138 rfl (by decide) rfl rfl Row.made rfl h ⟨_, _, _, rfl⟩ (by omega) (by omega) hol (fun v' R' news j1 j2 => ?_)
  refine o_y (y_assign rfl) ?_
  refine o_nil ?_
  refine x_ret ?_
  refine x_fin 0 (ret1 rfl rfl) ?_
  exact ⟨rfl, R', news, rfl, by have z := j2; rw [Nat.zero_add, List.nil_append] at z; exact z, j1⟩
theorem clone_join {B : World} {H : HM} {O : OL} {v : Value} {xs : List Join} (h : RdL H v xs) : CallsM prog 184 [v].toArray B H O (Made xs H O) := (clone_joinR h).freeze h.small
end Go.Ph
set_option linter.unusedVariables false
set_option linter.unusedSimpArgs false
set_option maxRecDepth 100000
namespace Go.Ph
open Go Go.RowKit Go.Proofs.YtmgnagpgnoikfaaGreatDoor Go.Proofs.Tryz
def sizeN (xs : List Node) : Nat := if checkB xs then leavesN xs.length else 0
theorem errI_cases (b : Bool) : (b = true ∧ errI b = 0) ∨ (b = false ∧ errI b = 1) := by cases b <;> simp [errI]
theorem size_ok {B : World} {H : HM} {O : OL} {v : Value} {xs : List Node} (hT : TabAt H) (h : RdL H v xs) : CallsM prog 257 [.agg #[v]].toArray B H O (Same (.int .i64 (sizeN xs)) H O) := by
  have hc := errI_cases (checkB xs)
  refine enter func257 rfl ntmps257 (l := [(0, _)]) rfl rfl ?_
  refine x_seq ?_
  refine x_region rfl ?_
  refine o_box rfl (cs := [_]) rfl (fun b1 => ?_)
  refine o_y (y_assign rfl) ?_
  refine o_nil ?_
  refine x_seq ?_
  refine x_seq ?_
  refine x_region rfl ?_
  refine o_y (y_loadA ti29 rfl inn rfl) ?_
  refine o_call fn178 rfl (check_ok hT h) ?_
  rintro _ _ _ ⟨rfl, rfl, rfl⟩
  refine o_y (y_neq rfl rfl) ?_
  refine o_nil ?_
  refine x_cond rfl (fun hc0 => ?_) (fun hc0 => ?_)
  · try simp only [kk] at hc0
    refine x_seq ?_
    refine x_region rfl ?_
    refine o_y (y_assign rfl) ?_
    refine o_nil ?_
    refine x_ret ?_
    refine x_fin 1 (ret1 rfl rfl) ?_
    rcases hc with ⟨h1, h2⟩ | ⟨h1, h2⟩
    · omega
    simp only [sizeN, h1]; exact ⟨rfl, rfl, rfl⟩
  try simp only [kk] at hc0
  refine x_skip ?_
  refine x_seq ?_
  refine x_region rfl ?_
  refine o_y (y_loadA ti29 rfl inn rfl) ?_
  refine o_call fn263 rfl (leaves_ok h) ?_
  rintro _ _ _ ⟨rfl, rfl, rfl⟩
  refine o_y (y_assign rfl) ?_
  refine o_nil ?_
  refine x_ret ?_
  refine x_fin 1 (ret1 rfl rfl) ?_
  rcases hc with ⟨h1, h2⟩ | ⟨h1, h2⟩
  · simp only [sizeN, h1]; exact ⟨rfl, rfl, rfl⟩
  omega
def membersL (xs : List Node) : List Int := if checkB xs then memsTo xs xs.length else []
theorem checkB_spec {xs : List Node} (h : checkB xs = true) : xs.length = 0 ∨ (leavesN xs.length ≠ 0 ∧ (∀ j, j < xs.length → goodAt xs j = true) ∧ ((leavesN xs.length : Nat) : Int) / 2 ≤ lastTo xs xs.length) := by
  simp only [checkB, Bool.or_eq_true, Bool.and_eq_true, decide_eq_true_eq, List.all_eq_true, List.mem_range] at h
  rcases h with h | ⟨⟨h1, h2⟩, h3⟩
  · exact .inl h
  exact .inr ⟨h1, h2, h3⟩
theorem sizeN_len {xs : List Node} {k : Nat} (h : k < sizeN xs) : checkB xs = true ∧ 2 * k < xs.length ∧ xs.length = 2 * sizeN xs - 1 ∧ sizeN xs ≤ 8 := by
  unfold sizeN at h ⊢
  split at h
  · rename_i hc
    rw [if_pos hc]
    unfold leavesN at h ⊢
    refine ⟨hc, ?_⟩
    (repeat' split at h) <;> (repeat' split) <;> omega
  omega
theorem leaf_pub {xs : List Node} (hc : checkB xs = true) {j : Nat} (hj : j < xs.length) (h2 : j % 2 = 0) : isLeaf xs j = decide (0 < (nodeAt xs j).pub) := by
  have h0 : xs.length ≠ 0 := by omega
  rcases checkB_spec hc with h | ⟨_, h, _⟩
  · exact absurd h h0
  have := h j hj
  unfold goodAt at this
  rw [if_neg (by omega)] at this
  unfold isLeaf
  have e : Nat.beq (j % 2) 0 = true := by rw [h2]; rfl
  rw [e]
  cases hb : (nodeAt xs j).blankB with
  | true =>
    simp only [Node.blankB, Bool.and_eq_true, decide_eq_true_eq] at hb
    simp [show ¬ 0 < (nodeAt xs j).pub by omega]
  | false =>
    rw [hb] at this
    simp only [Bool.false_or, Bool.and_eq_true, decide_eq_true_eq] at this
    simp [show 0 < (nodeAt xs j).pub by omega]
theorem memsTo_two {xs : List Node} (hc : checkB xs = true) {k : Nat} (hk : 2 * k < xs.length) : memsTo xs (2 * (k + 1)) = memsTo xs (2 * k) ++ (if 0 < (nodeAt xs (2 * k)).pub then [(nodeAt xs (2 * k)).member] else []) := by
  rw [show 2 * (k + 1) = 2 * k + 1 + 1 by omega, memsTo_no (isLeaf_odd (by omega))]
  rw [memsTo, leaf_pub hc hk (by omega)]
  simp
theorem memsTo_over {xs : List Node} : ∀ (m : Nat), memsTo xs (xs.length + m) = memsTo xs xs.length
  | 0 => rfl
  | m + 1 => by
    rw [← Nat.add_assoc, memsTo_no, memsTo_over m]
    have : nodeAt xs (xs.length + m) = default := by simp [nodeAt, List.getD_eq_getElem?_getD]
    simp [isLeaf, this]
    intro _; rfl
theorem membersL_eq {xs : List Node} : membersL xs = memsTo xs (2 * sizeN xs) := by
  unfold membersL
  by_cases hc : checkB xs = true
  · rw [if_pos hc]
    by_cases h0 : 0 < sizeN xs
    · have := sizeN_len h0
      rw [show 2 * sizeN xs = xs.length + 1 by omega, memsTo_over]
    have h1 : sizeN xs = 0 := by omega
    rw [h1]
    rcases checkB_spec hc with h | ⟨h, _⟩
    · rw [h]
    simp [sizeN, hc] at h1; exact absurd h1 h
  rw [if_neg hc]
  have : sizeN xs = 0 := by simp [sizeN, hc]
  rw [this]; rfl
theorem memsTo_two' (xs : List Node) : ∀ k, (memsTo xs (2 * k)).length ≤ k
  | 0 => Nat.le_refl _
  | k + 1 => by
    rw [show 2 * (k + 1) = 2 * k + 1 + 1 by omega, memsTo_no (isLeaf_odd (by omega)), memsTo]
    have := memsTo_two' xs k
    split
    all_goals simp only [List.length_append, List.length_cons, List.length_nil]
    all_goals omega
theorem membersR_ok {B : World} {H : HM} {O : OL} {v : Value} {xs : List Node} (hT : TabAt H) (h : RdL H v xs) : CallsM prog 162 [.agg #[v]].toArray B H O (MadeR (membersL xs) 3 H O) := by
  have hs := h.lenle
  refine enter func162 rfl ntmps162 (l := [(0, _)]) rfl rfl ?_
  refine x_seq ?_
  refine x_region rfl ?_
  refine o_box rfl (cs := [_]) rfl (fun b1 => ?_)
  refine o_y (y_assign rfl) ?_
  refine o_nil ?_
  refine x_seq ?_
  refine x_region rfl ?_
  refine o_y (y_assign rfl) ?_
  refine o_nil ?_
  refine x_seq ?_
  refine x_seq ?_
  refine x_region rfl ?_
  refine o_y (y_loadA ti29 rfl inn rfl) ?_
  refine o_call fn257 rfl (size_ok hT h) ?_
  rintro _ _ _ ⟨rfl, rfl, rfl⟩
  refine o_y (y_move rfl) ?_
  refine o_nil ?_
  refine x_block ?_
  refine x_loopf (σ := Nat × Value × OL) (fun s => [(8, .int .i64 (s.1 : Int)), (7, .int .i64 (sizeN xs : Int)), (3, s.2.1), (1, .pointer (some ⟨b1, 0, none⟩))]) (fun s => s.2.2 ++ ((b1, cl [v] 29) :: O)) (fun s => s.1 ≤ sizeN xs ∧ ∃ cs, Row s.2.1 (memsTo xs (2 * s.1)).length cs 3 1 s.2.2 ∧ El H cs (memsTo xs (2 * s.1))) (fun s => sizeN xs - s.1) (0, .slice none 0 0, []) ⟨by simp, [], Row.nil _ _, .n⟩ (.c rfl (.c rfl (.c rfl (.c rfl .n)))) rfl ?_
  rintro ⟨k, v3, R⟩ ⟨i1, cs, i2, i3⟩
  simp only at i1 i2 i3
  refine x_seq ?_
  refine x_region rfl ?_
  refine o_y (y_lss rfl rfl) ?_
  refine o_nil ?_
  refine x_seq ?_
  refine x_cond rfl (fun hc0 => ?_) (fun hc0 => ?_)
  · try simp only [kk] at hc0
    obtain ⟨hc, hk2, hk3, hk4⟩ := sizeN_len (xs := xs) (k := k) (by omega)
    have hml := memsTo_len xs (2 * k)
    have en := nodeAt_eq hk2
    refine x_skip ?_
    refine x_seq ?_
    refine x_block ?_
    refine x_seq ?_
    refine x_region rfl ?_
    refine o_y (y_move rfl) ?_
    refine o_y (y_assign rfl) ?_
    refine o_nil ?_
    refine x_seq ?_
    refine x_region rfl ?_
    refine o_y (y_fieldAddr fd29_0 ti27 (by decide) rfl) ?_
    refine o_y (y_loadO ti27 rfl inn rfl) ?_
    refine o_y (y_move rfl) ?_
    refine o_y (y_mulN rfl rfl (by omega) (by omega)) ?_
    obtain ⟨ce15, ae15, re15⟩ := RdL.at h _ (2 * k) hk2
    have se15 := AtS.isSl ae15
    have te15 := re15
    obtain ⟨u15_3, z15, q15_0, q15_1, q15_2, q15_3⟩ := re15
    subst z15
    have w15 := Rep.one te15
    refine o_y (y_idxL h (2 * k) hk2 underlying27 ti127 rfl rfl (by omega)) ?_
    refine o_y (y_loadS ti127 rfl (by assumption) rfl (fun e => by cases e)) ?_
    refine o_alloc ti127 rfl (fun b5 => ?_)
    refine o_store (u := [_, _, _, _]) (C' := [_, _, _, _]) ti127 rfl rfl rfl rfl (by first | rfl | assumption | (simp only [ones, List.all_cons, List.all_nil, Bool.and_true, one_of (by assumption)]; done)) (by repeat (first | exact .z | apply Upd.s | apply Upd.a)) (by exact Nat.le_of_ble_eq_true rfl) (by rfl) ?_
    refine o_nil ?_
    refine x_seq ?_
    refine x_region rfl ?_
    refine o_y (y_fieldAddr fd127_0 ti3 (by decide) rfl) ?_
    refine o_y (y_loadO ti3 rfl inn rfl) ?_
    refine o_y (y_gtr rfl rfl) ?_
    refine o_nil ?_
    refine x_cond rfl (fun hc1 => ?_) (fun hc1 => ?_)
    · try simp only [kk] at hc1
      refine x_region rfl ?_
      refine o_y (y_move rfl) ?_
      refine o_y (y_fieldAddr fd127_1 ti3 (by decide) rfl) ?_
      refine o_y (y_loadO ti3 rfl inn rfl) ?_
      refine o_slice1 underlying24 ti3 (by decide) (by decide) rfl rfl (C := [_]) rfl rfl (fun b23 => ?_)
      refine o_append underlying24 ti3 rfl (by decide) rfl i2 rfl (At.all inn) rfl rfl (by omega) (by omega) hol (fun v' R' j1 => ?_)
      refine o_y (y_assign rfl) ?_
      refine o_nil ?_
      refine x_region rfl ?_
      refine o_y (y_addN rfl rfl (by omega) (by omega)) ?_
      refine o_y (y_move rfl) ?_
      refine o_nil ?_
      first
      | exact ⟨(k + 1, v', R'), 2, rfl, (.c rfl (.c rfl (.c rfl (.c rfl .n)))), rfl, ⟨by omega, _, by rw [memsTo_two hc hk2, if_pos (by rw [en]; omega), List.length_append]; exact j1, by rw [memsTo_two hc hk2, if_pos (by rw [en]; omega), en]; exact i3.snoc ⟨rfl, by assumption⟩⟩, by simp only; omega⟩
      | exact ⟨(k + 1, v3, R), 1, rfl, (.c rfl (.c rfl (.c rfl (.c rfl .n)))), rfl, ⟨by omega, _, by rw [memsTo_two hc hk2, if_neg (by rw [en]; omega), List.append_nil]; exact i2, by rw [memsTo_two hc hk2, if_neg (by rw [en]; omega), List.append_nil]; exact i3⟩, by simp only; omega⟩
    try simp only [kk] at hc1
    refine x_skip ?_
    refine x_region rfl ?_
    refine o_y (y_addN rfl rfl (by omega) (by omega)) ?_
    refine o_y (y_move rfl) ?_
    refine o_nil ?_
    first
    | exact ⟨(k + 1, v', R'), 2, rfl, (.c rfl (.c rfl (.c rfl (.c rfl .n)))), rfl, ⟨by omega, _, by rw [memsTo_two hc hk2, if_pos (by rw [en]; omega), List.length_append]; exact j1, by rw [memsTo_two hc hk2, if_pos (by rw [en]; omega), en]; exact i3.snoc ⟨rfl, by assumption⟩⟩, by simp only; omega⟩
    | exact ⟨(k + 1, v3, R), 1, rfl, (.c rfl (.c rfl (.c rfl (.c rfl .n)))), rfl, ⟨by omega, _, by rw [memsTo_two hc hk2, if_neg (by rw [en]; omega), List.append_nil]; exact i2, by rw [memsTo_two hc hk2, if_neg (by rw [en]; omega), List.append_nil]; exact i3⟩, by simp only; omega⟩
  try simp only [kk] at hc0
  refine x_exit ?_
  refine x_seq ?_
  refine x_region rfl ?_
  refine o_y (y_move rfl) ?_
  refine o_y (y_assign rfl) ?_
  refine o_nil ?_
  have hk0 : k = sizeN xs := by omega
  subst hk0
  rw [← membersL_eq] at i2 i3
  refine x_pick (sub_mid R O _) ?_
  refine x_ret ?_
  refine x_fin 0 (ret1 rfl rfl) ?_
  exact ⟨rfl, R, cs, rfl, i2, i3⟩
theorem membersL_small {H : HM} {v : Value} {xs : List Node} (h : RdL H v xs) : (membersL xs).length ≤ 8 := by
  have h1 := memsTo_len xs (2 * sizeN xs)
  rw [← membersL_eq] at h1
  by_cases h0 : 0 < sizeN xs
  · have := sizeN_len h0
    have h2 := memsTo_two' xs (sizeN xs)
    rw [← membersL_eq] at h2; omega
  have : sizeN xs = 0 := by omega
  rw [this] at h1; omega
theorem members_ok {B : World} {H : HM} {O : OL} {v : Value} {xs : List Node} (hT : TabAt H) (h : RdL H v xs) : CallsM prog 162 [.agg #[v]].toArray B H O (Made (membersL xs) H O) :=
  (membersR_ok hT h).freeze (by have := membersL_small h; have e : Rep.bytes Int = 8 := rfl; rw [e]; omega)
end Go.Ph
set_option linter.unusedVariables false
set_option linter.unusedSimpArgs false
set_option maxRecDepth 100000
namespace Go.Ph
open Go Go.RowKit Go.Proofs.YtmgnagpgnoikfaaGreatDoor Go.Proofs.Tryz
theorem Node.unm {H : HM} {ds : List Value} {x : Node} {v : Value} (h : Rep.rd H ds x) (hv : RdL H v x.unmerged) : Rep.rd H (putC ds 3 [v]) x := by
  obtain ⟨u, rfl, h0, h1, h2, _⟩ := h
  exact ⟨v, rfl, h0, h1, h2, hv⟩
theorem El.same {α : Type} [Rep α] {H : HM} {cs u : List Value} {xs : List α} (h : El H cs xs) {k j : Nat} (hk : k < xs.length) (hj : j + u.length ≤ Rep.sz α) (hy : ∀ ds, Rep.rd H ds (xs[k]'hk) → Rep.rd H (putC ds j u) (xs[k]'hk)) : El H (putC cs (k * Rep.sz α + j) u) xs := by
  have := h.put hk hj (fun ds hd _ => hy ds hd)
  rwa [List.set_getElem_self] at this
theorem copied_ok {B : World} {H : HM} {O : OL} {cs : List Value} {c : Commit} (h : Rep.rd H cs c) : CallsM prog 43 [.agg cs.toArray].toArray B H O (MadeS c H O) := by
  obtain ⟨u6, u7, u8, u9, u12, rfl, h0, h1, h2, h3, h4, h5, h6, h7, h8, h9, h10, h11, h12, h13⟩ := h
  have hnl := h11.lenle
  refine enter func43 rfl ntmps43 (l := [(0, _)]) rfl rfl ?_
  refine x_seq ?_
  refine x_region rfl ?_
  refine o_box rfl (cs := [_, _, _, _, _, _, _, _, _, _, _, _, _, _, _]) rfl (fun b1 => ?_)
  refine o_alloc ti31 rfl (fun b2 => ?_)
  refine o_nil ?_
  refine x_seq ?_
  refine x_regionP [(0, true), (1, true), (3, true), (4, true), (6, true), (7, true), (9, true), (10, true), (2, false), (12, true), (5, false), (8, false), (11, false), (13, false), (14, false), (15, false), (16, false), (17, false), (18, false), (19, false)] [0, 1, 3, 4, 6, 7, 9, 10, 12] [13, 15, 17, 19, 14, 16, 18] mixed (by kernel_rfl) (by repeat (first | exact np_fn | apply np_then | apply np_block)) ?_
  have hE := Ext.refl H
  refine p_take rfl rfl (y_fieldAddr fd31_6 ti23 (by decide) rfl) ?_
  refine p_take rfl rfl (y_loadO ti23 rfl inn rfl) ?_
  refine p_take rfl rfl (y_fieldAddr fd31_7 ti24 (by decide) rfl) ?_
  refine p_take rfl rfl (y_loadO ti24 rfl inn rfl) ?_
  refine p_take rfl rfl (y_fieldAddr fd31_8 ti25 (by decide) rfl) ?_
  refine p_take rfl rfl (y_loadO ti25 rfl inn rfl) ?_
  refine p_take rfl rfl (y_fieldAddr fd31_9 ti26 (by decide) rfl) ?_
  refine p_take rfl rfl (y_loadO ti26 rfl inn rfl) ?_
  refine p_only rfl rfl ?_
  refine o_call fn181 rfl (clone_add h5) ?_
  rintro v6 H1 _ ⟨x2, rfl, r2⟩
  refine o_nil ?_
  replace hE := hE.trans x2
  obtain ⟨p2, c2, rfl⟩ := r2.shape
  refine ⟨.inr ⟨hE, by first | exact fun _ h => h | exact fun _ h => .tail _ h | exact fun _ h => .tail _ (.tail _ h) | exact fun _ h => .tail _ (.tail _ (.tail _ h)) | exact held_0 | exact held_1 | exact held_2 | exact held_z0 | exact held_z1 | exact held_s | exact held_s0 | exact held_bR | exact held_zbR | exact (fun _ h => by cases h)⟩, ?_⟩
  refine p_take rfl rfl (y_fieldAddr fd31_6 ti23 (by decide) rfl) ?_
  refine p_only rfl rfl ?_
  refine o_call fn182 rfl (clone_int (h6.mono hE)) ?_
  rintro v7 H2 _ ⟨x5, rfl, r5⟩
  refine o_nil ?_
  replace hE := hE.trans x5
  obtain ⟨p5, c5, rfl⟩ := r5.shape
  refine ⟨.inr ⟨hE, by first | exact fun _ h => h | exact fun _ h => .tail _ h | exact fun _ h => .tail _ (.tail _ h) | exact fun _ h => .tail _ (.tail _ (.tail _ h)) | exact held_0 | exact held_1 | exact held_2 | exact held_z0 | exact held_z1 | exact held_s | exact held_s0 | exact held_bR | exact held_zbR | exact (fun _ h => by cases h)⟩, ?_⟩
  refine p_only rfl rfl ?_
  refine o_call fn183 rfl (clone_seal (h7.mono hE)) ?_
  rintro v8 H3 _ ⟨x8, rfl, r8⟩
  refine o_nil ?_
  replace hE := hE.trans x8
  obtain ⟨p8, c8, rfl⟩ := r8.shape
  refine ⟨.inr ⟨hE, by first | exact fun _ h => h | exact fun _ h => .tail _ h | exact fun _ h => .tail _ (.tail _ h) | exact fun _ h => .tail _ (.tail _ (.tail _ h)) | exact held_0 | exact held_1 | exact held_2 | exact held_z0 | exact held_z1 | exact held_s | exact held_s0 | exact held_bR | exact held_zbR | exact (fun _ h => by cases h)⟩, ?_⟩
  refine p_only rfl rfl ?_
  refine o_call fn184 rfl (clone_join (h8.mono hE)) ?_
  rintro v9 H4 _ ⟨x11, rfl, r11⟩
  refine o_nil ?_
  replace hE := hE.trans x11
  obtain ⟨p11, c11, rfl⟩ := r11.shape
  refine ⟨.inr ⟨hE, by first | exact fun _ h => h | exact fun _ h => .tail _ h | exact fun _ h => .tail _ (.tail _ h) | exact fun _ h => .tail _ (.tail _ (.tail _ h)) | exact held_0 | exact held_1 | exact held_2 | exact held_z0 | exact held_z1 | exact held_s | exact held_s0 | exact held_bR | exact held_zbR | exact (fun _ h => by cases h)⟩, ?_⟩
  refine p_only rfl rfl ?_
  refine o_store (u := [_]) (C' := [_, _, _, _, _, _, _, _, _, _, _, _, _, _, _]) ti23 rfl rfl rfl rfl (by first | rfl | assumption | (simp only [ones, List.all_cons, List.all_nil, Bool.and_true, one_of (by assumption)]; done)) (by repeat (first | exact .z | apply Upd.s | apply Upd.a)) (by exact Nat.le_of_ble_eq_true rfl) (by rfl) ?_
  refine o_nil ?_
  refine ⟨.inl rfl, ?_⟩
  refine p_only rfl rfl ?_
  refine o_y (y_fieldAddr fd31_7 ti24 (by decide) rfl) ?_
  refine o_nil ?_
  refine ⟨.inl rfl, ?_⟩
  refine p_only rfl rfl ?_
  refine o_store (u := [_]) (C' := [_, _, _, _, _, _, _, _, _, _, _, _, _, _, _]) ti24 rfl rfl rfl rfl (by first | rfl | assumption | (simp only [ones, List.all_cons, List.all_nil, Bool.and_true, one_of (by assumption)]; done)) (by repeat (first | exact .z | apply Upd.s | apply Upd.a)) (by exact Nat.le_of_ble_eq_true rfl) (by rfl) ?_
  refine o_nil ?_
  refine ⟨.inl rfl, ?_⟩
  refine p_only rfl rfl ?_
  refine o_y (y_fieldAddr fd31_8 ti25 (by decide) rfl) ?_
  refine o_nil ?_
  refine ⟨.inl rfl, ?_⟩
  refine p_only rfl rfl ?_
  refine o_store (u := [_]) (C' := [_, _, _, _, _, _, _, _, _, _, _, _, _, _, _]) ti25 rfl rfl rfl rfl (by first | rfl | assumption | (simp only [ones, List.all_cons, List.all_nil, Bool.and_true, one_of (by assumption)]; done)) (by repeat (first | exact .z | apply Upd.s | apply Upd.a)) (by exact Nat.le_of_ble_eq_true rfl) (by rfl) ?_
  refine o_nil ?_
  refine ⟨.inl rfl, ?_⟩
  refine p_only rfl rfl ?_
  refine o_y (y_fieldAddr fd31_9 ti26 (by decide) rfl) ?_
  refine o_nil ?_
  refine ⟨.inl rfl, ?_⟩
  refine p_only rfl rfl ?_
  refine o_store (u := [_]) (C' := [_, _, _, _, _, _, _, _, _, _, _, _, _, _, _]) ti26 rfl rfl rfl rfl (by first | rfl | assumption | (simp only [ones, List.all_cons, List.all_nil, Bool.and_true, one_of (by assumption)]; done)) (by repeat (first | exact .z | apply Upd.s | apply Upd.a)) (by exact Nat.le_of_ble_eq_true rfl) (by rfl) ?_
  refine o_nil ?_
  refine ⟨.inl rfl, ?_⟩
  refine p_nil ?_
  refine x_seq ?_
  refine x_region rfl ?_
  refine o_y (y_fieldAddr fd31_12 ti29 (by decide) rfl) ?_
  refine o_y (y_fieldAddr fd29_0 ti27 (by decide) rfl) ?_
  refine o_y (y_loadO ti27 rfl inn rfl) ?_
  refine o_call fn185 rfl (clone_nodeR (h11.mono hE)) ?_
  rintro v12 _ _ ⟨rfl, R, cs, rfl, j1, j2⟩
  obtain ⟨p12, c12, rfl⟩ := j1.shape
  refine o_y (y_fieldAddr fd31_12 ti29 (by decide) rfl) ?_
  refine o_y (y_fieldAddr fd29_0 ti27 (by decide) rfl) ?_
  refine o_store (u := [_]) (C' := [_, _, _, _, _, _, _, _, _, _, _, _, _, _, _]) ti27 rfl rfl rfl rfl (by first | rfl | assumption | (simp only [ones, List.all_cons, List.all_nil, Bool.and_true, one_of (by assumption)]; done)) (by repeat (first | exact .z | apply Upd.s | apply Upd.a)) (by exact Nat.le_of_ble_eq_true rfl) (by rfl) ?_
  refine o_nil ?_
  refine x_seq ?_
  refine x_seq ?_
  refine x_region rfl ?_
  refine o_y (y_fieldAddr fd31_12 ti29 (by decide) rfl) ?_
  refine o_y (y_fieldAddr fd29_0 ti27 (by decide) rfl) ?_
  refine o_y (y_loadO ti27 rfl inn rfl) ?_
  refine o_y (y_lenA underlying27 rfl) ?_
  refine o_y (y_move rfl) ?_
  refine o_nil ?_
  refine x_block ?_
  refine x_loopg (σ := Nat × HM × OL × List Value) (fun s => [(31, .int .i64 (s.1 : Int)), (30, .int .i64 (c.next_.nodes.length : Int)), (1, .pointer (some ⟨b1, 0, none⟩)), (2, .pointer (some ⟨b2, 0, none⟩))]) (fun s => s.2.1) (fun s => s.2.2.1 ++ _) (fun s => s.1 ≤ c.next_.nodes.length ∧ Ext H4 s.2.1 ∧ Row (.slice p12 c.next_.nodes.length c12) c.next_.nodes.length s.2.2.2 127 4 s.2.2.1 ∧ El s.2.1 s.2.2.2 c.next_.nodes) (fun s => c.next_.nodes.length - s.1) (0, H4, R, cs) ⟨by simp, Ext.refl _, j1, j2⟩ (.c rfl (.c rfl (.c rfl (.c rfl .n)))) rfl rfl ?_
  rintro ⟨k, H5, R, cs⟩ ⟨i1, i2, i3, i4⟩
  simp only at i1 i2 i3 i4
  refine x_seq ?_
  refine x_region rfl ?_
  refine o_y (y_lss rfl rfl) ?_
  refine o_nil ?_
  refine x_seq ?_
  refine x_cond rfl (fun hc0 => ?_) (fun hc0 => ?_)
  · try simp only [kk] at hc0
    have hk : k < c.next_.nodes.length := by omega
    refine x_skip ?_
    refine x_seq ?_
    refine x_block ?_
    refine x_seq ?_
    refine x_region rfl ?_
    refine o_y (y_move rfl) ?_
    refine o_y (y_assign rfl) ?_
    refine o_nil ?_
    refine x_seq ?_
    refine x_region rfl ?_
    refine o_y (y_fieldAddr fd31_12 ti29 (by decide) rfl) ?_
    refine o_y (y_fieldAddr fd29_0 ti27 (by decide) rfl) ?_
    refine o_y (y_loadO ti27 rfl inn rfl) ?_
    refine o_y (y_move rfl) ?_
    obtain ⟨ce38, ae38, re38⟩ := Row.elAt i3 i4 rfl k hk (by omega) (fun p hp => hp)
    have se38 := AtS.isSl ae38
    have te38 := re38
    obtain ⟨u38_3, z38, q38_0, q38_1, q38_2, q38_3⟩ := re38
    subst z38
    have w38 := Rep.one te38
    refine o_y (y_idxR i3 k (by omega) underlying27 ti127 rfl rfl (by omega)) ?_
    refine o_y (y_assign rfl) ?_
    refine o_nil ?_
    refine x_region rfl ?_
    refine o_y (y_move rfl) ?_
    refine o_y (y_move rfl) ?_
    refine o_y (y_nilCheckP (by assumption) rfl) ?_
    refine o_y (y_fieldAddrP fd127_3 ti24 (by decide) (by assumption) rfl) ?_
    refine o_y (y_loadS1 ti24 rfl (AtS.sub (by assumption) (fun p hp => by repeat (first | exact hp | exact List.mem_append_left _ hp | apply List.mem_cons_of_mem | apply List.mem_append_right))) rfl) ?_
    refine o_call fn182 rfl (clone_int q38_3) ?_
    rintro v44 H6 _ ⟨x44, rfl, r44⟩
    obtain ⟨p44, c44, rfl⟩ := r44.shape
    refine o_y (y_nilCheckP (by assumption) rfl) ?_
    refine o_y (y_fieldAddrP fd127_3 ti24 (by decide) (by assumption) rfl) ?_
    have hl4 : k * 4 + 4 ≤ cs.length := El.len_le i4 hk (j := 4) (Nat.le_refl _)
    refine o_storeS (u := [_]) ti24 rfl rfl i3 rfl rfl (by first | rfl | assumption | (simp only [ones, List.all_cons, List.all_nil, Bool.and_true, one_of (by assumption)]; done)) (by omega) (by omega) hol (fun R7_8 j7_8 => ?_)
    refine o_nil ?_
    refine x_region rfl ?_
    refine o_y (y_addN rfl rfl (by omega) (by omega)) ?_
    refine o_y (y_move rfl) ?_
    refine o_nil ?_
    exact ⟨(k + 1, H6, R7_8, putC cs (k * 4 + 3) [.slice p44 c.next_.nodes[k].unmerged.length c44]), 0, rfl, (.c rfl (.c rfl (.c rfl (.c rfl .n)))), rfl, ⟨by omega, i2.trans x44, j7_8, El.same (i4.mono x44) hk (Nat.le_of_ble_eq_true rfl) (fun ds hd => Node.unm hd r44)⟩, by simp only; omega⟩
  try simp only [kk] at hc0
  refine x_exit ?_
  refine x_seq ?_
  refine x_region rfl ?_
  refine o_y (y_loadA ti31 rfl inn rfl) ?_
  refine o_store (u := [_, _, _, _, _, _, _, _, _, _, _, _, _, _, _]) (C' := [_, _, _, _, _, _, _, _, _, _, _, _, _, _, _]) ti31 rfl rfl rfl rfl (by first | rfl | assumption | (simp only [ones, List.all_cons, List.all_nil, Bool.and_true, one_of (by assumption)]; done)) (by repeat (first | exact .z | apply Upd.s | apply Upd.a)) (by exact Nat.le_of_ble_eq_true rfl) (by rfl) ?_
  refine o_nil ?_
  refine x_freeze (S := R) (O' := _) ⟨[], rfl⟩ (fun hN hX => ?_)
  refine x_ret ?_
  refine x_fin 2 (retC rfl rfl ti31 inn rfl) ?_
  have e5 := i2.trans hX
  exact ⟨hE.trans e5, rfl, _, rfl, _, _, _, _, _, rfl, h0, h1, h2, h3, h4, r2.mono ((x5.trans (x8.trans x11)).trans e5), r5.mono ((x8.trans x11).trans e5), r8.mono (x11.trans e5), r11.mono e5, h9, h10, i3.freeze rfl i4 h11.small hN, h12, h13⟩
end Go.Ph
set_option linter.unusedVariables false
set_option linter.unusedSimpArgs false
set_option maxRecDepth 100000
namespace Go.Ph
open Go Go.RowKit Go.Proofs.YtmgnagpgnoikfaaGreatDoor Go.Proofs.Tryz
def capSum (lim : Nat) : List Nat → Nat → Nat
  | [], n => n
  | x :: xs, n => if n ≤ lim then capSum lim xs (n + x) else n
theorem capSum_over {lim n : Nat} (h : ¬ n ≤ lim) : ∀ ls, capSum lim ls n = n
  | [] => rfl
  | x :: xs => by rw [capSum, if_neg h]
theorem capSum_ge {lim : Nat} : ∀ (ls : List Nat) (n : Nat), n ≤ capSum lim ls n
  | [], n => Nat.le_refl _
  | x :: xs, n => by
    rw [capSum]; split
    · exact Nat.le_trans (Nat.le_add_right _ _) (capSum_ge xs _)
    exact Nat.le_refl _
theorem capSum_le {lim M : Nat} : ∀ (ls : List Nat) (n : Nat), (∀ x ∈ ls, x ≤ M) → n ≤ lim + M → capSum lim ls n ≤ lim + M
  | [], n, _, h => h
  | x :: xs, n, hx, h => by
    rw [capSum]; split
    · exact capSum_le xs _ (fun y hy => hx y (List.mem_cons_of_mem _ hy)) (by have := hx x List.mem_cons_self; omega)
    exact h
theorem capSum_eq {lim : Nat} : ∀ (ls : List Nat) (n : Nat), capSum lim ls n ≤ lim → capSum lim ls n = n + ls.sum
  | [], n, _ => by simp [capSum]
  | x :: xs, n, h => by
    rw [capSum] at h ⊢; split at h
    · rename_i hn; rw [if_pos hn, capSum_eq xs _ h, List.sum_cons]; omega
    exact absurd h (by assumption)
theorem capSum_step {lim n i : Nat} {ls : List Nat} (h : i < ls.length) (hn : n ≤ lim) : capSum lim (ls.drop i) n = capSum lim (ls.drop (i + 1)) (n + ls[i]) := by
  rw [List.drop_eq_getElem_cons h, capSum, if_pos hn]
theorem capSum_end {lim n i : Nat} {ls : List Nat} (h : ls.length ≤ i ∨ ¬ n ≤ lim) : capSum lim (ls.drop i) n = n := by
  rcases h with h | h
  · rw [List.drop_eq_nil_of_le h]; rfl
  exact capSum_over h _
def treeSize (t : Tree) : Nat := capSum 262144 (t.nodes.map fun n => n.unmerged.length) t.nodes.length
theorem treeSize_ok {B : World} {H : HM} {O : OL} {v : Value} {xs : List Node} (h : RdL H v xs) : CallsM prog 33 [.agg #[v]].toArray B H O (Same (.int .i64 (treeSize ⟨xs⟩)) H O) := by
  have hs := h.lenle
  refine enter func33 rfl ntmps33 (l := [(0, _)]) rfl rfl ?_
  refine x_seq ?_
  refine x_region rfl ?_
  refine o_box rfl (cs := [_]) rfl (fun b1 => ?_)
  refine o_y (y_assign rfl) ?_
  refine o_nil ?_
  refine x_seq ?_
  refine x_region rfl ?_
  refine o_y (y_fieldAddr fd29_0 ti27 (by decide) rfl) ?_
  refine o_y (y_loadO ti27 rfl inn rfl) ?_
  refine o_y (y_lenA underlying27 rfl) ?_
  refine o_y (y_assign rfl) ?_
  refine o_nil ?_
  refine x_seq ?_
  refine x_seq ?_
  refine x_region rfl ?_
  refine o_y (y_assign rfl) ?_
  refine o_nil ?_
  refine x_block ?_
  refine x_loopf (σ := Nat × Nat) (fun s => [(4, .int .i64 (s.1 : Int)), (3, .int .i64 (s.2 : Int)), (1, .pointer (some ⟨b1, 0, none⟩))]) (fun s => (b1, cl [v] 29) :: O) (fun s => s.1 ≤ xs.length ∧ s.2 ≤ 140737488355328 + 262144 ∧ capSum 262144 ((xs.map fun n => n.unmerged.length).drop s.1) s.2 = treeSize ⟨xs⟩) (fun s => xs.length - s.1) (0, xs.length) ⟨by simp, by omega, rfl⟩ (.c rfl (.c rfl (.c rfl .n))) rfl ?_
  rintro ⟨k, n⟩ ⟨i1, i2, i3⟩
  simp only at i1 i2 i3
  refine x_seq ?_
  refine x_seq ?_
  refine x_region rfl ?_
  refine o_y (y_move rfl) ?_
  refine o_y (y_fieldAddr fd29_0 ti27 (by decide) rfl) ?_
  refine o_y (y_loadO ti27 rfl inn rfl) ?_
  refine o_y (y_lenA underlying27 rfl) ?_
  refine o_y (y_lss rfl rfl) ?_
  refine o_y (y_move rfl) ?_
  refine o_split 13 rfl (fun hg3_13 => ?_) (fun hg3_13 => ?_)
  · try simp only [kk] at hg3_13
    refine o_gy 13 rfl rfl (y_move rfl) ?_
    refine o_gy 13 rfl rfl (y_leq rfl rfl) ?_
    refine o_y (y_pick rfl rfl) ?_
    refine o_nil ?_
    refine x_cond rfl (fun hc0 => ?_) (fun hc0 => ?_)
    · try simp only [kk] at hc0
      have hk : k < xs.length := by omega
      have hn : n ≤ 262144 := by omega
      refine x_skip ?_
      refine x_seq ?_
      refine x_block ?_
      refine x_region rfl ?_
      refine o_y (y_move rfl) ?_
      refine o_y (y_fieldAddr fd29_0 ti27 (by decide) rfl) ?_
      refine o_y (y_loadO ti27 rfl inn rfl) ?_
      refine o_y (y_move rfl) ?_
      obtain ⟨ce23, ae23, re23⟩ := RdL.at h _ k hk
      have se23 := AtS.isSl ae23
      have te23 := re23
      obtain ⟨u23_3, z23, q23_0, q23_1, q23_2, q23_3⟩ := re23
      subst z23
      have w23 := Rep.one te23
      refine o_y (y_idxL h k hk underlying27 ti127 rfl rfl (by omega)) ?_
      have hu := q23_3.lenle
      rw [capSum_step (by simpa using hk) hn] at i3
      simp only [List.getElem_map] at i3
      refine o_y (y_fieldAddrP fd127_3 ti24 (by decide) (by assumption) rfl) ?_
      refine o_y (y_loadS1 ti24 rfl (by assumption) rfl) ?_
      refine o_y (y_lenA underlying24 rfl) ?_
      refine o_y (y_addN rfl rfl (by omega) (by omega)) ?_
      refine o_y (y_assign rfl) ?_
      refine o_nil ?_
      refine x_region rfl ?_
      refine o_y (y_move rfl) ?_
      refine o_y (y_addN rfl rfl (by omega) (by omega)) ?_
      refine o_y (y_assign rfl) ?_
      refine o_nil ?_
      exact ⟨(k + 1, n + xs[k].unmerged.length), 0, rfl, (.c rfl (.c rfl (.c rfl .n))), rfl, ⟨by omega, by omega, i3⟩, by simp only; omega⟩
    try simp only [kk] at hc0
    refine x_exit ?_
    refine x_seq ?_
    refine x_region rfl ?_
    refine o_y (y_move rfl) ?_
    refine o_y (y_assign rfl) ?_
    refine o_nil ?_
    have hf := capSum_end (lim := 262144) (n := n) (i := k) (ls := xs.map fun n => n.unmerged.length) (by simp only [List.length_map]; omega)
    rw [hf] at i3
    refine x_ret ?_
    refine x_fin 1 (ret1 rfl rfl) ?_
    rw [i3]; exact ⟨rfl, rfl, rfl⟩
  try simp only [kk] at hg3_13
  refine o_gn 13 rfl rfl rfl ?_
  refine o_gn 13 rfl rfl rfl ?_
  refine o_y (y_pick rfl rfl) ?_
  refine o_nil ?_
  refine x_condF rfl ?_
  refine x_exit ?_
  refine x_seq ?_
  refine x_region rfl ?_
  refine o_y (y_move rfl) ?_
  refine o_y (y_assign rfl) ?_
  refine o_nil ?_
  have hf := capSum_end (lim := 262144) (n := n) (i := k) (ls := xs.map fun n => n.unmerged.length) (by simp only [List.length_map]; omega)
  rw [hf] at i3
  refine x_ret ?_
  refine x_fin 1 (ret1 rfl rfl) ?_
  rw [i3]; exact ⟨rfl, rfl, rfl⟩
theorem treeSize_le {H : HM} {v : Value} {xs : List Node} (h : RdL H v xs) : treeSize ⟨xs⟩ ≤ 140737488617472 := by
  unfold treeSize
  have hs := h.lenle
  refine Nat.le_trans (capSum_le (M := 140737488355328) _ _ ?_ (by simp only; omega)) (by omega)
  intro x hx
  obtain ⟨n, hn, rfl⟩ := List.mem_map.1 hx
  obtain ⟨j, hj, rfl⟩ := List.getElem_of_mem hn
  obtain ⟨cs, _, _, _, _, _, _, h1⟩ := h.at [] j hj
  exact Nat.le_trans h1.lenle (by omega)
def commitSize (c : Commit) : Nat := 1 + c.adds.length + c.removes.length + c.seals.length + c.joins.length + treeSize c.next_
theorem commitSize_le {H : HM} {cs : List Value} {c : Commit} (h : Rep.rd H cs c) : commitSize c ≤ 1125899906842624 := by
  obtain ⟨u6, u7, u8, u9, u12, rfl, h0, h1, h2, h3, h4, h5, h6, h7, h8, h9, h10, h11, h12, h13⟩ := h
  have h14 := treeSize_le h11
  have := h5.lenle
  have := h6.lenle
  have := h7.lenle
  have := h8.lenle
  unfold commitSize
  have e : (⟨c.next_.nodes⟩ : Tree) = c.next_ := rfl
  rw [e] at h14
  omega
theorem commitSize_ok {B : World} {H : HM} {O : OL} {cs : List Value} {c : Commit} (h : Rep.rd H cs c) : CallsM prog 7 [.agg cs.toArray].toArray B H O (Same (.int .i64 (commitSize c)) H O) := by
  have hle := commitSize_le h
  unfold commitSize at hle
  obtain ⟨u6, u7, u8, u9, u12, rfl, h0, h1, h2, h3, h4, h5, h6, h7, h8, h9, h10, h11, h12, h13⟩ := h
  refine enter func7 rfl ntmps7 (l := [(0, _)]) rfl rfl ?_
  refine x_seq ?_
  refine x_region rfl ?_
  refine o_box rfl (cs := [_, _, _, _, _, _, _, _, _, _, _, _, _, _, _]) rfl (fun b1 => ?_)
  refine o_y (y_assign rfl) ?_
  refine o_nil ?_
  refine x_seq ?_
  refine x_regionQ mixed (by kernel_rfl) rfl ?_
  refine q_y (y_fieldAddr fd31_6 ti23 (by decide) rfl) ?_
  refine q_y (y_loadO ti23 rfl inn rfl) ?_
  first | refine q_y (y_lenL (by assumption) underlying23 rfl) ?_ | refine q_y (y_lenR (by assumption) underlying23 rfl) ?_ | refine q_y (y_len underlying23 rfl) ?_
  refine q_y (y_addN rfl rfl (by omega) (by omega)) ?_
  refine q_y (y_fieldAddr fd31_7 ti24 (by decide) rfl) ?_
  refine q_y (y_loadO ti24 rfl inn rfl) ?_
  first | refine q_y (y_lenL (by assumption) underlying24 rfl) ?_ | refine q_y (y_lenR (by assumption) underlying24 rfl) ?_ | refine q_y (y_len underlying24 rfl) ?_
  refine q_y (y_addN rfl rfl (by omega) (by omega)) ?_
  refine q_y (y_fieldAddr fd31_8 ti25 (by decide) rfl) ?_
  refine q_y (y_loadO ti25 rfl inn rfl) ?_
  first | refine q_y (y_lenL (by assumption) underlying25 rfl) ?_ | refine q_y (y_lenR (by assumption) underlying25 rfl) ?_ | refine q_y (y_len underlying25 rfl) ?_
  refine q_y (y_addN rfl rfl (by omega) (by omega)) ?_
  refine q_y (y_fieldAddr fd31_9 ti26 (by decide) rfl) ?_
  refine q_y (y_loadO ti26 rfl inn rfl) ?_
  first | refine q_y (y_lenL (by assumption) underlying26 rfl) ?_ | refine q_y (y_lenR (by assumption) underlying26 rfl) ?_ | refine q_y (y_len underlying26 rfl) ?_
  refine q_y (y_addN rfl rfl (by omega) (by omega)) ?_
  refine q_y (y_fieldAddr fd31_12 ti29 (by decide) rfl) ?_
  refine q_y (y_loadP ti29 rfl inn (cs := [_]) rfl rfl) ?_
  refine q_call fn33 rfl (treeSize_ok (xs := c.next_.nodes) h11) ?_
  have e : (⟨c.next_.nodes⟩ : Tree) = c.next_ := rfl
  rw [e]
  refine q_y (y_addN rfl rfl (by omega) (by omega)) ?_
  refine q_y (y_assign rfl) ?_
  refine q_nil ?_
  refine x_ret ?_
  refine x_fin 1 (ret1 rfl rfl) ?_
  unfold commitSize; exact ⟨by simp only [Int.natCast_add]; rfl, rfl, rfl⟩
def logSize (x : Log) : Nat := capSum 262144 (x.commits.map commitSize) (1 + x.commits.length)
theorem logSize_le {H : HM} {cs : List Value} {x : Log} (h : Rep.rd H cs x) : logSize x ≤ 1125899907104768 := by
  obtain ⟨u, rfl, h0, h1⟩ := h
  have := h1.lenle
  refine capSum_le (M := 1125899906842624) _ _ ?_ (by omega)
  intro y hy
  obtain ⟨n, hn, rfl⟩ := List.mem_map.1 hy
  obtain ⟨j, hj, rfl⟩ := List.getElem_of_mem hn
  obtain ⟨cs, _, h1⟩ := h1.at [] j hj
  exact commitSize_le h1
theorem logSize_ok {B : World} {H : HM} {O : OL} {cs : List Value} {x : Log} (h : Rep.rd H cs x) : CallsM prog 32 [.agg cs.toArray].toArray B H O (Same (.int .i64 (logSize x)) H O) := by
  obtain ⟨u, rfl, h0, h1⟩ := h
  have hs := h1.lenle
  refine enter func32 rfl ntmps32 (l := [(0, _)]) rfl rfl ?_
  refine x_seq ?_
  refine x_region rfl ?_
  refine o_box rfl (cs := [_, _]) rfl (fun b1 => ?_)
  refine o_y (y_assign rfl) ?_
  refine o_nil ?_
  refine x_seq ?_
  refine x_region rfl ?_
  refine o_y (y_fieldAddr fd95_1 ti93 (by decide) rfl) ?_
  refine o_y (y_loadO ti93 rfl inn rfl) ?_
  refine o_y (y_lenA underlying93 rfl) ?_
  refine o_y (y_addN rfl rfl (by omega) (by omega)) ?_
  refine o_y (y_assign rfl) ?_
  refine o_nil ?_
  refine x_seq ?_
  refine x_seq ?_
  refine x_region rfl ?_
  refine o_y (y_assign rfl) ?_
  refine o_nil ?_
  refine x_block ?_
  refine x_loopf (σ := Nat × Nat) (fun s => [(4, .int .i64 (s.1 : Int)), (3, .int .i64 (s.2 : Int)), (1, .pointer (some ⟨b1, 0, none⟩))]) (fun s => _) (fun s => s.1 ≤ x.commits.length ∧ s.2 ≤ 1125899906842624 + 262144 ∧ capSum 262144 ((x.commits.map commitSize).drop s.1) s.2 = logSize x) (fun s => x.commits.length - s.1) (0, 1 + x.commits.length) ⟨by simp, by omega, rfl⟩ (.c rfl (.c rfl (.c rfl .n))) rfl ?_
  rintro ⟨k, n⟩ ⟨i1, i2, i3⟩
  simp only at i1 i2 i3
  refine x_seq ?_
  refine x_seq ?_
  refine x_region rfl ?_
  refine o_y (y_move rfl) ?_
  refine o_y (y_fieldAddr fd95_1 ti93 (by decide) rfl) ?_
  refine o_y (y_loadO ti93 rfl inn rfl) ?_
  refine o_y (y_lenA underlying93 rfl) ?_
  refine o_y (y_lss rfl rfl) ?_
  refine o_y (y_move rfl) ?_
  refine o_split 14 rfl (fun hg3_14 => ?_) (fun hg3_14 => ?_)
  · try simp only [kk] at hg3_14
    refine o_gy 14 rfl rfl (y_move rfl) ?_
    refine o_gy 14 rfl rfl (y_leq rfl rfl) ?_
    refine o_y (y_pick rfl rfl) ?_
    refine o_nil ?_
    refine x_cond rfl (fun hc0 => ?_) (fun hc0 => ?_)
    · try simp only [kk] at hc0
      have hk : k < x.commits.length := by omega
      have hn : n ≤ 262144 := by omega
      refine x_skip ?_
      refine x_seq ?_
      refine x_block ?_
      refine x_region rfl ?_
      refine o_y (y_move rfl) ?_
      refine o_y (y_fieldAddr fd95_1 ti93 (by decide) rfl) ?_
      refine o_y (y_loadO ti93 rfl inn rfl) ?_
      refine o_y (y_move rfl) ?_
      obtain ⟨ce24, ae24, re24⟩ := RdL.at h1 _ k hk
      have se24 := AtS.isSl ae24
      have te24 := re24
      obtain ⟨u24_6, u24_7, u24_8, u24_9, u24_12, z24, q24_0, q24_1, q24_2, q24_3, q24_4, q24_5, q24_6, q24_7, q24_8, q24_9, q24_10, q24_11, q24_12, q24_13⟩ := re24
      subst z24
      have w24 := Rep.one te24
      refine o_y (y_idxL h1 k hk underlying93 ti31 rfl rfl (by omega)) ?_
      have hu := commitSize_le te24
      rw [capSum_step (by simpa using hk) hn] at i3
      simp only [List.getElem_map] at i3
      refine o_y (y_loadS ti31 rfl (by assumption) rfl (fun e => by cases e)) ?_
      refine o_call fn7 rfl (commitSize_ok te24) ?_
      rintro _ _ _ ⟨rfl, rfl, rfl⟩
      refine o_y (y_addN rfl rfl (by omega) (by omega)) ?_
      refine o_y (y_assign rfl) ?_
      refine o_nil ?_
      refine x_region rfl ?_
      refine o_y (y_move rfl) ?_
      refine o_y (y_addN rfl rfl (by omega) (by omega)) ?_
      refine o_y (y_assign rfl) ?_
      refine o_nil ?_
      exact ⟨(k + 1, n + commitSize x.commits[k]), 0, rfl, (.c rfl (.c rfl (.c rfl .n))), rfl, ⟨by omega, by omega, i3⟩, by simp only; omega⟩
    try simp only [kk] at hc0
    refine x_exit ?_
    refine x_seq ?_
    refine x_region rfl ?_
    refine o_y (y_move rfl) ?_
    refine o_y (y_assign rfl) ?_
    refine o_nil ?_
    have hf := capSum_end (lim := 262144) (n := n) (i := k) (ls := x.commits.map commitSize) (by simp only [List.length_map]; omega)
    rw [hf] at i3
    refine x_ret ?_
    refine x_fin 1 (ret1 rfl rfl) ?_
    rw [i3]; exact ⟨rfl, rfl, rfl⟩
  try simp only [kk] at hg3_14
  refine o_gn 14 rfl rfl rfl ?_
  refine o_gn 14 rfl rfl rfl ?_
  refine o_y (y_pick rfl rfl) ?_
  refine o_nil ?_
  refine x_condF rfl ?_
  refine x_exit ?_
  refine x_seq ?_
  refine x_region rfl ?_
  refine o_y (y_move rfl) ?_
  refine o_y (y_assign rfl) ?_
  refine o_nil ?_
  have hf := capSum_end (lim := 262144) (n := n) (i := k) (ls := x.commits.map commitSize) (by simp only [List.length_map]; omega)
  rw [hf] at i3
  refine x_ret ?_
  refine x_fin 1 (ret1 rfl rfl) ?_
  rw [i3]; exact ⟨rfl, rfl, rfl⟩
def logsSize (g : List Log) : Nat := capSum 1048575 (g.map logSize) g.length
theorem logsSize_le {H : HM} {v : Value} {xs : List Log} (h : RdL H v xs) : logsSize xs ≤ 1125899908153343 := by
  have := h.lenle
  refine capSum_le (M := 1125899907104768) _ _ ?_ (by omega)
  intro y hy
  obtain ⟨n, hn, rfl⟩ := List.mem_map.1 hy
  obtain ⟨j, hj, rfl⟩ := List.getElem_of_mem hn
  obtain ⟨cs, _, h1⟩ := h.at [] j hj
  exact logSize_le h1
theorem logsSize_ok {B : World} {H : HM} {O : OL} {v : Value} {xs : List Log} (h : RdL H v xs) : CallsM prog 6 [v].toArray B H O (Same (.int .i64 (logsSize xs)) H O) := by
  have hs := h.lenle
  refine enter func6 rfl ntmps6 (l := [(0, _)]) rfl rfl ?_
  refine x_seq ?_
  refine x_region rfl ?_
  refine o_y (y_assign rfl) ?_
  refine o_nil ?_
  refine x_seq ?_
  refine x_region rfl ?_
  refine o_y (y_move rfl) ?_
  refine o_y (y_lenA underlying22 rfl) ?_
  refine o_y (y_assign rfl) ?_
  refine o_nil ?_
  refine x_seq ?_
  refine x_seq ?_
  refine x_region rfl ?_
  refine o_y (y_assign rfl) ?_
  refine o_nil ?_
  refine x_block ?_
  refine x_loopf (σ := Nat × Nat) (fun s => [(4, .int .i64 (s.1 : Int)), (3, .int .i64 (s.2 : Int)), (0, v)]) (fun s => O) (fun s => s.1 ≤ xs.length ∧ s.2 ≤ 1125899908153343 ∧ capSum 1048575 ((xs.map logSize).drop s.1) s.2 = logsSize xs) (fun s => xs.length - s.1) (0, xs.length) ⟨by simp, by omega, rfl⟩ (.c rfl (.c rfl (.c rfl .n))) rfl ?_
  rintro ⟨k, n⟩ ⟨i1, i2, i3⟩
  simp only at i1 i2 i3
  refine x_seq ?_
  refine x_seq ?_
  refine x_region rfl ?_
  refine o_y (y_move rfl) ?_
  refine o_y (y_move rfl) ?_
  refine o_y (y_lenA underlying22 rfl) ?_
  refine o_y (y_lss rfl rfl) ?_
  refine o_y (y_move rfl) ?_
  refine o_split 11 rfl (fun hg3_11 => ?_) (fun hg3_11 => ?_)
  · try simp only [kk] at hg3_11
    refine o_gy 11 rfl rfl (y_move rfl) ?_
    refine o_gy 11 rfl rfl (y_lss rfl rfl) ?_
    refine o_y (y_pick rfl rfl) ?_
    refine o_nil ?_
    refine x_cond rfl (fun hc0 => ?_) (fun hc0 => ?_)
    · try simp only [kk] at hc0
      have hk : k < xs.length := by omega
      have hn : n ≤ 1048575 := by omega
      refine x_skip ?_
      refine x_seq ?_
      refine x_block ?_
      refine x_region rfl ?_
      refine o_y (y_move rfl) ?_
      refine o_y (y_move rfl) ?_
      refine o_y (y_move rfl) ?_
      obtain ⟨ce20, ae20, re20⟩ := RdL.at h _ k hk
      have se20 := AtS.isSl ae20
      have te20 := re20
      obtain ⟨u20_1, z20, q20_0, q20_1⟩ := re20
      subst z20
      have w20 := Rep.one te20
      refine o_y (y_idxL h k hk underlying22 ti95 rfl rfl (by omega)) ?_
      have hu := logSize_le te20
      rw [capSum_step (by simpa using hk) hn] at i3
      simp only [List.getElem_map] at i3
      refine o_y (y_loadS ti95 rfl (by assumption) rfl (fun e => by cases e)) ?_
      refine o_call fn32 rfl (logSize_ok te20) ?_
      rintro _ _ _ ⟨rfl, rfl, rfl⟩
      refine o_y (y_addN rfl rfl (by omega) (by omega)) ?_
      refine o_y (y_assign rfl) ?_
      refine o_nil ?_
      refine x_region rfl ?_
      refine o_y (y_move rfl) ?_
      refine o_y (y_addN rfl rfl (by omega) (by omega)) ?_
      refine o_y (y_assign rfl) ?_
      refine o_nil ?_
      exact ⟨(k + 1, n + logSize xs[k]), 0, rfl, (.c rfl (.c rfl (.c rfl .n))), rfl, ⟨by omega, by omega, i3⟩, by simp only; omega⟩
    try simp only [kk] at hc0
    refine x_exit ?_
    refine x_seq ?_
    refine x_region rfl ?_
    refine o_y (y_move rfl) ?_
    refine o_y (y_assign rfl) ?_
    refine o_nil ?_
    have hf := capSum_end (lim := 1048575) (n := n) (i := k) (ls := xs.map logSize) (by simp only [List.length_map]; omega)
    rw [hf] at i3
    refine x_ret ?_
    refine x_fin 0 (ret1 rfl rfl) ?_
    rw [i3]; exact ⟨rfl, rfl, rfl⟩
  try simp only [kk] at hg3_11
  refine o_gn 11 rfl rfl rfl ?_
  refine o_gn 11 rfl rfl rfl ?_
  refine o_y (y_pick rfl rfl) ?_
  refine o_nil ?_
  refine x_condF rfl ?_
  refine x_exit ?_
  refine x_seq ?_
  refine x_region rfl ?_
  refine o_y (y_move rfl) ?_
  refine o_y (y_assign rfl) ?_
  refine o_nil ?_
  have hf := capSum_end (lim := 1048575) (n := n) (i := k) (ls := xs.map logSize) (by simp only [List.length_map]; omega)
  rw [hf] at i3
  refine x_ret ?_
  refine x_fin 0 (ret1 rfl rfl) ?_
  rw [i3]; exact ⟨rfl, rfl, rfl⟩
end Go.Ph
set_option linter.unusedVariables false
set_option linter.unusedSimpArgs false
set_option maxRecDepth 100000
namespace Go.Ph
open Go Go.RowKit Go.Proofs.YtmgnagpgnoikfaaGreatDoor Go.Proofs.Tryz
def beyondI : List Int → Int → Bool
  | [], _ => false
  | x :: xs, n => if x < 0 ∨ 262144 < x then true else if 262144 < n + x then true else beyondI xs (n + x)
theorem beyondI_step {xs : List Int} {k : Nat} (h : k < xs.length) (n : Int) : beyondI (xs.drop k) n = if xs[k] < 0 ∨ 262144 < xs[k] then true else if 262144 < n + xs[k] then true else beyondI (xs.drop (k + 1)) (n + xs[k]) := by
  rw [List.drop_eq_getElem_cons h, beyondI]
theorem beyond_ok {B : World} {H : HM} {O : OL} {v : Value} {xs : List Int} (h : RdL H v xs) : CallsM prog 5 [v].toArray B H O (Same (.bool (beyondI xs 0)) H O) := by
  have hs := h.lenle
  refine enter func5 rfl ntmps5 (l := [(0, _)]) rfl rfl ?_
  refine x_seq ?_
  refine x_region rfl ?_
  refine o_y (y_assign rfl) ?_
  refine o_nil ?_
  refine x_seq ?_
  refine x_region rfl ?_
  refine o_y (y_assign rfl) ?_
  refine o_nil ?_
  refine x_seq ?_
  refine x_seq ?_
  refine x_region rfl ?_
  refine o_y (y_assign rfl) ?_
  refine o_nil ?_
  refine x_block ?_
  refine x_loopf (σ := Nat × Int) (fun s => [(4, .int .i64 (s.1 : Int)), (3, .int .i64 s.2), (0, v)]) (fun s => O) (fun s => s.1 ≤ xs.length ∧ 0 ≤ s.2 ∧ s.2 ≤ 262144 ∧ beyondI (xs.drop s.1) s.2 = beyondI xs 0) (fun s => xs.length - s.1) (0, 0) ⟨by simp, by decide, by decide, rfl⟩ (.c rfl (.c rfl (.c rfl .n))) rfl ?_
  rintro ⟨k, n⟩ ⟨i1, i2, i3, i4⟩
  simp only at i1 i2 i3 i4
  refine x_seq ?_
  refine x_seq ?_
  refine x_region rfl ?_
  refine o_y (y_move rfl) ?_
  refine o_y (y_move rfl) ?_
  refine o_y (y_lenA underlying24 rfl) ?_
  refine o_y (y_lss rfl rfl) ?_
  refine o_nil ?_
  refine x_cond rfl (fun hc0 => ?_) (fun hc0 => ?_)
  · try simp only [kk] at hc0
    have hk : k < xs.length := by omega
    rw [beyondI_step hk] at i4
    refine x_skip ?_
    refine x_seq ?_
    refine x_block ?_
    refine x_seq ?_
    refine x_seq ?_
    refine x_region rfl ?_
    refine o_y (y_move rfl) ?_
    refine o_y (y_move rfl) ?_
    obtain ⟨ce13, ae13, re13⟩ := RdL.at h _ k hk
    have se13 := AtS.isSl ae13
    obtain ⟨rfl, q13⟩ := re13
    refine o_y (y_idxL h k hk underlying24 ti3 rfl rfl (by omega)) ?_
    refine o_y (y_loadS ti3 rfl (by assumption) rfl (fun _ => rfl)) ?_
    refine o_y (y_lss rfl rfl) ?_
    refine o_y (y_move rfl) ?_
    refine o_split 16 rfl (fun hg5_16 => ?_) (fun hg5_16 => ?_)
    · try simp only [kk] at hg5_16
      refine o_gn 16 rfl rfl rfl ?_
      refine o_gn 16 rfl rfl rfl ?_
      refine o_gn 16 rfl rfl rfl ?_
      refine o_gn 16 rfl rfl rfl ?_
      refine o_gn 16 rfl rfl rfl ?_
      refine o_y (y_pick rfl rfl) ?_
      refine o_nil ?_
      refine x_condT rfl ?_
      refine x_seq ?_
      refine x_region rfl ?_
      refine o_y (y_assign rfl) ?_
      refine o_nil ?_
      refine x_ret ?_
      refine x_fin 0 (ret1 rfl rfl) ?_
      rw [← i4, if_pos (by omega)]; exact ⟨rfl, rfl, rfl⟩
    try simp only [kk] at hg5_16
    refine o_gy 16 rfl rfl (y_move rfl) ?_
    refine o_gy 16 rfl rfl (y_move rfl) ?_
    obtain ⟨ce19, ae19, re19⟩ := RdL.at h _ k hk
    have se19 := AtS.isSl ae19
    obtain ⟨rfl, q19⟩ := re19
    refine o_gy 16 rfl rfl (y_idxL h k hk underlying24 ti3 rfl rfl (by omega)) ?_
    refine o_gy 16 rfl rfl (y_loadS ti3 rfl (by assumption) rfl (fun _ => rfl)) ?_
    refine o_gy 16 rfl rfl (y_gtr rfl rfl) ?_
    refine o_y (y_pick rfl rfl) ?_
    refine o_nil ?_
    refine x_cond rfl (fun hc1 => ?_) (fun hc1 => ?_)
    · try simp only [kk] at hc1
      refine x_seq ?_
      refine x_region rfl ?_
      refine o_y (y_assign rfl) ?_
      refine o_nil ?_
      refine x_ret ?_
      refine x_fin 0 (ret1 rfl rfl) ?_
      rw [← i4, if_pos (by omega)]; exact ⟨rfl, rfl, rfl⟩
    try simp only [kk] at hc1
    refine x_skip ?_
    refine x_seq ?_
    refine x_region rfl ?_
    refine o_y (y_move rfl) ?_
    refine o_y (y_move rfl) ?_
    refine o_y (y_move rfl) ?_
    obtain ⟨ce26, ae26, re26⟩ := RdL.at h _ k hk
    have se26 := AtS.isSl ae26
    obtain ⟨rfl, q26⟩ := re26
    refine o_y (y_idxL h k hk underlying24 ti3 rfl rfl (by omega)) ?_
    refine o_y (y_loadS ti3 rfl (by assumption) rfl (fun _ => rfl)) ?_
    refine o_y (y_addN rfl rfl (by omega) (by omega)) ?_
    refine o_y (y_assign rfl) ?_
    refine o_nil ?_
    refine x_seq ?_
    refine x_region rfl ?_
    refine o_y (y_move rfl) ?_
    refine o_y (y_gtr rfl rfl) ?_
    refine o_nil ?_
    refine x_cond rfl (fun hc2 => ?_) (fun hc2 => ?_)
    · try simp only [kk] at hc2
      refine x_seq ?_
      refine x_region rfl ?_
      refine o_y (y_assign rfl) ?_
      refine o_nil ?_
      refine x_ret ?_
      refine x_fin 0 (ret1 rfl rfl) ?_
      rw [← i4, if_neg (by omega), if_pos (by omega)]; exact ⟨rfl, rfl, rfl⟩
    try simp only [kk] at hc2
    refine x_skip ?_
    refine x_region rfl ?_
    refine o_y (y_move rfl) ?_
    refine o_y (y_addN rfl rfl (by omega) (by omega)) ?_
    refine o_y (y_assign rfl) ?_
    refine o_nil ?_
    rw [if_neg (by omega), if_neg (by omega)] at i4
    exact ⟨(k + 1, n + xs[k]), 0, rfl, (.c rfl (.c rfl (.c rfl .n))), rfl, ⟨by omega, by omega, by omega, i4⟩, by simp only; omega⟩
  try simp only [kk] at hc0
  refine x_exit ?_
  refine x_seq ?_
  refine x_region rfl ?_
  refine o_y (y_assign rfl) ?_
  refine o_nil ?_
  refine x_ret ?_
  refine x_fin 0 (ret1 rfl rfl) ?_
  rw [← i4, List.drop_eq_nil_of_le (by omega)]; exact ⟨rfl, rfl, rfl⟩
def takeB (c : Commit) : Bool := decide (0 ≤ c.epoch) && (decide (0 < c.next_.nodes.length) && checkB c.next_.nodes)
theorem takeable_ok {B : World} {H : HM} {O : OL} {cs : List Value} {c : Commit} (hT : TabAt H) (h : Rep.rd H cs c) : CallsM prog 41 [.agg cs.toArray].toArray B H O (Same (.bool (takeB c)) H O) := by
  obtain ⟨u6, u7, u8, u9, u12, rfl, h0, h1, h2, h3, h4, h5, h6, h7, h8, h9, h10, h11, h12, h13⟩ := h
  have hc := errI_cases (checkB c.next_.nodes)
  refine enter func41 rfl ntmps41 (l := [(0, _)]) rfl rfl ?_
  refine x_seq ?_
  refine x_region rfl ?_
  refine o_box rfl (cs := [_, _, _, _, _, _, _, _, _, _, _, _, _, _, _]) rfl (fun b1 => ?_)
  refine o_y (y_assign rfl) ?_
  refine o_nil ?_
  refine x_seq ?_
  refine x_region rfl ?_
  refine o_y (y_fieldAddr fd31_1 ti3 (by decide) rfl) ?_
  refine o_y (y_loadO ti3 rfl inn rfl) ?_
  refine o_y (y_geq rfl rfl) ?_
  refine o_y (y_move rfl) ?_
  refine o_split 6 rfl (fun hg1_6 => ?_) (fun hg1_6 => ?_)
  · try simp only [kk] at hg1_6
    refine o_gy 6 rfl rfl (y_fieldAddr fd31_12 ti29 (by decide) rfl) ?_
    refine o_gy 6 rfl rfl (y_fieldAddr fd29_0 ti27 (by decide) rfl) ?_
    refine o_gy 6 rfl rfl (y_loadO ti27 rfl inn rfl) ?_
    first | refine o_gy 6 rfl rfl (y_lenL (by assumption) underlying27 rfl) ?_ | refine o_gy 6 rfl rfl (y_lenR (by assumption) underlying27 rfl) ?_ | refine o_gy 6 rfl rfl (y_len underlying27 rfl) ?_
    refine o_gy 6 rfl rfl (y_gtr rfl rfl) ?_
    refine o_y (y_pick rfl rfl) ?_
    refine o_y (y_move rfl) ?_
    refine o_split 13 rfl (fun hg1_13 => ?_) (fun hg1_13 => ?_)
    · try simp only [kk] at hg1_13
      refine o_gy 13 rfl rfl (y_fieldAddr fd31_12 ti29 (by decide) rfl) ?_
      refine o_gy 13 rfl rfl (y_loadP ti29 rfl inn (cs := [_]) rfl rfl) ?_
      refine o_gcall 13 rfl rfl fn178 rfl (check_ok hT h11) ?_
      rintro _ _ _ ⟨rfl, rfl, rfl⟩
      refine o_gy 13 rfl rfl (y_eql rfl rfl) ?_
      refine o_y (y_pick rfl rfl) ?_
      refine o_y (y_assign rfl) ?_
      refine o_nil ?_
      refine x_ret ?_
      refine x_fin 1 (ret1 rfl rfl) ?_
      refine ⟨?_, rfl, rfl⟩
      unfold takeB
      first
        | (rw [decide_eq_false (show ¬ 0 ≤ c.epoch by omega)]; rfl)
        | (rw [decide_eq_true (show 0 ≤ c.epoch by omega), decide_eq_false (show ¬ 0 < c.next_.nodes.length by omega)]; rfl)
        | (rw [decide_eq_true (show 0 ≤ c.epoch by omega), decide_eq_true (show 0 < c.next_.nodes.length by omega)]; rcases hc with ⟨e1, e2⟩ | ⟨e1, e2⟩ <;> rw [e1] <;> rfl)
    try simp only [kk] at hg1_13
    refine o_gn 13 rfl rfl rfl ?_
    refine o_gn 13 rfl rfl rfl ?_
    refine o_gn 13 rfl rfl rfl ?_
    refine o_gn 13 rfl rfl rfl ?_
    refine o_y (y_pick rfl rfl) ?_
    refine o_y (y_assign rfl) ?_
    refine o_nil ?_
    refine x_ret ?_
    refine x_fin 1 (ret1 rfl rfl) ?_
    refine ⟨?_, rfl, rfl⟩
    unfold takeB
    first
      | (rw [decide_eq_false (show ¬ 0 ≤ c.epoch by omega)]; rfl)
      | (rw [decide_eq_true (show 0 ≤ c.epoch by omega), decide_eq_false (show ¬ 0 < c.next_.nodes.length by omega)]; rfl)
      | (rw [decide_eq_true (show 0 ≤ c.epoch by omega), decide_eq_true (show 0 < c.next_.nodes.length by omega)]; rcases hc with ⟨e1, e2⟩ | ⟨e1, e2⟩ <;> rw [e1] <;> rfl)
  try simp only [kk] at hg1_6
  refine o_gn 6 rfl rfl rfl ?_
  refine o_gn 6 rfl rfl rfl ?_
  refine o_gn 6 rfl rfl rfl ?_
  refine o_gn 6 rfl rfl rfl ?_
  refine o_gn 6 rfl rfl rfl ?_
  refine o_y (y_pick rfl rfl) ?_
  refine o_y (y_move rfl) ?_
  refine o_gn 13 rfl rfl rfl ?_
  refine o_gn 13 rfl rfl rfl ?_
  refine o_gn 13 rfl rfl rfl ?_
  refine o_gn 13 rfl rfl rfl ?_
  refine o_y (y_pick rfl rfl) ?_
  refine o_y (y_assign rfl) ?_
  refine o_nil ?_
  refine x_ret ?_
  refine x_fin 1 (ret1 rfl rfl) ?_
  refine ⟨?_, rfl, rfl⟩
  unfold takeB
  first
    | (rw [decide_eq_false (show ¬ 0 ≤ c.epoch by omega)]; rfl)
    | (rw [decide_eq_true (show 0 ≤ c.epoch by omega), decide_eq_false (show ¬ 0 < c.next_.nodes.length by omega)]; rfl)
    | (rw [decide_eq_true (show 0 ≤ c.epoch by omega), decide_eq_true (show 0 < c.next_.nodes.length by omega)]; rcases hc with ⟨e1, e2⟩ | ⟨e1, e2⟩ <;> rw [e1] <;> rfl)
def searchN (p : Nat → Bool) (i j : Nat) : Nat :=
  if h : i < j then (if p ((i + j) / 2) = true then searchN p i ((i + j) / 2) else searchN p ((i + j) / 2 + 1) j) else i
termination_by j - i
decreasing_by all_goals omega
theorem half_ok (m : Nat) (h : m ≤ 1125899906842624) : IntKind.i64.wrap (ishr .u64 (IntKind.u64.wrap (m : Int)) 1) = ((m / 2 : Nat) : Int) := by
  have e1 : IntKind.u64.wrap (m : Int) = m := by
    unfold IntKind.wrap
    simp [IntKind.bits, IntKind.signed]
    omega
  rw [e1]
  unfold ishr
  have e2 : (m : Int).fdiv (2 ^ (min (1 : Int).toNat IntKind.u64.bits)) = ((m / 2 : Nat) : Int) := by
    rw [show (2 : Int) ^ (min (1 : Int).toNat IntKind.u64.bits) = ((2 : Nat) : Int) from rfl]
    rw [Int.fdiv_eq_ediv_of_nonneg _ (by decide)]
    exact (Int.natCast_ediv m 2).symm
  rw [e2]
  exact wrap_id (by omega) (by omega)
theorem search_ok {B : World} {H : HM} {O : OL} {F : FuncId} {us cs : Array Value} {n : Nat} {p : Nat → Bool} (hn : n ≤ 140737488355328) (hF : FnOk prog F) (hp : ∀ i, i < n → CallsM prog F (us ++ ([.int .i64 (i : Int)] : List Value).reverse.toArray ++ cs) B H O (Same (.bool (p i)) H O)) :
    CallsM prog 179 [.int .i64 (n : Int), .func (.func F) us cs].toArray B H O (Same (.int .i64 (searchN p 0 n : Nat)) H O) := by
  refine enter func179 rfl ntmps179 (l := [(0, _), (1, _)]) rfl rfl ?_
  refine x_seq ?_
  refine x_region rfl ?_
  refine o_y (y_assign rfl) ?_
  refine o_nil ?_
  refine x_seq ?_
  refine x_region rfl ?_
  refine o_y (y_move rfl) ?_
  refine o_y (y_assign rfl) ?_
  refine o_y (y_assign rfl) ?_
  refine o_nil ?_
  refine x_seq ?_
  refine x_block ?_
  refine x_loopf (σ := Nat × Nat) (fun s => [(6, .int .i64 (s.2 : Int)), (5, .int .i64 (s.1 : Int)), (1, .func (.func F) us cs)]) (fun s => O) (fun s => s.1 ≤ s.2 ∧ s.2 ≤ n ∧ searchN p s.1 s.2 = searchN p 0 n) (fun s => s.2 - s.1) (0, n) ⟨by simp, by simp, rfl⟩ (.c rfl (.c rfl (.c rfl .n))) rfl ?_
  rintro ⟨i, j⟩ ⟨i1, i2, i3⟩
  simp only at i1 i2 i3
  refine x_seq ?_
  refine x_seq ?_
  refine x_region rfl ?_
  refine o_y (y_move rfl) ?_
  refine o_y (y_move rfl) ?_
  refine o_y (y_lss rfl rfl) ?_
  refine o_nil ?_
  refine x_cond rfl (fun hc0 => ?_) (fun hc0 => ?_)
  · try simp only [kk] at hc0
    have hij : i < j := by omega
    have hh : IntKind.i64.wrap (ishr .u64 (IntKind.u64.wrap (((i, j).fst + (i, j).snd : Int))) 1) = (((i + j) / 2 : Nat) : Int) := half_ok (i + j) (by omega)
    rw [searchN, dif_pos hij] at i3
    obtain ⟨h, hhe⟩ : ∃ h, h = (i + j) / 2 := ⟨_, rfl⟩
    have hr : i ≤ h ∧ h < j := by omega
    rw [← hhe] at i3 hh
    clear hhe
    refine x_skip ?_
    refine x_block ?_
    refine x_seq ?_
    refine x_region rfl ?_
    refine o_y (y_move rfl) ?_
    refine o_y (y_move rfl) ?_
    refine o_y (y_addN rfl rfl (by omega) (by omega)) ?_
    refine o_y (y_conv underlying3 underlying120 rfl) ?_
    refine o_y (y_shr rfl rfl (by omega)) ?_
    refine o_y (y_conv underlying120 underlying3 rfl) ?_
    rw [hh]
    refine o_y (y_assign rfl) ?_
    refine o_nil ?_
    refine x_seq ?_
    refine x_region rfl ?_
    refine o_y (y_move rfl) ?_
    refine o_y (y_move rfl) ?_
    refine o_callV (by assumption) rfl rfl (hp h (by omega)) ?_
    rintro _ _ _ ⟨rfl, rfl, rfl⟩
    refine o_y (y_not rfl) ?_
    refine o_nil ?_
    refine x_cond rfl (fun hc1 => ?_) (fun hc1 => ?_)
    · try simp only [kk] at hc1
      refine x_region rfl ?_
      refine o_y (y_move rfl) ?_
      refine o_y (y_addN rfl rfl (by omega) (by omega)) ?_
      refine o_y (y_assign rfl) ?_
      refine o_nil ?_
      rcases hph : p h with _ | _
      · first
        | (exfalso; simp_all; done)
        | (rw [if_neg (by simp [hph])] at i3
           exact ⟨(h + 1, j), 0, rfl, (.c rfl (.c rfl (.c rfl .n))), rfl, ⟨by simp only; omega, i2, i3⟩, by simp only; omega⟩)
      first
      | (exfalso; simp_all; done)
      | (rw [if_pos (by simp [hph])] at i3
         exact ⟨(i, h), 0, rfl, (.c rfl (.c rfl (.c rfl .n))), rfl, ⟨by simp only; omega, by simp only; omega, i3⟩, by simp only; omega⟩)
    try simp only [kk] at hc1
    refine x_region rfl ?_
    refine o_y (y_move rfl) ?_
    refine o_y (y_assign rfl) ?_
    refine o_nil ?_
    rcases hph : p h with _ | _
    · first
      | (exfalso; simp_all; done)
      | (rw [if_neg (by simp [hph])] at i3
         exact ⟨(h + 1, j), 0, rfl, (.c rfl (.c rfl (.c rfl .n))), rfl, ⟨by simp only; omega, i2, i3⟩, by simp only; omega⟩)
    first
    | (exfalso; simp_all; done)
    | (rw [if_pos (by simp [hph])] at i3
       exact ⟨(i, h), 0, rfl, (.c rfl (.c rfl (.c rfl .n))), rfl, ⟨by simp only; omega, by simp only; omega, i3⟩, by simp only; omega⟩)
  try simp only [kk] at hc0
  refine x_exit ?_
  refine x_seq ?_
  refine x_region rfl ?_
  refine o_y (y_move rfl) ?_
  refine o_y (y_assign rfl) ?_
  refine o_nil ?_
  refine x_ret ?_
  refine x_fin 0 (ret1 rfl rfl) ?_
  rw [searchN, dif_neg (by omega)] at i3
  rw [i3]; exact ⟨rfl, rfl, rfl⟩
theorem searchN_le (p : Nat → Bool) (i j : Nat) (h : i ≤ j) : i ≤ searchN p i j ∧ searchN p i j ≤ j := by
  rw [searchN]; split
  · split
    · have := searchN_le p i ((i + j) / 2) (by omega); omega
    have := searchN_le p ((i + j) / 2 + 1) j (by omega); omega
  omega
termination_by j - i
theorem searchN_spec (p : Nat → Bool) (n : Nat) (hm : ∀ a b, a ≤ b → b < n → p a = true → p b = true) (i j : Nat) (hij : i ≤ j) (hj : j ≤ n) (h1 : ∀ k, k < i → p k = false) (h2 : ∀ k, j ≤ k → k < n → p k = true) :
    (∀ k, k < searchN p i j → p k = false) ∧ (∀ k, searchN p i j ≤ k → k < n → p k = true) := by
  rw [searchN]; split
  · split
    · exact searchN_spec p n hm i ((i + j) / 2) (by omega) (by omega) h1 (fun k hk hn => hm _ _ hk hn (by assumption))
    refine searchN_spec p n hm ((i + j) / 2 + 1) j (by omega) (by omega) (fun k hk => ?_) h2
    cases hp : p k with
    | false => rfl
    | true => exact absurd (hm k ((i + j) / 2) (by omega) (by omega) hp) (by assumption)
  have : i = j := by omega
  subst this; exact ⟨h1, h2⟩
termination_by j - i
def grpAt (xs : List Log) (k : Nat) : Int := (xs.getD k default).group
def placeP (xs : List Log) (g : Int) (k : Nat) : Bool := decide (g ≤ grpAt xs k)
def placeN (xs : List Log) (g : Int) : Nat := searchN (placeP xs g) 0 xs.length
def foundB (xs : List Log) (g : Int) : Bool := decide (placeN xs g < xs.length ∧ grpAt xs (placeN xs g) = g)
theorem grpAt_eq {xs : List Log} {k : Nat} (h : k < xs.length) : grpAt xs k = xs[k].group := by simp [grpAt, List.getD_eq_getElem?_getD, h]
theorem place1_ok {B : World} {H : HM} {O : OL} {v : Value} {xs : List Log} {g : Int} {b2 b3 : Nat} (h : RdL H v xs) (hg : InR g) (hb2 : In O b2 (cl [v] 22)) (hb3 : In O b3 (cl [.int .i64 g] 3)) (i : Nat) (hi : i < xs.length) :
    CallsM prog 180 [.int .i64 (i : Int), .pointer (some ⟨b2, 0, none⟩), .pointer (some ⟨b3, 0, none⟩)].toArray B H O (Same (.bool (placeP xs g i)) H O) := by
  have hs := h.lenle
  refine enter func180 rfl ntmps180 (l := [(0, _), (1, _), (2, _)]) rfl rfl ?_
  refine x_seq ?_
  refine x_region rfl ?_
  refine o_y (y_assign rfl) ?_
  refine o_nil ?_
  refine x_seq ?_
  refine x_regionQ mixed (by kernel_rfl) rfl ?_
  refine q_y (y_loadO ti22 rfl inn rfl) ?_
  refine q_y (y_move rfl) ?_
  obtain ⟨ce7, ae7, re7⟩ := RdL.at h _ i hi
  have se7 := AtS.isSl ae7
  have te7 := re7
  obtain ⟨u7_1, z7, q7_0, q7_1⟩ := re7
  subst z7
  have w7 := Rep.one te7
  refine q_y (y_idxL h i hi underlying22 ti95 rfl rfl (by omega)) ?_
  refine q_y (y_fieldAddrP fd95_0 ti3 (by decide) (by assumption) rfl) ?_
  refine q_y (y_loadS1 ti3 rfl (by assumption) rfl) ?_
  refine q_y (y_loadO ti3 rfl inn rfl) ?_
  refine q_y (y_geq rfl rfl) ?_
  refine q_y (y_assign rfl) ?_
  refine q_nil ?_
  refine x_ret ?_
  refine x_fin 0 (ret1 rfl rfl) ?_
  rw [placeP, grpAt_eq hi]; exact ⟨rfl, rfl, rfl⟩
theorem place_ok {B : World} {H : HM} {O : OL} {v : Value} {xs : List Log} {g : Int} (h : RdL H v xs) (hg : InR g) : CallsM prog 42 [v, .int .i64 g].toArray B H O (Same (.tuple #[.int .i64 (placeN xs g : Nat), .bool (foundB xs g)]) H O) := by
  have hs := h.lenle
  have hle := (searchN_le (placeP xs g) 0 xs.length (by omega)).2
  have e : placeN xs g = searchN (placeP xs g) 0 xs.length := rfl
  rw [← e] at hle
  obtain ⟨pv, cv, rfl⟩ := h.shape
  refine enter func42 rfl ntmps42 (l := [(0, _), (1, _)]) rfl rfl ?_
  refine x_seq ?_
  refine x_region rfl ?_
  refine o_box rfl (cs := [_]) rfl (fun b2 => ?_)
  refine o_box rfl (cs := [_]) rfl (fun b3 => ?_)
  refine o_y (y_assign rfl) ?_
  refine o_y (y_assign rfl) ?_
  refine o_nil ?_
  refine x_seq ?_
  refine x_region rfl ?_
  refine o_y (y_loadO ti22 rfl inn rfl) ?_
  refine o_y (y_lenA underlying22 rfl) ?_
  refine o_y (y_func rfl rfl) ?_
  refine o_call fn179 rfl (search_ok (p := placeP xs g) (by omega) fn180 (fun i hi => place1_ok h hg (.s .z) .z i hi)) ?_
  rintro _ _ _ ⟨rfl, rfl, rfl⟩
  rw [← e]
  refine o_y (y_assign rfl) ?_
  refine o_nil ?_
  refine x_seq ?_
  refine x_regionQ mixed (by kernel_rfl) rfl ?_
  refine q_y (y_move rfl) ?_
  refine q_y (y_move rfl) ?_
  refine q_y (y_loadO ti22 rfl inn rfl) ?_
  first | refine q_y (y_lenL (by assumption) underlying22 rfl) ?_ | refine q_y (y_lenR (by assumption) underlying22 rfl) ?_ | refine q_y (y_len underlying22 rfl) ?_
  refine q_y (y_lss rfl rfl) ?_
  refine q_y (y_move rfl) ?_
  refine q_split 16 rfl (fun hg2_16 => ?_) (fun hg2_16 => ?_)
  · try simp only [kk] at hg2_16
    have hk : placeN xs g < xs.length := by omega
    refine q_gy 16 rfl rfl (y_loadO ti22 rfl inn rfl) ?_
    refine q_gy 16 rfl rfl (y_move rfl) ?_
    obtain ⟨ce19, ae19, re19⟩ := RdL.at h _ (placeN xs g) hk
    have se19 := AtS.isSl ae19
    have te19 := re19
    obtain ⟨u19_1, z19, q19_0, q19_1⟩ := re19
    subst z19
    have w19 := Rep.one te19
    refine q_gy 16 rfl rfl (y_idxL h (placeN xs g) hk underlying22 ti95 rfl rfl (by omega)) ?_
    refine q_gy 16 rfl rfl (y_fieldAddrP fd95_0 ti3 (by decide) (by assumption) rfl) ?_
    refine q_gy 16 rfl rfl (y_loadS1 ti3 rfl (by assumption) rfl) ?_
    refine q_gy 16 rfl rfl (y_loadO ti3 rfl inn rfl) ?_
    refine q_gy 16 rfl rfl (y_eql rfl rfl) ?_
    refine q_y (y_pick rfl rfl) ?_
    refine q_y (y_assign rfl) ?_
    refine q_y (y_assign rfl) ?_
    refine q_nil ?_
    refine x_ret ?_
    refine x_fin 2 (ret2 rfl rfl rfl) ?_
    refine ⟨?_, rfl, rfl⟩
    first
      | (rw [foundB, grpAt_eq hk]; simp [hk]; done)
      | (rw [foundB, decide_eq_false (fun hh => absurd hh.1 (by omega))]; done)
  try simp only [kk] at hg2_16
  refine q_gn 16 rfl rfl rfl ?_
  refine q_gn 16 rfl rfl rfl ?_
  refine q_gn 16 rfl rfl rfl ?_
  refine q_gn 16 rfl rfl rfl ?_
  refine q_gn 16 rfl rfl rfl ?_
  refine q_gn 16 rfl rfl rfl ?_
  refine q_gn 16 rfl rfl rfl ?_
  refine q_y (y_pick rfl rfl) ?_
  refine q_y (y_assign rfl) ?_
  refine q_y (y_assign rfl) ?_
  refine q_nil ?_
  refine x_ret ?_
  refine x_fin 2 (ret2 rfl rfl rfl) ?_
  refine ⟨?_, rfl, rfl⟩
  first
    | (rw [foundB, grpAt_eq hk]; simp [hk]; done)
    | (rw [foundB, decide_eq_false (fun hh => absurd hh.1 (by omega))]; done)
end Go.Ph
set_option linter.unusedVariables false
set_option linter.unusedSimpArgs false
set_option maxRecDepth 100000
namespace Go.Ph
open Go Go.RowKit Go.Proofs.YtmgnagpgnoikfaaGreatDoor Go.Proofs.Tryz
def comAt (x : Log) (j : Nat) : Commit := x.commits.getD j default
def comOk (x : Log) (j : Nat) : Bool := decide ((comAt x j).group = x.group) && (decide ((comAt x j).epoch = j) && takeB (comAt x j))
def comsOk (x : Log) : Bool := (List.range x.commits.length).all (comOk x)
def logAt (xs : List Log) (i : Nat) : Log := xs.getD i default
def logOk (xs : List Log) (i : Nat) : Bool := decide (0 < (logAt xs i).commits.length) && ((decide (i = 0) || decide (grpAt xs (i - 1) < grpAt xs i)) && comsOk (logAt xs i))
def lcheckB (xs : List Log) : Bool := decide (xs.length ≤ 16) && (List.range xs.length).all (logOk xs)
theorem comAt_eq {x : Log} {j : Nat} (h : j < x.commits.length) : comAt x j = x.commits[j] := by simp [comAt, List.getD_eq_getElem?_getD, h]
theorem logAt_eq {xs : List Log} {j : Nat} (h : j < xs.length) : logAt xs j = xs[j] := by simp [logAt, List.getD_eq_getElem?_getD, h]
theorem comOk_spec {x : Log} {j : Nat} (h : j < x.commits.length) : comOk x j = (decide (x.commits[j].group = x.group) && (decide (x.commits[j].epoch = j) && takeB x.commits[j])) := by rw [comOk, comAt_eq h]
theorem comsOk_no {x : Log} {j : Nat} (hj : j < x.commits.length) (h : comOk x j = false) : comsOk x = false := by
  rw [comsOk, List.all_eq_false]; exact ⟨j, List.mem_range.2 hj, by simp [h]⟩
theorem comsOk_yes {x : Log} (h : ∀ j, j < x.commits.length → comOk x j = true) : comsOk x = true := by
  rw [comsOk, List.all_eq_true]; exact fun j hj => h j (List.mem_range.1 hj)
theorem lcheckB_no {xs : List Log} {k : Nat} (hk : k < xs.length) (h : logOk xs k = false) : lcheckB xs = false := by
  have : (List.range xs.length).all (logOk xs) = false := by rw [List.all_eq_false]; exact ⟨k, List.mem_range.2 hk, by simp [h]⟩
  rw [lcheckB, this, Bool.and_false]
theorem lcheckB_yes {xs : List Log} (h : xs.length ≤ 16) (h2 : ∀ j, j < xs.length → logOk xs j = true) : lcheckB xs = true := by
  have : (List.range xs.length).all (logOk xs) = true := by rw [List.all_eq_true]; exact fun j hj => h2 j (List.mem_range.1 hj)
  rw [lcheckB, this, decide_eq_true h]; rfl
theorem lcheck_ok {B : World} {H : HM} {O : OL} {v : Value} {xs : List Log} (hT : TabAt H) (h : RdL H v xs) : CallsM prog 25 [v].toArray B H O (Same (.int .i64 (errI (lcheckB xs))) H O) := by
  have hs := h.lenle
  refine enter func25 rfl ntmps25 (l := [(0, _)]) rfl rfl ?_
  refine x_seq ?_
  refine x_region rfl ?_
  refine o_y (y_assign rfl) ?_
  refine o_nil ?_
  refine x_seq ?_
  refine x_seq ?_
  refine x_region rfl ?_
  refine o_y (y_move rfl) ?_
  refine o_y (y_lenA underlying22 rfl) ?_
  refine o_y (y_gtr rfl rfl) ?_
  refine o_nil ?_
  refine x_cond rfl (fun hc0 => ?_) (fun hc0 => ?_)
  · try simp only [kk] at hc0
    refine x_seq ?_
    refine x_region rfl ?_
    refine o_y (y_assign rfl) ?_
    refine o_nil ?_
    refine x_ret ?_
    refine x_fin 0 (ret1 rfl rfl) ?_
    rw [lcheckB, decide_eq_false (by omega)]; exact ⟨rfl, rfl, rfl⟩
  try simp only [kk] at hc0
  refine x_skip ?_
  refine x_seq ?_
  refine x_seq ?_
  refine x_region rfl ?_
  refine o_y (y_move rfl) ?_
  refine o_y (y_lenA underlying22 rfl) ?_
  refine o_y (y_move rfl) ?_
  refine o_nil ?_
  refine x_block ?_
  refine x_loopf (σ := Nat) (fun s => [(12, .int .i64 (s : Int)), (11, .int .i64 (xs.length : Int)), (10, v), (0, v)]) (fun s => O) (fun s => s ≤ xs.length ∧ ∀ j, j < s → logOk xs j = true) (fun s => xs.length - s) 0 ⟨by simp, fun j hj => by omega⟩ (.c rfl (.c rfl (.c rfl (.c rfl .n)))) rfl ?_
  rintro k ⟨i1, i2⟩
  refine x_seq ?_
  refine x_region rfl ?_
  refine o_y (y_lss rfl rfl) ?_
  refine o_nil ?_
  refine x_seq ?_
  refine x_cond rfl (fun hc1 => ?_) (fun hc1 => ?_)
  · try simp only [kk] at hc1
    have hk : k < xs.length := by omega
    have el := logAt_eq hk
    have eg := grpAt_eq hk
    refine x_skip ?_
    refine x_seq ?_
    refine x_block ?_
    refine x_seq ?_
    refine x_region rfl ?_
    refine o_y (y_move rfl) ?_
    obtain ⟨ce15, ae15, re15⟩ := RdL.at h _ k hk
    have se15 := AtS.isSl ae15
    have te15 := re15
    obtain ⟨u15_1, z15, q15_0, q15_1⟩ := re15
    subst z15
    have w15 := Rep.one te15
    refine o_y (y_idxL h k hk underlying22 ti95 rfl rfl (by omega)) ?_
    refine o_y (y_loadS ti95 rfl (by assumption) rfl (fun e => by cases e)) ?_
    refine o_alloc ti95 rfl (fun b4 => ?_)
    refine o_y (y_assign rfl) ?_
    refine o_store (u := [_, _]) (C' := [_, _]) ti95 rfl rfl rfl rfl (by first | rfl | assumption | (simp only [ones, List.all_cons, List.all_nil, Bool.and_true, one_of (by assumption)]; done)) (by repeat (first | exact .z | apply Upd.s | apply Upd.a)) (by exact Nat.le_of_ble_eq_true rfl) (by rfl) ?_
    refine o_nil ?_
    refine x_seq ?_
    refine x_seq ?_
    refine x_regionQ mixed (by kernel_rfl) rfl ?_
    refine q_y (y_fieldAddr fd95_1 ti93 (by decide) rfl) ?_
    refine q_y (y_loadO ti93 rfl inn rfl) ?_
    first | refine q_y (y_lenL (by assumption) underlying93 rfl) ?_ | refine q_y (y_lenR (by assumption) underlying93 rfl) ?_ | refine q_y (y_len underlying93 rfl) ?_
    refine q_y (y_eql rfl rfl) ?_
    refine q_y (y_move rfl) ?_
    refine q_split 21 rfl (fun hg6_21 => ?_) (fun hg6_21 => ?_)
    · try simp only [kk] at hg6_21
      refine q_gn 21 rfl rfl rfl ?_
      refine q_gn 21 rfl rfl rfl ?_
      refine q_gn 21 rfl rfl rfl ?_
      refine q_gu 24 rfl rfl ?_
      refine q_gu 24 rfl rfl ?_
      refine q_gu 24 rfl rfl ?_
      refine q_gu 24 rfl rfl ?_
      refine q_gu 24 rfl rfl ?_
      refine q_gu 24 rfl rfl ?_
      refine q_gu 24 rfl rfl ?_
      refine q_gu 24 rfl rfl ?_
      refine q_gu 24 rfl rfl ?_
      refine q_gn 21 rfl rfl rfl ?_
      refine q_y (y_pick rfl rfl) ?_
      refine q_nil ?_
      refine x_condT rfl ?_
      refine x_seq ?_
      refine x_region rfl ?_
      refine o_y (y_assign rfl) ?_
      refine o_nil ?_
      refine x_ret ?_
      refine x_fin 1 (ret1 rfl rfl) ?_
      have hb : logOk xs k = false := by
        unfold logOk
        rw [el]
        first
          | (rw [decide_eq_false (show ¬ 0 < xs[k].commits.length by omega)]; rfl)
          | (have e9 : ¬ grpAt xs (k - 1) < grpAt xs k := by rw [grpAt_eq hk, grpAt_eq (show k - 1 < xs.length by omega)]; omega
             rw [decide_eq_false (show ¬ k = 0 by omega), decide_eq_false e9]; cases decide (0 < xs[k].commits.length) <;> rfl)
      rw [lcheckB_no hk hb]; exact ⟨rfl, rfl, rfl⟩
    try simp only [kk] at hg6_21
    refine q_gy 21 rfl rfl (y_move rfl) ?_
    refine q_gy 21 rfl rfl (y_gtr rfl rfl) ?_
    refine q_gy 21 rfl rfl (y_move rfl) ?_
    refine q_split 24 rfl (fun hg6_24 => ?_) (fun hg6_24 => ?_)
    · try simp only [kk] at hg6_24
      refine q_gy 24 rfl rfl (y_fieldAddr fd95_0 ti3 (by decide) rfl) ?_
      refine q_gy 24 rfl rfl (y_loadO ti3 rfl inn rfl) ?_
      refine q_gy 24 rfl rfl (y_move rfl) ?_
      refine q_gy 24 rfl rfl (y_move rfl) ?_
      refine q_gy 24 rfl rfl (y_subN rfl rfl (by omega) (by omega)) ?_
      obtain ⟨ce30, ae30, re30⟩ := RdL.at h _ (k - 1) (by omega)
      have se30 := AtS.isSl ae30
      have te30 := re30
      obtain ⟨u30_1, z30, q30_0, q30_1⟩ := re30
      subst z30
      have w30 := Rep.one te30
      refine q_gy 24 rfl rfl (y_idxL h (k - 1) (by omega) underlying22 ti95 rfl rfl (by omega)) ?_
      refine q_gy 24 rfl rfl (y_fieldAddrP fd95_0 ti3 (by decide) (by assumption) rfl) ?_
      refine q_gy 24 rfl rfl (y_loadS1 ti3 rfl (by assumption) rfl) ?_
      refine q_gy 24 rfl rfl (y_leq rfl rfl) ?_
      refine q_gy 21 rfl rfl (y_pick rfl rfl) ?_
      refine q_y (y_pick rfl rfl) ?_
      refine q_nil ?_
      refine x_cond rfl (fun hc2 => ?_) (fun hc2 => ?_)
      · try simp only [kk] at hc2
        refine x_seq ?_
        refine x_region rfl ?_
        refine o_y (y_assign rfl) ?_
        refine o_nil ?_
        refine x_ret ?_
        refine x_fin 1 (ret1 rfl rfl) ?_
        have hb : logOk xs k = false := by
          unfold logOk
          rw [el]
          first
            | (rw [decide_eq_false (show ¬ 0 < xs[k].commits.length by omega)]; rfl)
            | (have e9 : ¬ grpAt xs (k - 1) < grpAt xs k := by rw [grpAt_eq hk, grpAt_eq (show k - 1 < xs.length by omega)]; omega
               rw [decide_eq_false (show ¬ k = 0 by omega), decide_eq_false e9]; cases decide (0 < xs[k].commits.length) <;> rfl)
        rw [lcheckB_no hk hb]; exact ⟨rfl, rfl, rfl⟩
      try simp only [kk] at hc2
      refine x_skip ?_
      refine x_seq ?_
      refine x_region rfl ?_
      refine o_y (y_fieldAddr fd95_1 ti93 (by decide) rfl) ?_
      refine o_y (y_loadO ti93 rfl inn rfl) ?_
      refine o_y (y_lenA underlying93 rfl) ?_
      refine o_y (y_move rfl) ?_
      refine o_nil ?_
      refine x_block ?_
      refine x_loopf (σ := Nat) (fun s => [(39, .int .i64 (s : Int)), (38, .int .i64 (xs[k].commits.length : Int)), (37, u15_1), (12, .int .i64 (k : Int)), (11, .int .i64 (xs.length : Int)), (10, v), (0, v), (4, .pointer (some ⟨b4, 0, none⟩))]) (fun s => _) (fun s => s ≤ xs[k].commits.length ∧ ∀ j, j < s → comOk xs[k] j = true) (fun s => xs[k].commits.length - s) 0 ⟨by simp, fun j hj => by omega⟩ (.c rfl (.c rfl (.c rfl (.c rfl (.c rfl (.c rfl (.c rfl (.c rfl .n)))))))) rfl ?_
      rintro m ⟨i3, i4⟩
      refine x_seq ?_
      refine x_region rfl ?_
      refine o_y (y_lss rfl rfl) ?_
      refine o_nil ?_
      refine x_seq ?_
      refine x_cond rfl (fun hc3 => ?_) (fun hc3 => ?_)
      · try simp only [kk] at hc3
        have hml := q15_1.lenle
        have hm : m < xs[k].commits.length := by omega
        have em := comOk_spec hm
        refine x_skip ?_
        refine x_seq ?_
        refine x_block ?_
        refine x_seq ?_
        refine x_region rfl ?_
        refine o_y (y_move rfl) ?_
        obtain ⟨ce42, ae42, re42⟩ := RdL.at q15_1 _ m hm
        have se42 := AtS.isSl ae42
        have te42 := re42
        obtain ⟨u42_6, u42_7, u42_8, u42_9, u42_12, z42, q42_0, q42_1, q42_2, q42_3, q42_4, q42_5, q42_6, q42_7, q42_8, q42_9, q42_10, q42_11, q42_12, q42_13⟩ := re42
        subst z42
        have w42 := Rep.one te42
        refine o_y (y_idxL q15_1 m hm underlying93 ti31 rfl rfl (by omega)) ?_
        refine o_y (y_loadS ti31 rfl (by assumption) rfl (fun e => by cases e)) ?_
        refine o_alloc ti31 rfl (fun b6 => ?_)
        refine o_y (y_assign rfl) ?_
        refine o_store (u := [_, _, _, _, _, _, _, _, _, _, _, _, _, _, _]) (C' := [_, _, _, _, _, _, _, _, _, _, _, _, _, _, _]) ti31 rfl rfl rfl rfl (by first | rfl | assumption | (simp only [ones, List.all_cons, List.all_nil, Bool.and_true, one_of (by assumption)]; done)) (by repeat (first | exact .z | apply Upd.s | apply Upd.a)) (by exact Nat.le_of_ble_eq_true rfl) (by rfl) ?_
        refine o_nil ?_
        refine x_seq ?_
        refine x_region rfl ?_
        refine o_y (y_fieldAddr fd31_0 ti3 (by decide) rfl) ?_
        refine o_y (y_loadO ti3 rfl inn rfl) ?_
        refine o_y (y_fieldAddr fd95_0 ti3 (by decide) rfl) ?_
        refine o_y (y_loadO ti3 rfl inn rfl) ?_
        refine o_y (y_neq rfl rfl) ?_
        refine o_y (y_move rfl) ?_
        refine o_split 49 rfl (fun hg11_49 => ?_) (fun hg11_49 => ?_)
        · try simp only [kk] at hg11_49
          refine o_gn 49 rfl rfl rfl ?_
          refine o_gn 49 rfl rfl rfl ?_
          refine o_gn 49 rfl rfl rfl ?_
          refine o_gn 49 rfl rfl rfl ?_
          refine o_y (y_pick rfl rfl) ?_
          refine o_y (y_move rfl) ?_
          refine o_gn 55 rfl rfl rfl ?_
          refine o_gn 55 rfl rfl rfl ?_
          refine o_gn 55 rfl rfl rfl ?_
          refine o_y (y_pick rfl rfl) ?_
          refine o_nil ?_
          refine x_condT rfl ?_
          refine x_seq ?_
          refine x_region rfl ?_
          refine o_y (y_assign rfl) ?_
          refine o_nil ?_
          refine x_ret ?_
          refine x_fin 2 (ret1 rfl rfl) ?_
          have hb : comOk xs[k] m = false := by
            rw [em]
            first
              | (rw [decide_eq_false (show ¬ xs[k].commits[m].group = xs[k].group by omega)]; rfl)
              | (rw [decide_eq_false (show ¬ xs[k].commits[m].epoch = m by omega)]; simp; done)
              | (rw [show takeB xs[k].commits[m] = false by assumption]; simp)
          have hb2 : logOk xs k = false := by
            unfold logOk
            rw [el, comsOk_no hm hb]; simp
          rw [lcheckB_no hk hb2]; exact ⟨rfl, rfl, rfl⟩
        try simp only [kk] at hg11_49
        refine o_gy 49 rfl rfl (y_fieldAddr fd31_1 ti3 (by decide) rfl) ?_
        refine o_gy 49 rfl rfl (y_loadO ti3 rfl inn rfl) ?_
        refine o_gy 49 rfl rfl (y_move rfl) ?_
        refine o_gy 49 rfl rfl (y_neq rfl rfl) ?_
        refine o_y (y_pick rfl rfl) ?_
        refine o_y (y_move rfl) ?_
        refine o_split 55 rfl (fun hg11_55 => ?_) (fun hg11_55 => ?_)
        · try simp only [kk] at hg11_55
          refine o_gn 55 rfl rfl rfl ?_
          refine o_gn 55 rfl rfl rfl ?_
          refine o_gn 55 rfl rfl rfl ?_
          refine o_y (y_pick rfl rfl) ?_
          refine o_nil ?_
          refine x_condT rfl ?_
          refine x_seq ?_
          refine x_region rfl ?_
          refine o_y (y_assign rfl) ?_
          refine o_nil ?_
          refine x_ret ?_
          refine x_fin 2 (ret1 rfl rfl) ?_
          have hb : comOk xs[k] m = false := by
            rw [em]
            first
              | (rw [decide_eq_false (show ¬ xs[k].commits[m].group = xs[k].group by omega)]; rfl)
              | (rw [decide_eq_false (show ¬ xs[k].commits[m].epoch = m by omega)]; simp; done)
              | (rw [show takeB xs[k].commits[m] = false by assumption]; simp)
          have hb2 : logOk xs k = false := by
            unfold logOk
            rw [el, comsOk_no hm hb]; simp
          rw [lcheckB_no hk hb2]; exact ⟨rfl, rfl, rfl⟩
        try simp only [kk] at hg11_55
        refine o_gy 55 rfl rfl (y_loadA ti31 rfl inn rfl) ?_
        refine o_gcall 55 rfl rfl fn41 rfl (takeable_ok hT te42) ?_
        rintro _ _ _ ⟨rfl, rfl, rfl⟩
        refine o_gy 55 rfl rfl (y_not rfl) ?_
        refine o_y (y_pick rfl rfl) ?_
        refine o_nil ?_
        refine x_cond rfl (fun hc4 => ?_) (fun hc4 => ?_)
        · try simp only [kk] at hc4
          refine x_seq ?_
          refine x_region rfl ?_
          refine o_y (y_assign rfl) ?_
          refine o_nil ?_
          refine x_ret ?_
          refine x_fin 2 (ret1 rfl rfl) ?_
          have hb : comOk xs[k] m = false := by
            rw [em]
            first
              | (rw [decide_eq_false (show ¬ xs[k].commits[m].group = xs[k].group by omega)]; rfl)
              | (rw [decide_eq_false (show ¬ xs[k].commits[m].epoch = m by omega)]; simp; done)
              | (rw [show takeB xs[k].commits[m] = false by assumption]; simp)
          have hb2 : logOk xs k = false := by
            unfold logOk
            rw [el, comsOk_no hm hb]; simp
          rw [lcheckB_no hk hb2]; exact ⟨rfl, rfl, rfl⟩
        try simp only [kk] at hc4
        refine x_skip ?_
        refine x_region rfl ?_
        refine o_y (y_addN rfl rfl (by omega) (by omega)) ?_
        refine o_y (y_move rfl) ?_
        refine o_nil ?_
        have hb : comOk xs[k] m = true := by
          rw [em, decide_eq_true (show xs[k].commits[m].group = xs[k].group by omega), decide_eq_true (show xs[k].commits[m].epoch = m by omega), show takeB xs[k].commits[m] = true by assumption]; rfl
        exact ⟨m + 1, 1, rfl, (.c rfl (.c rfl (.c rfl (.c rfl (.c rfl (.c rfl (.c rfl (.c rfl .n)))))))), rfl, ⟨by omega, upto_succ i4 hb⟩, by omega⟩
      try simp only [kk] at hc3
      refine x_exit ?_
      refine x_region rfl ?_
      refine o_y (y_addN rfl rfl (by omega) (by omega)) ?_
      refine o_y (y_move rfl) ?_
      refine o_nil ?_
      have hb : logOk xs k = true := by
        unfold logOk
        rw [el, comsOk_yes (fun j hj => i4 j (by omega)), decide_eq_true (show 0 < xs[k].commits.length by omega)]
        first
          | (rw [decide_eq_true (show k = 0 by omega)]; rfl)
          | (have e9 : grpAt xs (k - 1) < grpAt xs k := by rw [grpAt_eq hk, grpAt_eq (show k - 1 < xs.length by omega)]; omega
             rw [decide_eq_true e9]; cases decide (k = 0) <;> rfl)
      exact ⟨k + 1, 1, rfl, (.c rfl (.c rfl (.c rfl (.c rfl .n)))), rfl, ⟨by omega, upto_succ i2 hb⟩, by omega⟩
    try simp only [kk] at hg6_24
    refine q_gn 24 rfl rfl rfl ?_
    refine q_gn 24 rfl rfl rfl ?_
    refine q_gn 24 rfl rfl rfl ?_
    refine q_gn 24 rfl rfl rfl ?_
    refine q_gn 24 rfl rfl rfl ?_
    refine q_gn 24 rfl rfl rfl ?_
    refine q_gn 24 rfl rfl rfl ?_
    refine q_gn 24 rfl rfl rfl ?_
    refine q_gn 24 rfl rfl rfl ?_
    refine q_gy 21 rfl rfl (y_pick rfl rfl) ?_
    refine q_y (y_pick rfl rfl) ?_
    refine q_nil ?_
    refine x_condF rfl ?_
    refine x_skip ?_
    refine x_seq ?_
    refine x_region rfl ?_
    refine o_y (y_fieldAddr fd95_1 ti93 (by decide) rfl) ?_
    refine o_y (y_loadO ti93 rfl inn rfl) ?_
    refine o_y (y_lenA underlying93 rfl) ?_
    refine o_y (y_move rfl) ?_
    refine o_nil ?_
    refine x_block ?_
    refine x_loopf (σ := Nat) (fun s => [(39, .int .i64 (s : Int)), (38, .int .i64 (xs[k].commits.length : Int)), (37, u15_1), (12, .int .i64 (k : Int)), (11, .int .i64 (xs.length : Int)), (10, v), (0, v), (4, .pointer (some ⟨b4, 0, none⟩))]) (fun s => _) (fun s => s ≤ xs[k].commits.length ∧ ∀ j, j < s → comOk xs[k] j = true) (fun s => xs[k].commits.length - s) 0 ⟨by simp, fun j hj => by omega⟩ (.c rfl (.c rfl (.c rfl (.c rfl (.c rfl (.c rfl (.c rfl (.c rfl .n)))))))) rfl ?_
    rintro m ⟨i3, i4⟩
    refine x_seq ?_
    refine x_region rfl ?_
    refine o_y (y_lss rfl rfl) ?_
    refine o_nil ?_
    refine x_seq ?_
    refine x_cond rfl (fun hc3 => ?_) (fun hc3 => ?_)
    · try simp only [kk] at hc3
      have hml := q15_1.lenle
      have hm : m < xs[k].commits.length := by omega
      have em := comOk_spec hm
      refine x_skip ?_
      refine x_seq ?_
      refine x_block ?_
      refine x_seq ?_
      refine x_region rfl ?_
      refine o_y (y_move rfl) ?_
      obtain ⟨ce42, ae42, re42⟩ := RdL.at q15_1 _ m hm
      have se42 := AtS.isSl ae42
      have te42 := re42
      obtain ⟨u42_6, u42_7, u42_8, u42_9, u42_12, z42, q42_0, q42_1, q42_2, q42_3, q42_4, q42_5, q42_6, q42_7, q42_8, q42_9, q42_10, q42_11, q42_12, q42_13⟩ := re42
      subst z42
      have w42 := Rep.one te42
      refine o_y (y_idxL q15_1 m hm underlying93 ti31 rfl rfl (by omega)) ?_
      refine o_y (y_loadS ti31 rfl (by assumption) rfl (fun e => by cases e)) ?_
      refine o_alloc ti31 rfl (fun b6 => ?_)
      refine o_y (y_assign rfl) ?_
      refine o_store (u := [_, _, _, _, _, _, _, _, _, _, _, _, _, _, _]) (C' := [_, _, _, _, _, _, _, _, _, _, _, _, _, _, _]) ti31 rfl rfl rfl rfl (by first | rfl | assumption | (simp only [ones, List.all_cons, List.all_nil, Bool.and_true, one_of (by assumption)]; done)) (by repeat (first | exact .z | apply Upd.s | apply Upd.a)) (by exact Nat.le_of_ble_eq_true rfl) (by rfl) ?_
      refine o_nil ?_
      refine x_seq ?_
      refine x_region rfl ?_
      refine o_y (y_fieldAddr fd31_0 ti3 (by decide) rfl) ?_
      refine o_y (y_loadO ti3 rfl inn rfl) ?_
      refine o_y (y_fieldAddr fd95_0 ti3 (by decide) rfl) ?_
      refine o_y (y_loadO ti3 rfl inn rfl) ?_
      refine o_y (y_neq rfl rfl) ?_
      refine o_y (y_move rfl) ?_
      refine o_split 49 rfl (fun hg11_49 => ?_) (fun hg11_49 => ?_)
      · try simp only [kk] at hg11_49
        refine o_gn 49 rfl rfl rfl ?_
        refine o_gn 49 rfl rfl rfl ?_
        refine o_gn 49 rfl rfl rfl ?_
        refine o_gn 49 rfl rfl rfl ?_
        refine o_y (y_pick rfl rfl) ?_
        refine o_y (y_move rfl) ?_
        refine o_gn 55 rfl rfl rfl ?_
        refine o_gn 55 rfl rfl rfl ?_
        refine o_gn 55 rfl rfl rfl ?_
        refine o_y (y_pick rfl rfl) ?_
        refine o_nil ?_
        refine x_condT rfl ?_
        refine x_seq ?_
        refine x_region rfl ?_
        refine o_y (y_assign rfl) ?_
        refine o_nil ?_
        refine x_ret ?_
        refine x_fin 2 (ret1 rfl rfl) ?_
        have hb : comOk xs[k] m = false := by
          rw [em]
          first
            | (rw [decide_eq_false (show ¬ xs[k].commits[m].group = xs[k].group by omega)]; rfl)
            | (rw [decide_eq_false (show ¬ xs[k].commits[m].epoch = m by omega)]; simp; done)
            | (rw [show takeB xs[k].commits[m] = false by assumption]; simp)
        have hb2 : logOk xs k = false := by
          unfold logOk
          rw [el, comsOk_no hm hb]; simp
        rw [lcheckB_no hk hb2]; exact ⟨rfl, rfl, rfl⟩
      try simp only [kk] at hg11_49
      refine o_gy 49 rfl rfl (y_fieldAddr fd31_1 ti3 (by decide) rfl) ?_
      refine o_gy 49 rfl rfl (y_loadO ti3 rfl inn rfl) ?_
      refine o_gy 49 rfl rfl (y_move rfl) ?_
      refine o_gy 49 rfl rfl (y_neq rfl rfl) ?_
      refine o_y (y_pick rfl rfl) ?_
      refine o_y (y_move rfl) ?_
      refine o_split 55 rfl (fun hg11_55 => ?_) (fun hg11_55 => ?_)
      · try simp only [kk] at hg11_55
        refine o_gn 55 rfl rfl rfl ?_
        refine o_gn 55 rfl rfl rfl ?_
        refine o_gn 55 rfl rfl rfl ?_
        refine o_y (y_pick rfl rfl) ?_
        refine o_nil ?_
        refine x_condT rfl ?_
        refine x_seq ?_
        refine x_region rfl ?_
        refine o_y (y_assign rfl) ?_
        refine o_nil ?_
        refine x_ret ?_
        refine x_fin 2 (ret1 rfl rfl) ?_
        have hb : comOk xs[k] m = false := by
          rw [em]
          first
            | (rw [decide_eq_false (show ¬ xs[k].commits[m].group = xs[k].group by omega)]; rfl)
            | (rw [decide_eq_false (show ¬ xs[k].commits[m].epoch = m by omega)]; simp; done)
            | (rw [show takeB xs[k].commits[m] = false by assumption]; simp)
        have hb2 : logOk xs k = false := by
          unfold logOk
          rw [el, comsOk_no hm hb]; simp
        rw [lcheckB_no hk hb2]; exact ⟨rfl, rfl, rfl⟩
      try simp only [kk] at hg11_55
      refine o_gy 55 rfl rfl (y_loadA ti31 rfl inn rfl) ?_
      refine o_gcall 55 rfl rfl fn41 rfl (takeable_ok hT te42) ?_
      rintro _ _ _ ⟨rfl, rfl, rfl⟩
      refine o_gy 55 rfl rfl (y_not rfl) ?_
      refine o_y (y_pick rfl rfl) ?_
      refine o_nil ?_
      refine x_cond rfl (fun hc4 => ?_) (fun hc4 => ?_)
      · try simp only [kk] at hc4
        refine x_seq ?_
        refine x_region rfl ?_
        refine o_y (y_assign rfl) ?_
        refine o_nil ?_
        refine x_ret ?_
        refine x_fin 2 (ret1 rfl rfl) ?_
        have hb : comOk xs[k] m = false := by
          rw [em]
          first
            | (rw [decide_eq_false (show ¬ xs[k].commits[m].group = xs[k].group by omega)]; rfl)
            | (rw [decide_eq_false (show ¬ xs[k].commits[m].epoch = m by omega)]; simp; done)
            | (rw [show takeB xs[k].commits[m] = false by assumption]; simp)
        have hb2 : logOk xs k = false := by
          unfold logOk
          rw [el, comsOk_no hm hb]; simp
        rw [lcheckB_no hk hb2]; exact ⟨rfl, rfl, rfl⟩
      try simp only [kk] at hc4
      refine x_skip ?_
      refine x_region rfl ?_
      refine o_y (y_addN rfl rfl (by omega) (by omega)) ?_
      refine o_y (y_move rfl) ?_
      refine o_nil ?_
      have hb : comOk xs[k] m = true := by
        rw [em, decide_eq_true (show xs[k].commits[m].group = xs[k].group by omega), decide_eq_true (show xs[k].commits[m].epoch = m by omega), show takeB xs[k].commits[m] = true by assumption]; rfl
      exact ⟨m + 1, 1, rfl, (.c rfl (.c rfl (.c rfl (.c rfl (.c rfl (.c rfl (.c rfl (.c rfl .n)))))))), rfl, ⟨by omega, upto_succ i4 hb⟩, by omega⟩
    try simp only [kk] at hc3
    refine x_exit ?_
    refine x_region rfl ?_
    refine o_y (y_addN rfl rfl (by omega) (by omega)) ?_
    refine o_y (y_move rfl) ?_
    refine o_nil ?_
    have hb : logOk xs k = true := by
      unfold logOk
      rw [el, comsOk_yes (fun j hj => i4 j (by omega)), decide_eq_true (show 0 < xs[k].commits.length by omega)]
      first
        | (rw [decide_eq_true (show k = 0 by omega)]; rfl)
        | (have e9 : grpAt xs (k - 1) < grpAt xs k := by rw [grpAt_eq hk, grpAt_eq (show k - 1 < xs.length by omega)]; omega
           rw [decide_eq_true e9]; cases decide (k = 0) <;> rfl)
    exact ⟨k + 1, 1, rfl, (.c rfl (.c rfl (.c rfl (.c rfl .n)))), rfl, ⟨by omega, upto_succ i2 hb⟩, by omega⟩
  try simp only [kk] at hc1
  refine x_exit ?_
  refine x_seq ?_
  refine x_region rfl ?_
  refine o_y (y_assign rfl) ?_
  refine o_nil ?_
  refine x_ret ?_
  refine x_fin 0 (ret1 rfl rfl) ?_
  rw [lcheckB_yes (by omega) (fun j hj => i2 j (by omega))]; exact ⟨rfl, rfl, rfl⟩
end Go.Ph
set_option linter.unusedVariables false
set_option linter.unusedSimpArgs false
set_option maxRecDepth 100000
namespace Go.Ph
open Go Go.RowKit Go.Proofs.YtmgnagpgnoikfaaGreatDoor Go.Proofs.Tryz
def commitsOf (xs : List Log) (g : Int) : List Commit := if foundB xs g = true ∧ lcheckB xs = true then (logAt xs (placeN xs g)).commits else []
abbrev Lent {α : Type} [Rep α] (xs : List α) (H : HM) (O : OL) : Value → HM → OL → Prop := fun v H' O' => H = H' ∧ O = O' ∧ RdL H v xs
theorem commits_ok {B : World} {H : HM} {O : OL} {v : Value} {xs : List Log} {g : Int} (hT : TabAt H) (h : RdL H v xs) (hg : InR g) : CallsM prog 161 [v, .int .i64 g].toArray B H O (Lent (commitsOf xs g) H O) := by
  have hs := h.lenle
  have hc := errI_cases (lcheckB xs)
  refine enter func161 rfl ntmps161 (l := [(0, _), (1, _)]) rfl rfl ?_
  refine x_seq ?_
  refine x_region rfl ?_
  refine o_y (y_assign rfl) ?_
  refine o_nil ?_
  refine x_seq ?_
  refine x_seq ?_
  refine x_region rfl ?_
  refine o_y (y_move rfl) ?_
  refine o_y (y_move rfl) ?_
  refine o_call fn42 rfl (place_ok h hg) ?_
  rintro _ _ _ ⟨rfl, rfl, rfl⟩
  refine o_y (y_move rfl) ?_
  refine o_y (y_extract rfl rfl) ?_
  refine o_y (y_extract rfl rfl) ?_
  refine o_y (y_assign rfl) ?_
  refine o_y (y_assign rfl) ?_
  refine o_nil ?_
  refine x_seq ?_
  refine x_region rfl ?_
  refine o_y (y_move rfl) ?_
  refine o_y (y_move rfl) ?_
  refine o_split 14 rfl (fun hg2_14 => ?_) (fun hg2_14 => ?_)
  · try simp only [kk] at hg2_14
    refine o_gy 14 rfl rfl (y_move rfl) ?_
    refine o_gcall 14 rfl rfl fn25 rfl (lcheck_ok hT h) ?_
    rintro _ _ _ ⟨rfl, rfl, rfl⟩
    refine o_gy 14 rfl rfl (y_eql rfl rfl) ?_
    refine o_y (y_pick rfl rfl) ?_
    refine o_nil ?_
    refine x_cond rfl (fun hc0 => ?_) (fun hc0 => ?_)
    · try simp only [kk] at hc0
      have hf : foundB xs g = true := by first | assumption | (simp_all; done)
      have hk : placeN xs g < xs.length := by
        have := of_decide_eq_true hf; exact this.1
      have hl : lcheckB xs = true := by
        rcases hc with ⟨e1, e2⟩ | ⟨e1, e2⟩
        · exact e1
        exfalso; omega
      refine x_seq ?_
      refine x_region rfl ?_
      refine o_y (y_move rfl) ?_
      refine o_y (y_move rfl) ?_
      obtain ⟨ce21, ae21, re21⟩ := RdL.at h _ (placeN xs g) hk
      have se21 := AtS.isSl ae21
      have te21 := re21
      obtain ⟨u21_1, z21, q21_0, q21_1⟩ := re21
      subst z21
      have w21 := Rep.one te21
      refine o_y (y_idxL h (placeN xs g) hk underlying22 ti95 rfl rfl (by omega)) ?_
      refine o_y (y_fieldAddrP fd95_1 ti93 (by decide) (by assumption) rfl) ?_
      refine o_y (y_loadS1 ti93 rfl (by assumption) rfl) ?_
      refine o_y (y_assign rfl) ?_
      refine o_nil ?_
      refine x_ret ?_
      refine x_fin 0 (ret1 rfl rfl) ?_
      refine ⟨rfl, rfl, ?_⟩
      rw [commitsOf, if_pos ⟨hf, hl⟩, logAt_eq hk]; exact q21_1
    try simp only [kk] at hc0
    refine x_skip ?_
    refine x_seq ?_
    refine x_region rfl ?_
    refine o_y (y_assign rfl) ?_
    refine o_nil ?_
    refine x_ret ?_
    refine x_fin 0 (ret1 rfl rfl) ?_
    refine ⟨rfl, rfl, ?_⟩
    rw [commitsOf, if_neg]
    · exact RdL.nil _
    rintro ⟨e3, e4⟩
    rw [e4] at hc
    simp_all
  try simp only [kk] at hg2_14
  refine o_gn 14 rfl rfl rfl ?_
  refine o_gn 14 rfl rfl rfl ?_
  refine o_gn 14 rfl rfl rfl ?_
  refine o_y (y_pick rfl rfl) ?_
  refine o_nil ?_
  refine x_condF rfl ?_
  refine x_skip ?_
  refine x_seq ?_
  refine x_region rfl ?_
  refine o_y (y_assign rfl) ?_
  refine o_nil ?_
  refine x_ret ?_
  refine x_fin 0 (ret1 rfl rfl) ?_
  refine ⟨rfl, rfl, ?_⟩
  rw [commitsOf, if_neg]
  · exact RdL.nil _
  rintro ⟨e3, e4⟩
  rw [e4] at hc
  simp_all
theorem len_ok {B : World} {H : HM} {O : OL} {v : Value} {xs : List Log} {g : Int} (hT : TabAt H) (h : RdL H v xs) (hg : InR g) : CallsM prog 27 [v, .int .i64 g].toArray B H O (Same (.int .i64 (commitsOf xs g).length) H O) := by
  refine enter func27 rfl ntmps27 (l := [(0, _), (1, _)]) rfl rfl ?_
  refine x_seq ?_
  refine x_region rfl ?_
  refine o_y (y_assign rfl) ?_
  refine o_nil ?_
  refine x_seq ?_
  refine x_region rfl ?_
  refine o_y (y_move rfl) ?_
  refine o_y (y_move rfl) ?_
  refine o_call fn161 rfl (commits_ok hT h hg) ?_
  rintro v7 _ _ ⟨rfl, rfl, r7⟩
  refine o_y (y_lenA underlying93 rfl) ?_
  refine o_y (y_assign rfl) ?_
  refine o_nil ?_
  refine x_ret ?_
  refine x_fin 0 (ret1 rfl rfl) ?_
  exact ⟨rfl, rfl, rfl⟩
def getC (xs : List Log) (g i : Int) : Commit := if 0 ≤ i then (commitsOf xs g).getD i.toNat default else default
def getB (xs : List Log) (g i : Int) : Bool := decide (0 ≤ i ∧ i < (commitsOf xs g).length)
abbrev Got (c : Commit) (b : Bool) (H : HM) (O : OL) : Value → HM → OL → Prop := fun v H' O' => Ext H H' ∧ O = O' ∧ ∃ cs, v = .tuple #[.agg cs.toArray, .bool b] ∧ Rep.rd H' cs c
theorem commit_zero (H : HM) : Rep.rd H [.int .i64 0, .int .i64 0, .int .i64 0, .int .i64 0, .int .i64 0, .bool false, .slice none 0 0, .slice none 0 0, .slice none 0 0, .slice none 0 0, .int .i64 0, .int .i64 0, .slice none 0 0, .int .i64 0, .int .i64 0] (default : Commit) := by
  have z : InR 0 := by unfold InR; omega
  exact ⟨_, _, _, _, _, rfl, z, z, z, z, z, RdL.nil H, RdL.nil H, RdL.nil H, RdL.nil H, z, z, RdL.nil H, z, z⟩
theorem get_ok {B : World} {H : HM} {O : OL} {v : Value} {xs : List Log} {g i : Int} (hT : TabAt H) (h : RdL H v xs) (hg : InR g) (hi : InR i) : CallsM prog 19 [v, .int .i64 g, .int .i64 i].toArray B H O (Got (getC xs g i) (getB xs g i) H O) := by
  refine enter func19 rfl ntmps19 (l := [(0, _), (1, _), (2, _)]) rfl rfl ?_
  refine x_seq ?_
  refine x_region rfl ?_
  refine o_alloc ti31 rfl (fun b6 => ?_)
  refine o_y (y_assign rfl) ?_
  refine o_nil ?_
  refine x_seq ?_
  refine x_region rfl ?_
  refine o_y (y_move rfl) ?_
  refine o_y (y_move rfl) ?_
  refine o_call fn161 rfl (commits_ok hT h hg) ?_
  rintro v11 _ _ ⟨rfl, rfl, r11⟩
  refine o_y (y_assign rfl) ?_
  refine o_nil ?_
  refine x_seq ?_
  refine x_seq ?_
  refine x_region rfl ?_
  refine o_y (y_move rfl) ?_
  refine o_y (y_lss rfl rfl) ?_
  refine o_y (y_move rfl) ?_
  refine o_split 14 rfl (fun hg2_14 => ?_) (fun hg2_14 => ?_)
  · try simp only [kk] at hg2_14
    refine o_gn 14 rfl rfl rfl ?_
    refine o_gn 14 rfl rfl rfl ?_
    refine o_gn 14 rfl rfl rfl ?_
    refine o_gn 14 rfl rfl rfl ?_
    refine o_y (y_pick rfl rfl) ?_
    refine o_nil ?_
    refine x_condT rfl ?_
    refine x_seq ?_
    refine x_region rfl ?_
    refine o_y (y_buildS bt31 rfl (C := [_, _, _, _, _, _, _, _, _, _, _, _, _, _, _]) rfl) ?_
    refine o_store (u := [_, _, _, _, _, _, _, _, _, _, _, _, _, _, _]) (C' := [_, _, _, _, _, _, _, _, _, _, _, _, _, _, _]) ti31 rfl rfl rfl rfl (by first | rfl | assumption | (simp only [ones, List.all_cons, List.all_nil, Bool.and_true, one_of (by assumption)]; done)) (by repeat (first | exact .z | apply Upd.s | apply Upd.a)) (by exact Nat.le_of_ble_eq_true rfl) (by rfl) ?_
    refine o_y (y_assign rfl) ?_
    refine o_nil ?_
    refine x_ret ?_
    refine x_fin 1 (retC2 rfl rfl rfl ti31 inn rfl) ?_
    rw [getB, decide_eq_false (by omega)]
    refine ⟨Ext.refl _, rfl, _, rfl, ?_⟩
    have e : getC xs g i = default := by
      unfold getC
      by_cases h0 : 0 ≤ i
      · rw [if_pos h0, List.getD_eq_getElem?_getD, List.getElem?_eq_none (by omega)]; rfl
      rw [if_neg h0]
    rw [e]; exact commit_zero H
  try simp only [kk] at hg2_14
  refine o_gy 14 rfl rfl (y_move rfl) ?_
  refine o_gy 14 rfl rfl (y_move rfl) ?_
  first | refine o_gy 14 rfl rfl (y_lenL (by assumption) underlying93 rfl) ?_ | refine o_gy 14 rfl rfl (y_lenR (by assumption) underlying93 rfl) ?_ | refine o_gy 14 rfl rfl (y_len underlying93 rfl) ?_
  refine o_gy 14 rfl rfl (y_geq rfl rfl) ?_
  refine o_y (y_pick rfl rfl) ?_
  refine o_nil ?_
  refine x_cond rfl (fun hc0 => ?_) (fun hc0 => ?_)
  · try simp only [kk] at hc0
    refine x_seq ?_
    refine x_region rfl ?_
    refine o_y (y_buildS bt31 rfl (C := [_, _, _, _, _, _, _, _, _, _, _, _, _, _, _]) rfl) ?_
    refine o_store (u := [_, _, _, _, _, _, _, _, _, _, _, _, _, _, _]) (C' := [_, _, _, _, _, _, _, _, _, _, _, _, _, _, _]) ti31 rfl rfl rfl rfl (by first | rfl | assumption | (simp only [ones, List.all_cons, List.all_nil, Bool.and_true, one_of (by assumption)]; done)) (by repeat (first | exact .z | apply Upd.s | apply Upd.a)) (by exact Nat.le_of_ble_eq_true rfl) (by rfl) ?_
    refine o_y (y_assign rfl) ?_
    refine o_nil ?_
    refine x_ret ?_
    refine x_fin 1 (retC2 rfl rfl rfl ti31 inn rfl) ?_
    rw [getB, decide_eq_false (by omega)]
    refine ⟨Ext.refl _, rfl, _, rfl, ?_⟩
    have e : getC xs g i = default := by
      unfold getC
      by_cases h0 : 0 ≤ i
      · rw [if_pos h0, List.getD_eq_getElem?_getD, List.getElem?_eq_none (by omega)]; rfl
      rw [if_neg h0]
    rw [e]; exact commit_zero H
  try simp only [kk] at hc0
  have hk : i.toNat < (commitsOf xs g).length := by omega
  refine x_skip ?_
  refine x_seq ?_
  refine x_region rfl ?_
  refine o_y (y_move rfl) ?_
  refine o_y (y_move rfl) ?_
  obtain ⟨ce23, ae23, re23⟩ := RdL.at r11 _ i.toNat hk
  have se23 := AtS.isSl ae23
  have te23 := re23
  obtain ⟨u23_6, u23_7, u23_8, u23_9, u23_12, z23, q23_0, q23_1, q23_2, q23_3, q23_4, q23_5, q23_6, q23_7, q23_8, q23_9, q23_10, q23_11, q23_12, q23_13⟩ := re23
  subst z23
  have w23 := Rep.one te23
  refine o_y (y_idxL r11 i.toNat hk underlying93 ti31 rfl rfl (by omega)) ?_
  refine o_y (y_loadS ti31 rfl (by assumption) rfl (fun e => by cases e)) ?_
  refine o_call fn43 rfl (copied_ok te23) ?_
  rintro v25 H1 _ ⟨x25, rfl, cs25, rfl, r25⟩
  have w25 := Rep.one r25
  obtain ⟨u6, u7, u8, u9, u12, rfl, r25⟩ := r25
  refine o_store (u := [_, _, _, _, _, _, _, _, _, _, _, _, _, _, _]) (C' := [_, _, _, _, _, _, _, _, _, _, _, _, _, _, _]) ti31 rfl rfl rfl rfl (by first | rfl | assumption | (simp only [ones, List.all_cons, List.all_nil, Bool.and_true, one_of (by assumption)]; done)) (by repeat (first | exact .z | apply Upd.s | apply Upd.a)) (by exact Nat.le_of_ble_eq_true rfl) (by rfl) ?_
  refine o_y (y_assign rfl) ?_
  refine o_nil ?_
  refine x_ret ?_
  refine x_fin 1 (retC2 rfl rfl rfl ti31 inn rfl) ?_
  rw [getB, decide_eq_true (by omega)]
  refine ⟨x25, rfl, _, rfl, ?_⟩
  have e : getC xs g i = (commitsOf xs g)[i.toNat] := by
    unfold getC
    rw [if_pos (by omega), List.getD_eq_getElem?_getD, List.getElem?_eq_getElem hk]; rfl
  rw [e]; exact ⟨_, _, _, _, _, rfl, r25⟩
end Go.Ph
set_option maxRecDepth 100000
namespace Go.Proofs.YtmgnagpgnoikfaaGreatDoor
open Go Go.Shelf Go.RowKit Go.Proofs.Tryz
def layNm189_ren : Ren := { f := fun x => match x with | 189 => 163 | 125 => 259 | 257 => 258 | 128 => 286 | 129 => 287 | 294 => 277 | 295 => 278 | 296 => 279 | 297 => 280 | 298 => 281 | 299 => 282 | 216 => 283 | 300 => 284 | 301 => 285 | 328 => 295 | 329 => 296 | 330 => 297 | 331 => 298 | 332 => 299 | 215 => 300 | 343 => 305 | n => n, t := fun x => match x with | 28 => 24 | 3 => 3 | 46 => 120 | 0 => 0 | 51 => 399 | 53 => 401 | 4 => 4 | 183 => 393 | 182 => 392 | 131 => 105 | 5 => 5 | 9 => 9 | 218 => 404 | 222 => 408 | 228 => 410 | 229 => 402 | n => n, g := fun x => x }
theorem layNm189 : Lays.n189 prog layNm189_ren where
  mixed := by kernel_rfl
  f125 := Eq.trans func259 (congrArg some (by kernel_rfl))
  f128 := Eq.trans func286 (congrArg some (by kernel_rfl))
  f129 := Eq.trans func287 (congrArg some (by kernel_rfl))
  f189 := Eq.trans func163 (congrArg some (by kernel_rfl))
  f215 := Eq.trans func300 (congrArg some (by kernel_rfl))
  f216 := Eq.trans func283 (congrArg some (by kernel_rfl))
  f257 := Eq.trans func258 (congrArg some (by kernel_rfl))
  f294 := Eq.trans func277 (congrArg some (by kernel_rfl))
  f295 := Eq.trans func278 (congrArg some (by kernel_rfl))
  f296 := Eq.trans func279 (congrArg some (by kernel_rfl))
  f297 := Eq.trans func280 (congrArg some (by kernel_rfl))
  f298 := Eq.trans func281 (congrArg some (by kernel_rfl))
  f299 := Eq.trans func282 (congrArg some (by kernel_rfl))
  f300 := Eq.trans func284 (congrArg some (by kernel_rfl))
  f301 := Eq.trans func285 (congrArg some (by kernel_rfl))
  f328 := Eq.trans func295 (congrArg some (by kernel_rfl))
  f329 := Eq.trans func296 (congrArg some (by kernel_rfl))
  f330 := Eq.trans func297 (congrArg some (by kernel_rfl))
  f331 := Eq.trans func298 (congrArg some (by kernel_rfl))
  f332 := Eq.trans func299 (congrArg some (by kernel_rfl))
  f343 := Eq.trans func305 (congrArg some (by kernel_rfl))
  t0 := underlying0
  a0 := Go.Proofs.Tryz.isAgg0
  z0 := Go.Proofs.Tryz.sizeOf0
  v0 := Go.Proofs.Tryz.zeroValue0
  t3 := underlying3
  a3 := Go.Proofs.Tryz.isAgg3
  z3 := Go.Proofs.Tryz.sizeOf3
  v3 := Go.Proofs.Tryz.zeroValue3
  t4 := underlying4
  a4 := Go.Proofs.Tryz.isAgg4
  z4 := Go.Proofs.Tryz.sizeOf4
  v4 := Go.Proofs.Tryz.zeroValue4
  t5 := underlying5
  a5 := Go.Proofs.Tryz.isAgg5
  z5 := Go.Proofs.Tryz.sizeOf5
  v5 := Go.Proofs.Tryz.zeroValue5
  t9 := underlying9
  a9 := Go.Proofs.Tryz.isAgg9
  z9 := Go.Proofs.Tryz.sizeOf9
  v9 := Go.Proofs.Tryz.zeroValue9
  t28 := underlying24
  a28 := Go.Proofs.Tryz.isAgg24
  z28 := Go.Proofs.Tryz.sizeOf24
  v28 := Go.Proofs.Tryz.zeroValue24
  t46 := underlying120
  a46 := Go.Proofs.Tryz.isAgg120
  z46 := Go.Proofs.Tryz.sizeOf120
  v46 := Go.Proofs.Tryz.zeroValue120
  t51 := underlying399
  a51 := Go.Proofs.Tryz.isAgg399
  z51 := Go.Proofs.Tryz.sizeOf399
  v51 := Go.Proofs.Tryz.zeroValue399
  t53 := underlying401
  a53 := Go.Proofs.Tryz.isAgg401
  z53 := Go.Proofs.Tryz.sizeOf401
  v53 := Go.Proofs.Tryz.zeroValue401
  t131 := underlying105
  a131 := Go.Proofs.Tryz.isAgg105
  z131 := Go.Proofs.Tryz.sizeOf105
  v131 := Go.Proofs.Tryz.zeroValue105
  t182 := underlying392
  a182 := Go.Proofs.Tryz.isAgg392
  z182 := Go.Proofs.Tryz.sizeOf392
  v182 := Go.Proofs.Tryz.zeroValue392
  t183 := underlying393
  a183 := Go.Proofs.Tryz.isAgg393
  z183 := Go.Proofs.Tryz.sizeOf393
  v183 := Go.Proofs.Tryz.zeroValue393
  t218 := underlying404
  a218 := Go.Proofs.Tryz.isAgg404
  z218 := Go.Proofs.Tryz.sizeOf404
  v218 := Go.Proofs.Tryz.zeroValue404
  t222 := underlying408
  a222 := Go.Proofs.Tryz.isAgg408
  z222 := Go.Proofs.Tryz.sizeOf408
  v222 := Go.Proofs.Tryz.zeroValue408
  t228 := underlying410
  a228 := Go.Proofs.Tryz.isAgg410
  z228 := Go.Proofs.Tryz.sizeOf410
  v228 := Go.Proofs.Tryz.zeroValue410
  t229 := underlying402
  a229 := Go.Proofs.Tryz.isAgg402
  z229 := Go.Proofs.Tryz.sizeOf402
  v229 := Go.Proofs.Tryz.zeroValue402
def layNm220_ren : Ren := { f := fun x => match x with | 20 => 164 | n => n, t := fun x => match x with | 22 => 24 | 3 => 3 | 4 => 4 | 0 => 0 | n => n, g := fun x => x }
theorem layNm220 : Lays2.n20 prog layNm220_ren where
  mixed := by kernel_rfl
  f20 := Eq.trans func164 (congrArg some (by kernel_rfl))
  t0 := underlying0
  a0 := Go.Proofs.Tryz.isAgg0
  z0 := Go.Proofs.Tryz.sizeOf0
  v0 := Go.Proofs.Tryz.zeroValue0
  t3 := underlying3
  a3 := Go.Proofs.Tryz.isAgg3
  z3 := Go.Proofs.Tryz.sizeOf3
  v3 := Go.Proofs.Tryz.zeroValue3
  t4 := underlying4
  a4 := Go.Proofs.Tryz.isAgg4
  z4 := Go.Proofs.Tryz.sizeOf4
  v4 := Go.Proofs.Tryz.zeroValue4
  t22 := underlying24
  a22 := Go.Proofs.Tryz.isAgg24
  z22 := Go.Proofs.Tryz.sizeOf24
  v22 := Go.Proofs.Tryz.zeroValue24
  i3 := by kernel_rfl
end Go.Proofs.YtmgnagpgnoikfaaGreatDoor
set_option linter.unusedVariables false
set_option linter.unusedSimpArgs false
set_option maxRecDepth 100000
namespace Go.Ph
open Go Go.RowKit Go.Proofs.YtmgnagpgnoikfaaGreatDoor Go.Proofs.Tryz
def sortL (xs : List Int) : List Int := xs.mergeSort fun x y => decide (x ≤ y)
theorem sortL_len (xs : List Int) : (sortL xs).length = xs.length := List.length_mergeSort _
theorem sortL_mem {xs : List Int} {x : Int} : x ∈ sortL xs ↔ x ∈ xs := (List.mergeSort_perm _ _).mem_iff
theorem sort_ok {B : World} {H : HM} {O R : OL} {F : OL → OL} {v : Value} {cs : List Value} {xs : List Int} (hr : Row v xs.length cs 3 1 R) (he : El H cs xs) (h0 : 0 < xs.length) (hl : xs.length ≤ 16) (hF : Hole O R F) :
    CallsM prog 163 [v].toArray B H O (fun v' H' O' => v' = .tuple #[] ∧ H = H' ∧ ∃ R', O' = F R' ∧ Row v xs.length ((sortL xs).map (Value.int .i64)) 3 1 R') := by
  obtain ⟨p, c, rfl⟩ := hr.shape
  exact CallsM.put (xs' := sortL xs) hr he h0 hF (sortL_len xs) (fun b w e1 hc hH hb => by
    subst e1
    exact Go.Proofs.Any.slices_Sort_int layNm189 b 0 c xs w hH hb (by omega))
def compL (xs : List Int) : List Int := Lib.compact xs
theorem compL_le (xs : List Int) : (compL xs).length ≤ xs.length := by
  unfold compL Lib.compact Lib.compactUpTo
  rw [List.length_map]
  exact Nat.le_trans (List.length_filter_le _ _) (by simp)
theorem compL_mem {xs : List Int} {x : Int} (h : x ∈ compL xs) : x ∈ xs := by
  unfold compL Lib.compact Lib.compactUpTo at h
  obtain ⟨j, hj, rfl⟩ := List.mem_map.1 h
  have h2 := List.mem_range.1 (List.mem_filter.1 hj).1
  simp [h2]
theorem compact_ok {B : World} {H : HM} {O R : OL} {F : OL → OL} {v : Value} {cs : List Value} {xs : List Int} (hr : Row v xs.length cs 3 1 R) (he : El H cs xs) (h0 : 0 < xs.length) (hl : xs.length ≤ 16) (hF : Hole O R F) :
    CallsM prog 164 [v].toArray B H O (fun v' H' O' => H = H' ∧ ∃ R', O' = F R' ∧ Row v' (compL xs).length ((compL xs).map (Value.int .i64)) 3 1 R') := by
  obtain ⟨p, c, rfl⟩ := hr.shape
  have hle : (compL xs).length ≤ xs.length := compL_le xs
  refine (CallsM.put (xs' := compL xs ++ List.replicate (xs.length - (compL xs).length) 0) (r := .slice p (compL xs).length c) hr he h0 hF (by simp; omega) (fun b w e1 hc hH hb => by
    subst e1
    refine (Go.Proofs.Any.slices_Compact_int layNm220 b 0 c xs w hH (by omega) hc).mono ?_
    rintro ev w' ⟨rfl, q, rfl⟩
    exact ⟨rfl, q, #[], by rw [Go.Sort.grow_empty]; rfl⟩)).mono ?_
  rintro v' H' O' ⟨rfl, rfl, R', rfl, h3⟩
  refine ⟨rfl, R', rfl, ?_⟩
  have := h3.cut hle
  rwa [Nat.mul_one, List.map_append, List.take_append_of_le_length (by simp), List.take_of_length_le (by simp)] at this
theorem get_take {xs : List Log} {g i : Int} (h : getB xs g i = true) : takeB (getC xs g i) = true ∧ (getC xs g i).group = g ∧ (getC xs g i).epoch = i := by
  obtain ⟨h1, h2⟩ := of_decide_eq_true h
  unfold getC
  rw [if_pos h1]
  have hk : i.toNat < (commitsOf xs g).length := by omega
  rw [List.getD_eq_getElem?_getD, List.getElem?_eq_getElem hk]
  show takeB ((commitsOf xs g)[i.toNat]) = true ∧ ((commitsOf xs g)[i.toNat]).group = g ∧ ((commitsOf xs g)[i.toNat]).epoch = i
  have hc : foundB xs g = true ∧ lcheckB xs = true := by
    by_cases hc : foundB xs g = true ∧ lcheckB xs = true
    · exact hc
    rw [commitsOf, if_neg hc] at hk; simp at hk
  have hp := of_decide_eq_true hc.1
  have e : commitsOf xs g = (logAt xs (placeN xs g)).commits := by rw [commitsOf, if_pos hc]
  have hall := hc.2
  simp only [lcheckB, Bool.and_eq_true, decide_eq_true_eq, List.all_eq_true, List.mem_range] at hall
  have h3 := hall.2 _ hp.1
  simp only [logOk, comsOk, Bool.and_eq_true, List.all_eq_true, List.mem_range] at h3
  have h4 := h3.2.2 i.toNat (by rw [← e]; exact hk)
  have hk' : i.toNat < (logAt xs (placeN xs g)).commits.length := by rw [← e]; exact hk
  rw [comOk_spec hk'] at h4
  simp only [Bool.and_eq_true, decide_eq_true_eq] at h4
  have e5 : (logAt xs (placeN xs g)).group = g := hp.2
  have e6 : (commitsOf xs g)[i.toNat] = (logAt xs (placeN xs g)).commits[i.toNat] := by congr 1
  rw [e6]
  exact ⟨h4.2.2, h4.1.trans e5, by omega⟩
theorem lastTo_leaf {xs : List Node} : ∀ k, 0 ≤ lastTo xs k → 0 < (memsTo xs k).length
  | 0, h => by simp [lastTo] at h
  | k + 1, h => by
    by_cases hb : isLeaf xs k = true
    · rw [memsTo_yes hb]; simp
    rw [Bool.not_eq_true] at hb
    rw [memsTo_no hb]
    exact lastTo_leaf k (by rw [lastTo_no hb] at h; exact h)
theorem members_pos {xs : List Node} (h : checkB xs = true) (h0 : 0 < xs.length) : 0 < (membersL xs).length := by
  rw [membersL, if_pos h]
  rcases checkB_spec h with h1 | ⟨_, _, h1⟩
  · omega
  exact lastTo_leaf _ (by omega)
theorem take_pos {c : Commit} (h : takeB c = true) : 0 < (membersL c.next_.nodes).length := by
  simp only [takeB, Bool.and_eq_true, decide_eq_true_eq] at h
  exact members_pos h.2.2 h.2.1
def touch0 (xs : List Log) (g i : Int) : List Int := membersL (getC xs g i).next_.nodes ++ (if getB xs g (i - 1) = true then membersL (getC xs g (i - 1)).next_.nodes else [])
def touchedL (xs : List Log) (g i : Int) : List Int := compL (sortL (touch0 xs g i))
abbrev Touch (b : Bool) (ys : List Int) (H : HM) (O : OL) : Value → HM → OL → Prop := fun v' H' O' => Ext H H' ∧ O = O' ∧ ∃ u, v' = .tuple #[u, .bool b] ∧ (b = true → RdL H' u ys)
theorem touched_ok {B : World} {H : HM} {O : OL} {v : Value} {xs : List Log} {g i : Int} (hT : TabAt H) (h : RdL H v xs) (hg : InR g) (hi : InR i) : CallsM prog 21 [v, .int .i64 g, .int .i64 i].toArray B H O (Touch (getB xs g i) (touchedL xs g i) H O) := by
  refine enter func21 rfl ntmps21 (l := [(0, _), (1, _), (2, _)]) rfl rfl ?_
  refine x_seq ?_
  refine x_region rfl ?_
  refine o_y (y_assign rfl) ?_
  refine o_y (y_assign rfl) ?_
  refine o_nil ?_
  refine x_seq ?_
  refine x_region rfl ?_
  refine o_y (y_move rfl) ?_
  refine o_y (y_move rfl) ?_
  refine o_y (y_move rfl) ?_
  refine o_call fn19 rfl (get_ok hT h hg hi) ?_
  rintro v17 H1 _ ⟨x17, rfl, cs17, rfl, r17⟩
  have w17 := Rep.one r17
  obtain ⟨u6, u7, u8, u9, u12, rfl, a0, a1, a2, a3, a4, a5, a6, a7, a8, a9, a10, a11, a12, a13⟩ := r17
  refine o_y (y_move rfl) ?_
  refine o_y (y_extract rfl rfl) ?_
  refine o_y (y_extract rfl rfl) ?_
  refine o_alloc ti31 rfl (fun b8 => ?_)
  refine o_store (u := [_, _, _, _, _, _, _, _, _, _, _, _, _, _, _]) (C' := [_, _, _, _, _, _, _, _, _, _, _, _, _, _, _]) ti31 rfl rfl rfl rfl (by first | rfl | assumption | (simp only [ones, List.all_cons, List.all_nil, Bool.and_true, one_of (by assumption)]; done)) (by repeat (first | exact .z | apply Upd.s | apply Upd.a)) (by exact Nat.le_of_ble_eq_true rfl) (by rfl) ?_
  refine o_y (y_assign rfl) ?_
  refine o_nil ?_
  refine x_seq ?_
  refine x_seq ?_
  refine x_region rfl ?_
  refine o_y (y_move rfl) ?_
  refine o_y (y_not rfl) ?_
  refine o_nil ?_
  refine x_cond rfl (fun hc0 => ?_) (fun hc0 => ?_)
  · try simp only [kk] at hc0
    refine x_seq ?_
    refine x_region rfl ?_
    refine o_y (y_assign rfl) ?_
    refine o_y (y_assign rfl) ?_
    refine o_nil ?_
    refine x_ret ?_
    refine x_fin 1 (ret2 rfl rfl rfl) ?_
    refine ⟨x17, rfl, .slice none 0 0, ?_, fun hh => ?_⟩
    · rw [show getB xs g i = false by assumption]
    rw [show getB xs g i = false by assumption] at hh; cases hh
  try simp only [kk] at hc0
  have hgb : getB xs g i = true := by assumption
  have hiR := hi
  unfold InR at hiR
  have hi0 := (of_decide_eq_true hgb).1
  have hta := get_take hgb
  have hm0 := take_pos hta.1
  have hm8 := membersL_small a11
  refine x_skip ?_
  refine x_seq ?_
  refine x_region rfl ?_
  refine o_y (y_fieldAddr fd31_12 ti29 (by decide) rfl) ?_
  refine o_y (y_loadP ti29 rfl inn (cs := [_]) rfl rfl) ?_
  refine o_call fn162 rfl (membersR_ok (hT.ext x17) a11) ?_
  rintro v24 _ _ ⟨rfl, R, cs, rfl, j1, j2⟩
  refine o_y (y_assign rfl) ?_
  refine o_nil ?_
  refine x_seq ?_
  refine x_seq ?_
  refine x_region rfl ?_
  refine o_y (y_move rfl) ?_
  refine o_y (y_move rfl) ?_
  refine o_y (y_move rfl) ?_
  refine o_y (y_subN rfl rfl (by omega) (by omega)) ?_
  refine o_call fn19 rfl (get_ok (hT.ext x17) (h.mono x17) hg (by unfold InR at hi ⊢; omega)) ?_
  rintro v30 H2 _ ⟨x30, rfl, cs30, rfl, r30⟩
  have w30 := Rep.one r30
  obtain ⟨u6', u7', u8', u9', u12', rfl, c0, c1, c2, c3, c4, c5, c6, c7, c8, c9, c10, c11, c12, c13⟩ := r30
  refine o_y (y_move rfl) ?_
  refine o_y (y_extract rfl rfl) ?_
  refine o_y (y_extract rfl rfl) ?_
  refine o_alloc ti31 rfl (fun b11 => ?_)
  refine o_store (u := [_, _, _, _, _, _, _, _, _, _, _, _, _, _, _]) (C' := [_, _, _, _, _, _, _, _, _, _, _, _, _, _, _]) ti31 rfl rfl rfl rfl (by first | rfl | assumption | (simp only [ones, List.all_cons, List.all_nil, Bool.and_true, one_of (by assumption)]; done)) (by repeat (first | exact .z | apply Upd.s | apply Upd.a)) (by exact Nat.le_of_ble_eq_true rfl) (by rfl) ?_
  refine o_y (y_assign rfl) ?_
  refine o_nil ?_
  refine x_seq ?_
  refine x_region rfl ?_
  refine o_y (y_move rfl) ?_
  refine o_nil ?_
  refine x_cond rfl (fun hc1 => ?_) (fun hc1 => ?_)
  · try simp only [kk] at hc1
    have hgb2 : getB xs g (i - 1) = true := by assumption
    have hm1 := take_pos (get_take hgb2).1
    have hm9 := membersL_small c11
    refine x_region rfl ?_
    refine o_y (y_move rfl) ?_
    refine o_y (y_fieldAddr fd31_12 ti29 (by decide) rfl) ?_
    refine o_y (y_loadP ti29 rfl inn (cs := [_]) rfl rfl) ?_
    refine o_call fn162 rfl (members_ok ((hT.ext x17).ext x30) c11) ?_
    rintro v37 H3 _ ⟨x37, rfl, r37⟩
    have hs37 : ∃ a n c, v37 = .slice (some a) n c := by
      obtain ⟨p, c, rfl⟩ := r37.shape
      obtain ⟨q, h4, _⟩ := r37.at [] 0 hm1
      have h5 := AtS.isSl h4
      cases p with
      | none => simp [isSl] at h5
      | some a => exact ⟨a, _, c, rfl⟩
    refine o_appendL underlying24 ti3 rfl (by decide) rfl rfl j1 rfl r37 hs37 (by omega) (by omega) hol (fun v38 R38 news hn jr' => ?_)
    obtain ⟨zs, hz, hz0, hz16, jr, je⟩ : ∃ zs, zs = touch0 xs g i ∧ 0 < zs.length ∧ zs.length ≤ 16 ∧ Row v38 zs.length (cs ++ news) 3 1 R38 ∧ El H3 (cs ++ news) zs := ⟨_, rfl, by unfold touch0; rw [if_pos hgb2]; simp; omega, by unfold touch0; rw [if_pos hgb2]; simp; omega, by unfold touch0; rw [if_pos hgb2, List.length_append]; exact jr', by unfold touch0; rw [if_pos hgb2]; exact (j2.mono (x30.trans x37)).append hn⟩
    have xe := (x17.trans x30).trans x37
    refine o_y (y_assign rfl) ?_
    refine o_nil ?_
    refine x_seq ?_
    refine x_region rfl ?_
    refine o_y (y_move rfl) ?_
    refine o_call fn163 rfl (sort_ok jr je hz0 hz16 (.s .z)) ?_
    rintro v40 _ _ ⟨rfl, rfl, R40, rfl, j40⟩
    refine o_nil ?_
    refine x_seq ?_
    refine x_region rfl ?_
    have hso : ∀ x ∈ sortL zs, InR x := fun x hx => je.ints.2 x (sortL_mem.1 hx)
    have hsl := sortL_len zs
    rw [← hsl] at j40
    refine o_y (y_move rfl) ?_
    refine o_call fn164 rfl (compact_ok j40 (El.ofInts hso) (by omega) (by omega) (.s .z)) ?_
    rintro v42 _ _ ⟨rfl, R42, rfl, j42⟩
    refine o_y (y_assign rfl) ?_
    refine o_y (y_assign rfl) ?_
    refine o_nil ?_
    refine x_freeze (S := R42) (O' := _ :: O) ⟨[_], rfl⟩ (fun hN hX => ?_)
    refine x_ret ?_
    refine x_fin 1 (ret2 rfl rfl rfl) ?_
    refine ⟨xe.trans hX, rfl, _, by rw [hgb], fun _ => ?_⟩
    have hcl : (compL (sortL zs)).length ≤ (sortL zs).length := compL_le _
    rw [touchedL, ← hz]
    exact Row.freeze j42 rfl (El.ofInts (fun x hx => hso x (compL_mem hx))) (by have e : Rep.bytes Int = 8 := rfl; rw [e]; omega) hN
  try simp only [kk] at hc1
  obtain ⟨zs, hz, hz0, hz16, jr, je⟩ : ∃ zs, zs = touch0 xs g i ∧ 0 < zs.length ∧ zs.length ≤ 16 ∧ Row v24 zs.length cs 3 1 R ∧ El H2 cs zs := by
    have e : touch0 xs g i = membersL (getC xs g i).next_.nodes := by unfold touch0; rw [if_neg (by simp_all), List.append_nil]
    exact ⟨_, rfl, by rw [e]; omega, by rw [e]; omega, by rw [e]; exact j1, by rw [e]; exact j2.mono x30⟩
  have xe := x17.trans x30
  refine x_skip ?_
  refine x_seq ?_
  refine x_region rfl ?_
  refine o_y (y_move rfl) ?_
  refine o_call fn163 rfl (sort_ok jr je hz0 hz16 (.s .z)) ?_
  rintro v40 _ _ ⟨rfl, rfl, R40, rfl, j40⟩
  refine o_nil ?_
  refine x_seq ?_
  refine x_region rfl ?_
  have hso : ∀ x ∈ sortL zs, InR x := fun x hx => je.ints.2 x (sortL_mem.1 hx)
  have hsl := sortL_len zs
  rw [← hsl] at j40
  refine o_y (y_move rfl) ?_
  refine o_call fn164 rfl (compact_ok j40 (El.ofInts hso) (by omega) (by omega) (.s .z)) ?_
  rintro v42 _ _ ⟨rfl, R42, rfl, j42⟩
  refine o_y (y_assign rfl) ?_
  refine o_y (y_assign rfl) ?_
  refine o_nil ?_
  refine x_freeze (S := R42) (O' := _ :: O) ⟨[_], rfl⟩ (fun hN hX => ?_)
  refine x_ret ?_
  refine x_fin 1 (ret2 rfl rfl rfl) ?_
  refine ⟨xe.trans hX, rfl, _, by rw [hgb], fun _ => ?_⟩
  have hcl : (compL (sortL zs)).length ≤ (sortL zs).length := compL_le _
  rw [touchedL, ← hz]
  exact Row.freeze j42 rfl (El.ofInts (fun x hx => hso x (compL_mem hx))) (by have e : Rep.bytes Int = 8 := rfl; rw [e]; omega) hN
end Go.Ph
set_option linter.unusedVariables false
set_option linter.unusedSimpArgs false
set_option maxRecDepth 100000
namespace Go.Ph
open Go Go.RowKit Go.Proofs.YtmgnagpgnoikfaaGreatDoor Go.Proofs.Tryz
inductive OwnLs (H : HM) : List Value → List Log → OL → Prop where
  | n : OwnLs H [] [] []
  | c {cs : List Value} {ls : List Log} {Rs : OL} {va : Value} {csa : List Value} {Ra : OL} {x : Log} (h : OwnLs H cs ls Rs) (hg : InR x.group) (hr : Row va x.commits.length csa 31 15 Ra) (he : El H csa x.commits) (hs : x.commits.length * 200 ≤ 140737488351232) : OwnLs H (cs ++ [.int .i64 x.group, va]) (ls ++ [x]) (Ra ++ Rs)
theorem OwnLs.mono {H H' : HM} {cs : List Value} {ls : List Log} {Rs : OL} (e : Ext H H') (h : OwnLs H cs ls Rs) : OwnLs H' cs ls Rs := by
  induction h with
  | n => exact .n
  | c h hg hr he hs ih => exact .c ih hg hr (he.mono e) hs
theorem OwnLs.el {H H' : HM} {cs : List Value} {ls : List Log} {Rs : OL} (h : OwnLs H cs ls Rs) (e : Ext H H') (hH : ∀ b o, (b, o) ∈ Rs → H' b = some o) : El H' cs ls := by
  induction h with
  | n => exact .n
  | c h hg hr he hs ih =>
    refine (ih (fun b o hm => hH b o (by simp [hm]))).snoc ⟨_, rfl, hg, ?_⟩
    exact Row.inH hr rfl (he.mono e) hs (fun b o hm => hH b o (by simp [hm]))
theorem OwnLs.len {H : HM} {cs : List Value} {ls : List Log} {Rs : OL} (h : OwnLs H cs ls Rs) : cs.length = ls.length * 2 := by
  induction h with
  | n => rfl
  | c h hg hr he hs ih => simp only [List.length_append, List.length_cons, List.length_nil, ih]; omega
theorem OwnLs.split {H : HM} {cs : List Value} {ls : List Log} {Rs : OL} (h : OwnLs H cs ls Rs) : ∀ q (hq : q < ls.length), ∃ A D vq csq Rq Rr, cs = A ++ [.int .i64 ls[q].group, vq] ++ D ∧ A.length = q * 2 ∧ Rs.Perm (Rr ++ Rq) ∧ InR ls[q].group ∧ Row vq ls[q].commits.length csq 31 15 Rq ∧ El H csq ls[q].commits ∧ ls[q].commits.length * 200 ≤ 140737488351232 ∧
    ∀ H', Ext H H' → (∀ b o, (b, o) ∈ Rr → H' b = some o) → El H' A (ls.take q) ∧ El H' D (ls.drop (q + 1)) := by
  induction h with
  | n => intro q hq; simp at hq
  | @c cs ls Rs va csa Ra x h hg hr he hs ih =>
    intro q hq
    rw [List.length_append] at hq
    simp only [List.length_cons, List.length_nil] at hq
    by_cases hql : q < ls.length
    · obtain ⟨A, D, vq, csq, Rq, Rr, h1, h2, h3, h4, h5, h6, h7, h8⟩ := ih q hql
      have e : (ls ++ [x])[q] = ls[q] := List.getElem_append_left hql
      rw [e]
      refine ⟨A, D ++ [.int .i64 x.group, va], vq, csq, Rq, Ra ++ Rr, by rw [h1, List.append_assoc], h2, ?_, h4, h5, h6, h7, fun H' e' hH => ?_⟩
      · rw [List.append_assoc]; exact List.Perm.append_left Ra h3
      obtain ⟨h9, h10⟩ := h8 H' e' (fun b o hm => hH b o (by simp [hm]))
      refine ⟨by rw [List.take_append_of_le_length (by omega)]; exact h9, ?_⟩
      rw [List.drop_append_of_le_length (by omega)]
      exact h10.snoc ⟨_, rfl, hg, Row.inH hr rfl (he.mono e') hs (fun b o hm => hH b o (by simp [hm]))⟩
    have hq' : q = ls.length := by omega
    subst hq'
    have e : (ls ++ [x])[ls.length] = x := by simp
    have hl := h.len
    rw [e]
    refine ⟨cs, [], va, csa, Ra, Rs, by simp, hl, List.perm_append_comm, hg, hr, he, hs, fun H' e' hH => ?_⟩
    refine ⟨by rw [List.take_left']; exact h.el e' hH; rfl, by rw [List.drop_of_length_le (by simp)]; exact .n⟩
def leafN (x : Int) : Node := ⟨1, x, 0, []⟩
theorem leaf_ok {B : World} {H : HM} {O : OL} {x : Int} (hx : InR x) : CallsM prog 160 [.int .i64 x].toArray B H O (MadeS (⟨[leafN x]⟩ : Tree) H O) := by
  refine enter func160 rfl ntmps160 (l := [(0, _)]) rfl rfl ?_
  refine x_seq ?_
  refine x_region rfl ?_
  refine o_alloc ti29 rfl (fun b2 => ?_)
  refine o_nil ?_
  refine x_seq ?_
  refine x_region rfl ?_
  refine o_y (y_move rfl) ?_
  refine o_y (y_buildS bt127 rfl (C := [_, _, _, _]) rfl) ?_
  refine o_slice1 underlying27 ti127 (by decide) (by decide) rfl rfl (C := [_, _, _, _]) rfl rfl (fun b5 => ?_)
  refine o_y (y_buildS bt29 rfl (C := [_]) rfl) ?_
  refine o_store (u := [_]) (C' := [_]) ti29 rfl rfl rfl rfl (by first | rfl | assumption | (simp only [ones, List.all_cons, List.all_nil, Bool.and_true, one_of (by assumption)]; done)) (by repeat (first | exact .z | apply Upd.s | apply Upd.a)) (by exact Nat.le_of_ble_eq_true rfl) (by rfl) ?_
  refine o_nil ?_
  refine x_freeze (S := [(b5, _)]) (O' := _ :: O) ⟨[], rfl⟩ (fun hN hX => ?_)
  refine x_ret ?_
  refine x_fin 1 (retC rfl rfl ti29 inn rfl) ?_
  refine ⟨hX, rfl, _, rfl, _, rfl, ?_⟩
  have h0 : InR 0 := by unfold InR; omega
  have h1 : InR 1 := by unfold InR; omega
  refine Row.freeze (n := 1) (e := 127) (cs := [.int .i64 1, .int .i64 x, .int .i64 0, .slice none 0 0]) ⟨rfl, .inr ⟨b5, 1, [], rfl, Nat.le_refl _, rfl, rfl⟩⟩ rfl (El.one1 ⟨_, rfl, h1, hx, h0, RdL.nil _⟩) (by exact Nat.le_of_ble_eq_true rfl) hN
end Go.Ph
set_option linter.unusedVariables false
set_option linter.unusedSimpArgs false
set_option maxRecDepth 100000
namespace Go.Ph
open Go Go.RowKit Go.Proofs.YtmgnagpgnoikfaaGreatDoor Go.Proofs.Tryz
theorem insert_log {B : World} {H : HM} {O R : OL} {F : OL → OL} {v : Value} {n i b : Nat} {cs new : List Value} (hr : Row v n cs 95 2 R) (hi : i ≤ n) (hn : n ≤ 1000000) (hl : new.length = 2) (h1 : ones new = true) (h2 : ones cs = true) (hF : Hole O R F) :
    CallsM prog 44 [v, .int .i64 (i : Int), .slice (some ⟨b, 0, none⟩) 1 1].toArray B H ((b, cl new 95) :: O) (InsR (n + 1) (cs.take (i * 2) ++ new ++ cs.drop (i * 2)) 95 2 (fun R' => (b, cl new 95) :: F R') H) := by
  obtain ⟨p, c, rfl⟩ := hr.shape
  have hcl := hr.len
  have hnew : ∀ {O' : OL} w, Has H O' w → (b, cl new 95) ∈ O' → ∀ j u, new[j]? = some u → w.cell? ((⟨b, 0, none⟩ : Addr).add j) = some u := fun w hw hm j u hu => by rw [add_pl]; exact At.all (In.ofMem hm) w hw j u hu
  have hex : ∀ args w, (callFunc 186 args).run prog w = ((Extern.SlicesOverlaps.overlaps #[22, 22] #[4] args).run prog w).andThen fun v w' => .ok (.value v) w' := fun args w => run_callFunc_extern func186 (by kernel_rfl) (by kernel_rfl) (by kernel_rfl) (e := Extern.SlicesOverlaps.overlaps #[22, 22] #[4]) (by kernel_rfl) args w
  refine enter func44 rfl ntmps44 (l := [(0, _), (1, _), (2, _)]) rfl rfl ?_
  refine x_seq ?_
  refine x_region rfl ?_
  refine o_y (y_assign rfl) ?_
  refine o_nil ?_
  refine x_seq ?_
  refine x_region rfl ?_
  refine o_y (y_move rfl) ?_
  refine o_y (y_move rfl) ?_
  refine o_y (y_sliceL underlying22 ti95 rfl rfl (i) (by first | rfl | omega) (by omega)) ?_
  refine o_nil ?_
  refine x_seq ?_
  refine x_region rfl ?_
  refine o_y (y_move rfl) ?_
  refine o_y (y_lenA underlying22 rfl) ?_
  refine o_y (y_assign rfl) ?_
  refine o_nil ?_
  refine x_seq ?_
  refine x_seq ?_
  refine x_region rfl ?_
  refine o_y (y_move rfl) ?_
  refine o_y (y_eql rfl rfl) ?_
  refine o_nil ?_
  refine x_cond rfl (fun hc0 => ?_) (fun hc0 => ?_)
  · try simp only [kk] at hc0
    exfalso; omega
  try simp only [kk] at hc0
  refine x_skip ?_
  refine x_seq ?_
  refine x_region rfl ?_
  refine o_y (y_move rfl) ?_
  refine o_y (y_lenA underlying22 rfl) ?_
  refine o_y (y_assign rfl) ?_
  refine o_nil ?_
  refine x_seq ?_
  refine x_seq ?_
  refine x_region rfl ?_
  refine o_y (y_move rfl) ?_
  refine o_y (y_move rfl) ?_
  refine o_y (y_eql rfl rfl) ?_
  refine o_nil ?_
  refine x_cond rfl (fun hc1 => ?_) (fun hc1 => ?_)
  · try simp only [kk] at hc1
    refine x_seq ?_
    refine x_region rfl ?_
    refine o_y (y_move rfl) ?_
    refine o_y (y_move rfl) ?_
    refine o_append underlying22 ti95 rfl (by decide) rfl hr rfl (At.all .z) (by omega) h1 (by omega) (by omega) (.s hF) (fun v' R' j1 => ?_)
    refine o_y (y_assign rfl) ?_
    refine o_nil ?_
    refine x_ret ?_
    refine x_fin 0 (ret1 rfl rfl) ?_
    have e : i * 2 = cs.length := by omega
    rw [e, List.take_length, List.drop_length, List.append_nil]; exact ⟨rfl, R', rfl, j1⟩
  try simp only [kk] at hc1
  obtain ⟨b0, rfl, hb0⟩ := hr.some_of (by omega)
  have hcap := hr.capLe
  have hin : i < n := by omega
  refine x_ne hF hb0 (fun hne => ?_)
  refine x_skip ?_
  refine x_seq ?_
  refine x_seq ?_
  refine x_region rfl ?_
  refine o_y (y_move rfl) ?_
  refine o_y (y_move rfl) ?_
  refine o_y (y_addN rfl rfl (by omega) (by omega)) ?_
  refine o_y (y_move rfl) ?_
  refine o_y (y_cap underlying22 rfl) ?_
  refine o_y (y_gtr rfl rfl) ?_
  refine o_nil ?_
  refine x_cond rfl (fun hc2 => ?_) (fun hc2 => ?_)
  · try simp only [kk] at hc2
    refine x_seq ?_
    refine x_region rfl ?_
    refine o_y (y_move rfl) ?_
    refine o_y (y_move rfl) ?_
    refine o_y (y_sliceH underlying22 ti95 rfl rfl (i) (by first | rfl | omega) (by omega)) ?_
    refine o_y (y_move rfl) ?_
    refine o_y (y_move rfl) ?_
    refine o_y (y_addN rfl rfl (by omega) (by omega)) ?_
    refine o_y (y_move rfl) ?_
    refine o_y (y_subN rfl rfl (by omega) (by omega)) ?_
    refine o_appendZ (m := n + 1 - i) underlying22 underlying3 ti95 rfl (by decide) rfl rfl (by omega) (by omega) (by omega) (olds := cs.take (i * 2)) (by rw [List.length_take]; omega) (At.rowPart hr (fun p hp => .tail _ (hF.mem p hp)) (fun q u hu => by rw [Nat.zero_add]; rw [List.getElem?_take] at hu; split at hu; exact hu; cases hu)) (by omega) (by omega) (by omega) (fun bN cN spN zs hzl jN => ?_)
    have e9 : i + (n + 1 - i) = n + 1 := by omega
    rw [e9] at jN ⊢
    have hcN := jN.capLe
    have htl : (cs.take (i * 2)).length = i * 2 := by rw [List.length_take]; omega
    refine o_y (y_assign rfl) ?_
    refine o_nil ?_
    refine x_seq ?_
    refine x_region rfl ?_
    refine o_y (y_move rfl) ?_
    refine o_y (y_move rfl) ?_
    refine o_y (y_sliceX underlying22 ti95 rfl rfl i rfl (by omega) (by omega)) ?_
    refine o_y (y_move rfl) ?_
    refine o_copyR (m := 1) (news := new) underlying22 ti95 jN rfl rfl (by show min 1 (n + 1 - i) = 1; omega) (by omega) (by rw [List.length_append, htl, hzl]; omega) h1 (fun w hw => hnew w hw (.tail _ (.head _))) .o (fun RN jN2 => ?_)
    refine o_nil ?_
    refine x_seq ?_
    have hz1 : (zs.take 2).length = new.length := by rw [List.length_take, hzl, hl]; omega
    rw [putC_at' (A := cs.take (i * 2)) (X := zs.take 2) (D := zs.drop 2) (by rw [htl, Nat.zero_add]) hz1 (by rw [List.take_append_drop])] at jN2
    have hdl : (cs.drop (i * 2)).length = (n - i) * 2 := by rw [List.length_drop, hcl]; omega
    refine x_regionPs [] (fun p hp => by cases hp) [(0, true), (1, true), (2, true), (3, true), (4, true), (5, true), (6, true), (7, true), (8, false)] [0, 1, 2, 3, 4, 5, 6, 7] [] mixed (by kernel_rfl) (by repeat (first | exact np_fn | apply np_then | apply np_block)) ?_
    have hE := Ext.refl H
    refine p_take rfl rfl (y_move rfl) ?_
    refine p_take rfl rfl (y_move rfl) ?_
    refine p_take rfl rfl (y_move rfl) ?_
    refine p_take rfl rfl (y_addN rfl rfl (by omega) (by omega)) ?_
    refine p_take rfl rfl (y_sliceX underlying22 ti95 rfl rfl (i + 1) (by omega) (by omega) (by omega)) ?_
    refine p_take rfl rfl (y_move rfl) ?_
    refine p_take rfl rfl (y_move rfl) ?_
    refine p_take rfl rfl (y_sliceX underlying22 ti95 rfl rfl i rfl (by omega) (by omega)) ?_
    refine p_only rfl rfl ?_
    refine o_copyR (m := n - i) (news := cs.drop (i * 2)) underlying22 ti95 jN2 rfl rfl (by show min (n - i) (n + 1 - (i + 1)) = n - i; omega) hdl (by rw [List.length_append, List.length_append, htl, List.length_drop, hzl, hl]; omega) (ones_drop h2 _) (At.rowPart hr (fun p hp => List.mem_append_right _ (.tail _ (hF.mem p hp))) (fun q u hu => by rw [List.getElem?_drop] at hu; rw [Nat.zero_add]; exact hu)) .z (fun RN3 jN3 => ?_)
    rw [putC_at' (A := cs.take (i * 2) ++ new) (X := zs.drop 2) (D := []) (by rw [List.length_append, htl, hl]; omega) (by rw [List.length_drop, hzl, hdl]; omega) (by simp)] at jN3
    rw [List.append_nil] at jN3
    refine o_nil ?_
    refine ⟨.inr ⟨hE, by first | exact fun _ h => h | exact fun _ h => .tail _ h | exact fun _ h => .tail _ (.tail _ h) | exact fun _ h => .tail _ (.tail _ (.tail _ h)) | exact held_0 | exact held_1 | exact held_2 | exact held_z0 | exact held_z1 | exact held_s | exact held_s0 | exact held_bR | exact held_zbR | exact (fun _ h => by cases h)⟩, ?_⟩
    refine p_nil ?_
    refine x_seq ?_
    refine x_region rfl ?_
    refine o_y (y_move rfl) ?_
    refine o_y (y_assign rfl) ?_
    refine o_nil ?_
    obtain ⟨O2, hs2, hp2⟩ := hole_new' hF RN3
    refine x_perm List.perm_middle ?_
    refine x_pickP (O'' := (b, cl new 95) :: O2) (hs2.cons_cons _) (hp2.cons _) ?_
    refine x_ret ?_
    refine x_fin 0 (ret1 rfl rfl) ?_
    exact ⟨rfl, RN3, rfl, jN3⟩
  try simp only [kk] at hc2
  refine x_skip ?_
  refine x_seq ?_
  refine x_region rfl ?_
  refine o_y (y_move rfl) ?_
  refine o_y (y_move rfl) ?_
  refine o_y (y_move rfl) ?_
  refine o_y (y_addN rfl rfl (by omega) (by omega)) ?_
  refine o_y (y_sliceH underlying22 ti95 rfl rfl (n + 1) (by first | rfl | omega) (by omega)) ?_
  refine o_y (y_assign rfl) ?_
  refine o_nil ?_
  refine x_seq ?_
  refine x_seq ?_
  obtain ⟨ds, hds, hr2⟩ := hr.up (by omega)
  refine x_region rfl ?_
  refine o_y (y_move rfl) ?_
  refine o_y (y_move rfl) ?_
  refine o_y (y_move rfl) ?_
  refine o_y (y_move rfl) ?_
  refine o_y (y_addN rfl rfl (by omega) (by omega)) ?_
  refine o_y (y_sliceX underlying22 ti95 rfl rfl (i + 1) (by omega) (by omega) (by omega)) ?_
  obtain ⟨sp0, hsp0⟩ : ∃ sp0, (b0, cl (cs ++ sp0) 95) ∈ O := by
    rcases hr.form with ⟨h5, _⟩ | ⟨g, cap, sp, h5, _, _, h6⟩
    · cases h5
    injection h5 with h7 _ _
    injection h7 with h7
    injection h7 with h7
    subst h7
    exact ⟨sp, hF.mem _ (by rw [h6]; exact List.mem_singleton.2 rfl)⟩
  refine o_overlaps hex underlying22 ti95 rfl rfl hne .z (.s (In.ofMem hsp0)) (by rw [List.length_append]; omega) ?_
  refine o_y (y_not rfl) ?_
  refine o_nil ?_
  refine x_cond rfl (fun hc3 => ?_) (fun hc3 => ?_)
  · try simp only [kk] at hc3
    refine x_seq ?_
    have hdl : (cs.drop (i * 2)).length = (n - i) * 2 := by rw [List.length_drop, hcl]; omega
    have htl : (cs.take (i * 2)).length = i * 2 := by rw [List.length_take]; omega
    refine x_regionPs [] (fun p hp => by cases hp) [(0, true), (1, true), (2, true), (3, true), (4, true), (5, true), (6, true), (7, true), (8, false)] [0, 1, 2, 3, 4, 5, 6, 7] [] mixed (by kernel_rfl) (by repeat (first | exact np_fn | apply np_then | apply np_block)) ?_
    have hE := Ext.refl H
    refine p_take rfl rfl (y_move rfl) ?_
    refine p_take rfl rfl (y_move rfl) ?_
    refine p_take rfl rfl (y_move rfl) ?_
    refine p_take rfl rfl (y_addN rfl rfl (by omega) (by omega)) ?_
    refine p_take rfl rfl (y_sliceX underlying22 ti95 rfl rfl (i + 1) (by omega) (by omega) (by omega)) ?_
    refine p_take rfl rfl (y_move rfl) ?_
    refine p_take rfl rfl (y_move rfl) ?_
    refine p_take rfl rfl (y_sliceX underlying22 ti95 rfl rfl i rfl (by omega) (by omega)) ?_
    refine p_only rfl rfl ?_
    refine o_copyR (m := n - i) (news := cs.drop (i * 2)) underlying22 ti95 hr2 rfl rfl (by show min (n + 1 - i) (n + 1 - (i + 1)) = n - i; omega) hdl (by rw [List.length_append, hds]; omega) (ones_drop h2 _) (At.rowPart hr2 (fun p hp => .tail _ (hF.mem p hp)) (fun q u hu => by rw [List.getElem?_drop] at hu; rw [Nat.zero_add, List.getElem?_append_left (List.getElem?_eq_some_iff.1 hu).1]; exact hu)) (.s hF) (fun R3 hr3 => ?_)
    have hx1 : ((cs.drop (i * 2) ++ ds).take 2).length = new.length := by rw [List.length_take, List.length_append, hdl, hds, hl]; omega
    have hx2 : ((cs.drop (i * 2) ++ ds).drop 2).length = (cs.drop (i * 2)).length := by rw [List.length_drop, List.length_append, hds]; omega
    rw [putC_at' (A := cs.take (i * 2) ++ (cs.drop (i * 2) ++ ds).take 2) (X := (cs.drop (i * 2) ++ ds).drop 2) (D := []) (by rw [List.length_append, htl, hx1, hl]; omega) hx2 (by rw [List.append_nil, List.append_assoc, List.take_append_drop, ← List.append_assoc, List.take_append_drop])] at hr3
    rw [List.append_nil] at hr3
    refine o_nil ?_
    refine ⟨.inr ⟨hE, by first | exact fun _ h => h | exact fun _ h => .tail _ h | exact fun _ h => .tail _ (.tail _ h) | exact fun _ h => .tail _ (.tail _ (.tail _ h)) | exact held_0 | exact held_1 | exact held_2 | exact held_z0 | exact held_z1 | exact held_s | exact held_s0 | exact held_bR | exact held_zbR | exact (fun _ h => by cases h)⟩, ?_⟩
    refine p_nil ?_
    refine x_seq ?_
    refine x_region rfl ?_
    refine o_y (y_move rfl) ?_
    refine o_y (y_move rfl) ?_
    refine o_y (y_sliceX underlying22 ti95 rfl rfl i rfl (by omega) (by omega)) ?_
    refine o_y (y_move rfl) ?_
    refine o_copyR (m := 1) (news := new) underlying22 ti95 hr3 rfl rfl (by show min 1 (n + 1 - i) = 1; omega) (by omega) (by have := hr3.len; omega) h1 (fun w hw => hnew w hw (.head _)) (.s (hF.again R3)) (fun R4 hr4 => ?_)
    rw [putC_at' (A := cs.take (i * 2)) (X := (cs.drop (i * 2) ++ ds).take 2) (D := cs.drop (i * 2)) (by rw [htl, Nat.zero_add]) hx1 (by rw [List.append_assoc]), ← List.append_assoc] at hr4
    refine o_nil ?_
    refine x_seq ?_
    refine x_region rfl ?_
    refine o_y (y_move rfl) ?_
    refine o_y (y_assign rfl) ?_
    refine o_nil ?_
    refine x_ret ?_
    refine x_fin 0 (ret1 rfl rfl) ?_
    exact ⟨rfl, R4, rfl, hr4⟩
  try simp only [kk] at hc3
  exfalso; simp at hc3
end Go.Ph
set_option linter.unusedVariables false
set_option linter.unusedSimpArgs false
set_option maxRecDepth 100000
namespace Go.Ph
open Go Go.RowKit Go.Proofs.YtmgnagpgnoikfaaGreatDoor Go.Proofs.Tryz
theorem El.parts {α : Type} [Rep α] {H : HM} {cs : List Value} {xs : List α} (h : El H cs xs) (k : Nat) (hk : k ≤ xs.length) : El H (cs.take (k * Rep.sz α)) (xs.take k) ∧ El H (cs.drop (k * Rep.sz α)) (xs.drop k) := by
  by_cases hl : k < xs.length
  · obtain ⟨A, ds, D, rfl, h1, h2, h3, h4⟩ := h.split k hl
    refine ⟨?_, ?_⟩
    · rw [List.append_assoc, ← h1, List.take_left]; exact h2
    rw [List.append_assoc, ← h1, List.drop_left, List.drop_eq_getElem_cons hl]; exact .c h3 h4
  have : k = xs.length := by omega
  subst this
  have hl := h.len
  refine ⟨?_, ?_⟩
  · rw [← hl, List.take_length, List.take_length]; exact h
  rw [← hl, List.drop_length, List.drop_length]; exact .n
def appErr (xs : List Log) (c : Commit) : Int :=
  if lcheckB xs = true ∧ takeB c = true then (if c.epoch = (commitsOf xs c.group).length then (if foundB xs c.group = false ∧ xs.length = 16 then 3 else 0) else 10) else 1
def appLogs (xs : List Log) (c : Commit) : List Log :=
  if appErr xs c = 0 then (if foundB xs c.group = true then xs.take (placeN xs c.group) ++ [⟨c.group, (logAt xs (placeN xs c.group)).commits ++ [c]⟩] ++ xs.drop (placeN xs c.group + 1)
    else xs.take (placeN xs c.group) ++ [⟨c.group, [c]⟩] ++ xs.drop (placeN xs c.group)) else []
abbrev App (err : Int) (ys : List Log) (H : HM) (O : OL) : Value → HM → OL → Prop := fun v H' O' => Ext H H' ∧ O = O' ∧ ∃ u, v = .tuple #[u, .int .i64 err] ∧ RdL H' u ys
theorem append_ok {B : World} {H : HM} {O : OL} {v : Value} {xs : List Log} {cs : List Value} {c : Commit} (hT : TabAt H) (h : RdL H v xs) (hc : Rep.rd H cs c) (hsm : ∀ x ∈ xs, x.commits.length ≤ 1000000) :
    CallsM prog 10 [v, .agg cs.toArray].toArray B H O (App (appErr xs c) (appLogs xs c) H O) := by
  have hk := hc
  have wk := Rep.one hc
  obtain ⟨u6, u7, u8, u9, u12, rfl, h0, h1, h2, h3, h4, h5, h6, h7, h8, h9, h10, h11, h12, h13⟩ := hc
  have hlc := errI_cases (lcheckB xs)
  have hsv := h.lenle
  obtain ⟨P, hP⟩ : ∃ P, P = placeN xs c.group := ⟨_, rfl⟩
  have hPle := (searchN_le (placeP xs c.group) 0 xs.length (by omega)).2
  change placeN xs c.group ≤ xs.length at hPle
  refine enter func10 rfl ntmps10 (l := [(0, _), (1, _)]) rfl rfl ?_
  refine x_seq ?_
  refine x_region rfl ?_
  refine o_box rfl (cs := [_, _, _, _, _, _, _, _, _, _, _, _, _, _, _]) rfl (fun b3 => ?_)
  refine o_y (y_assign rfl) ?_
  refine o_y (y_assign rfl) ?_
  refine o_nil ?_
  refine x_seq ?_
  refine x_seq ?_
  refine x_region rfl ?_
  refine o_y (y_move rfl) ?_
  refine o_call fn25 rfl (lcheck_ok hT h) ?_
  rintro _ _ _ ⟨rfl, rfl, rfl⟩
  refine o_y (y_neq rfl rfl) ?_
  refine o_y (y_move rfl) ?_
  refine o_split 17 rfl (fun hg1_17 => ?_) (fun hg1_17 => ?_)
  · try simp only [kk] at hg1_17
    refine o_gn 17 rfl rfl rfl ?_
    refine o_gn 17 rfl rfl rfl ?_
    refine o_gn 17 rfl rfl rfl ?_
    refine o_y (y_pick rfl rfl) ?_
    refine o_nil ?_
    refine x_condT rfl ?_
    refine x_seq ?_
    refine x_region rfl ?_
    refine o_y (y_assign rfl) ?_
    refine o_y (y_assign rfl) ?_
    refine o_nil ?_
    refine x_ret ?_
    refine x_fin 1 (ret2 rfl rfl rfl) ?_
    have e : appErr xs c = 1 := by
      rw [appErr, if_neg]
      rintro ⟨e1, e2⟩
      first
        | (rw [e1] at hlc; simp [errI] at hlc; omega)
        | simp_all
    rw [e, appLogs, e]
    exact ⟨Ext.refl _, rfl, _, rfl, RdL.nil _⟩
  try simp only [kk] at hg1_17
  refine o_gy 17 rfl rfl (y_loadA ti31 rfl inn rfl) ?_
  refine o_gcall 17 rfl rfl fn41 rfl (takeable_ok hT hk) ?_
  rintro _ _ _ ⟨rfl, rfl, rfl⟩
  refine o_gy 17 rfl rfl (y_not rfl) ?_
  refine o_y (y_pick rfl rfl) ?_
  refine o_nil ?_
  refine x_cond rfl (fun hc0 => ?_) (fun hc0 => ?_)
  · try simp only [kk] at hc0
    refine x_seq ?_
    refine x_region rfl ?_
    refine o_y (y_assign rfl) ?_
    refine o_y (y_assign rfl) ?_
    refine o_nil ?_
    refine x_ret ?_
    refine x_fin 1 (ret2 rfl rfl rfl) ?_
    have e : appErr xs c = 1 := by
      rw [appErr, if_neg]
      rintro ⟨e1, e2⟩
      first
        | (rw [e1] at hlc; simp [errI] at hlc; omega)
        | simp_all
    rw [e, appLogs, e]
    exact ⟨Ext.refl _, rfl, _, rfl, RdL.nil _⟩
  try simp only [kk] at hc0
  refine x_skip ?_
  refine x_seq ?_
  refine x_seq ?_
  refine x_regionQ mixed (by kernel_rfl) rfl ?_
  refine q_y (y_fieldAddr fd31_1 ti3 (by decide) rfl) ?_
  refine q_y (y_loadO ti3 rfl inn rfl) ?_
  refine q_y (y_move rfl) ?_
  refine q_y (y_fieldAddr fd31_0 ti3 (by decide) rfl) ?_
  refine q_y (y_loadO ti3 rfl inn rfl) ?_
  refine q_call fn27 rfl (len_ok hT h h0) ?_
  refine q_y (y_neq rfl rfl) ?_
  refine q_nil ?_
  refine x_cond rfl (fun hc1 => ?_) (fun hc1 => ?_)
  · try simp only [kk] at hc1
    refine x_seq ?_
    refine x_region rfl ?_
    refine o_y (y_assign rfl) ?_
    refine o_y (y_assign rfl) ?_
    refine o_nil ?_
    refine x_ret ?_
    refine x_fin 1 (ret2 rfl rfl rfl) ?_
    have e : appErr xs c = 10 := by
      rw [appErr, if_pos ⟨by rcases hlc with ⟨e1, e2⟩ | ⟨e1, e2⟩ <;> first | exact e1 | (exfalso; omega), by simp_all⟩, if_neg (by omega)]
    rw [e, appLogs, e]
    exact ⟨Ext.refl _, rfl, _, rfl, RdL.nil _⟩
  try simp only [kk] at hc1
  refine x_skip ?_
  refine x_seq ?_
  refine x_region rfl ?_
  refine o_y (y_move rfl) ?_
  refine o_y (y_fieldAddr fd31_0 ti3 (by decide) rfl) ?_
  refine o_y (y_loadO ti3 rfl inn rfl) ?_
  refine o_call fn42 rfl (place_ok h h0) ?_
  rintro _ _ _ ⟨rfl, rfl, rfl⟩
  refine o_y (y_move rfl) ?_
  refine o_y (y_extract rfl rfl) ?_
  refine o_y (y_extract rfl rfl) ?_
  refine o_y (y_assign rfl) ?_
  refine o_y (y_assign rfl) ?_
  refine o_nil ?_
  refine x_seq ?_
  refine x_seq ?_
  refine x_region rfl ?_
  refine o_y (y_move rfl) ?_
  refine o_y (y_not rfl) ?_
  refine o_y (y_move rfl) ?_
  refine o_split 38 rfl (fun hg6_38 => ?_) (fun hg6_38 => ?_)
  · try simp only [kk] at hg6_38
    refine o_gy 38 rfl rfl (y_move rfl) ?_
    first | refine o_gy 38 rfl rfl (y_lenL (by assumption) underlying22 rfl) ?_ | refine o_gy 38 rfl rfl (y_lenR (by assumption) underlying22 rfl) ?_ | refine o_gy 38 rfl rfl (y_len underlying22 rfl) ?_
    refine o_gy 38 rfl rfl (y_eql rfl rfl) ?_
    refine o_y (y_pick rfl rfl) ?_
    refine o_nil ?_
    refine x_cond rfl (fun hc2 => ?_) (fun hc2 => ?_)
    · try simp only [kk] at hc2
      refine x_seq ?_
      refine x_region rfl ?_
      refine o_y (y_assign rfl) ?_
      refine o_y (y_assign rfl) ?_
      refine o_nil ?_
      refine x_ret ?_
      refine x_fin 1 (ret2 rfl rfl rfl) ?_
      have e : appErr xs c = 3 := by
        rw [appErr, if_pos ⟨by rcases hlc with ⟨e1, e2⟩ | ⟨e1, e2⟩ <;> first | exact e1 | (exfalso; omega), by simp_all⟩, if_pos (by omega), if_pos ⟨by simp_all, by omega⟩]
      rw [e, appLogs, e]
      exact ⟨Ext.refl _, rfl, _, rfl, RdL.nil _⟩
    try simp only [kk] at hc2
    refine x_skip ?_
    refine x_seq ?_
    have hlcb : lcheckB xs = true := by rcases hlc with ⟨e1, e2⟩ | ⟨e1, e2⟩ <;> first | exact e1 | (exfalso; omega)
    have hn16 : xs.length ≤ 16 := by
      have := hlcb
      simp only [lcheckB, Bool.and_eq_true, decide_eq_true_eq] at this
      exact this.1
    have hae : appErr xs c = 0 := by
      rw [appErr, if_pos ⟨hlcb, by simp_all⟩, if_pos (by omega), if_neg]
      rintro ⟨e1, e2⟩
      first
        | omega
        | simp_all
    rw [← hP]
    have hPle' : P ≤ xs.length := by rw [hP]; exact hPle
    refine x_region rfl ?_
    refine o_y (y_assign rfl) ?_
    refine o_nil ?_
    refine x_seq ?_
    refine x_seq ?_
    refine x_region rfl ?_
    refine o_y (y_move rfl) ?_
    refine o_y (y_lenA underlying22 rfl) ?_
    refine o_y (y_move rfl) ?_
    refine o_nil ?_
    refine x_block ?_
    refine x_loopg (σ := Nat × HM × Value × List Value × OL × OL) (fun s => [(45, .int .i64 (s.1 : Int)), (44, .int .i64 (xs.length : Int)), (43, v), (0, v), (8, s.2.2.1), (6, .int .i64 (P : Int)), (7, .bool (foundB xs c.group)), (3, .pointer (some ⟨b3, 0, none⟩))]) (fun s => s.2.1) (fun s => s.2.2.2.2.2 ++ (s.2.2.2.2.1 ++ _)) (fun s => s.1 ≤ xs.length ∧ Ext H s.2.1 ∧ Row s.2.2.1 s.1 s.2.2.2.1 95 2 s.2.2.2.2.1 ∧ OwnLs s.2.1 s.2.2.2.1 (xs.take s.1) s.2.2.2.2.2) (fun s => xs.length - s.1) (0, H, .slice none 0 0, [], [], []) ⟨by simp, Ext.refl _, Row.nil _ _, .n⟩ (.c rfl (.c rfl (.c rfl (.c rfl (.c rfl (.c rfl (.c rfl (.c rfl .n)))))))) rfl rfl ?_
    rintro ⟨k, H5, v9, cs9, R9, Rs⟩ ⟨i1, i2, i3, i4⟩
    simp only at i1 i2 i3 i4
    refine x_seq ?_
    refine x_region rfl ?_
    refine o_y (y_lss rfl rfl) ?_
    refine o_nil ?_
    refine x_seq ?_
    refine x_cond rfl (fun hc3 => ?_) (fun hc3 => ?_)
    · try simp only [kk] at hc3
      have hkk : k < xs.length := by omega
      have hsk := hsm _ (List.getElem_mem hkk)
      have hv5 := h.mono i2
      refine x_skip ?_
      refine x_seq ?_
      refine x_block ?_
      refine x_seq ?_
      refine x_region rfl ?_
      obtain ⟨ce47, ae47, re47⟩ := RdL.at hv5 _ k hkk
      have se47 := AtS.isSl ae47
      have te47 := re47
      obtain ⟨u47_1, z47, q47_0, q47_1⟩ := re47
      subst z47
      have w47 := Rep.one te47
      refine o_y (y_idxL hv5 k hkk underlying22 ti95 rfl rfl (by omega)) ?_
      refine o_y (y_loadS ti95 rfl (by assumption) rfl (fun e => by cases e)) ?_
      refine o_alloc ti95 rfl (fun b10 => ?_)
      refine o_store (u := [_, _]) (C' := [_, _]) ti95 rfl rfl rfl rfl (by first | rfl | assumption | (simp only [ones, List.all_cons, List.all_nil, Bool.and_true, one_of (by assumption)]; done)) (by repeat (first | exact .z | apply Upd.s | apply Upd.a)) (by exact Nat.le_of_ble_eq_true rfl) (by rfl) ?_
      refine o_nil ?_
      refine x_seq ?_
      refine x_region rfl ?_
      refine o_y (y_fieldAddr fd95_0 ti3 (by decide) rfl) ?_
      refine o_y (y_loadO ti3 rfl inn rfl) ?_
      refine o_y (y_buildS bt95 rfl (C := [_, _]) rfl) ?_
      refine o_alloc ti95 rfl (fun b11 => ?_)
      refine o_store (u := [_, _]) (C' := [_, _]) ti95 rfl rfl rfl rfl (by first | rfl | assumption | (simp only [ones, List.all_cons, List.all_nil, Bool.and_true, one_of (by assumption)]; done)) (by repeat (first | exact .z | apply Upd.s | apply Upd.a)) (by exact Nat.le_of_ble_eq_true rfl) (by rfl) ?_
      refine o_nil ?_
      refine x_seq ?_
      refine x_seq ?_
      refine x_region rfl ?_
      refine o_y (y_fieldAddr fd95_1 ti93 (by decide) rfl) ?_
      refine o_y (y_loadO ti93 rfl inn rfl) ?_
      refine o_y (y_lenA underlying93 rfl) ?_
      refine o_y (y_move rfl) ?_
      refine o_nil ?_
      refine x_block ?_
      refine x_loopg (σ := Nat × HM × Value × List Value × OL) (fun s => [(55, .int .i64 (s.1 : Int)), (54, .int .i64 (xs[k].commits.length : Int)), (53, u47_1), (45, .int .i64 (k : Int)), (44, .int .i64 (xs.length : Int)), (43, v), (0, v), (8, v9), (6, .int .i64 (P : Int)), (7, .bool (foundB xs c.group)), (3, .pointer (some ⟨b3, 0, none⟩)), (11, .pointer (some ⟨b11, 0, none⟩))]) (fun s => s.2.1) (fun s => s.2.2.2.2 ++ ((b11, cl [.int .i64 xs[k].group, s.2.2.1] 95) :: _)) (fun s => s.1 ≤ xs[k].commits.length ∧ Ext H5 s.2.1 ∧ Row s.2.2.1 s.1 s.2.2.2.1 31 15 s.2.2.2.2 ∧ El s.2.1 s.2.2.2.1 (xs[k].commits.take s.1)) (fun s => xs[k].commits.length - s.1) (0, H5, .slice none 0 0, [], []) ⟨by simp, Ext.refl _, Row.nil _ _, .n⟩ (.c rfl (.c rfl (.c rfl (.c rfl (.c rfl (.c rfl (.c rfl (.c rfl (.c rfl (.c rfl (.c rfl (.c rfl .n)))))))))))) rfl rfl ?_
      rintro ⟨m, H6, va, csa, Ra⟩ ⟨l1, l2, l3, l4⟩
      simp only at l1 l2 l3 l4
      refine x_seq ?_
      refine x_region rfl ?_
      refine o_y (y_lss rfl rfl) ?_
      refine o_nil ?_
      refine x_seq ?_
      refine x_cond rfl (fun hc4 => ?_) (fun hc4 => ?_)
      · try simp only [kk] at hc4
        have hm : m < xs[k].commits.length := by omega
        have hq5 := q47_1.mono l2
        refine x_skip ?_
        refine x_seq ?_
        refine x_block ?_
        refine x_seq ?_
        refine x_region rfl ?_
        obtain ⟨ce57, ae57, re57⟩ := RdL.at hq5 _ m hm
        have se57 := AtS.isSl ae57
        have te57 := re57
        obtain ⟨u57_6, u57_7, u57_8, u57_9, u57_12, z57, q57_0, q57_1, q57_2, q57_3, q57_4, q57_5, q57_6, q57_7, q57_8, q57_9, q57_10, q57_11, q57_12, q57_13⟩ := re57
        subst z57
        have w57 := Rep.one te57
        refine o_y (y_idxL hq5 m hm underlying93 ti31 rfl rfl (by omega)) ?_
        refine o_y (y_loadS ti31 rfl (by assumption) rfl (fun e => by cases e)) ?_
        refine o_alloc ti31 rfl (fun b13 => ?_)
        refine o_store (u := [_, _, _, _, _, _, _, _, _, _, _, _, _, _, _]) (C' := [_, _, _, _, _, _, _, _, _, _, _, _, _, _, _]) ti31 rfl rfl rfl rfl (by first | rfl | assumption | (simp only [ones, List.all_cons, List.all_nil, Bool.and_true, one_of (by assumption)]; done)) (by repeat (first | exact .z | apply Upd.s | apply Upd.a)) (by exact Nat.le_of_ble_eq_true rfl) (by rfl) ?_
        refine o_nil ?_
        refine x_regionPs _ held_1 [(0, true), (1, true), (2, true), (3, false), (4, false), (5, false), (6, true), (7, false)] [0, 1, 2, 6] [7] mixed (by kernel_rfl) (by repeat (first | exact np_fn | apply np_then | apply np_block)) ?_
        have hE := Ext.refl H6
        refine p_take rfl rfl (y_fieldAddr fd95_1 ti93 (by decide) rfl) ?_
        refine p_take rfl rfl (y_loadO ti93 rfl inn rfl) ?_
        refine p_take rfl rfl (y_loadA ti31 rfl inn rfl) ?_
        refine p_only rfl rfl ?_
        refine o_call fn43 rfl (copied_ok te57) ?_
        rintro v62 H7 _ ⟨x62, rfl, cs62, rfl, r62⟩
        refine o_nil ?_
        replace hE := hE.trans x62
        have w62 := Rep.one r62
        obtain ⟨d6, d7, d8, d9, d12, rfl, r62⟩ := r62
        refine ⟨.inr ⟨hE, by first | exact fun _ h => h | exact fun _ h => .tail _ h | exact fun _ h => .tail _ (.tail _ h) | exact fun _ h => .tail _ (.tail _ (.tail _ h)) | exact held_0 | exact held_1 | exact held_2 | exact held_z0 | exact held_z1 | exact held_s | exact held_s0 | exact held_bR | exact held_zbR | exact (fun _ h => by cases h)⟩, ?_⟩
        refine p_only rfl rfl ?_
        refine o_slice1 underlying93 ti31 (by decide) (by decide) rfl rfl (C := [_, _, _, _, _, _, _, _, _, _, _, _, _, _, _]) rfl rfl (fun b63 => ?_)
        refine o_nil ?_
        refine ⟨.inr ⟨hE, by first | exact fun _ h => h | exact fun _ h => .tail _ h | exact fun _ h => .tail _ (.tail _ h) | exact fun _ h => .tail _ (.tail _ (.tail _ h)) | exact held_0 | exact held_1 | exact held_2 | exact held_z0 | exact held_z1 | exact held_s | exact held_s0 | exact held_bR | exact held_zbR | exact (fun _ h => by cases h)⟩, ?_⟩
        refine p_only rfl rfl ?_
        refine o_append underlying93 ti31 rfl (by decide) rfl l3 rfl (At.all inn) rfl w62 (by omega) (by omega) hol (fun v64 R64 j64 => ?_)
        refine o_nil ?_
        obtain ⟨p64, c64, rfl⟩ := j64.shape
        refine ⟨.inr ⟨hE, by first | exact fun _ h => h | exact fun _ h => .tail _ h | exact fun _ h => .tail _ (.tail _ h) | exact fun _ h => .tail _ (.tail _ (.tail _ h)) | exact held_0 | exact held_1 | exact held_2 | exact held_z0 | exact held_z1 | exact held_s | exact held_s0 | exact held_bR | exact held_zbR | exact (fun _ h => by cases h)⟩, ?_⟩
        refine p_take rfl rfl (y_fieldAddr fd95_1 ti93 (by decide) rfl) ?_
        refine p_only rfl rfl ?_
        refine o_store (u := [_]) (C' := [_, _]) ti93 rfl rfl rfl rfl (by first | rfl | assumption | (simp only [ones, List.all_cons, List.all_nil, Bool.and_true, one_of (by assumption)]; done)) (by repeat (first | exact .z | apply Upd.s | apply Upd.a)) (by exact Nat.le_of_ble_eq_true rfl) (by rfl) ?_
        refine o_nil ?_
        refine ⟨.inl rfl, ?_⟩
        refine p_nil ?_
        refine x_region rfl ?_
        refine o_y (y_addN rfl rfl (by omega) (by omega)) ?_
        refine o_y (y_move rfl) ?_
        refine o_nil ?_
        exact ⟨(m + 1, H7, .slice p64 (m + 1) c64, _, R64), 2, rfl, (.c rfl (.c rfl (.c rfl (.c rfl (.c rfl (.c rfl (.c rfl (.c rfl (.c rfl (.c rfl (.c rfl (.c rfl .n)))))))))))), rfl, ⟨by omega, l2.trans x62, j64, by rw [take_next hm]; exact (l4.mono x62).snoc ⟨_, _, _, _, _, rfl, r62⟩⟩, by simp only; omega⟩
      try simp only [kk] at hc4
      refine x_exit ?_
      obtain rfl : m = xs[k].commits.length := by omega
      obtain ⟨pa, ca, rfl⟩ := l3.shape
      rw [List.take_length] at l4
      refine x_region rfl ?_
      refine o_y (y_move rfl) ?_
      refine o_y (y_loadA ti95 rfl inn rfl) ?_
      refine o_slice1 underlying22 ti95 (by decide) (by decide) rfl rfl (C := [_, _]) rfl rfl (fun b69 => ?_)
      refine o_append underlying22 ti95 rfl (by decide) rfl i3 rfl (At.all inn) rfl rfl (by omega) (by omega) hol (fun v70 R70 j70 => ?_)
      refine o_y (y_assign rfl) ?_
      refine o_nil ?_
      refine x_pick (O' := (Ra ++ Rs) ++ (R70 ++ _)) (.cons _ (by rw [List.append_assoc]; exact (List.Sublist.refl Ra).append (.cons _ (.cons _ (List.Sublist.refl _))))) ?_
      refine x_region rfl ?_
      refine o_y (y_addN rfl rfl (by omega) (by omega)) ?_
      refine o_y (y_move rfl) ?_
      refine o_nil ?_
      exact ⟨(k + 1, H6, v70, _, R70, Ra ++ Rs), 0, rfl, (.c rfl (.c rfl (.c rfl (.c rfl (.c rfl (.c rfl (.c rfl (.c rfl .n)))))))), rfl, ⟨by omega, i2.trans l2, j70, by rw [take_next hkk]; exact OwnLs.c (i4.mono l2) q47_0 l3 l4 (by omega)⟩, by simp only; omega⟩
    try simp only [kk] at hc3
    refine x_exit ?_
    refine x_seq ?_
    refine x_seq ?_
    obtain rfl : k = xs.length := by omega
    rw [List.take_length] at i4
    refine x_region rfl ?_
    refine o_y (y_move rfl) ?_
    refine o_y (y_not rfl) ?_
    refine o_nil ?_
    refine x_cond rfl (fun hc5 => ?_) (fun hc5 => ?_)
    · try simp only [kk] at hc5
      have hf : foundB xs c.group = false := by assumption
      refine x_freezeP (S := Rs) (O' := R9 ++ _) (List.Perm.refl _) (fun H9 hX9 hI9 => ?_)
      have el := i4.el hX9 hI9
      refine x_region rfl ?_
      refine o_y (y_move rfl) ?_
      refine o_y (y_move rfl) ?_
      refine o_y (y_fieldAddr fd31_0 ti3 (by decide) rfl) ?_
      refine o_y (y_loadO ti3 rfl inn rfl) ?_
      refine o_y (y_buildS bt95 rfl (C := [_, _]) rfl) ?_
      refine o_slice1 underlying22 ti95 (by decide) (by decide) rfl rfl (C := [_, _]) rfl rfl (fun b79 => ?_)
      refine o_call fn44 rfl (insert_log i3 hPle' (by omega) rfl rfl el.one .z) ?_
      rintro v9 _ _ ⟨rfl, R9, rfl, j80⟩
      refine o_y (y_assign rfl) ?_
      refine o_nil ?_
      obtain ⟨Rq, hRq⟩ : ∃ Rq : OL, Rq = [] := ⟨_, rfl⟩
      refine x_pick (O' := Rq ++ (R9 ++ _)) (by subst hRq; exact .cons _ (List.Sublist.refl _)) ?_
      obtain ⟨N, A, D, gq, vq, csq, cq, LA, LD, hN, hN2, jb, hA, hgq, jq, ecq, hcq, eA, eD, hfin⟩ : ∃ (N : Nat) (A D : List Value) (gq : Int) (vq : Value) (csq : List Value) (cq : List Commit) (LA LD : List Log), P < N ∧ N ≤ 17 ∧ Row v9 N (A ++ [.int .i64 gq, vq] ++ D) 95 2 R9 ∧ A.length = P * 2 ∧ gq = c.group ∧ Row vq cq.length csq 31 15 Rq ∧ El H9 csq cq ∧ cq.length ≤ 1000000 ∧ El H9 A LA ∧ El H9 D LD ∧ appLogs xs c = LA ++ [⟨gq, cq ++ [c]⟩] ++ LD :=
        ⟨xs.length + 1, _, _, c.group, _, [], [], xs.take P, xs.drop P, by omega, by omega, j80, by have := i4.len; rw [List.length_take]; omega, rfl, by rw [hRq]; exact Row.nil _ _, .n, by simp, (el.parts P hPle').1, (el.parts P hPle').2, by
          rw [appLogs, if_pos hae, if_neg (by rw [hf]; simp), ← hP, List.nil_append]⟩
      have xE := i2.trans hX9
      refine x_seq ?_
      refine x_regionPs _ held_0 [(0, true), (1, true), (2, true), (3, true), (4, true), (5, true), (6, true), (7, true), (8, false), (9, false), (10, false), (11, false), (12, true), (13, false)] [0, 1, 2, 3, 4, 5, 6, 7, 12] [13] mixed (by kernel_rfl) (by repeat (first | exact np_fn | apply np_then | apply np_block)) ?_
      have hE := Ext.refl H9
      have s9 := jb.sl (by omega)
      have hjl := jb.len
      have aq : AtS H9 R9 v9 (_ * 2) [.int .i64 gq, vq] := jb.at (fun p hp => hp) (by omega) (fun i u hu => by
        rw [List.append_assoc, ← hA, List.getElem?_append_right (by omega), Nat.add_sub_cancel_left, List.getElem?_append_left (List.getElem?_eq_some_iff.1 hu).1]; exact hu)
      refine p_take rfl rfl (y_move rfl) ?_
      refine p_take rfl rfl (y_move rfl) ?_
      refine p_take rfl rfl (y_move rfl) ?_
      refine p_take rfl rfl (y_move rfl) ?_
      refine p_take rfl rfl (y_idxR jb _ hN underlying22 ti95 rfl rfl rfl) ?_
      refine p_take rfl rfl (y_fieldAddrP fd95_1 ti93 (by decide) (by assumption) rfl) ?_
      refine p_take rfl rfl (y_loadS1 ti93 rfl (AtS.sub (by assumption) (fun p hp => by repeat (first | exact hp | exact List.mem_append_left _ hp | apply List.mem_cons_of_mem | apply List.mem_append_right))) rfl) ?_
      refine p_take rfl rfl (y_loadA ti31 rfl inn rfl) ?_
      refine p_only rfl rfl ?_
      refine o_call fn43 rfl (copied_ok (Rep.mono xE hk)) ?_
      rintro v89 H10 _ ⟨x89, rfl, cs89, rfl, r89⟩
      refine o_nil ?_
      replace hE := hE.trans x89
      have w89 := Rep.one r89
      obtain ⟨d6, d7, d8, d9, d12, rfl, r89⟩ := r89
      refine ⟨.inr ⟨hE, by first | exact fun _ h => h | exact fun _ h => .tail _ h | exact fun _ h => .tail _ (.tail _ h) | exact fun _ h => .tail _ (.tail _ (.tail _ h)) | exact held_0 | exact held_1 | exact held_2 | exact held_z0 | exact held_z1 | exact held_s | exact held_s0 | exact held_bR | exact held_zbR | exact (fun _ h => by cases h)⟩, ?_⟩
      refine p_only rfl rfl ?_
      refine o_slice1 underlying93 ti31 (by decide) (by decide) rfl rfl (C := [_, _, _, _, _, _, _, _, _, _, _, _, _, _, _]) rfl rfl (fun b90 => ?_)
      refine o_nil ?_
      refine ⟨.inr ⟨hE, by first | exact fun _ h => h | exact fun _ h => .tail _ h | exact fun _ h => .tail _ (.tail _ h) | exact fun _ h => .tail _ (.tail _ (.tail _ h)) | exact held_0 | exact held_1 | exact held_2 | exact held_z0 | exact held_z1 | exact held_s | exact held_s0 | exact held_bR | exact held_zbR | exact (fun _ h => by cases h)⟩, ?_⟩
      refine p_only rfl rfl ?_
      refine o_append underlying93 ti31 rfl (by decide) rfl jq rfl (At.all inn) rfl w89 (by omega) (by omega) hol (fun v91 R91 j91 => ?_)
      refine o_nil ?_
      obtain ⟨p91, c91, rfl⟩ := j91.shape
      refine ⟨.inr ⟨hE, by first | exact fun _ h => h | exact fun _ h => .tail _ h | exact fun _ h => .tail _ (.tail _ h) | exact fun _ h => .tail _ (.tail _ (.tail _ h)) | exact held_0 | exact held_1 | exact held_2 | exact held_z0 | exact held_z1 | exact held_s | exact held_s0 | exact held_bR | exact held_zbR | exact (fun _ h => by cases h)⟩, ?_⟩
      refine p_only rfl rfl ?_
      refine o_y (y_idxR jb _ hN underlying22 ti95 rfl rfl rfl) ?_
      refine o_nil ?_
      refine ⟨.inr ⟨hE, by first | exact fun _ h => h | exact fun _ h => .tail _ h | exact fun _ h => .tail _ (.tail _ h) | exact fun _ h => .tail _ (.tail _ (.tail _ h)) | exact held_0 | exact held_1 | exact held_2 | exact held_z0 | exact held_z1 | exact held_s | exact held_s0 | exact held_bR | exact held_zbR | exact (fun _ h => by cases h)⟩, ?_⟩
      refine p_take rfl rfl (y_fieldAddrP fd95_1 ti93 (by decide) (by assumption) rfl) ?_
      refine p_only rfl rfl ?_
      refine o_storeS (u := [_]) ti93 rfl rfl jb rfl rfl (by first | rfl | assumption | (simp only [ones, List.all_cons, List.all_nil, Bool.and_true, one_of (by assumption)]; done)) (by omega) (by omega) hol (fun R22_13 j22_13 => ?_)
      refine o_nil ?_
      refine ⟨.inl rfl, ?_⟩
      refine p_nil ?_
      refine x_seq ?_
      refine x_region rfl ?_
      refine o_y (y_move rfl) ?_
      refine o_y (y_assign rfl) ?_
      refine o_y (y_assign rfl) ?_
      refine o_nil ?_
      rw [putC_mid hA (by exact Nat.le_of_ble_eq_true rfl)] at j22_13
      refine x_pick (O' := (R91 ++ R22_13) ++ O) (.cons _ (by rw [List.append_assoc]; exact (List.Sublist.refl R91).append ((List.Sublist.refl R22_13).append (.cons _ (List.Sublist.refl _))))) ?_
      refine x_freezeP (S := R91 ++ R22_13) (O' := O) (List.Perm.refl _) (fun H11 hX11 hI11 => ?_)
      refine x_ret ?_
      refine x_fin 0 (ret2 rfl rfl rfl) ?_
      have xF := x89.trans hX11
      rw [hae]
      refine ⟨xE.trans xF, rfl, _, rfl, ?_⟩
      have eq1 : El H11 _ (cq ++ [c]) := ((ecq.mono x89).mono hX11).append (El.one1 (Rep.mono hX11 (show Rep.rd H10 _ c from ⟨_, _, _, _, _, rfl, r89⟩)))
      have rq := Row.inH j91 (by simp) eq1 (by have e : Rep.bytes Commit = 200 := rfl; rw [e]; simp; omega) (fun b o hm => hI11 b o (by simp [hm]))
      have e2 : N = (LA ++ [(⟨gq, cq ++ [c]⟩ : Log)] ++ LD).length := by
        have h1 := jb.len
        have h2 := eA.len
        have h3 := eD.len
        have e : Rep.sz Log = 2 := rfl
        rw [e] at h2 h3
        simp only [List.length_append, List.length_cons, List.length_nil] at h1 ⊢
        omega
      rw [hfin]
      refine Row.inH j22_13 e2 (((eA.mono xF).snoc (x := (⟨gq, cq ++ [c]⟩ : Log)) ⟨_, rfl, by show InR gq; rw [hgq]; exact h0, rq⟩).append (eD.mono xF)) (by rw [← e2]; have e : Rep.bytes Log = 32 := rfl; rw [e]; omega) (fun b o hm => hI11 b o (by simp [hm]))
    try simp only [kk] at hc5
    have hf : foundB xs c.group = true := by assumption
    have hPl := (of_decide_eq_true hf).1
    have hPg := (of_decide_eq_true hf).2
    rw [← hP] at hPl hPg
    rw [grpAt_eq hPl] at hPg
    obtain ⟨A, D, vq, csq, Rq, Rr, z1, hA, z3, z4, z5, z6, z7, z8⟩ := i4.split P hPl
    refine x_freezeP (S := Rr) (O' := Rq ++ (R9 ++ _)) ((z3.append_right _).trans (by rw [List.append_assoc])) (fun H9 hX9 hI9 => ?_)
    obtain ⟨z9, z10⟩ := z8 H9 hX9 hI9
    have hsP := hsm _ (List.getElem_mem hPl)
    obtain ⟨N, A, D, gq, vq, csq, cq, LA, LD, hN, hN2, jb, hA, hgq, jq, ecq, hcq, eA, eD, hfin⟩ : ∃ (N : Nat) (A D : List Value) (gq : Int) (vq : Value) (csq : List Value) (cq : List Commit) (LA LD : List Log), P < N ∧ N ≤ 17 ∧ Row v9 N (A ++ [.int .i64 gq, vq] ++ D) 95 2 R9 ∧ A.length = P * 2 ∧ gq = c.group ∧ Row vq cq.length csq 31 15 Rq ∧ El H9 csq cq ∧ cq.length ≤ 1000000 ∧ El H9 A LA ∧ El H9 D LD ∧ appLogs xs c = LA ++ [⟨gq, cq ++ [c]⟩] ++ LD :=
      ⟨xs.length, A, D, xs[P].group, vq, csq, xs[P].commits, _, _, hPl, by omega, by rw [← z1]; exact i3, hA, hPg, z5, z6.mono hX9, hsP, z9, z10, by
        rw [appLogs, if_pos hae, if_pos hf, ← hP, logAt_eq hPl, hPg]⟩
    have xE := i2.trans hX9
    refine x_skip ?_
    refine x_seq ?_
    refine x_regionPs _ held_0 [(0, true), (1, true), (2, true), (3, true), (4, true), (5, true), (6, true), (7, true), (8, false), (9, false), (10, false), (11, false), (12, true), (13, false)] [0, 1, 2, 3, 4, 5, 6, 7, 12] [13] mixed (by kernel_rfl) (by repeat (first | exact np_fn | apply np_then | apply np_block)) ?_
    have hE := Ext.refl H9
    have s9 := jb.sl (by omega)
    have hjl := jb.len
    have aq : AtS H9 R9 v9 (_ * 2) [.int .i64 gq, vq] := jb.at (fun p hp => hp) (by omega) (fun i u hu => by
      rw [List.append_assoc, ← hA, List.getElem?_append_right (by omega), Nat.add_sub_cancel_left, List.getElem?_append_left (List.getElem?_eq_some_iff.1 hu).1]; exact hu)
    refine p_take rfl rfl (y_move rfl) ?_
    refine p_take rfl rfl (y_move rfl) ?_
    refine p_take rfl rfl (y_move rfl) ?_
    refine p_take rfl rfl (y_move rfl) ?_
    refine p_take rfl rfl (y_idxR jb _ hN underlying22 ti95 rfl rfl rfl) ?_
    refine p_take rfl rfl (y_fieldAddrP fd95_1 ti93 (by decide) (by assumption) rfl) ?_
    refine p_take rfl rfl (y_loadS1 ti93 rfl (AtS.sub (by assumption) (fun p hp => by repeat (first | exact hp | exact List.mem_append_left _ hp | apply List.mem_cons_of_mem | apply List.mem_append_right))) rfl) ?_
    refine p_take rfl rfl (y_loadA ti31 rfl inn rfl) ?_
    refine p_only rfl rfl ?_
    refine o_call fn43 rfl (copied_ok (Rep.mono xE hk)) ?_
    rintro v89 H10 _ ⟨x89, rfl, cs89, rfl, r89⟩
    refine o_nil ?_
    replace hE := hE.trans x89
    have w89 := Rep.one r89
    obtain ⟨d6, d7, d8, d9, d12, rfl, r89⟩ := r89
    refine ⟨.inr ⟨hE, by first | exact fun _ h => h | exact fun _ h => .tail _ h | exact fun _ h => .tail _ (.tail _ h) | exact fun _ h => .tail _ (.tail _ (.tail _ h)) | exact held_0 | exact held_1 | exact held_2 | exact held_z0 | exact held_z1 | exact held_s | exact held_s0 | exact held_bR | exact held_zbR | exact (fun _ h => by cases h)⟩, ?_⟩
    refine p_only rfl rfl ?_
    refine o_slice1 underlying93 ti31 (by decide) (by decide) rfl rfl (C := [_, _, _, _, _, _, _, _, _, _, _, _, _, _, _]) rfl rfl (fun b90 => ?_)
    refine o_nil ?_
    refine ⟨.inr ⟨hE, by first | exact fun _ h => h | exact fun _ h => .tail _ h | exact fun _ h => .tail _ (.tail _ h) | exact fun _ h => .tail _ (.tail _ (.tail _ h)) | exact held_0 | exact held_1 | exact held_2 | exact held_z0 | exact held_z1 | exact held_s | exact held_s0 | exact held_bR | exact held_zbR | exact (fun _ h => by cases h)⟩, ?_⟩
    refine p_only rfl rfl ?_
    refine o_append underlying93 ti31 rfl (by decide) rfl jq rfl (At.all inn) rfl w89 (by omega) (by omega) hol (fun v91 R91 j91 => ?_)
    refine o_nil ?_
    obtain ⟨p91, c91, rfl⟩ := j91.shape
    refine ⟨.inr ⟨hE, by first | exact fun _ h => h | exact fun _ h => .tail _ h | exact fun _ h => .tail _ (.tail _ h) | exact fun _ h => .tail _ (.tail _ (.tail _ h)) | exact held_0 | exact held_1 | exact held_2 | exact held_z0 | exact held_z1 | exact held_s | exact held_s0 | exact held_bR | exact held_zbR | exact (fun _ h => by cases h)⟩, ?_⟩
    refine p_only rfl rfl ?_
    refine o_y (y_idxR jb _ hN underlying22 ti95 rfl rfl rfl) ?_
    refine o_nil ?_
    refine ⟨.inr ⟨hE, by first | exact fun _ h => h | exact fun _ h => .tail _ h | exact fun _ h => .tail _ (.tail _ h) | exact fun _ h => .tail _ (.tail _ (.tail _ h)) | exact held_0 | exact held_1 | exact held_2 | exact held_z0 | exact held_z1 | exact held_s | exact held_s0 | exact held_bR | exact held_zbR | exact (fun _ h => by cases h)⟩, ?_⟩
    refine p_take rfl rfl (y_fieldAddrP fd95_1 ti93 (by decide) (by assumption) rfl) ?_
    refine p_only rfl rfl ?_
    refine o_storeS (u := [_]) ti93 rfl rfl jb rfl rfl (by first | rfl | assumption | (simp only [ones, List.all_cons, List.all_nil, Bool.and_true, one_of (by assumption)]; done)) (by omega) (by omega) hol (fun R22_13 j22_13 => ?_)
    refine o_nil ?_
    refine ⟨.inl rfl, ?_⟩
    refine p_nil ?_
    refine x_seq ?_
    refine x_region rfl ?_
    refine o_y (y_move rfl) ?_
    refine o_y (y_assign rfl) ?_
    refine o_y (y_assign rfl) ?_
    refine o_nil ?_
    rw [putC_mid hA (by exact Nat.le_of_ble_eq_true rfl)] at j22_13
    refine x_pick (O' := (R91 ++ R22_13) ++ O) (.cons _ (by rw [List.append_assoc]; exact (List.Sublist.refl R91).append ((List.Sublist.refl R22_13).append (.cons _ (List.Sublist.refl _))))) ?_
    refine x_freezeP (S := R91 ++ R22_13) (O' := O) (List.Perm.refl _) (fun H11 hX11 hI11 => ?_)
    refine x_ret ?_
    refine x_fin 0 (ret2 rfl rfl rfl) ?_
    have xF := x89.trans hX11
    rw [hae]
    refine ⟨xE.trans xF, rfl, _, rfl, ?_⟩
    have eq1 : El H11 _ (cq ++ [c]) := ((ecq.mono x89).mono hX11).append (El.one1 (Rep.mono hX11 (show Rep.rd H10 _ c from ⟨_, _, _, _, _, rfl, r89⟩)))
    have rq := Row.inH j91 (by simp) eq1 (by have e : Rep.bytes Commit = 200 := rfl; rw [e]; simp; omega) (fun b o hm => hI11 b o (by simp [hm]))
    have e2 : N = (LA ++ [(⟨gq, cq ++ [c]⟩ : Log)] ++ LD).length := by
      have h1 := jb.len
      have h2 := eA.len
      have h3 := eD.len
      have e : Rep.sz Log = 2 := rfl
      rw [e] at h2 h3
      simp only [List.length_append, List.length_cons, List.length_nil] at h1 ⊢
      omega
    rw [hfin]
    refine Row.inH j22_13 e2 (((eA.mono xF).snoc (x := (⟨gq, cq ++ [c]⟩ : Log)) ⟨_, rfl, by show InR gq; rw [hgq]; exact h0, rq⟩).append (eD.mono xF)) (by rw [← e2]; have e : Rep.bytes Log = 32 := rfl; rw [e]; omega) (fun b o hm => hI11 b o (by simp [hm]))
  try simp only [kk] at hg6_38
  refine o_gn 38 rfl rfl rfl ?_
  refine o_gn 38 rfl rfl rfl ?_
  refine o_gn 38 rfl rfl rfl ?_
  refine o_y (y_pick rfl rfl) ?_
  refine o_nil ?_
  refine x_condF rfl ?_
  refine x_skip ?_
  refine x_seq ?_
  have hlcb : lcheckB xs = true := by rcases hlc with ⟨e1, e2⟩ | ⟨e1, e2⟩ <;> first | exact e1 | (exfalso; omega)
  have hn16 : xs.length ≤ 16 := by
    have := hlcb
    simp only [lcheckB, Bool.and_eq_true, decide_eq_true_eq] at this
    exact this.1
  have hae : appErr xs c = 0 := by
    rw [appErr, if_pos ⟨hlcb, by simp_all⟩, if_pos (by omega), if_neg]
    rintro ⟨e1, e2⟩
    first
      | omega
      | simp_all
  rw [← hP]
  have hPle' : P ≤ xs.length := by rw [hP]; exact hPle
  refine x_region rfl ?_
  refine o_y (y_assign rfl) ?_
  refine o_nil ?_
  refine x_seq ?_
  refine x_seq ?_
  refine x_region rfl ?_
  refine o_y (y_move rfl) ?_
  refine o_y (y_lenA underlying22 rfl) ?_
  refine o_y (y_move rfl) ?_
  refine o_nil ?_
  refine x_block ?_
  refine x_loopg (σ := Nat × HM × Value × List Value × OL × OL) (fun s => [(45, .int .i64 (s.1 : Int)), (44, .int .i64 (xs.length : Int)), (43, v), (0, v), (8, s.2.2.1), (6, .int .i64 (P : Int)), (7, .bool (foundB xs c.group)), (3, .pointer (some ⟨b3, 0, none⟩))]) (fun s => s.2.1) (fun s => s.2.2.2.2.2 ++ (s.2.2.2.2.1 ++ _)) (fun s => s.1 ≤ xs.length ∧ Ext H s.2.1 ∧ Row s.2.2.1 s.1 s.2.2.2.1 95 2 s.2.2.2.2.1 ∧ OwnLs s.2.1 s.2.2.2.1 (xs.take s.1) s.2.2.2.2.2) (fun s => xs.length - s.1) (0, H, .slice none 0 0, [], [], []) ⟨by simp, Ext.refl _, Row.nil _ _, .n⟩ (.c rfl (.c rfl (.c rfl (.c rfl (.c rfl (.c rfl (.c rfl (.c rfl .n)))))))) rfl rfl ?_
  rintro ⟨k, H5, v9, cs9, R9, Rs⟩ ⟨i1, i2, i3, i4⟩
  simp only at i1 i2 i3 i4
  refine x_seq ?_
  refine x_region rfl ?_
  refine o_y (y_lss rfl rfl) ?_
  refine o_nil ?_
  refine x_seq ?_
  refine x_cond rfl (fun hc3 => ?_) (fun hc3 => ?_)
  · try simp only [kk] at hc3
    have hkk : k < xs.length := by omega
    have hsk := hsm _ (List.getElem_mem hkk)
    have hv5 := h.mono i2
    refine x_skip ?_
    refine x_seq ?_
    refine x_block ?_
    refine x_seq ?_
    refine x_region rfl ?_
    obtain ⟨ce47, ae47, re47⟩ := RdL.at hv5 _ k hkk
    have se47 := AtS.isSl ae47
    have te47 := re47
    obtain ⟨u47_1, z47, q47_0, q47_1⟩ := re47
    subst z47
    have w47 := Rep.one te47
    refine o_y (y_idxL hv5 k hkk underlying22 ti95 rfl rfl (by omega)) ?_
    refine o_y (y_loadS ti95 rfl (by assumption) rfl (fun e => by cases e)) ?_
    refine o_alloc ti95 rfl (fun b10 => ?_)
    refine o_store (u := [_, _]) (C' := [_, _]) ti95 rfl rfl rfl rfl (by first | rfl | assumption | (simp only [ones, List.all_cons, List.all_nil, Bool.and_true, one_of (by assumption)]; done)) (by repeat (first | exact .z | apply Upd.s | apply Upd.a)) (by exact Nat.le_of_ble_eq_true rfl) (by rfl) ?_
    refine o_nil ?_
    refine x_seq ?_
    refine x_region rfl ?_
    refine o_y (y_fieldAddr fd95_0 ti3 (by decide) rfl) ?_
    refine o_y (y_loadO ti3 rfl inn rfl) ?_
    refine o_y (y_buildS bt95 rfl (C := [_, _]) rfl) ?_
    refine o_alloc ti95 rfl (fun b11 => ?_)
    refine o_store (u := [_, _]) (C' := [_, _]) ti95 rfl rfl rfl rfl (by first | rfl | assumption | (simp only [ones, List.all_cons, List.all_nil, Bool.and_true, one_of (by assumption)]; done)) (by repeat (first | exact .z | apply Upd.s | apply Upd.a)) (by exact Nat.le_of_ble_eq_true rfl) (by rfl) ?_
    refine o_nil ?_
    refine x_seq ?_
    refine x_seq ?_
    refine x_region rfl ?_
    refine o_y (y_fieldAddr fd95_1 ti93 (by decide) rfl) ?_
    refine o_y (y_loadO ti93 rfl inn rfl) ?_
    refine o_y (y_lenA underlying93 rfl) ?_
    refine o_y (y_move rfl) ?_
    refine o_nil ?_
    refine x_block ?_
    refine x_loopg (σ := Nat × HM × Value × List Value × OL) (fun s => [(55, .int .i64 (s.1 : Int)), (54, .int .i64 (xs[k].commits.length : Int)), (53, u47_1), (45, .int .i64 (k : Int)), (44, .int .i64 (xs.length : Int)), (43, v), (0, v), (8, v9), (6, .int .i64 (P : Int)), (7, .bool (foundB xs c.group)), (3, .pointer (some ⟨b3, 0, none⟩)), (11, .pointer (some ⟨b11, 0, none⟩))]) (fun s => s.2.1) (fun s => s.2.2.2.2 ++ ((b11, cl [.int .i64 xs[k].group, s.2.2.1] 95) :: _)) (fun s => s.1 ≤ xs[k].commits.length ∧ Ext H5 s.2.1 ∧ Row s.2.2.1 s.1 s.2.2.2.1 31 15 s.2.2.2.2 ∧ El s.2.1 s.2.2.2.1 (xs[k].commits.take s.1)) (fun s => xs[k].commits.length - s.1) (0, H5, .slice none 0 0, [], []) ⟨by simp, Ext.refl _, Row.nil _ _, .n⟩ (.c rfl (.c rfl (.c rfl (.c rfl (.c rfl (.c rfl (.c rfl (.c rfl (.c rfl (.c rfl (.c rfl (.c rfl .n)))))))))))) rfl rfl ?_
    rintro ⟨m, H6, va, csa, Ra⟩ ⟨l1, l2, l3, l4⟩
    simp only at l1 l2 l3 l4
    refine x_seq ?_
    refine x_region rfl ?_
    refine o_y (y_lss rfl rfl) ?_
    refine o_nil ?_
    refine x_seq ?_
    refine x_cond rfl (fun hc4 => ?_) (fun hc4 => ?_)
    · try simp only [kk] at hc4
      have hm : m < xs[k].commits.length := by omega
      have hq5 := q47_1.mono l2
      refine x_skip ?_
      refine x_seq ?_
      refine x_block ?_
      refine x_seq ?_
      refine x_region rfl ?_
      obtain ⟨ce57, ae57, re57⟩ := RdL.at hq5 _ m hm
      have se57 := AtS.isSl ae57
      have te57 := re57
      obtain ⟨u57_6, u57_7, u57_8, u57_9, u57_12, z57, q57_0, q57_1, q57_2, q57_3, q57_4, q57_5, q57_6, q57_7, q57_8, q57_9, q57_10, q57_11, q57_12, q57_13⟩ := re57
      subst z57
      have w57 := Rep.one te57
      refine o_y (y_idxL hq5 m hm underlying93 ti31 rfl rfl (by omega)) ?_
      refine o_y (y_loadS ti31 rfl (by assumption) rfl (fun e => by cases e)) ?_
      refine o_alloc ti31 rfl (fun b13 => ?_)
      refine o_store (u := [_, _, _, _, _, _, _, _, _, _, _, _, _, _, _]) (C' := [_, _, _, _, _, _, _, _, _, _, _, _, _, _, _]) ti31 rfl rfl rfl rfl (by first | rfl | assumption | (simp only [ones, List.all_cons, List.all_nil, Bool.and_true, one_of (by assumption)]; done)) (by repeat (first | exact .z | apply Upd.s | apply Upd.a)) (by exact Nat.le_of_ble_eq_true rfl) (by rfl) ?_
      refine o_nil ?_
      refine x_regionPs _ held_1 [(0, true), (1, true), (2, true), (3, false), (4, false), (5, false), (6, true), (7, false)] [0, 1, 2, 6] [7] mixed (by kernel_rfl) (by repeat (first | exact np_fn | apply np_then | apply np_block)) ?_
      have hE := Ext.refl H6
      refine p_take rfl rfl (y_fieldAddr fd95_1 ti93 (by decide) rfl) ?_
      refine p_take rfl rfl (y_loadO ti93 rfl inn rfl) ?_
      refine p_take rfl rfl (y_loadA ti31 rfl inn rfl) ?_
      refine p_only rfl rfl ?_
      refine o_call fn43 rfl (copied_ok te57) ?_
      rintro v62 H7 _ ⟨x62, rfl, cs62, rfl, r62⟩
      refine o_nil ?_
      replace hE := hE.trans x62
      have w62 := Rep.one r62
      obtain ⟨d6, d7, d8, d9, d12, rfl, r62⟩ := r62
      refine ⟨.inr ⟨hE, by first | exact fun _ h => h | exact fun _ h => .tail _ h | exact fun _ h => .tail _ (.tail _ h) | exact fun _ h => .tail _ (.tail _ (.tail _ h)) | exact held_0 | exact held_1 | exact held_2 | exact held_z0 | exact held_z1 | exact held_s | exact held_s0 | exact held_bR | exact held_zbR | exact (fun _ h => by cases h)⟩, ?_⟩
      refine p_only rfl rfl ?_
      refine o_slice1 underlying93 ti31 (by decide) (by decide) rfl rfl (C := [_, _, _, _, _, _, _, _, _, _, _, _, _, _, _]) rfl rfl (fun b63 => ?_)
      refine o_nil ?_
      refine ⟨.inr ⟨hE, by first | exact fun _ h => h | exact fun _ h => .tail _ h | exact fun _ h => .tail _ (.tail _ h) | exact fun _ h => .tail _ (.tail _ (.tail _ h)) | exact held_0 | exact held_1 | exact held_2 | exact held_z0 | exact held_z1 | exact held_s | exact held_s0 | exact held_bR | exact held_zbR | exact (fun _ h => by cases h)⟩, ?_⟩
      refine p_only rfl rfl ?_
      refine o_append underlying93 ti31 rfl (by decide) rfl l3 rfl (At.all inn) rfl w62 (by omega) (by omega) hol (fun v64 R64 j64 => ?_)
      refine o_nil ?_
      obtain ⟨p64, c64, rfl⟩ := j64.shape
      refine ⟨.inr ⟨hE, by first | exact fun _ h => h | exact fun _ h => .tail _ h | exact fun _ h => .tail _ (.tail _ h) | exact fun _ h => .tail _ (.tail _ (.tail _ h)) | exact held_0 | exact held_1 | exact held_2 | exact held_z0 | exact held_z1 | exact held_s | exact held_s0 | exact held_bR | exact held_zbR | exact (fun _ h => by cases h)⟩, ?_⟩
      refine p_take rfl rfl (y_fieldAddr fd95_1 ti93 (by decide) rfl) ?_
      refine p_only rfl rfl ?_
      refine o_store (u := [_]) (C' := [_, _]) ti93 rfl rfl rfl rfl (by first | rfl | assumption | (simp only [ones, List.all_cons, List.all_nil, Bool.and_true, one_of (by assumption)]; done)) (by repeat (first | exact .z | apply Upd.s | apply Upd.a)) (by exact Nat.le_of_ble_eq_true rfl) (by rfl) ?_
      refine o_nil ?_
      refine ⟨.inl rfl, ?_⟩
      refine p_nil ?_
      refine x_region rfl ?_
      refine o_y (y_addN rfl rfl (by omega) (by omega)) ?_
      refine o_y (y_move rfl) ?_
      refine o_nil ?_
      exact ⟨(m + 1, H7, .slice p64 (m + 1) c64, _, R64), 2, rfl, (.c rfl (.c rfl (.c rfl (.c rfl (.c rfl (.c rfl (.c rfl (.c rfl (.c rfl (.c rfl (.c rfl (.c rfl .n)))))))))))), rfl, ⟨by omega, l2.trans x62, j64, by rw [take_next hm]; exact (l4.mono x62).snoc ⟨_, _, _, _, _, rfl, r62⟩⟩, by simp only; omega⟩
    try simp only [kk] at hc4
    refine x_exit ?_
    obtain rfl : m = xs[k].commits.length := by omega
    obtain ⟨pa, ca, rfl⟩ := l3.shape
    rw [List.take_length] at l4
    refine x_region rfl ?_
    refine o_y (y_move rfl) ?_
    refine o_y (y_loadA ti95 rfl inn rfl) ?_
    refine o_slice1 underlying22 ti95 (by decide) (by decide) rfl rfl (C := [_, _]) rfl rfl (fun b69 => ?_)
    refine o_append underlying22 ti95 rfl (by decide) rfl i3 rfl (At.all inn) rfl rfl (by omega) (by omega) hol (fun v70 R70 j70 => ?_)
    refine o_y (y_assign rfl) ?_
    refine o_nil ?_
    refine x_pick (O' := (Ra ++ Rs) ++ (R70 ++ _)) (.cons _ (by rw [List.append_assoc]; exact (List.Sublist.refl Ra).append (.cons _ (.cons _ (List.Sublist.refl _))))) ?_
    refine x_region rfl ?_
    refine o_y (y_addN rfl rfl (by omega) (by omega)) ?_
    refine o_y (y_move rfl) ?_
    refine o_nil ?_
    exact ⟨(k + 1, H6, v70, _, R70, Ra ++ Rs), 0, rfl, (.c rfl (.c rfl (.c rfl (.c rfl (.c rfl (.c rfl (.c rfl (.c rfl .n)))))))), rfl, ⟨by omega, i2.trans l2, j70, by rw [take_next hkk]; exact OwnLs.c (i4.mono l2) q47_0 l3 l4 (by omega)⟩, by simp only; omega⟩
  try simp only [kk] at hc3
  refine x_exit ?_
  refine x_seq ?_
  refine x_seq ?_
  obtain rfl : k = xs.length := by omega
  rw [List.take_length] at i4
  refine x_region rfl ?_
  refine o_y (y_move rfl) ?_
  refine o_y (y_not rfl) ?_
  refine o_nil ?_
  refine x_cond rfl (fun hc5 => ?_) (fun hc5 => ?_)
  · try simp only [kk] at hc5
    have hf : foundB xs c.group = false := by assumption
    refine x_freezeP (S := Rs) (O' := R9 ++ _) (List.Perm.refl _) (fun H9 hX9 hI9 => ?_)
    have el := i4.el hX9 hI9
    refine x_region rfl ?_
    refine o_y (y_move rfl) ?_
    refine o_y (y_move rfl) ?_
    refine o_y (y_fieldAddr fd31_0 ti3 (by decide) rfl) ?_
    refine o_y (y_loadO ti3 rfl inn rfl) ?_
    refine o_y (y_buildS bt95 rfl (C := [_, _]) rfl) ?_
    refine o_slice1 underlying22 ti95 (by decide) (by decide) rfl rfl (C := [_, _]) rfl rfl (fun b79 => ?_)
    refine o_call fn44 rfl (insert_log i3 hPle' (by omega) rfl rfl el.one .z) ?_
    rintro v9 _ _ ⟨rfl, R9, rfl, j80⟩
    refine o_y (y_assign rfl) ?_
    refine o_nil ?_
    obtain ⟨Rq, hRq⟩ : ∃ Rq : OL, Rq = [] := ⟨_, rfl⟩
    refine x_pick (O' := Rq ++ (R9 ++ _)) (by subst hRq; exact .cons _ (List.Sublist.refl _)) ?_
    obtain ⟨N, A, D, gq, vq, csq, cq, LA, LD, hN, hN2, jb, hA, hgq, jq, ecq, hcq, eA, eD, hfin⟩ : ∃ (N : Nat) (A D : List Value) (gq : Int) (vq : Value) (csq : List Value) (cq : List Commit) (LA LD : List Log), P < N ∧ N ≤ 17 ∧ Row v9 N (A ++ [.int .i64 gq, vq] ++ D) 95 2 R9 ∧ A.length = P * 2 ∧ gq = c.group ∧ Row vq cq.length csq 31 15 Rq ∧ El H9 csq cq ∧ cq.length ≤ 1000000 ∧ El H9 A LA ∧ El H9 D LD ∧ appLogs xs c = LA ++ [⟨gq, cq ++ [c]⟩] ++ LD :=
      ⟨xs.length + 1, _, _, c.group, _, [], [], xs.take P, xs.drop P, by omega, by omega, j80, by have := i4.len; rw [List.length_take]; omega, rfl, by rw [hRq]; exact Row.nil _ _, .n, by simp, (el.parts P hPle').1, (el.parts P hPle').2, by
        rw [appLogs, if_pos hae, if_neg (by rw [hf]; simp), ← hP, List.nil_append]⟩
    have xE := i2.trans hX9
    refine x_seq ?_
    refine x_regionPs _ held_0 [(0, true), (1, true), (2, true), (3, true), (4, true), (5, true), (6, true), (7, true), (8, false), (9, false), (10, false), (11, false), (12, true), (13, false)] [0, 1, 2, 3, 4, 5, 6, 7, 12] [13] mixed (by kernel_rfl) (by repeat (first | exact np_fn | apply np_then | apply np_block)) ?_
    have hE := Ext.refl H9
    have s9 := jb.sl (by omega)
    have hjl := jb.len
    have aq : AtS H9 R9 v9 (_ * 2) [.int .i64 gq, vq] := jb.at (fun p hp => hp) (by omega) (fun i u hu => by
      rw [List.append_assoc, ← hA, List.getElem?_append_right (by omega), Nat.add_sub_cancel_left, List.getElem?_append_left (List.getElem?_eq_some_iff.1 hu).1]; exact hu)
    refine p_take rfl rfl (y_move rfl) ?_
    refine p_take rfl rfl (y_move rfl) ?_
    refine p_take rfl rfl (y_move rfl) ?_
    refine p_take rfl rfl (y_move rfl) ?_
    refine p_take rfl rfl (y_idxR jb _ hN underlying22 ti95 rfl rfl rfl) ?_
    refine p_take rfl rfl (y_fieldAddrP fd95_1 ti93 (by decide) (by assumption) rfl) ?_
    refine p_take rfl rfl (y_loadS1 ti93 rfl (AtS.sub (by assumption) (fun p hp => by repeat (first | exact hp | exact List.mem_append_left _ hp | apply List.mem_cons_of_mem | apply List.mem_append_right))) rfl) ?_
    refine p_take rfl rfl (y_loadA ti31 rfl inn rfl) ?_
    refine p_only rfl rfl ?_
    refine o_call fn43 rfl (copied_ok (Rep.mono xE hk)) ?_
    rintro v89 H10 _ ⟨x89, rfl, cs89, rfl, r89⟩
    refine o_nil ?_
    replace hE := hE.trans x89
    have w89 := Rep.one r89
    obtain ⟨d6, d7, d8, d9, d12, rfl, r89⟩ := r89
    refine ⟨.inr ⟨hE, by first | exact fun _ h => h | exact fun _ h => .tail _ h | exact fun _ h => .tail _ (.tail _ h) | exact fun _ h => .tail _ (.tail _ (.tail _ h)) | exact held_0 | exact held_1 | exact held_2 | exact held_z0 | exact held_z1 | exact held_s | exact held_s0 | exact held_bR | exact held_zbR | exact (fun _ h => by cases h)⟩, ?_⟩
    refine p_only rfl rfl ?_
    refine o_slice1 underlying93 ti31 (by decide) (by decide) rfl rfl (C := [_, _, _, _, _, _, _, _, _, _, _, _, _, _, _]) rfl rfl (fun b90 => ?_)
    refine o_nil ?_
    refine ⟨.inr ⟨hE, by first | exact fun _ h => h | exact fun _ h => .tail _ h | exact fun _ h => .tail _ (.tail _ h) | exact fun _ h => .tail _ (.tail _ (.tail _ h)) | exact held_0 | exact held_1 | exact held_2 | exact held_z0 | exact held_z1 | exact held_s | exact held_s0 | exact held_bR | exact held_zbR | exact (fun _ h => by cases h)⟩, ?_⟩
    refine p_only rfl rfl ?_
    refine o_append underlying93 ti31 rfl (by decide) rfl jq rfl (At.all inn) rfl w89 (by omega) (by omega) hol (fun v91 R91 j91 => ?_)
    refine o_nil ?_
    obtain ⟨p91, c91, rfl⟩ := j91.shape
    refine ⟨.inr ⟨hE, by first | exact fun _ h => h | exact fun _ h => .tail _ h | exact fun _ h => .tail _ (.tail _ h) | exact fun _ h => .tail _ (.tail _ (.tail _ h)) | exact held_0 | exact held_1 | exact held_2 | exact held_z0 | exact held_z1 | exact held_s | exact held_s0 | exact held_bR | exact held_zbR | exact (fun _ h => by cases h)⟩, ?_⟩
    refine p_only rfl rfl ?_
    refine o_y (y_idxR jb _ hN underlying22 ti95 rfl rfl rfl) ?_
    refine o_nil ?_
    refine ⟨.inr ⟨hE, by first | exact fun _ h => h | exact fun _ h => .tail _ h | exact fun _ h => .tail _ (.tail _ h) | exact fun _ h => .tail _ (.tail _ (.tail _ h)) | exact held_0 | exact held_1 | exact held_2 | exact held_z0 | exact held_z1 | exact held_s | exact held_s0 | exact held_bR | exact held_zbR | exact (fun _ h => by cases h)⟩, ?_⟩
    refine p_take rfl rfl (y_fieldAddrP fd95_1 ti93 (by decide) (by assumption) rfl) ?_
    refine p_only rfl rfl ?_
    refine o_storeS (u := [_]) ti93 rfl rfl jb rfl rfl (by first | rfl | assumption | (simp only [ones, List.all_cons, List.all_nil, Bool.and_true, one_of (by assumption)]; done)) (by omega) (by omega) hol (fun R22_13 j22_13 => ?_)
    refine o_nil ?_
    refine ⟨.inl rfl, ?_⟩
    refine p_nil ?_
    refine x_seq ?_
    refine x_region rfl ?_
    refine o_y (y_move rfl) ?_
    refine o_y (y_assign rfl) ?_
    refine o_y (y_assign rfl) ?_
    refine o_nil ?_
    rw [putC_mid hA (by exact Nat.le_of_ble_eq_true rfl)] at j22_13
    refine x_pick (O' := (R91 ++ R22_13) ++ O) (.cons _ (by rw [List.append_assoc]; exact (List.Sublist.refl R91).append ((List.Sublist.refl R22_13).append (.cons _ (List.Sublist.refl _))))) ?_
    refine x_freezeP (S := R91 ++ R22_13) (O' := O) (List.Perm.refl _) (fun H11 hX11 hI11 => ?_)
    refine x_ret ?_
    refine x_fin 0 (ret2 rfl rfl rfl) ?_
    have xF := x89.trans hX11
    rw [hae]
    refine ⟨xE.trans xF, rfl, _, rfl, ?_⟩
    have eq1 : El H11 _ (cq ++ [c]) := ((ecq.mono x89).mono hX11).append (El.one1 (Rep.mono hX11 (show Rep.rd H10 _ c from ⟨_, _, _, _, _, rfl, r89⟩)))
    have rq := Row.inH j91 (by simp) eq1 (by have e : Rep.bytes Commit = 200 := rfl; rw [e]; simp; omega) (fun b o hm => hI11 b o (by simp [hm]))
    have e2 : N = (LA ++ [(⟨gq, cq ++ [c]⟩ : Log)] ++ LD).length := by
      have h1 := jb.len
      have h2 := eA.len
      have h3 := eD.len
      have e : Rep.sz Log = 2 := rfl
      rw [e] at h2 h3
      simp only [List.length_append, List.length_cons, List.length_nil] at h1 ⊢
      omega
    rw [hfin]
    refine Row.inH j22_13 e2 (((eA.mono xF).snoc (x := (⟨gq, cq ++ [c]⟩ : Log)) ⟨_, rfl, by show InR gq; rw [hgq]; exact h0, rq⟩).append (eD.mono xF)) (by rw [← e2]; have e : Rep.bytes Log = 32 := rfl; rw [e]; omega) (fun b o hm => hI11 b o (by simp [hm]))
  try simp only [kk] at hc5
  have hf : foundB xs c.group = true := by assumption
  have hPl := (of_decide_eq_true hf).1
  have hPg := (of_decide_eq_true hf).2
  rw [← hP] at hPl hPg
  rw [grpAt_eq hPl] at hPg
  obtain ⟨A, D, vq, csq, Rq, Rr, z1, hA, z3, z4, z5, z6, z7, z8⟩ := i4.split P hPl
  refine x_freezeP (S := Rr) (O' := Rq ++ (R9 ++ _)) ((z3.append_right _).trans (by rw [List.append_assoc])) (fun H9 hX9 hI9 => ?_)
  obtain ⟨z9, z10⟩ := z8 H9 hX9 hI9
  have hsP := hsm _ (List.getElem_mem hPl)
  obtain ⟨N, A, D, gq, vq, csq, cq, LA, LD, hN, hN2, jb, hA, hgq, jq, ecq, hcq, eA, eD, hfin⟩ : ∃ (N : Nat) (A D : List Value) (gq : Int) (vq : Value) (csq : List Value) (cq : List Commit) (LA LD : List Log), P < N ∧ N ≤ 17 ∧ Row v9 N (A ++ [.int .i64 gq, vq] ++ D) 95 2 R9 ∧ A.length = P * 2 ∧ gq = c.group ∧ Row vq cq.length csq 31 15 Rq ∧ El H9 csq cq ∧ cq.length ≤ 1000000 ∧ El H9 A LA ∧ El H9 D LD ∧ appLogs xs c = LA ++ [⟨gq, cq ++ [c]⟩] ++ LD :=
    ⟨xs.length, A, D, xs[P].group, vq, csq, xs[P].commits, _, _, hPl, by omega, by rw [← z1]; exact i3, hA, hPg, z5, z6.mono hX9, hsP, z9, z10, by
      rw [appLogs, if_pos hae, if_pos hf, ← hP, logAt_eq hPl, hPg]⟩
  have xE := i2.trans hX9
  refine x_skip ?_
  refine x_seq ?_
  refine x_regionPs _ held_0 [(0, true), (1, true), (2, true), (3, true), (4, true), (5, true), (6, true), (7, true), (8, false), (9, false), (10, false), (11, false), (12, true), (13, false)] [0, 1, 2, 3, 4, 5, 6, 7, 12] [13] mixed (by kernel_rfl) (by repeat (first | exact np_fn | apply np_then | apply np_block)) ?_
  have hE := Ext.refl H9
  have s9 := jb.sl (by omega)
  have hjl := jb.len
  have aq : AtS H9 R9 v9 (_ * 2) [.int .i64 gq, vq] := jb.at (fun p hp => hp) (by omega) (fun i u hu => by
    rw [List.append_assoc, ← hA, List.getElem?_append_right (by omega), Nat.add_sub_cancel_left, List.getElem?_append_left (List.getElem?_eq_some_iff.1 hu).1]; exact hu)
  refine p_take rfl rfl (y_move rfl) ?_
  refine p_take rfl rfl (y_move rfl) ?_
  refine p_take rfl rfl (y_move rfl) ?_
  refine p_take rfl rfl (y_move rfl) ?_
  refine p_take rfl rfl (y_idxR jb _ hN underlying22 ti95 rfl rfl rfl) ?_
  refine p_take rfl rfl (y_fieldAddrP fd95_1 ti93 (by decide) (by assumption) rfl) ?_
  refine p_take rfl rfl (y_loadS1 ti93 rfl (AtS.sub (by assumption) (fun p hp => by repeat (first | exact hp | exact List.mem_append_left _ hp | apply List.mem_cons_of_mem | apply List.mem_append_right))) rfl) ?_
  refine p_take rfl rfl (y_loadA ti31 rfl inn rfl) ?_
  refine p_only rfl rfl ?_
  refine o_call fn43 rfl (copied_ok (Rep.mono xE hk)) ?_
  rintro v89 H10 _ ⟨x89, rfl, cs89, rfl, r89⟩
  refine o_nil ?_
  replace hE := hE.trans x89
  have w89 := Rep.one r89
  obtain ⟨d6, d7, d8, d9, d12, rfl, r89⟩ := r89
  refine ⟨.inr ⟨hE, by first | exact fun _ h => h | exact fun _ h => .tail _ h | exact fun _ h => .tail _ (.tail _ h) | exact fun _ h => .tail _ (.tail _ (.tail _ h)) | exact held_0 | exact held_1 | exact held_2 | exact held_z0 | exact held_z1 | exact held_s | exact held_s0 | exact held_bR | exact held_zbR | exact (fun _ h => by cases h)⟩, ?_⟩
  refine p_only rfl rfl ?_
  refine o_slice1 underlying93 ti31 (by decide) (by decide) rfl rfl (C := [_, _, _, _, _, _, _, _, _, _, _, _, _, _, _]) rfl rfl (fun b90 => ?_)
  refine o_nil ?_
  refine ⟨.inr ⟨hE, by first | exact fun _ h => h | exact fun _ h => .tail _ h | exact fun _ h => .tail _ (.tail _ h) | exact fun _ h => .tail _ (.tail _ (.tail _ h)) | exact held_0 | exact held_1 | exact held_2 | exact held_z0 | exact held_z1 | exact held_s | exact held_s0 | exact held_bR | exact held_zbR | exact (fun _ h => by cases h)⟩, ?_⟩
  refine p_only rfl rfl ?_
  refine o_append underlying93 ti31 rfl (by decide) rfl jq rfl (At.all inn) rfl w89 (by omega) (by omega) hol (fun v91 R91 j91 => ?_)
  refine o_nil ?_
  obtain ⟨p91, c91, rfl⟩ := j91.shape
  refine ⟨.inr ⟨hE, by first | exact fun _ h => h | exact fun _ h => .tail _ h | exact fun _ h => .tail _ (.tail _ h) | exact fun _ h => .tail _ (.tail _ (.tail _ h)) | exact held_0 | exact held_1 | exact held_2 | exact held_z0 | exact held_z1 | exact held_s | exact held_s0 | exact held_bR | exact held_zbR | exact (fun _ h => by cases h)⟩, ?_⟩
  refine p_only rfl rfl ?_
  refine o_y (y_idxR jb _ hN underlying22 ti95 rfl rfl rfl) ?_
  refine o_nil ?_
  refine ⟨.inr ⟨hE, by first | exact fun _ h => h | exact fun _ h => .tail _ h | exact fun _ h => .tail _ (.tail _ h) | exact fun _ h => .tail _ (.tail _ (.tail _ h)) | exact held_0 | exact held_1 | exact held_2 | exact held_z0 | exact held_z1 | exact held_s | exact held_s0 | exact held_bR | exact held_zbR | exact (fun _ h => by cases h)⟩, ?_⟩
  refine p_take rfl rfl (y_fieldAddrP fd95_1 ti93 (by decide) (by assumption) rfl) ?_
  refine p_only rfl rfl ?_
  refine o_storeS (u := [_]) ti93 rfl rfl jb rfl rfl (by first | rfl | assumption | (simp only [ones, List.all_cons, List.all_nil, Bool.and_true, one_of (by assumption)]; done)) (by omega) (by omega) hol (fun R22_13 j22_13 => ?_)
  refine o_nil ?_
  refine ⟨.inl rfl, ?_⟩
  refine p_nil ?_
  refine x_seq ?_
  refine x_region rfl ?_
  refine o_y (y_move rfl) ?_
  refine o_y (y_assign rfl) ?_
  refine o_y (y_assign rfl) ?_
  refine o_nil ?_
  rw [putC_mid hA (by exact Nat.le_of_ble_eq_true rfl)] at j22_13
  refine x_pick (O' := (R91 ++ R22_13) ++ O) (.cons _ (by rw [List.append_assoc]; exact (List.Sublist.refl R91).append ((List.Sublist.refl R22_13).append (.cons _ (List.Sublist.refl _))))) ?_
  refine x_freezeP (S := R91 ++ R22_13) (O' := O) (List.Perm.refl _) (fun H11 hX11 hI11 => ?_)
  refine x_ret ?_
  refine x_fin 0 (ret2 rfl rfl rfl) ?_
  have xF := x89.trans hX11
  rw [hae]
  refine ⟨xE.trans xF, rfl, _, rfl, ?_⟩
  have eq1 : El H11 _ (cq ++ [c]) := ((ecq.mono x89).mono hX11).append (El.one1 (Rep.mono hX11 (show Rep.rd H10 _ c from ⟨_, _, _, _, _, rfl, r89⟩)))
  have rq := Row.inH j91 (by simp) eq1 (by have e : Rep.bytes Commit = 200 := rfl; rw [e]; simp; omega) (fun b o hm => hI11 b o (by simp [hm]))
  have e2 : N = (LA ++ [(⟨gq, cq ++ [c]⟩ : Log)] ++ LD).length := by
    have h1 := jb.len
    have h2 := eA.len
    have h3 := eD.len
    have e : Rep.sz Log = 2 := rfl
    rw [e] at h2 h3
    simp only [List.length_append, List.length_cons, List.length_nil] at h1 ⊢
    omega
  rw [hfin]
  refine Row.inH j22_13 e2 (((eA.mono xF).snoc (x := (⟨gq, cq ++ [c]⟩ : Log)) ⟨_, rfl, by show InR gq; rw [hgq]; exact h0, rq⟩).append (eD.mono xF)) (by rw [← e2]; have e : Rep.bytes Log = 32 := rfl; rw [e]; omega) (fun b o hm => hI11 b o (by simp [hm]))
end Go.Ph
set_option linter.unusedVariables false
set_option linter.unusedSimpArgs false
set_option maxRecDepth 100000
namespace Go.Ph
open Go Go.RowKit Go.Proofs.YtmgnagpgnoikfaaGreatDoor Go.Proofs.Tryz
theorem sameNumbers_ok {B : World} {H : HM} {O : OL} {v u : Value} {xs ys : List Int} (h : RdL H v xs) (hu : RdL H u ys) : CallsM prog 30 [v, u].toArray B H O (Same (.bool (decide (xs = ys))) H O) := by
  have hs := h.lenle
  have hs2 := hu.lenle
  refine enter func30 rfl ntmps30 (l := [(0, _), (1, _)]) rfl rfl ?_
  refine x_seq ?_
  refine x_region rfl ?_
  refine o_y (y_assign rfl) ?_
  refine o_nil ?_
  refine x_seq ?_
  refine x_seq ?_
  refine x_region rfl ?_
  refine o_y (y_move rfl) ?_
  refine o_y (y_lenA underlying24 rfl) ?_
  refine o_y (y_move rfl) ?_
  refine o_y (y_lenA underlying24 rfl) ?_
  refine o_y (y_neq rfl rfl) ?_
  refine o_nil ?_
  refine x_cond rfl (fun hc0 => ?_) (fun hc0 => ?_)
  · try simp only [kk] at hc0
    refine x_seq ?_
    refine x_region rfl ?_
    refine o_y (y_assign rfl) ?_
    refine o_nil ?_
    refine x_ret ?_
    refine x_fin 0 (ret1 rfl rfl) ?_
    have hne : ¬ xs = ys := fun e => by subst e; omega
    rw [decide_eq_false hne]; exact ⟨rfl, rfl, rfl⟩
  try simp only [kk] at hc0
  refine x_skip ?_
  refine x_seq ?_
  refine x_seq ?_
  refine x_region rfl ?_
  refine o_y (y_move rfl) ?_
  refine o_y (y_lenA underlying24 rfl) ?_
  refine o_y (y_move rfl) ?_
  refine o_nil ?_
  refine x_block ?_
  refine x_loopf (σ := Nat) (fun s => [(13, .int .i64 (s : Int)), (12, .int .i64 (xs.length : Int)), (0, v), (1, u)]) (fun s => O) (fun s => s ≤ xs.length ∧ xs.take s = ys.take s) (fun s => xs.length - s) 0 ⟨by simp, by simp⟩ (.c rfl (.c rfl (.c rfl (.c rfl .n)))) rfl ?_
  rintro k ⟨i1, i2⟩
  refine x_seq ?_
  refine x_region rfl ?_
  refine o_y (y_lss rfl rfl) ?_
  refine o_nil ?_
  refine x_seq ?_
  refine x_cond rfl (fun hc1 => ?_) (fun hc1 => ?_)
  · try simp only [kk] at hc1
    have hk : k < xs.length := by omega
    have hk2 : k < ys.length := by omega
    refine x_skip ?_
    refine x_seq ?_
    refine x_block ?_
    refine x_seq ?_
    refine x_region rfl ?_
    refine o_y (y_move rfl) ?_
    refine o_y (y_assign rfl) ?_
    refine o_nil ?_
    refine x_seq ?_
    refine x_regionQ mixed (by kernel_rfl) rfl ?_
    refine q_y (y_move rfl) ?_
    refine q_y (y_move rfl) ?_
    obtain ⟨ce18, ae18, re18⟩ := RdL.at h _ k hk
    have se18 := AtS.isSl ae18
    obtain ⟨rfl, q18⟩ := re18
    refine q_y (y_idxL h k hk underlying24 ti3 rfl rfl (by omega)) ?_
    refine q_y (y_loadS ti3 rfl (by assumption) rfl (fun _ => rfl)) ?_
    refine q_y (y_move rfl) ?_
    refine q_y (y_move rfl) ?_
    obtain ⟨ce22, ae22, re22⟩ := RdL.at hu _ k hk2
    have se22 := AtS.isSl ae22
    obtain ⟨rfl, q22⟩ := re22
    refine q_y (y_idxL hu k hk2 underlying24 ti3 rfl rfl (by omega)) ?_
    refine q_y (y_loadS ti3 rfl (by assumption) rfl (fun _ => rfl)) ?_
    refine q_y (y_neq rfl rfl) ?_
    refine q_nil ?_
    refine x_cond rfl (fun hc2 => ?_) (fun hc2 => ?_)
    · try simp only [kk] at hc2
      refine x_seq ?_
      refine x_region rfl ?_
      refine o_y (y_assign rfl) ?_
      refine o_nil ?_
      refine x_ret ?_
      refine x_fin 0 (ret1 rfl rfl) ?_
      have hne : ¬ xs = ys := fun e => by subst e; omega
      rw [decide_eq_false hne]; exact ⟨rfl, rfl, rfl⟩
    try simp only [kk] at hc2
    refine x_skip ?_
    refine x_region rfl ?_
    refine o_y (y_addN rfl rfl (by omega) (by omega)) ?_
    refine o_y (y_move rfl) ?_
    refine o_nil ?_
    exact ⟨k + 1, 0, rfl, (.c rfl (.c rfl (.c rfl (.c rfl .n)))), rfl, ⟨by omega, by rw [take_next hk, take_next hk2, i2, show xs[k] = ys[k] by omega]⟩, by omega⟩
  try simp only [kk] at hc1
  refine x_exit ?_
  refine x_seq ?_
  refine x_region rfl ?_
  refine o_y (y_assign rfl) ?_
  refine o_nil ?_
  refine x_ret ?_
  refine x_fin 0 (ret1 rfl rfl) ?_
  obtain rfl : k = xs.length := by omega
  rw [List.take_length, List.take_of_length_le (by omega)] at i2
  rw [decide_eq_true i2]; exact ⟨rfl, rfl, rfl⟩
def ac1 : Commit := { (default : Commit) with group := 3, next_ := ⟨[leafN 1]⟩ }
def ac2 : Commit := { (default : Commit) with group := 3, epoch := 1, next_ := ⟨[leafN 2]⟩ }
def aL1 : List Log := [⟨3, [ac1]⟩]
def aL2 : List Log := [⟨3, [ac1, ac2]⟩]
theorem placeN_nil (g : Int) : placeN [] g = 0 := by unfold placeN; rw [searchN, dif_neg (by simp)]
theorem placeN_one {x : Log} {g : Int} (h : g = x.group) : placeN [x] g = 0 := by
  unfold placeN
  rw [searchN, dif_pos (by simp), if_pos (by subst h; simp [placeP, grpAt]), searchN, dif_neg (by simp)]
theorem foundB_nil (g : Int) : foundB [] g = false := by rw [foundB, placeN_nil]; rfl
theorem foundB_one {x : Log} {g : Int} (h : g = x.group) : foundB [x] g = true := by rw [foundB, placeN_one h]; subst h; simp [grpAt]
theorem aE1 : appErr [] ac1 = 0 ∧ appLogs [] ac1 = aL1 := by
  have e : appErr [] ac1 = 0 := by
    rw [appErr, if_pos ⟨rfl, by decide +kernel⟩, if_pos (by rw [commitsOf, if_neg (by rw [foundB_nil]; simp)]; rfl), if_neg (by simp)]
  refine ⟨e, ?_⟩
  rw [appLogs, if_pos e, if_neg (by rw [foundB_nil]; simp), placeN_nil]; rfl
theorem aC1 : commitsOf aL1 3 = [ac1] := by rw [commitsOf, if_pos ⟨foundB_one rfl, by decide +kernel⟩, aL1, placeN_one rfl]; rfl
theorem aC2 : commitsOf aL2 3 = [ac1, ac2] := by rw [commitsOf, if_pos ⟨foundB_one rfl, by decide +kernel⟩, aL2, placeN_one rfl]; rfl
theorem aE2 : appErr aL1 ac2 = 0 ∧ appLogs aL1 ac2 = aL2 := by
  have e : appErr aL1 ac2 = 0 := by
    rw [appErr, if_pos ⟨by decide +kernel, by decide +kernel⟩, show ac2.group = 3 from rfl, aC1, if_pos (show ac2.epoch = (([ac1].length : Nat) : Int) from rfl), if_neg (by simp [aL1])]
  refine ⟨e, ?_⟩
  rw [appLogs, if_pos e, show ac2.group = 3 from rfl, aL1, if_pos (foundB_one rfl), placeN_one rfl]; rfl
theorem aE3 : appErr aL2 ac2 = 10 := by
  rw [appErr, if_pos ⟨by decide +kernel, by decide +kernel⟩, show ac2.group = 3 from rfl, aC2, if_neg (by decide)]
theorem aT : touchedL aL2 3 1 = [1, 2] ∧ getB aL2 3 1 = true := by
  have h1 : getB aL2 3 1 = true := by rw [getB, aC2]; decide
  have h2 : getC aL2 3 1 = ac2 := by rw [getC, aC2]; rfl
  have h3 : getC aL2 3 (1 - 1) = ac1 := by rw [getC, aC2]; rfl
  have h4 : getB aL2 3 (1 - 1) = true := by rw [getB, aC2]; decide
  refine ⟨?_, h1⟩
  rw [touchedL, touch0, h2, h3, if_pos h4, show membersL ac2.next_.nodes = [2] by decide +kernel, show membersL ac1.next_.nodes = [1] by decide +kernel]
  have h5 : sortL ([2] ++ [1]) = [1, 2] := by
    unfold sortL
    simp [List.mergeSort, List.MergeSort.Internal.splitInTwo, List.merge]
  rw [h5]
  decide +kernel
abbrev Yes (H : HM) (O : OL) : Value → HM → OL → Prop := fun v H' O' => v = .bool true ∧ Ext H H' ∧ O = O'
theorem ac1_rd {H : HM} {u : Value} (h : RdL H u [leafN 1]) : Rep.rd H [.int .i64 3, .int .i64 0, .int .i64 0, .int .i64 0, .int .i64 0, .bool false, .slice none 0 0, .slice none 0 0, .slice none 0 0, .slice none 0 0, .int .i64 0, .int .i64 0, u, .int .i64 0, .int .i64 0] ac1 := by
  have z : InR 0 := by unfold InR; omega
  have z3 : InR 3 := by unfold InR; omega
  exact ⟨_, _, _, _, _, rfl, z3, z, z, z, z, RdL.nil H, RdL.nil H, RdL.nil H, RdL.nil H, z, z, h, z, z⟩
theorem ac2_rd {H : HM} {u : Value} (h : RdL H u [leafN 2]) : Rep.rd H [.int .i64 3, .int .i64 1, .int .i64 0, .int .i64 0, .int .i64 0, .bool false, .slice none 0 0, .slice none 0 0, .slice none 0 0, .slice none 0 0, .int .i64 0, .int .i64 0, u, .int .i64 0, .int .i64 0] ac2 := by
  have z : InR 0 := by unfold InR; omega
  have z1 : InR 1 := by unfold InR; omega
  have z3 : InR 3 := by unfold InR; omega
  exact ⟨_, _, _, _, _, rfl, z3, z1, z, z, z, RdL.nil H, RdL.nil H, RdL.nil H, RdL.nil H, z, z, h, z, z⟩
theorem app1 {B : World} {H : HM} {O : OL} {u : Value} (hT : TabAt H) (h : RdL H u [leafN 1]) : CallsM prog 10 [.slice none 0 0, .agg #[.int .i64 3, .int .i64 0, .int .i64 0, .int .i64 0, .int .i64 0, .bool false, .slice none 0 0, .slice none 0 0, .slice none 0 0, .slice none 0 0, .int .i64 0, .int .i64 0, u, .int .i64 0, .int .i64 0]].toArray B H O (App 0 aL1 H O) := by
  have := append_ok (B := B) (O := O) hT (RdL.nil H) (ac1_rd h) (by simp)
  rw [aE1.1, aE1.2] at this
  exact this
theorem app2 {B : World} {H : HM} {O : OL} {v u : Value} (hT : TabAt H) (hv : RdL H v aL1) (h : RdL H u [leafN 2]) : CallsM prog 10 [v, .agg #[.int .i64 3, .int .i64 1, .int .i64 0, .int .i64 0, .int .i64 0, .bool false, .slice none 0 0, .slice none 0 0, .slice none 0 0, .slice none 0 0, .int .i64 0, .int .i64 0, u, .int .i64 0, .int .i64 0]].toArray B H O (App 0 aL2 H O) := by
  have := append_ok (B := B) (O := O) hT hv (ac2_rd h) (by simp [aL1])
  rw [aE2.1, aE2.2] at this
  exact this
theorem app3 {B : World} {H : HM} {O : OL} {v u : Value} (hT : TabAt H) (hv : RdL H v aL2) (h : RdL H u [leafN 2]) : CallsM prog 10 [v, .agg #[.int .i64 3, .int .i64 1, .int .i64 0, .int .i64 0, .int .i64 0, .bool false, .slice none 0 0, .slice none 0 0, .slice none 0 0, .slice none 0 0, .int .i64 0, .int .i64 0, u, .int .i64 0, .int .i64 0]].toArray B H O (App 10 (appLogs aL2 ac2) H O) := by
  have := append_ok (B := B) (O := O) hT hv (ac2_rd h) (by simp [aL2])
  rw [aE3] at this
  exact this
theorem el12 (H : HM) : El H [.int .i64 1, .int .i64 2] ([1, 2] : List Int) := by
  have r1 : InR 1 := by unfold InR; omega
  have r2 : InR 2 := by unfold InR; omega
  exact El.c (cs := [.int .i64 1]) ⟨rfl, r1⟩ (El.c (cs := [.int .i64 2]) ⟨rfl, r2⟩ .n)
theorem alive_ok {B : World} {H : HM} {O : OL} (hT : TabAt H) : CallsM prog 18 ([] : List Value).toArray B H O (Yes H O) := by
  have r1 : InR 1 := by unfold InR; omega
  have r2 : InR 2 := by unfold InR; omega
  have r3 : InR 3 := by unfold InR; omega
  refine enter func18 rfl ntmps18 (l := []) rfl rfl ?_
  refine x_seq ?_
  refine x_region rfl ?_
  refine o_y (y_assign rfl) ?_
  refine o_nil ?_
  refine x_seq ?_
  refine x_region rfl ?_
  refine o_call fn160 rfl (leaf_ok r1) ?_
  rintro v10 H1 _ ⟨x10, rfl, cs10, rfl, u10, rfl, r10⟩
  obtain ⟨p10, c10, rfl⟩ := r10.shape
  refine o_y (y_buildS bt31 rfl (C := [_, _, _, _, _, _, _, _, _, _, _, _, _, _, _]) rfl) ?_
  refine o_call fn10 rfl (app1 (hT.ext x10) r10) ?_
  rintro v12 H2 _ ⟨x12, rfl, u12, rfl, r12⟩
  refine o_y (y_move rfl) ?_
  refine o_y (y_extract rfl rfl) ?_
  refine o_y (y_extract rfl rfl) ?_
  refine o_y (y_assign rfl) ?_
  refine o_y (y_assign rfl) ?_
  refine o_nil ?_
  refine x_seq ?_
  refine x_region rfl ?_
  refine o_y (y_move rfl) ?_
  refine o_call fn160 rfl (leaf_ok r2) ?_
  rintro v17 H3 _ ⟨x17, rfl, cs17, rfl, u17, rfl, r17⟩
  obtain ⟨p17, c17, rfl⟩ := r17.shape
  have hT3 := ((hT.ext x10).ext x12).ext x17
  refine o_y (y_buildS bt31 rfl (C := [_, _, _, _, _, _, _, _, _, _, _, _, _, _, _]) rfl) ?_
  refine o_call fn10 rfl (app2 hT3 (r12.mono x17) r17) ?_
  rintro v19 H4 _ ⟨x19, rfl, u19, rfl, r19⟩
  refine o_y (y_move rfl) ?_
  refine o_y (y_extract rfl rfl) ?_
  refine o_y (y_extract rfl rfl) ?_
  refine o_y (y_assign rfl) ?_
  refine o_y (y_assign rfl) ?_
  refine o_nil ?_
  refine x_seq ?_
  refine x_region rfl ?_
  refine o_y (y_move rfl) ?_
  refine o_call fn160 rfl (leaf_ok r2) ?_
  rintro v24 H5 _ ⟨x24, rfl, cs24, rfl, u24, rfl, r24⟩
  obtain ⟨p24, c24, rfl⟩ := r24.shape
  have hT5 := (hT3.ext x19).ext x24
  refine o_y (y_buildS bt31 rfl (C := [_, _, _, _, _, _, _, _, _, _, _, _, _, _, _]) rfl) ?_
  refine o_call fn10 rfl (app3 hT5 (r19.mono x24) r24) ?_
  rintro v26 H6 _ ⟨x26, rfl, u26, rfl, r26⟩
  refine o_y (y_move rfl) ?_
  refine o_y (y_extract rfl rfl) ?_
  refine o_y (y_extract rfl rfl) ?_
  refine o_y (y_assign rfl) ?_
  refine o_y (y_assign rfl) ?_
  refine o_nil ?_
  refine x_seq ?_
  refine x_region rfl ?_
  have hT6 := hT5.ext x26
  have r19' := r19.mono (x24.trans x26)
  refine o_y (y_move rfl) ?_
  refine o_call fn21 rfl (touched_ok (i := 1) hT6 r19' r3 r1) ?_
  rintro v31 H7 _ ⟨x31, rfl, u31, rfl, r31⟩
  refine o_y (y_move rfl) ?_
  refine o_y (y_extract rfl rfl) ?_
  refine o_y (y_extract rfl rfl) ?_
  refine o_y (y_assign rfl) ?_
  refine o_y (y_assign rfl) ?_
  refine o_nil ?_
  refine x_seq ?_
  refine x_region rfl ?_
  have hT7 := hT6.ext x31
  have r19'' := r19'.mono x31
  have r31' := r31 aT.2
  rw [aT.1] at r31'
  have xa := ((((x10.trans x12).trans x17).trans x19).trans x24).trans (x26.trans x31)
  refine o_y (y_move rfl) ?_
  refine o_y (y_eql rfl rfl) ?_
  refine o_y (y_move rfl) ?_
  refine o_split 36 rfl (fun hg5_36 => ?_) (fun hg5_36 => ?_)
  · try simp only [kk] at hg5_36
    refine o_gy 36 rfl rfl (y_move rfl) ?_
    refine o_gy 36 rfl rfl (y_eql rfl rfl) ?_
    refine o_y (y_pick rfl rfl) ?_
    refine o_y (y_move rfl) ?_
    refine o_split 40 rfl (fun hg5_40 => ?_) (fun hg5_40 => ?_)
    · try simp only [kk] at hg5_40
      refine o_gy 40 rfl rfl (y_move rfl) ?_
      refine o_gy 40 rfl rfl (y_eql rfl rfl) ?_
      refine o_y (y_pick rfl rfl) ?_
      refine o_y (y_move rfl) ?_
      refine o_split 44 rfl (fun hg5_44 => ?_) (fun hg5_44 => ?_)
      · try simp only [kk] at hg5_44
        refine o_gy 44 rfl rfl (y_move rfl) ?_
        refine o_gcall 44 rfl rfl fn27 rfl (len_ok hT7 r19'' r3) ?_
        rintro _ _ _ ⟨rfl, rfl, rfl⟩
        refine o_gy 44 rfl rfl (y_eql rfl rfl) ?_
        refine o_y (y_pick rfl rfl) ?_
        refine o_y (y_move rfl) ?_
        refine o_split 49 rfl (fun hg5_49 => ?_) (fun hg5_49 => ?_)
        · try simp only [kk] at hg5_49
          refine o_gy 49 rfl rfl (y_move rfl) ?_
          refine o_y (y_pick rfl rfl) ?_
          refine o_y (y_move rfl) ?_
          refine o_split 52 rfl (fun hg5_52 => ?_) (fun hg5_52 => ?_)
          · try simp only [kk] at hg5_52
            refine o_gy 52 rfl rfl (y_move rfl) ?_
            refine o_gg 52 rfl rfl ?_
            refine o_buildSlice (C := [.int .i64 1, .int .i64 2]) underlying24 ti3 (by decide) (by decide) (evs_ok rfl) (by kernel_rfl) (fun b54 => ?_)
            refine o_gcall 52 rfl rfl fn30 rfl (CallsM.lend (A := []) (O' := O) [(b54, _)] rfl (fun hN hX => sameNumbers_ok (ys := [1, 2]) (r31'.mono hX) (Row.freeze (n := 2) (e := 3) (cs := [.int .i64 1, .int .i64 2]) ⟨rfl, .inr ⟨b54, 2, [], rfl, Nat.le_refl _, rfl, rfl⟩⟩ rfl (el12 _) (by exact Nat.le_of_ble_eq_true rfl) hN))) ?_
            rintro _ _ _ ⟨rfl, rfl, rfl⟩
            refine o_y (y_pick rfl rfl) ?_
            refine o_y (y_move rfl) ?_
            refine o_split 57 rfl (fun hg5_57 => ?_) (fun hg5_57 => ?_)
            · try simp only [kk] at hg5_57
              refine o_gy 57 rfl rfl (y_buildS bt95 rfl (C := [_, _]) rfl) ?_
              refine o_gg 57 rfl rfl ?_
              refine o_slice1 underlying22 ti95 (by decide) (by decide) rfl rfl (C := [_, _]) rfl rfl (fun b59 => ?_)
              refine o_gcall 57 rfl rfl fn25 rfl (CallsM.lend (A := []) (O' := (b54, _) :: O) [(b59, _)] rfl (fun hN hX => lcheck_ok (xs := [default]) (hT7.ext hX) (Row.freeze (n := 1) (e := 95) (cs := [.int .i64 0, .slice none 0 0]) ⟨rfl, .inr ⟨b59, 1, [], rfl, Nat.le_refl _, rfl, rfl⟩⟩ rfl (El.one1 ⟨_, rfl, (by show InR 0; unfold InR; omega), RdL.nil _⟩) (by exact Nat.le_of_ble_eq_true rfl) hN))) ?_
              rintro _ _ _ ⟨rfl, rfl, rfl⟩
              refine o_gy 57 rfl rfl (y_eql rfl rfl) ?_
              refine o_y (y_pick rfl rfl) ?_
              refine o_y (y_assign rfl) ?_
              refine o_nil ?_
              refine x_ret ?_
              refine x_fin 2 (ret1 rfl rfl) ?_
              refine ⟨?_, xa, rfl⟩
              rw [show errI (lcheckB [default]) = 1 by decide +kernel]; rfl
            try simp only [kk] at hg5_57
            exfalso; simp at hg5_57
          try simp only [kk] at hg5_52
          exfalso; rw [aT.2] at hg5_52; simp at hg5_52
        try simp only [kk] at hg5_49
        exfalso; rw [aC2] at hg5_49; simp at hg5_49
      try simp only [kk] at hg5_44
      exfalso; simp at hg5_44
    try simp only [kk] at hg5_40
    exfalso; simp at hg5_40
  try simp only [kk] at hg5_36
  exfalso; simp at hg5_36
end Go.Ph
set_option linter.unusedVariables false
set_option linter.unusedSimpArgs false
set_option maxRecDepth 100000
namespace Go.Ph
open Go Go.RowKit Go.Proofs.YtmgnagpgnoikfaaGreatDoor Go.Proofs.Tryz
theorem cu_asc {d : Array Int} (hs : ∀ i, 0 < i → i < d.size → d[i - 1]! ≤ d[i]!) : ∀ m, m ≤ d.size → (Lib.compactUpTo d m).Pairwise (· < ·) ∧ (0 < m → ∀ x ∈ Lib.compactUpTo d m, x ≤ d[m - 1]!) ∧ (0 < m → 0 < (Lib.compactUpTo d m).length)
  | 0, _ => ⟨by simp [Lib.compactUpTo], by omega, by omega⟩
  | m + 1, hm => by
    obtain ⟨h1, h2, h3⟩ := cu_asc hs m (by omega)
    rw [Lib.compactUpTo_succ]
    by_cases h0 : m = 0
    · subst h0
      have : Lib.keeps d 0 = true := by simp [Lib.keeps]
      rw [if_pos this]
      have e : Lib.compactUpTo d 0 = [] := by simp [Lib.compactUpTo]
      rw [e]; simp
    have hle := hs m (by omega) (by omega)
    by_cases hk : d[m]! = d[m - 1]!
    · rw [if_neg (by rw [Lib.keeps_neg (by omega) hk]; simp), List.append_nil]
      refine ⟨h1, fun _ x hx => ?_, fun _ => h3 (by omega)⟩
      have := h2 (by omega) x hx
      rw [Nat.add_sub_cancel]; omega
    rw [if_pos (Lib.keeps_pos hk)]
    refine ⟨List.pairwise_append.2 ⟨h1, List.pairwise_singleton _ _, fun a ha b hb => ?_⟩, fun _ x hx => ?_, fun _ => by simp⟩
    · have := h2 (by omega) a ha
      rw [List.mem_singleton.1 hb]; omega
    rw [Nat.add_sub_cancel]
    rcases List.mem_append.1 hx with hx | hx
    · have := h2 (by omega) x hx; omega
    rw [List.mem_singleton.1 hx]; exact Int.le_refl _
theorem sortL_asc (xs : List Int) : ∀ i, 0 < i → i < (sortL xs).toArray.size → (sortL xs).toArray[i - 1]! ≤ (sortL xs).toArray[i]! := by
  intro i h0 hi
  have h := List.pairwise_mergeSort (le := fun (x y : Int) => decide (x ≤ y)) (fun a b c h1 h2 => by simp at *; omega) (fun a b => by simp; omega) xs
  simp only [List.size_toArray] at hi
  have := List.pairwise_iff_getElem.1 h (i - 1) i (by have : (sortL xs).length = (xs.mergeSort fun x y => decide (x ≤ y)).length := rfl; omega) hi (by omega)
  simp only [decide_eq_true_eq] at this
  rw [getElem!_pos _ _ (by simpa using (by omega : i - 1 < (sortL xs).length)), getElem!_pos _ _ (by simpa using hi)]
  simp only [List.getElem_toArray]
  exact this
theorem touched_asc (xs : List Log) (g i : Int) : (touchedL xs g i).Pairwise (· < ·) := by
  have := (cu_asc (sortL_asc (touch0 xs g i)) _ (Nat.le_refl _)).1
  unfold touchedL compL Lib.compact
  simpa using this
theorem commits_len {H : HM} {v : Value} {xs : List Log} {g : Int} (h : RdL H v xs) : (commitsOf xs g).length ≤ 140737488351232 := by
  unfold commitsOf
  split
  · rename_i hf
    have hk : placeN xs g < xs.length := (of_decide_eq_true hf.1).1
    obtain ⟨cs, _, u, _, _, h1⟩ := h.at [] _ hk
    rw [logAt_eq hk]; exact h1.lenle
  simp
end Go.Ph
set_option linter.unusedVariables false
set_option linter.unusedSimpArgs false
set_option maxRecDepth 100000
namespace Go.Ph
open Go Go.RowKit Go.Proofs.YtmgnagpgnoikfaaGreatDoor Go.Proofs.Tryz
def Sorted (xs : List Log) : Prop := xs.Pairwise fun a b => a.group < b.group
def GoodLog (x : Log) : Prop := 0 < x.commits.length ∧ comsOk x = true
theorem lcheck_spec {xs : List Log} : lcheckB xs = true ↔ xs.length ≤ 16 ∧ Sorted xs ∧ ∀ x ∈ xs, GoodLog x := by
  simp only [lcheckB, Bool.and_eq_true, decide_eq_true_eq, List.all_eq_true, List.mem_range]
  constructor
  · rintro ⟨h1, h2⟩
    have h3 : ∀ k (hk : k < xs.length), 0 < xs[k].commits.length ∧ (k = 0 ∨ grpAt xs (k - 1) < grpAt xs k) ∧ comsOk xs[k] = true := fun k hk => by
      have := h2 k hk
      simp only [logOk, logAt_eq hk, Bool.and_eq_true, Bool.or_eq_true, decide_eq_true_eq] at this
      exact this
    have h4 : ∀ j i, i < j → (hj : j < xs.length) → grpAt xs i < grpAt xs j := by
      intro j
      induction j with
      | zero => intro i hi; omega
      | succ j ih =>
        intro i hi hj
        have := (h3 (j + 1) hj).2.1
        rw [Nat.add_sub_cancel] at this
        rcases this with h | h
        · omega
        by_cases e : i = j
        · subst e; exact h
        have := ih i (by omega) (by omega); omega
    refine ⟨h1, List.pairwise_iff_getElem.2 (fun i j hi hj hij => ?_), fun x hx => ?_⟩
    · have := h4 j i hij hj
      rwa [grpAt_eq hi, grpAt_eq hj] at this
    obtain ⟨k, hk, rfl⟩ := List.getElem_of_mem hx
    exact ⟨(h3 k hk).1, (h3 k hk).2.2⟩
  rintro ⟨h1, h2, h3⟩
  refine ⟨h1, fun k hk => ?_⟩
  simp only [logOk, logAt_eq hk, Bool.and_eq_true, Bool.or_eq_true, decide_eq_true_eq]
  obtain ⟨h4, h5⟩ := h3 _ (List.getElem_mem hk)
  refine ⟨h4, ?_, h5⟩
  by_cases e : k = 0
  · exact .inl e
  refine .inr ?_
  rw [grpAt_eq (show k - 1 < xs.length by omega), grpAt_eq hk]
  exact List.pairwise_iff_getElem.1 h2 (k - 1) k (by omega) hk (by omega)
theorem place_spec {xs : List Log} (hs : Sorted xs) (g : Int) : (∀ k, k < placeN xs g → (hk : k < xs.length) → xs[k].group < g) ∧ (∀ k, placeN xs g ≤ k → (hk : k < xs.length) → g ≤ xs[k].group) := by
  have hm : ∀ a b, a ≤ b → b < xs.length → placeP xs g a = true → placeP xs g b = true := fun a b hab hb h => by
    simp only [placeP, decide_eq_true_eq] at h ⊢
    rw [grpAt_eq (show a < xs.length by omega)] at h
    rw [grpAt_eq hb]
    by_cases e : a = b
    · subst e; exact h
    have := List.pairwise_iff_getElem.1 hs a b (by omega) hb (by omega); omega
  have := searchN_spec (placeP xs g) xs.length hm 0 xs.length (by omega) (Nat.le_refl _) (fun k hk => by omega) (fun k h1 h2 => by omega)
  refine ⟨fun k hk hl => ?_, fun k hk hl => ?_⟩
  · have := this.1 k hk
    simp only [placeP, decide_eq_false_iff_not, grpAt_eq hl] at this; omega
  have := this.2 k hk hl
  simp only [placeP, decide_eq_true_eq, grpAt_eq hl] at this; omega
end Go.Ph
