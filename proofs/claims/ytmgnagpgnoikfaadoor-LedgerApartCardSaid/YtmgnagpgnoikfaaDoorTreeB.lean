/- Places in small trees: levels, spans; which parents may be. -/
import Derived.Test.YtmgnagpgnoikfaaDoorTreeA
set_option linter.unusedVariables false
set_option linter.unusedSimpArgs false
set_option maxRecDepth 100000
namespace Go.Ph
open Go Go.RowKit Go.Proofs.YtmgnagpgnoikfaaDoor

def tab64 : List Nat := [0, 1, 56, 2, 57, 49, 28, 3, 61, 58, 42, 50, 38, 29, 17, 4, 62, 47, 59, 36, 45, 43, 51, 22, 53, 39, 33, 30, 24, 18, 12, 5, 63, 55, 48, 27, 60, 41, 37, 16, 46, 35, 44, 21, 52, 32, 23, 11, 54, 26, 40, 15, 34, 20, 31, 10, 25, 14, 19, 9, 13, 8, 7, 6]
/-- The table of the library's lies where it lies. -/
def TabAt (H : HM) : Prop := ∃ T fr, H 0 = some (.cells (tab64.map fun (n : Nat) => Value.int .u8 n).toArray T fr)
theorem TabAt.ext {H H' : HM} (h : TabAt H) (e : Ext H H') : TabAt H' := by obtain ⟨T, fr, h⟩ := h; exact ⟨T, fr, e _ _ h⟩
def lvlN (x : Nat) : Nat := if x % 2 = 0 then 0 else if x % 4 = 1 then 1 else if x % 8 = 3 then 2 else if x % 16 = 7 then 3 else 4
def tzI (x : Nat) : Int := ishr .u64 (IntKind.u64.wrap (ibit .and .u64 (18446744073709551615 - x) (IntKind.u64.wrap (0 - (18446744073709551615 - x))) * 285870213051353865)) 58
theorem tzI_ok : ∀ x : Nat, x < 15 → 0 ≤ tzI x ∧ tzI x < 64 ∧ tab64[(tzI x).toNat]? = some (lvlN x) := by decide +kernel
theorem tz_ok {B : World} {H : HM} {O : OL} (hT : TabAt H) (x : Nat) (hx : x < 15) : CallsM Go.Proofs.Tryd.prog 78 [.int .u64 (18446744073709551615 - x)].toArray B H O (Same (.int .i64 (lvlN x)) H O) := by
  obtain ⟨T, fr, hT⟩ := hT
  obtain ⟨h1, h2, h3⟩ := tzI_ok x hx
  have h4 : lvlN x ≤ 4 := by unfold lvlN; (repeat' split) <;> omega
  have h5 : IntKind.i64.wrap (lvlN x : Int) = lvlN x := wrap_id (by omega) (by omega)
  refine enter Go.Proofs.Tryd.func78 rfl Go.Proofs.Tryd.ntmps78 (l := [(0, _)]) rfl rfl ?_
  refine x_seq ?_
  refine x_region rfl ?_
  refine o_y (y_assign rfl) ?_
  refine o_nil ?_
  refine x_seq ?_
  refine x_seq ?_
  refine x_region rfl ?_
  refine o_y (y_move rfl) ?_
  refine o_y (y_eql rfl rfl) ?_
  refine o_nil ?_
  refine x_cond rfl (fun hc0 => ?_) (fun hc0 => ?_)
  · try simp only [k1, k2, k3, k4, k5, k6, k7, k8, k9] at hc0
    exfalso; omega
  · try simp only [k1, k2, k3, k4, k5, k6, k7, k8, k9] at hc0
    refine x_skip ?_
    refine x_seq ?_
    refine x_region rfl ?_
    refine o_y (y_move rfl) ?_
    refine o_y (y_move rfl) ?_
    refine o_y (y_neg rfl) ?_
    refine o_y (y_and rfl rfl) ?_
    refine o_y (y_mul rfl rfl) ?_
    refine o_y (y_shr rfl rfl (by omega)) ?_
    refine o_y (y_idxArr Go.Proofs.Tryd.underlying121 ti5 (i := tzI x) rfl rfl h1 h2) ?_
    refine o_y (y_loadH ti5 rfl hT (u := .int .u8 (lvlN x)) (by simp [h3])) ?_
    refine o_y (y_conv Go.Proofs.Tryd.underlying5 Go.Proofs.Tryd.underlying3 rfl) ?_
    refine o_y (y_assign rfl) ?_
    refine o_nil ?_
    refine x_ret ?_
    refine x_fin 0 (ret1 rfl rfl) ?_
    refine ⟨?_, rfl, rfl⟩
    rw [h5]
theorem xor_ok : ∀ x : Nat, x < 15 → ibit .xor .u64 (if IntKind.u64.signed then -1 else IntKind.u64.max) (IntKind.u64.wrap (x : Int)) = 18446744073709551615 - x := by decide +kernel
theorem level_ok {B : World} {H : HM} {O : OL} (hT : TabAt H) (x : Nat) (hx : x < 15) : CallsM Go.Proofs.Tryd.prog 76 [.int .i64 x].toArray B H O (Same (.int .i64 (lvlN x)) H O) := by
  have h1 := xor_ok x hx
  refine enter Go.Proofs.Tryd.func76 rfl Go.Proofs.Tryd.ntmps76 (l := [(0, _)]) rfl rfl ?_
  refine x_seq ?_
  refine x_region rfl ?_
  refine o_y (y_assign rfl) ?_
  refine o_nil ?_
  refine x_seq ?_
  refine x_seq ?_
  refine x_region rfl ?_
  refine o_y (y_move rfl) ?_
  refine o_y (y_lss rfl rfl) ?_
  refine o_nil ?_
  refine x_cond rfl (fun hc0 => ?_) (fun hc0 => ?_)
  · try simp only [k1, k2, k3, k4, k5, k6, k7, k8, k9] at hc0
    exfalso; omega
  · try simp only [k1, k2, k3, k4, k5, k6, k7, k8, k9] at hc0
    refine x_skip ?_
    refine x_seq ?_
    refine x_region rfl ?_
    refine o_y (y_move rfl) ?_
    refine o_y (y_conv Go.Proofs.Tryd.underlying3 Go.Proofs.Tryd.underlying108 rfl) ?_
    refine o_y (y_xor rfl) ?_
    rw [h1]
    refine o_call fn78 rfl (tz_ok hT x hx) ?_
    rintro _ _ _ ⟨rfl, rfl, rfl⟩
    refine o_y (y_assign rfl) ?_
    refine o_nil ?_
    refine x_ret ?_
    refine x_fin 0 (ret1 rfl rfl) ?_
    exact ⟨rfl, rfl, rfl⟩
def spanLo (x : Nat) : Int := ishl .i64 (ishr .i64 x ((lvlN x : Int) + 1)) (lvlN x)
def spanHi (x : Nat) : Int := spanLo x + ishl .i64 1 (lvlN x) - 1
theorem span_ok' : ∀ x : Nat, x < 15 → 0 ≤ spanLo x ∧ spanLo x ≤ 8 ∧ 0 ≤ ishl .i64 1 (lvlN x) ∧ ishl .i64 1 (lvlN x) ≤ 16 := by decide +kernel
theorem span_ok {B : World} {H : HM} {O : OL} (hT : TabAt H) (x : Nat) (hx : x < 15) : CallsM Go.Proofs.Tryd.prog 67 [.int .i64 x].toArray B H O (Same (.tuple #[.int .i64 (spanLo x), .int .i64 (spanHi x)]) H O) := by
  obtain ⟨h1, h2, h3, h4⟩ := span_ok' x hx
  have h5 : lvlN x ≤ 4 := by unfold lvlN; (repeat' split) <;> omega
  refine enter Go.Proofs.Tryd.func67 rfl Go.Proofs.Tryd.ntmps67 (l := [(0, _)]) rfl rfl ?_
  refine x_seq ?_
  refine x_region rfl ?_
  refine o_y (y_assign rfl) ?_
  refine o_y (y_assign rfl) ?_
  refine o_nil ?_
  refine x_seq ?_
  refine x_region rfl ?_
  refine o_y (y_move rfl) ?_
  refine o_call fn76 rfl (level_ok hT x hx) ?_
  rintro _ _ _ ⟨rfl, rfl, rfl⟩
  refine o_y (y_assign rfl) ?_
  refine o_nil ?_
  refine x_seq ?_
  refine x_seq ?_
  refine x_region rfl ?_
  refine o_y (y_move rfl) ?_
  refine o_y (y_lss rfl rfl) ?_
  refine o_y (y_move rfl) ?_
  refine o_split 10 rfl (fun hg2_10 => ?_) (fun hg2_10 => ?_)
  · try simp only [k1, k2, k3, k4, k5, k6, k7, k8, k9] at hg2_10
    exfalso; omega
  · try simp only [k1, k2, k3, k4, k5, k6, k7, k8, k9] at hg2_10
    refine o_gy 10 rfl rfl (y_move rfl) ?_
    refine o_gy 10 rfl rfl (y_eql rfl rfl) ?_
    refine o_y (y_pick rfl rfl) ?_
    refine o_nil ?_
    refine x_cond rfl (fun hc0 => ?_) (fun hc0 => ?_)
    · try simp only [k1, k2, k3, k4, k5, k6, k7, k8, k9] at hc0
      exfalso; omega
    · try simp only [k1, k2, k3, k4, k5, k6, k7, k8, k9] at hc0
      refine x_skip ?_
      refine x_seq ?_
      refine x_region rfl ?_
      refine o_y (y_move rfl) ?_
      refine o_y (y_move rfl) ?_
      refine o_y (y_addN rfl rfl (by omega) (by omega)) ?_
      refine o_y (y_shr rfl rfl (by omega)) ?_
      refine o_y (y_move rfl) ?_
      refine o_y (y_shl (n := (lvlN x : Int)) rfl rfl (by omega)) ?_
      rw [show ishl .i64 (ishr .i64 x ((lvlN x : Int) + 1)) (lvlN x) = spanLo x from rfl]
      refine o_y (y_assign rfl) ?_
      refine o_nil ?_
      refine x_seq ?_
      refine x_regionQ mixed (by kernel_rfl) rfl ?_
      refine q_y (y_move rfl) ?_
      refine q_y (y_move rfl) ?_
      refine q_y (y_move rfl) ?_
      refine q_y (y_shl rfl rfl (by omega)) ?_
      refine q_y (y_addN rfl rfl (by omega) (by omega)) ?_
      refine q_y (y_subN rfl rfl (by omega) (by omega)) ?_
      refine q_y (y_assign rfl) ?_
      refine q_y (y_assign rfl) ?_
      refine q_nil ?_
      refine x_ret ?_
      refine x_fin 0 (ret2 rfl rfl rfl) ?_
      exact ⟨rfl, rfl, rfl⟩
end Go.Ph
