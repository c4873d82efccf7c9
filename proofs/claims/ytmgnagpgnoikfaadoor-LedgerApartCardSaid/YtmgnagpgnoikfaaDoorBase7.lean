/- Structs that are built; loops whose memory grows. -/
import Derived.Test.YtmgnagpgnoikfaaDoorBase6
set_option linter.unusedVariables false
set_option linter.unusedSimpArgs false
namespace Go.Ph
open Go.RowKit
/-- What is used of a struct type that is built. -/
structure ST (P : Program) (t : TypeId) (pl : List (Nat × Nat)) (z : List Value) : Prop where
  h : ∃ fs, P.underlying t = some (.struct fs) ∧ ∀ w, (fs.mapM (fun (f : Field) => do pure (f.offset, ← sizeOf f.type))).run P w = .ok pl.toArray w
  zero : ∃ n b, (P.info? t).map (fun i => (i.zero, i.size, i.bytes)) = some (some (.agg z.toArray), n, b)
section
variable {P : Program} {sz : Nat} {B : World} {Q : EQ} {l : Env} {H : HM} {O : OL} {ops : Array Oper} {rest : List Oper} {ty : TypeId} {pos : String} {aft : Array Edge} {d : Nat}
/-- The same loop where what nobody writes grows, too. -/
theorem x_loopg {σ : Type} {c : Code} (L : σ → Env) (Hs : σ → HM) (M : σ → OL) (I : σ → Prop) (μ : σ → Nat) (s0 : σ) (hI : I s0) (hl : Sub l (L s0)) (hH : H = Hs s0) (hO : O = M s0)
    (round : ∀ s, I s → ExC P sz B c (thenQ (fun l' H' O' => ∃ s' n, H' = Hs s' ∧ Sub l' (L s') ∧ O'.drop n = M s' ∧ I s' ∧ μ s' < μ s) Q) (L s) (Hs s) (M s)) : ExC P sz B (.loop c) Q l H O := by
  intro a w ha hw
  subst hO
  subst hH
  refine wp_loop_ghost (fun n a w => ∃ s, μ s = n ∧ I s ∧ Fr sz (L s) a ∧ Fits B (Hs s) (M s) w) (μ s0) ⟨s0, rfl, hI, ha.sub hl, hw⟩ ?_
  rintro n a w ⟨s, rfl, hs, ha, hw⟩
  refine wp_mono (round s hs a w ha hw) ?_
  rintro e a' w' ⟨l', H', O', h1, h2, h3⟩
  cases e with
  | normal =>
    obtain ⟨s', k, rfl, hs1, hs2, hs3, hs4⟩ := h3
    exact ⟨μ s', hs4, s', rfl, hs3, h1.sub hs1, hs2 ▸ h2.drop k⟩
  | _ => exact ⟨l', H', O', h1, h2, h3⟩
end
end Go.Ph
