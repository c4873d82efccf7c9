/- Structs of integers compared. -/
import Derived.Test.YtmgnagpgnoikfaaDoorBase15
import Derived.Laws.StructEq
import Derived.ChangeKeysEq
set_option linter.unusedVariables false
set_option linter.unusedSimpArgs false
namespace Go.Ph
open Go Go.RowKit
/-- A struct whose fields are integers only. -/
def EqI (P : Program) (t : TypeId) (n : Nat) : Prop := ∃ fs : Array Field, P.underlying t = some (.struct fs) ∧ P.stoodInHeld t = false ∧ P.eqGuardType P.depth t = false ∧ fs.toList.length = n ∧ ∀ (j : Nat) (f : Field), fs.toList[j]? = some f → f.name ≠ "_" ∧ P.underlying f.type = some (.int .i64) ∧ P.plainKey f.type = true ∧ f.offset = j
theorem eqF_ints {P : Program} {d : Nat} {xs ys : Array Value} {w : World} : ∀ (fs : List Field) (ps qs : List Int) (k : Nat), (∀ (j : Nat) (f : Field), fs[j]? = some f → f.name ≠ "_" ∧ P.underlying f.type = some (.int .i64) ∧ P.plainKey f.type = true ∧ f.offset = k + j) → ps.length = fs.length → qs.length = fs.length →
    (∀ j a, ps[j]? = some a → xs[k + j]? = some (.int .i64 a)) → (∀ j b, qs[j]? = some b → ys[k + j]? = some (.int .i64 b)) → (Op.eqFields (d + 1) xs ys fs).run P w = .ok (decide (ps = qs)) w
  | [], ps, qs, k, _, h1, h2, _, _ => by
    have e1 : ps = [] := List.eq_nil_of_length_eq_zero h1
    have e2 : qs = [] := List.eq_nil_of_length_eq_zero h2
    subst e1; subst e2
    simp [Op.eqFields]
  | f :: fs, [], qs, k, _, h1, _, _, _ => by simp at h1
  | f :: fs, a :: ps, [], k, _, _, h2, _, _ => by simp at h2
  | f :: fs, a :: ps, b :: qs, k, hf, h1, h2, hx, hy => by
    obtain ⟨n1, n2, n3, n4⟩ := hf 0 f rfl
    have ex := hx 0 a rfl
    have ey := hy 0 b rfl
    have ih := eqF_ints (P := P) (d := d) (xs := xs) (ys := ys) (w := w) fs ps qs (k + 1) (fun j g hj => by have := hf (j + 1) g hj; rw [Nat.add_assoc, Nat.add_comm 1 j]; exact this) (by simpa using h1) (by simpa using h2)
      (fun j a ha => by have := hx (j + 1) a ha; rw [Nat.add_assoc, Nat.add_comm 1 j]; exact this) (fun j b hb => by have := hy (j + 1) b hb; rw [Nat.add_assoc, Nat.add_comm 1 j]; exact this)
    rw [n4.symm] at ex ey
    have p1 := Go.run_part_plain (w := w) n3 ex
    have p2 := Go.run_part_plain (w := w) n3 ey
    simp only [Op.eqFields, if_pos n1, Sem.run_bind, p1, p2, Result.andThen_ok, run_equalIn_int w d f.type .i64 .i64 a b n2]
    by_cases hab : a = b
    · subst hab
      simp [ih]
    · have : (a == b) = false := by simpa using hab
      simp [this, hab]
section
variable {P : Program} {sz : Nat} {l : Env} {H : HM} {O : OL} {ty : TypeId}
theorem run_eqS {t : TypeId} {n : Nat} (h : EqI P t n) {ps qs : List Int} (h1 : ps.length = n) (h2 : qs.length = n) (w : World) : (Op.equal t (.agg (ps.map (Value.int .i64)).toArray) (.agg (qs.map (Value.int .i64)).toArray)).run P w = .ok (decide (ps = qs)) w := by
  obtain ⟨fs, hu, hp, hq, hl, hf⟩ := h
  have hfs : P.fieldsOf t = fs := by simp [Program.fieldsOf, hu]
  have key := eqF_ints (P := P) (d := Op.maxDepth - 2) (w := w) (xs := (ps.map (Value.int .i64)).toArray) (ys := (qs.map (Value.int .i64)).toArray) fs.toList ps qs 0 (fun j f hj => by rw [Nat.zero_add]; exact hf j f hj) (by omega) (by omega) (fun j a ha => by simp [ha]) (fun j b hb => by simp [hb])
  have := run_equalIn_struct (P := P) w (Op.maxDepth - 1) t (ps.map (Value.int .i64)).toArray (qs.map (Value.int .i64)).toArray (by rw [hfs]; exact hu) hp
  rw [hfs] at this
  unfold Op.equal
  exact this.trans key
theorem y_neqS {t t' : TypeId} {n : Nat} {x y : Operand} {ps qs : List Int} (h : EqI P t n) (hx : ev l x = some (.agg (ps.map (Value.int .i64)).toArray)) (hy : ev l y = some (.agg (qs.map (Value.int .i64)).toArray)) (h1 : ps.length = n) (h2 : qs.length = n) : Yl P (.binOp .neq t x y t') ty l H O (.bool (!decide (ps = qs))) := fun ρ w d pos aft g ha hw => by
  have hg : P.eqGuardType P.depth t = false := by obtain ⟨fs, _, _, hq, _⟩ := h; exact hq
  have he := run_eqS h h1 h2 w
  simp only [execOp, ha _ _ hx, ha _ _ hy, Sem.run_bind, run_eqGuard_agg (P := P) w .neq t x y _ _ hg, Result.andThen_ok, binOp, he, Sem.run_pure]
end
end Go.Ph
