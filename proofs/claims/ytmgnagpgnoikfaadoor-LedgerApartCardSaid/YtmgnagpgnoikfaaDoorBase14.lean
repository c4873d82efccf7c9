/- Slices of slices; planned regions that may turn blocks nobody reads meanwhile. -/
import Derived.Test.YtmgnagpgnoikfaaDoorBase13
import Derived.Laws.Slices
set_option linter.unusedVariables false
set_option linter.unusedSimpArgs false
namespace Go.Ph
open Go Go.RowKit
section
variable {P : Program} {sz : Nat} {B : World} {Q : EQ} {l : Env} {H : HM} {O : OL} {ops : Array Oper} {rest : List Oper} {ty : TypeId} {pos : String} {aft : Array Edge} {d : Nat}
theorem elem_of {t e : TypeId} (ht : P.underlying t = some (.slice e)) : P.underlying t = some (.slice (P.elem t)) := by
  have : P.elem t = e := by simp [Program.elem, ht]
  rw [this]; exact ht
theorem y_sliceL {t e es bytes n c : Nat} {agg : Bool} {z : Value} {a : Option Addr} {x y : Operand} {i : Int} {k : IntKind} (ht : P.underlying t = some (.slice e)) (ti : TI P e agg es bytes z) (hx : ev l x = some (.slice a n c)) (hy : ev l y = some (.int k i)) (j : Nat) (hi : i = (j : Int)) (hj : j ≤ n) :
    Yl P (.slice t x (some y) none none) ty l H O (sliced a j n c es) := fun ρ w d pos aft g ha hw => by
  have he : P.elem t = e := by simp [Program.elem, ht]
  simp only [execOp, Option.map_some, Option.map_none, Sem.run_bind, ha _ _ hx, ha _ _ hy]
  rw [run_sliceAt_slice _ _ _ _ _ _ (elem_of ht), run_slice_l _ _ _ _ _ (elem_of ht) _ _ (by omega) (by omega), he, run_sizeOf ti]
  subst hi
  rfl
theorem y_sliceH {t e es bytes n c : Nat} {agg : Bool} {z : Value} {a : Option Addr} {x y : Operand} {i : Int} {k : IntKind} (ht : P.underlying t = some (.slice e)) (ti : TI P e agg es bytes z) (hx : ev l x = some (.slice a n c)) (hy : ev l y = some (.int k i)) (j : Nat) (hi : i = (j : Int)) (hj : j ≤ c) :
    Yl P (.slice t x none (some y) none) ty l H O (.slice a j c) := fun ρ w d pos aft g ha hw => by
  have he : P.elem t = e := by simp [Program.elem, ht]
  simp only [execOp, Option.map_some, Option.map_none, Sem.run_bind, ha _ _ hx, ha _ _ hy]
  rw [run_sliceAt_slice _ _ _ _ _ _ (elem_of ht), run_slice_h _ _ _ _ _ (elem_of ht) _ _ (by omega) (by omega), he, run_sizeOf ti]
  subst hi
  have : sliced a 0 (j : Int).toNat c es = .slice a j c := by
    unfold sliced
    cases a with
    | none => simp
    | some a => cases a; simp [Addr.add]
  simp only [Result.andThen_ok, this]
  rfl
/-- Only some of the blocks that are told are told on. -/
theorem x_pick {c : Code} {O' : OL} (hs : O'.Sublist O) (h : ExC P sz B c Q l H O') : ExC P sz B c Q l H O := fun a w ha hw =>
  h a w ha (hw.pick (fun p hp => hs.subset hp) (hw.nd.sublist (hs.map _)))
theorem sub_mid (R O : OL) (p : Nat × Obj) : (R ++ O).Sublist (R ++ p :: O) := (List.Sublist.refl R).append (List.sublist_cons_self p O)
/-- The same by a plan, where what is held meanwhile is told. -/
theorem x_regionPs {id : Nat} {os : List Oper} (O1 : OL) (hs : ∀ p ∈ O1, p ∈ O) (plan : List (Nat × Bool)) (N T : List Nat) (hm : P.follows .mixedOrders = true) (hp : planAll os.toArray plan N T = true) (np : NoPanic Q) (h : ExP P sz B os.toArray Q H O1 T plan l H O) : ExC P sz B (.region id os.toArray true) Q l H O := fun a w ha hw => by
  simp only [planAll, Bool.and_eq_true, beq_iff_eq, List.all_eq_true] at hp
  obtain ⟨⟨⟨h1, h2⟩, h3⟩, h4⟩ := hp
  refine wp_region_any hm (any_of_anyT (S := Has H O1) (T := T) _ _ _ _ ?_)
  have := ExP.sound h1 h2 np plan _ l H O h4 h a _ ha hw.drew (fun _ => ⟨hw.drew.imm, fun b o hm => hw.drew.has.own b o (hs _ hm)⟩)
  rwa [h3] at this
end
end Go.Ph
