/- Rows of rows: what is one's own until it is frozen. -/
import Derived.Test.YtmgnagpgnoikfaaDoorBase14
set_option linter.unusedVariables false
set_option linter.unusedSimpArgs false
namespace Go.Ph
open Go Go.RowKit
section
variable {P : Program} {sz : Nat} {B : World} {Q : EQ} {l : Env} {H : HM} {O : OL}
/-- Some blocks, wherever they stand among one's own, are written no more. -/
theorem x_freezeP {c : Code} {S O' : OL} (hp : O.Perm (S ++ O')) (h : ∀ H', Ext H H' → (∀ b o, (b, o) ∈ S → H' b = some o) → ExC P sz B c Q l H' O') : ExC P sz B c Q l H O := by
  intro a w ha hw
  have h1 : Fits B H (S ++ O') w := hw.perm hp
  have hnd := h1.nd
  rw [List.map_append, List.nodup_append] at hnd
  exact h (H.add S) (Ext.add H S) (fun b o hm => HM.add_mem hnd.1 (h1.own b o (by simp [hm])).2 hm) a w ha h1.freeze
/-- An operation whose guard holds is the same without it. -/
theorem o_gg {ops : Array Oper} {rest : List Oper} {op : Op} {ty : TypeId} {pos : String} {aft : Array Edge} {d : Option Nat} {j : Nat} (t : Nat) {b : Bool} (hj : (ops[j]?).bind (·.dst) = some t) (hb : look l t = some (.bool b)) (h : ExO P sz B ops Q (⟨d, op, ty, pos, aft, none⟩ :: rest) l H O) : ExO P sz B ops Q (⟨d, op, ty, pos, aft, some (j, b)⟩ :: rest) l H O := by
  intro hd a w ha hw
  have h1 := h hd a w ha hw
  unfold wpList at h1 ⊢
  rw [if_pos (by simp [Region.wanted])] at h1
  rw [if_pos (by simp [Region.wanted, yielded_of ha hj hb])]
  exact h1
end
theorem Row.inH {α : Type} [Rep α] {v : Value} {n : Nat} {cs : List Value} {e : Nat} {R : OL} {H' : HM} {xs : List α} (h : Row v n cs e (Rep.sz α) R) (hn : n = xs.length) (he : El H' cs xs) (hs : xs.length * Rep.bytes α ≤ 140737488351232)
    (hH : ∀ b o, (b, o) ∈ R → H' b = some o) : RdL H' v xs := by
  subst hn
  rcases h.form with ⟨rfl, h0, rfl⟩ | ⟨b, cap, sp, rfl, hc, hsp, rfl⟩
  · have : xs = [] := List.eq_nil_of_length_eq_zero h0
    subst this
    exact RdL.nil _
  · refine ⟨_, _, rfl, hs, fun j x hx => ?_⟩
    obtain ⟨ds, h1, h2⟩ := he.get j x hx
    refine ⟨ds, ⟨b, 0, _, _, rfl, ?_⟩, h1⟩
    refine At.ofH (C := (cs ++ sp).toArray) (T := e) (fr := (0, 0)) (hH b _ (List.mem_singleton.2 rfl)) (fun i u hu => ?_)
    have := h2 i u hu
    simp only [Nat.zero_add, List.getElem?_toArray]
    rw [List.getElem?_append_left (List.getElem?_eq_some_iff.1 this).1]
    exact this
theorem held_0 {R O2 : OL} : ∀ p ∈ O2, p ∈ R ++ O2 := fun p hp => List.mem_append_right _ hp
theorem held_1 {x : Nat × Obj} {R O2 : OL} : ∀ p ∈ x :: O2, p ∈ x :: (R ++ O2) := fun p hp => by
  rcases List.mem_cons.1 hp with h | h
  · subst h; exact List.mem_cons_self
  · exact List.mem_cons_of_mem _ (List.mem_append_right _ h)
theorem held_2 {x y : Nat × Obj} {R O2 : OL} : ∀ p ∈ x :: y :: O2, p ∈ x :: y :: (R ++ O2) := fun p hp => by
  rcases List.mem_cons.1 hp with h | h
  · subst h; exact List.mem_cons_self
  · exact List.mem_cons_of_mem _ (held_1 p h)
theorem held_z1 {z x : Nat × Obj} {R O2 : OL} : ∀ p ∈ x :: O2, p ∈ z :: x :: (R ++ O2) := fun p hp => List.mem_cons_of_mem _ (held_1 p hp)
theorem held_z0 {z : Nat × Obj} {R O2 : OL} : ∀ p ∈ O2, p ∈ z :: (R ++ O2) := fun p hp => List.mem_cons_of_mem _ (held_0 p hp)
theorem take_next {α : Type} {xs : List α} {k : Nat} (h : k < xs.length) : xs.take (k + 1) = xs.take k ++ [xs[k]] := by
  rw [List.take_succ_eq_append_getElem h]
end Go.Ph
