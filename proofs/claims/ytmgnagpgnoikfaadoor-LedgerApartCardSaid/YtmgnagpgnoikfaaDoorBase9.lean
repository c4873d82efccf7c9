/- Regions that draw their order and make or write memory: a plan of the order that stands for all. -/
import Derived.Test.YtmgnagpgnoikfaaDoorBase8
set_option linter.unusedVariables false
set_option linter.unusedSimpArgs false
namespace Go.Ph
open Go.RowKit

def NoPanic (Q : EQ) : Prop := ∀ c l H O, ¬ Q (.panic c) l H O
theorem np_fn {P : Program} {fn : Func} {R : Value → HM → OL → Prop} : NoPanic (FnPost P fn R) := by rintro c l H O ⟨h | h, _⟩ <;> cases h
theorem np_then {next : Env → HM → OL → Prop} {Q : EQ} (h : NoPanic Q) : NoPanic (thenQ next Q) := fun c l H O => h c l H O
theorem np_block {id : Nat} {Q : EQ} (h : NoPanic Q) : NoPanic (blockQ id Q) := fun c l H O => h c l H O

section
variable {P : Program} {ops : Array Oper}
/-- Does operation j wait for all of N? -/
def waitsAll (ops : Array Oper) (N : List Nat) (j : Nat) : Bool := match ops[j]? with
  | some o => N.all fun i => o.after.any fun e => Region.binds .any e && e.on == i
  | none => true
/-- Whatever order is picked; S is owed behind each operation but those of T, which wait for all that lean on S. -/
def anyT (P : Program) (ops : Array Oper) (Q : Exit → Act → World → Prop) (S : World → Prop) (T : List Nat) : Nat → Array Bool → Act → World → Prop
  | 0, listed, a, w => Region.ready .any ops listed = [] ∧ Q .normal a w
  | fuel + 1, listed, a, w => (Region.ready .any ops listed = [] → Q .normal a w) ∧
    ∀ i ∈ Region.ready .any ops listed, wpOp P ops Q i (fun a' w' => (i ∉ T → S w') ∧ anyT P ops Q S T fuel (listed.setIfInBounds i true) a' w') a w
theorem any_of_anyT {Q : Exit → Act → World → Prop} {S : World → Prop} {T : List Nat} : ∀ (fuel : Nat) (listed : Array Bool) (a : Act) (w : World), anyT P ops Q S T fuel listed a w → wpAny P .any ops Q fuel listed a w
  | 0, _, _, _, h => h
  | fuel + 1, _, _, _, h => ⟨h.1, fun i hi => wpOp_mono (fun a' w' h' => any_of_anyT fuel _ a' w' h'.2) (h.2 i hi)⟩
theorem anyT_first {Q : Exit → Act → World → Prop} {S : World → Prop} {N T : List Nat} {i : Nat} {oi : Oper} {v : Value} (hi : ops[i]? = some oi) (hN : i ∈ N) (hT : ∀ j ∈ T, waitsAll ops N j = true) (hsel : ∀ (j : Nat) (o : Oper) cs b, ops[j]? = some o → o.op ≠ .select cs b)
    (hQ : ∀ c a w, ¬ Q (.panic c) a w) : ∀ (fuel : Nat) (listed : Array Bool) (a : Act) (w : World),
      (∀ j oj, ops[j]? = some oj → j ≠ i → listed.getD j true = false → (∀ e ∈ oj.after, Region.binds .any e = true → e.on ≠ i) → oi.apart ops oj = true) →
      i ∈ Region.ready .any ops listed → YieldsIf P ops S oi v a → S w →
      anyT P ops Q S T fuel (listed.setIfInBounds i true) (a.put oi.dst v) w → anyT P ops Q S T (fuel + 1) listed a w := by
  intro fuel
  induction fuel with
  | zero =>
    intro listed a w hfree hr hy hS H
    refine ⟨fun h => absurd hr (by rw [h]; simp), fun j hj => ?_⟩
    by_cases hji : j = i
    · subst hji; exact hy.wpOp hi hS ⟨fun _ => hS, H⟩
    · have := ready_mono hj hji
      rw [H.1] at this; cases this
  | succ fuel ih =>
    intro listed a w hfree hr hy hS H
    refine ⟨fun h => absurd hr (by rw [h]; simp), fun j hj => ?_⟩
    by_cases hji : j = i
    · subst hji; exact hy.wpOp hi hS ⟨fun _ => hS, H⟩
    · obtain ⟨hjun, oj, hoj, hall⟩ := mem_ready.1 hj
      have hiun := (mem_ready.1 hr).1
      have hnot : ∀ e ∈ oj.after, Region.binds .any e = true → e.on ≠ i := fun e he hb heq => by
        have h1 := hall e he hb
        rw [heq] at h1
        rcases Nat.lt_or_ge i listed.size with h' | h'
        · simp [h'] at hiun h1; rw [hiun] at h1; cases h1
        · simp [Array.getElem?_eq_none h'] at h1
      have hjT : j ∉ T := fun hm => by
        have h1 := hT j hm
        simp only [waitsAll, hoj, List.all_eq_true] at h1
        obtain ⟨e, he, hb⟩ := Array.any_eq_true'.1 (h1 i hN)
        simp only [Bool.and_eq_true, beq_iff_eq] at hb
        exact hnot e he hb.1 hb.2
      have h2 := wpOp_putIf (Q := Q) hoj (hfree j oj hoj hji hjun hnot) (fun cs b => hsel i oi cs b hi) (fun cs b => hsel j oj cs b hoj) (fun c a w h => absurd h (hQ c _ w)) hy (H.2 j (ready_mono hj hji))
      have hfree' : ∀ k ok, ops[k]? = some ok → k ≠ i → (listed.setIfInBounds j true).getD k true = false → (∀ e ∈ ok.after, Region.binds .any e = true → e.on ≠ i) → oi.apart ops ok = true := fun k ok hk hki hun hno => by
        refine hfree k ok hk hki ?_ hno
        by_cases hjk : j = k
        · subst hjk; exact hjun
        · rw [getD_set_ne true hjk] at hun; exact hun
      refine wpOp_mono (fun a' w' h3 => ?_) h2
      obtain ⟨h4, h5, h6⟩ := h3
      rw [Array.setIfInBounds_comm _ _ (Ne.symm hji)] at h6
      exact ⟨fun _ => h5 hjT, ih _ a' w' hfree' (ready_mono hr (Ne.symm hji)) h4 (h5 hjT) h6⟩
end

/-! ### The plan -/
/-- One step of a plan: an operation that is taken first (true), or the only one that may come up (false). -/
def planOk (ops : Array Oper) (N T : List Nat) : List (Nat × Bool) → Array Bool → Bool
  | [], listed => (Region.ready .any ops listed).isEmpty
  | (i, true) :: rest, listed => N.contains i && (Region.ready .any ops listed).contains i && Region.free .any ops listed i && planOk ops N T rest (listed.setIfInBounds i true)
  | (i, false) :: rest, listed => (Region.ready .any ops listed == [i]) && (!T.contains i || rest.all fun p => !p.2) && planOk ops N T rest (listed.setIfInBounds i true)
def planAll (ops : Array Oper) (plan : List (Nat × Bool)) (N T : List Nat) : Bool :=
  Region.noSelect ops && T.all (waitsAll ops N) && (plan.length == ops.size) && planOk ops N T plan (Array.replicate ops.size false)
section
variable {P : Program} {sz : Nat} {B : World} {Q : EQ} {l : Env} {H : HM} {O : OL} {ops : Array Oper} {ty : TypeId} {pos : String} {aft : Array Edge} {d : Nat}
/-- The plan is walked: H0 and O0 are what was told at the region's begin. -/
def ExP (P : Program) (sz : Nat) (B : World) (ops : Array Oper) (Q : EQ) (H0 : HM) (O0 : OL) (T : List Nat) : List (Nat × Bool) → Env → HM → OL → Prop
  | [], l, H, O => Q .normal l H O
  | (i, true) :: rest, l, H, O => ∃ o v, ops[i]? = some o ∧ (∀ a, Fr sz l a → YieldsIf P ops (Has H0 O0) o v a) ∧ dstOk sz o = true ∧ o.dst ≠ none ∧ ExP P sz B ops Q H0 O0 T rest ((o.dst.getD 0, v) :: l) H O
  | (i, false) :: rest, l, H, O => ∃ o, ops[i]? = some o ∧ dstOk sz o = true ∧ ExO P sz B ops (thenQ (fun l' H' O' => (T.contains i = true ∨ (Ext H0 H' ∧ ∀ p ∈ O0, p ∈ O')) ∧ ExP P sz B ops Q H0 O0 T rest l' H' O') Q) [o] l H O
theorem wp_exits {o : Oper} {a : Act} {w : World} {K : Act → World → Prop} {Q Q' : Exit → Act → World → Prop} (hq : ∀ e a w, e ≠ .normal → Q e a w → Q' e a w) (h : o.wp P a w K Q) : o.wp P a w K Q' := by
  unfold Oper.wp at *
  generalize (execOp a.eval o).run P w = r at *
  cases r with
  | ok n w' =>
    cases n <;> simp only [Oper.upon] at h ⊢ <;> first | exact h | skip
    case enter f args =>
      refine Calls.mono h fun e w'' he => ?_
      cases e with
      | returned u => exact he
      | panicked c => exact hq _ _ _ (by simp) he
      | outgrown => obtain ⟨a, w, he⟩ := he; exact ⟨a, w, hq _ _ _ (by simp) he⟩
  | halt x w' =>
    cases x <;> simp only [Oper.upon] at h ⊢
    case panic u => exact hq _ _ _ (by simp) h
theorem ExP.sound {H0 : HM} {O0 : OL} {N T : List Nat} (hs : Region.noSelect ops = true) (hT : ∀ j ∈ T, waitsAll ops N j = true) (np : NoPanic Q) : ∀ (plan : List (Nat × Bool)) (listed : Array Bool) (l : Env) (H : HM) (O : OL),
    planOk ops N T plan listed = true → ExP P sz B ops Q H0 O0 T plan l H O → ∀ a w, Fr sz l a → Fits B H O w → ((∃ i, (i, true) ∈ plan) → Has H0 O0 w) → anyT P ops (Lift sz B Q) (Has H0 O0) T plan.length listed a w := by
  intro plan
  induction plan with
  | nil =>
    intro listed l H O hp h a w ha hw _
    exact ⟨by simpa [planOk] using hp, l, H, O, ha, hw, h⟩
  | cons p rest ih =>
    obtain ⟨i, b⟩ := p
    intro listed l H O hp h a w ha hw hS
    cases b with
    | true =>
      simp only [planOk, Bool.and_eq_true] at hp
      obtain ⟨⟨⟨h1, h2⟩, h3⟩, h4⟩ := hp
      obtain ⟨o, v, e1, e2, e3, e4, e5⟩ := h
      have hS0 := hS ⟨i, by simp⟩
      have hfr : Fr sz ((o.dst.getD 0, v) :: l) (a.put o.dst v) := by
        cases hd : o.dst with
        | none => exact absurd hd e4
        | some d =>
          simp only [dstOk, hd, Nat.blt_eq] at e3
          exact ha.put e3 v
      refine anyT_first (N := N) e1 (by simpa using h1) hT (Region.noSelect_spec hs) (fun c a w ⟨l, H, O, _, _, x⟩ => np c l H O x) rest.length listed a w (Region.free_spec e1 h3) (by simpa using h2) (e2 a ha) hS0 ?_
      exact ih _ _ _ _ h4 e5 _ _ hfr hw (fun _ => hS0)
    | false =>
      simp only [planOk, Bool.and_eq_true, beq_iff_eq] at hp
      obtain ⟨⟨h1, h2⟩, h3⟩ := hp
      obtain ⟨o, e1, e2, e3⟩ := h
      refine ⟨fun h => (by rw [h1] at h; cases h), fun j hj => ?_⟩
      rw [h1] at hj
      simp only [List.mem_singleton] at hj
      subst hj
      have h4 := e3 (by simp [e2]) a w ha hw
      have next : ∀ a' w', Lift sz B (thenQ (fun l' H' O' => (T.contains j = true ∨ (Ext H0 H' ∧ ∀ p ∈ O0, p ∈ O')) ∧ ExP P sz B ops Q H0 O0 T rest l' H' O') Q) .normal a' w' →
          (j ∉ T → Has H0 O0 w') ∧ anyT P ops (Lift sz B Q) (Has H0 O0) T rest.length (listed.setIfInBounds j true) a' w' := by
        rintro a' w' ⟨l', H', O', f1, f2, f3, f4⟩
        have keep : j ∉ T → Has H0 O0 w' := fun hj => by
          rcases f3 with f3 | ⟨f3, f5⟩
          · exact absurd (by simpa using f3) hj
          · exact f2.has.mono f3 f5
        refine ⟨keep, ih _ _ _ _ h3 f4 a' w' f1 f2 fun ⟨k, hk⟩ => keep fun hj => ?_⟩
        simp only [Bool.or_eq_true, Bool.not_eq_true', List.contains_eq_mem, hj, decide_true, Bool.true_eq_false, false_or, List.all_eq_true] at h2
        have := h2 _ hk
        simp at this
      unfold wpOp
      simp only [e1]
      simp only [wpList] at h4
      split
      · rename_i hw'
        rw [if_pos hw'] at h4
        rcases h4 with h4 | ⟨h5, a1, w1, h6⟩
        · exact .inl (Oper.wp_mono next (wp_exits (fun e a w he ⟨l, H, O, x, y, z⟩ => ⟨l, H, O, x, y, by cases e <;> first | exact absurd rfl he | exact z⟩) h4))
        · obtain ⟨l, H, O, x, y, z⟩ := h6
          exact .inr ⟨h5, a1, w1, l, H, O, x, y, z⟩
      · rename_i hw'
        rw [if_neg hw'] at h4
        exact next _ _ h4
theorem x_regionP {id : Nat} {os : List Oper} (plan : List (Nat × Bool)) (N T : List Nat) (hm : P.follows .mixedOrders = true) (hp : planAll os.toArray plan N T = true) (np : NoPanic Q) (h : ExP P sz B os.toArray Q H O T plan l H O) :
    ExC P sz B (.region id os.toArray true) Q l H O := fun a w ha hw => by
  simp only [planAll, Bool.and_eq_true, beq_iff_eq, List.all_eq_true] at hp
  obtain ⟨⟨⟨h1, h2⟩, h3⟩, h4⟩ := hp
  refine wp_region_any hm (any_of_anyT (S := Has H O) (T := T) _ _ _ _ ?_)
  have := ExP.sound h1 h2 np plan _ l H O h4 h a _ ha hw.drew (fun _ => hw.drew.has)
  rwa [h3] at this
section
variable {H0 : HM} {O0 : OL} {T : List Nat} {plan : List (Nat × Bool)} {i : Nat}
theorem p_nil (h : Q .normal l H O) : ExP P sz B ops Q H0 O0 T [] l H O := h
theorem p_take {op : Op} {v : Value} (hi : ops[i]? = some ⟨some d, op, ty, pos, aft, none⟩) (hd : Nat.blt d sz = true) (h : Yl P op ty l H0 O0 v) (k : ExP P sz B ops Q H0 O0 T plan ((d, v) :: l) H O) : ExP P sz B ops Q H0 O0 T ((i, true) :: plan) l H O :=
  ⟨_, v, hi, fun a ha => .inl ⟨rfl, fun w hw => h a.eval w _ pos aft none (fun _ _ => ha.ev) hw⟩, hd, by simp, k⟩
theorem p_takeG {op : Op} {v : Value} {j t : Nat} {b : Bool} (hi : ops[i]? = some ⟨some d, op, ty, pos, aft, some (j, b)⟩) (hd : Nat.blt d sz = true) (hj : (ops[j]?).bind (·.dst) = some t) (hb : look l t = some (.bool b)) (h : Yl P op ty l H0 O0 v) (k : ExP P sz B ops Q H0 O0 T plan ((d, v) :: l) H O) : ExP P sz B ops Q H0 O0 T ((i, true) :: plan) l H O :=
  ⟨_, v, hi, fun a ha => .inl ⟨by simp [Region.wanted, yielded_of ha hj hb], fun w hw => h a.eval w _ pos aft _ (fun _ _ => ha.ev) hw⟩, hd, by simp, k⟩
theorem p_takeN {op : Op} {j t : Nat} {b c : Bool} (hi : ops[i]? = some ⟨some d, op, ty, pos, aft, some (j, c)⟩) (hd : Nat.blt d sz = true) (hj : (ops[j]?).bind (·.dst) = some t) (hb : look l t = some (.bool b)) (hne : b = !c) (k : ExP P sz B ops Q H0 O0 T plan ((d, undef) :: l) H O) : ExP P sz B ops Q H0 O0 T ((i, true) :: plan) l H O :=
  ⟨_, undef, hi, fun a ha => .inr ⟨by subst hne; cases c <;> simp [Region.wanted, yielded_of ha hj hb], rfl⟩, hd, by simp, k⟩
theorem ExP.weak {H1 : HM} {O1 : OL} : ∀ (plan : List (Nat × Bool)) (l l' : Env) (H : HM) (O : OL), ExP P sz B ops Q H0 O0 T plan l H O → True := fun _ _ _ _ _ _ => trivial
theorem p_only {o : Oper} (hi : ops[i]? = some o) (hd : dstOk sz o = true) (h : ExO P sz B ops (thenQ (fun l' H' O' => (T.contains i = true ∨ (Ext H0 H' ∧ ∀ p ∈ O0, p ∈ O')) ∧ ExP P sz B ops Q H0 O0 T plan l' H' O') Q) [o] l H O) : ExP P sz B ops Q H0 O0 T ((i, false) :: plan) l H O :=
  ⟨o, hi, hd, h⟩
end
end
end Go.Ph
