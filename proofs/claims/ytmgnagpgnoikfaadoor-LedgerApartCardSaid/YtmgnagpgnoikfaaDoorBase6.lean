/- Regions that draw their order and leave the told memory as it is; guards; calls of function values. -/
import Derived.Test.YtmgnagpgnoikfaaDoorBase5
set_option linter.unusedVariables false
set_option linter.unusedSimpArgs false
namespace Go.Ph
open Go.RowKit

def ExQ (P : Program) (sz : Nat) (B : World) (ops : Array Oper) (K : Env → Prop) (rest : List Oper) (l : Env) (H : HM) (O : OL) : Prop :=
  rest.all (dstOk sz) = true → ∀ a, Fr sz l a → wpQuiet P ops (Fits B H O) (fun a' => ∃ l', Fr sz l' a' ∧ K l') rest a
section
variable {P : Program} {sz : Nat} {B : World} {Q : EQ} {K : Env → Prop} {l : Env} {H : HM} {O : OL} {ops : Array Oper} {rest : List Oper} {ty : TypeId} {pos : String} {aft : Array Edge} {d : Nat}

theorem x_regionQ {id : Nat} {os : List Oper} (hm : P.follows .mixedOrders = true) (hB : Region.lexB .any os.toArray = true) (hd : os.all (dstOk sz) = true) (h : ExQ P sz B os.toArray (fun l' => Q .normal l' H O) os l H O) :
    ExC P sz B (.region id os.toArray true) Q l H O := fun a w ha hw => by
  refine wp_region_quiet (C := Fits B H O) hm hB hw.drew ?_
  have := h hd a ha
  have mono : ∀ (l0 : List Oper) (a : Act) (K K' : Act → Prop), (∀ a, K a → K' a) → wpQuiet P os.toArray (Fits B H O) K l0 a → wpQuiet P os.toArray (Fits B H O) K' l0 a := by
    intro l0
    induction l0 with
    | nil => intro a K K' hk h; exact hk a h
    | cons o l0 ih =>
      intro a K K' hk h
      simp only [wpQuiet] at h ⊢
      split
      · rename_i hw; rw [if_pos hw] at h; exact Oper.quiet_mono (fun a => ih a K K' hk) h
      · rename_i hw; rw [if_neg hw] at h; exact ih _ K K' hk h
  exact mono _ _ (fun a' => ∃ l', Fr sz l' a' ∧ Q .normal l' H O) _ (fun a' ⟨l', h1, h2⟩ w' hw' => ⟨l', H, O, h1, hw', h2⟩) (by simpa using this)
theorem q_nil (h : K l) : ExQ P sz B ops K [] l H O := fun _ a ha => ⟨l, ha, h⟩
theorem q_y {op : Op} {v : Value} (h : Yl P op ty l H O v) (k : ExQ P sz B ops K rest ((d, v) :: l) H O) : ExQ P sz B ops K (⟨some d, op, ty, pos, aft, none⟩ :: rest) l H O := by
  intro hd a ha
  obtain ⟨hlt, hr⟩ := dst_lt hd rfl
  simp only [wpQuiet, Region.wanted, if_true]
  refine ⟨v, fun w hw => ?_, k hr _ (ha.put hlt v)⟩
  simp only [Oper.quietAt, h a.eval w (some d) pos aft none (fun _ _ => ha.ev) hw.has, Oper.quietUpon]
  exact ⟨trivial, trivial⟩
theorem q_gy {op : Op} {v : Value} {j : Nat} (t : Nat) {b : Bool} (hj : (ops[j]?).bind (·.dst) = some t) (hb : look l t = some (.bool b)) (h : Yl P op ty l H O v) (k : ExQ P sz B ops K rest ((d, v) :: l) H O) :
    ExQ P sz B ops K (⟨some d, op, ty, pos, aft, some (j, b)⟩ :: rest) l H O := by
  intro hd a ha
  obtain ⟨hlt, hr⟩ := dst_lt hd rfl
  simp only [wpQuiet]
  rw [if_pos (by simp [Region.wanted, yielded_of ha hj hb])]
  refine ⟨v, fun w hw => ?_, k hr _ (ha.put hlt v)⟩
  simp only [Oper.quietAt, h a.eval w (some d) pos aft _ (fun _ _ => ha.ev) hw.has, Oper.quietUpon]
  exact ⟨trivial, trivial⟩
theorem q_gn {op : Op} {j : Nat} (t : Nat) {b c : Bool} (hj : (ops[j]?).bind (·.dst) = some t) (hb : look l t = some (.bool b)) (hne : b = !c) (k : ExQ P sz B ops K rest ((d, undef) :: l) H O) :
    ExQ P sz B ops K (⟨some d, op, ty, pos, aft, some (j, c)⟩ :: rest) l H O := by
  intro hd a ha
  obtain ⟨hlt, hr⟩ := dst_lt hd rfl
  simp only [wpQuiet]
  rw [if_neg (by subst hne; cases c <;> simp [Region.wanted, yielded_of ha hj hb])]
  exact k hr _ (ha.put hlt undef)
theorem o_split (t : Nat) {b : Bool} (h : look l t = some (.bool b)) (kt : b = true → ExO P sz B ops Q rest ((t, .bool true) :: l) H O) (kf : b = false → ExO P sz B ops Q rest ((t, .bool false) :: l) H O) : ExO P sz B ops Q rest l H O := by
  intro hd a w ha hw
  have up : ∀ c, b = c → Fr sz ((t, .bool c) :: l) a := fun c e => ⟨ha.size, ha.defers, fun s v hv => by
    rw [look_cons] at hv
    split at hv
    · rename_i e2; subst e2; rw [← Option.some.inj hv, ← e]; exact ha.get t _ h
    · exact ha.get s v hv⟩
  cases b with
  | true => exact kt rfl hd a w (up true rfl) hw
  | false => exact kf rfl hd a w (up false rfl) hw
theorem q_split (t : Nat) {b : Bool} (h : look l t = some (.bool b)) (kt : b = true → ExQ P sz B ops K rest ((t, .bool true) :: l) H O) (kf : b = false → ExQ P sz B ops K rest ((t, .bool false) :: l) H O) : ExQ P sz B ops K rest l H O := by
  intro hd a ha
  have up : ∀ c, b = c → Fr sz ((t, .bool c) :: l) a := fun c e => ⟨ha.size, ha.defers, fun s v hv => by
    rw [look_cons] at hv
    split at hv
    · rename_i e2; subst e2; rw [← Option.some.inj hv, ← e]; exact ha.get t _ h
    · exact ha.get s v hv⟩
  cases b with
  | true => exact kt rfl hd a (up true rfl)
  | false => exact kf rfl hd a (up false rfl)
theorem exec_call {f : FuncId} {xs : List Operand} {vs : List Value} {ts : Array TypeId} (hf : FnOk P f) {ρ : Operand → Value} (hρ : ∀ x v, ev l x = some v → ρ x = v) (hfn : ρ (.func f) = .func (.func f) #[] #[]) (hx : xs.mapM (ev l) = some vs) (w : World) (d : Option Tmp) (g : Option (Nat × Bool)) :
    (execOp ρ ⟨d, .call ⟨.value (.func f), xs.toArray, ts⟩, ty, pos, aft, g⟩).run P w = .ok (.enter f vs.toArray) w := by
  have e := map_ev hρ hx
  simp only [execOp, resolve, List.map_toArray, e, hfn, Deferred.ofValue, Sem.run_bind, Sem.run_pure, Result.andThen_ok, invoke, Array.empty_append, Array.append_empty, run_callFunc hf]
/-- What a call that only looks hands back. -/
abbrev Same (X : Value) (H : HM) (O : OL) : Value → HM → OL → Prop := fun v H' O' => v = X ∧ H = H' ∧ O = O'
theorem q_call {f : FuncId} {xs : List Operand} {vs : List Value} {ts : Array TypeId} {X : Value} (hf : FnOk P f) (hx : xs.mapM (ev l) = some vs) (hc : CallsM P f vs.toArray B H O (Same X H O))
    (k : ExQ P sz B ops K rest ((d, X) :: l) H O) : ExQ P sz B ops K (⟨some d, .call ⟨.value (.func f), xs.toArray, ts⟩, ty, pos, aft, none⟩ :: rest) l H O := by
  intro hd a ha
  obtain ⟨hlt, hr⟩ := dst_lt hd rfl
  simp only [wpQuiet, Region.wanted, if_true]
  refine ⟨X, fun w hw => ?_, k hr _ (ha.put hlt X)⟩
  simp only [Oper.quietAt, exec_call hf (fun _ _ => ha.ev) rfl hx, Oper.quietUpon]
  exact ⟨trivial, (hc w hw).mono fun e w' ⟨v, H', O', h1, h2, h3, h4, h5⟩ => ⟨by rw [h1, h3], by subst h4; subst h5; exact h2⟩⟩
theorem q_gcall {f : FuncId} {xs : List Operand} {vs : List Value} {ts : Array TypeId} {X : Value} {j : Nat} (t : Nat) {b : Bool} (hj : (ops[j]?).bind (·.dst) = some t) (hb : look l t = some (.bool b)) (hf : FnOk P f) (hx : xs.mapM (ev l) = some vs) (hc : CallsM P f vs.toArray B H O (Same X H O))
    (k : ExQ P sz B ops K rest ((d, X) :: l) H O) : ExQ P sz B ops K (⟨some d, .call ⟨.value (.func f), xs.toArray, ts⟩, ty, pos, aft, some (j, b)⟩ :: rest) l H O := by
  intro hd a ha
  obtain ⟨hlt, hr⟩ := dst_lt hd rfl
  simp only [wpQuiet]
  rw [if_pos (by simp [Region.wanted, yielded_of ha hj hb])]
  refine ⟨X, fun w hw => ?_, k hr _ (ha.put hlt X)⟩
  simp only [Oper.quietAt, exec_call hf (fun _ _ => ha.ev) rfl hx, Oper.quietUpon]
  exact ⟨trivial, (hc w hw).mono fun e w' ⟨v, H', O', h1, h2, h3, h4, h5⟩ => ⟨by rw [h1, h3], by subst h4; subst h5; exact h2⟩⟩
theorem o_gcall {f : FuncId} {xs : List Operand} {vs : List Value} {ts : Array TypeId} {R : Value → HM → OL → Prop} {j : Nat} (t : Nat) {b : Bool} (hj : (ops[j]?).bind (·.dst) = some t) (hb : look l t = some (.bool b)) (hf : FnOk P f) (hx : xs.mapM (ev l) = some vs) (hc : CallsM P f vs.toArray B H O R)
    (k : ∀ v H' O', R v H' O' → ExO P sz B ops Q rest ((d, v) :: l) H' O') : ExO P sz B ops Q (⟨some d, .call ⟨.value (.func f), xs.toArray, ts⟩, ty, pos, aft, some (j, b)⟩ :: rest) l H O := by
  intro hd a w ha hw
  obtain ⟨hlt, hr⟩ := dst_lt hd rfl
  unfold wpList
  rw [if_pos (by simp [Region.wanted, yielded_of ha hj hb])]
  refine .inl ?_
  simp only [Oper.wp, exec_call hf (fun _ _ => ha.ev) rfl hx, Oper.upon]
  refine (hc w hw).mono ?_
  rintro e w' ⟨v, H', O', rfl, h1, h2⟩
  exact k v H' O' h2 hr _ _ (ha.put hlt v) h1
/-- A function value is called: what it has captured comes behind the arguments. -/
theorem exec_callV {f : FuncId} {x : Operand} {xs : List Operand} {vs : List Value} {ts : Array TypeId} {us cs : Array Value} (hf : FnOk P f) {ρ : Operand → Value} (hρ : ∀ x v, ev l x = some v → ρ x = v) (hfn : ev l x = some (.func (.func f) us cs)) (hx : xs.mapM (ev l) = some vs) (w : World) (d : Option Tmp) (g : Option (Nat × Bool)) :
    (execOp ρ ⟨d, .call ⟨.value x, xs.toArray, ts⟩, ty, pos, aft, g⟩).run P w = .ok (.enter f (us ++ vs.toArray ++ cs)) w := by
  have e := map_ev hρ hx
  simp only [execOp, resolve, List.map_toArray, e, hρ _ _ hfn, Deferred.ofValue, Sem.run_bind, Sem.run_pure, Result.andThen_ok, invoke, run_callFunc hf]
theorem o_callV {f : FuncId} {x : Operand} {xs : List Operand} {vs : List Value} {ts : Array TypeId} {us cs : Array Value} {R : Value → HM → OL → Prop} (hf : FnOk P f) (hfn : ev l x = some (.func (.func f) us cs)) (hx : xs.mapM (ev l) = some vs) (hc : CallsM P f (us ++ vs.toArray ++ cs) B H O R)
    (k : ∀ v H' O', R v H' O' → ExO P sz B ops Q rest ((d, v) :: l) H' O') : ExO P sz B ops Q (⟨some d, .call ⟨.value x, xs.toArray, ts⟩, ty, pos, aft, none⟩ :: rest) l H O := by
  intro hd a w ha hw
  obtain ⟨hlt, hr⟩ := dst_lt hd rfl
  refine wpList_plain rfl fun K hK => ?_
  simp only [Oper.wp, exec_callV hf (fun _ _ => ha.ev) hfn hx, Oper.upon]
  refine (hc w hw).mono ?_
  rintro e w' ⟨v, H', O', rfl, h1, h2⟩
  exact hK _ _ (k v H' O' h2 hr _ _ (ha.put hlt v) h1)
theorem q_callV {f : FuncId} {x : Operand} {xs : List Operand} {vs : List Value} {ts : Array TypeId} {us cs : Array Value} {X : Value} (hf : FnOk P f) (hfn : ev l x = some (.func (.func f) us cs)) (hx : xs.mapM (ev l) = some vs) (hc : CallsM P f (us ++ vs.toArray ++ cs) B H O (Same X H O))
    (k : ExQ P sz B ops K rest ((d, X) :: l) H O) : ExQ P sz B ops K (⟨some d, .call ⟨.value x, xs.toArray, ts⟩, ty, pos, aft, none⟩ :: rest) l H O := by
  intro hd a ha
  obtain ⟨hlt, hr⟩ := dst_lt hd rfl
  simp only [wpQuiet, Region.wanted, if_true]
  refine ⟨X, fun w hw => ?_, k hr _ (ha.put hlt X)⟩
  simp only [Oper.quietAt, exec_callV hf (fun _ _ => ha.ev) hfn hx, Oper.quietUpon]
  exact ⟨trivial, (hc w hw).mono fun e w' ⟨v, H', O', h1, h2, h3, h4, h5⟩ => ⟨by rw [h1, h3], by subst h4; subst h5; exact h2⟩⟩
end
/-- The arguments' slots. -/
def argsEnv : List Value → Nat → Env
  | [], _ => []
  | v :: vs, k => (k, v) :: argsEnv vs (k + 1)
theorem argsEnv_look : ∀ (vs : List Value) (k t : Nat) (v : Value), look (argsEnv vs k) t = some v → k ≤ t ∧ vs[t - k]? = some v
  | [], k, t, v, h => by simp [argsEnv, look] at h
  | u :: vs, k, t, v, h => by
    rw [argsEnv, look_cons] at h
    split at h
    · rename_i e; subst e; exact ⟨Nat.le_refl _, by simpa using h⟩
    · obtain ⟨h1, h2⟩ := argsEnv_look vs (k + 1) t v h
      refine ⟨by omega, ?_⟩
      rw [show t - k = (t - (k + 1)) + 1 by omega]; simpa using h2
theorem enter {P : Program} {f : FuncId} {fn : Func} {c : Code} {vs : List Value} {B : World} {H : HM} {O : OL} {R : Value → HM → OL → Prop} {l : Env} {sz : Nat}
    (hf : P.funcs[f]? = some fn) (hb : fn.body = some c) (hn : fn.ntmps = sz) (hl : argsEnv vs 0 = l) (hz : Nat.ble vs.length sz = true)
    (h : ExC P sz B c (FnPost P fn R) l H O) : CallsM P f vs.toArray B H O R := by
  subst hn
  subst hl
  refine callsM hf hb (fun t v hv => ?_) (by simpa using hz) h
  obtain ⟨_, h2⟩ := argsEnv_look vs 0 t v hv
  simp only [Nat.sub_zero] at h2
  have hlt := (List.getElem?_eq_some_iff.1 h2).1
  rw [Array.getD_eq_getD_getElem?, Array.getElem?_append_left (by simpa using hlt)]
  simp [h2]
end Go.Ph
