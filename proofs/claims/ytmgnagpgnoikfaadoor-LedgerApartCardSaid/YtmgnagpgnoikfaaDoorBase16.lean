/- What a claim's reading of an argument gives: that memory reads as plain data. -/
import Derived.Test.YtmgnagpgnoikfaaDoorBase15
import GoSem.ClaimJoined
import Derived.Lib.LaidTab
set_option linter.unusedVariables false
set_option linter.unusedSimpArgs false
namespace Go.Ph
open Go Go.RowKit
/-- Whatever is read at this type is plain data of this kind. -/
def Reads (P : Program) (α : Type) [Rep α] (t : TypeId) : Prop := ∀ {J : Type} {enc : TypeId × Value → J} {W : World} {sp : Nat → Bool} {fuel : Nat} {cs : List Value} {d : DataW J} {p : List MemPlace},
  DataW.trod enc P W 0 sp true fuel t cs = some (d, p) → (∀ x ∈ d.weights P t, x ≤ reachBytes) → ∃ x : α, Rep.rd (fun b => W.heap[b]?) cs x
theorem inR_wf {n : Int} (h : (Lit.int .i64 n).wf = true) : InR n := by
  simp only [Lit.wf, IntKind.min, IntKind.max, IntKind.bits, IntKind.signed] at h
  unfold InR
  simp at h
  omega
theorem reads_int {P : Program} {t : TypeId} (ht : P.underlying t = some (.int .i64)) : Reads P Int t := by
  intro J enc W sp fuel cs d p h hw
  obtain ⟨n, rfl, _, h1⟩ := DataW.trod_int ht h
  exact ⟨n, rfl, inR_wf h1⟩
theorem reads_bool {P : Program} {t : TypeId} (ht : P.underlying t = some .bool) : Reads P Bool t := by
  intro J enc W sp fuel cs d p h hw
  obtain ⟨b, rfl, _⟩ := DataW.trod_bool ht h
  exact ⟨b, rfl⟩
theorem weightsAll_mem {P : Program} {e : TypeId} {J : Type} : ∀ {ds : List (DataW J)} {d : DataW J} {x : Nat}, d ∈ ds → x ∈ d.weights P e → x ∈ DataW.weightsAll P e ds
  | [], _, _, h, _ => by simp at h
  | d0 :: ds, d, x, h, hx => by
    simp only [DataW.weightsAll, List.mem_append]
    rcases List.mem_cons.1 h with rfl | h
    · exact .inl hx
    · exact .inr (weightsAll_mem h hx)
theorem weightsEach_mem {P : Program} {J : Type} : ∀ {ts : List TypeId} {ds : List (DataW J)} {j : Nat} {t : TypeId} {d : DataW J} {x : Nat}, ts[j]? = some t → ds[j]? = some d → x ∈ d.weights P t → x ∈ DataW.weightsEach P ts ds
  | [], _, j, _, _, _, h, _, _ => by simp at h
  | t0 :: ts, [], j, _, _, _, _, h, _ => by simp at h
  | t0 :: ts, d0 :: ds, j, t, d, x, h1, h2, hx => by
    simp only [DataW.weightsEach, List.mem_append]
    cases j with
    | zero =>
      simp only [List.getElem?_cons_zero, Option.some.injEq] at h1 h2
      subst h1; subst h2; exact .inl hx
    | succ j => exact .inr (weightsEach_mem (j := j) (by simpa using h1) (by simpa using h2) hx)
theorem trod_field {P : Program} {t : TypeId} {fs : Array Field} {J : Type} {enc : TypeId × Value → J} {W : World} {sp : Nat → Bool} {fuel : Nat} {cs : List Value} {d : DataW J} {p : List MemPlace} (ht : P.underlying t = some (.struct fs))
    (h : DataW.trod enc P W 0 sp true fuel t cs = some (d, p)) (hw : ∀ x ∈ d.weights P t, x ≤ reachBytes) : cs.length = P.cellsOf t ∧ ∀ (j : Nat) (f : Field), fs.toList[j]? = some f → ∃ fuel' d' p', DataW.trod enc P W 0 sp true fuel' f.type ((cs.drop f.offset).take (P.cellsOf f.type)) = some (d', p') ∧ ∀ x ∈ d'.weights P f.type, x ≤ reachBytes := by
  cases fuel with
  | zero => simp [DataW.trod] at h
  | succ fuel =>
    simp only [DataW.trod, ht] at h
    split at h
    · rename_i hl
      refine ⟨hl, fun j f hj => ?_⟩
      obtain ⟨xs, hm, hx⟩ := Option.map_eq_some_iff.1 h
      injection hx with hd _
      subst hd
      obtain ⟨y, hy, he⟩ := Lib.mapM_at hm j f hj
      refine ⟨fuel, y.1, y.2, he, fun x hxw => hw x ?_⟩
      simp only [DataW.weights, ht]
      exact weightsEach_mem (j := j) (t := f.type) (d := y.1) (by simp [hj]) (by simp [hy]) hxw
    · cases h
theorem cells_spot {W : World} {a : Addr} {s : Nat} {cs : List Value} (h : W.cells? 0 (a.add 0) s = some cs) (hs : 0 < s) : a.spot = none := by
  unfold World.cells? at h
  rw [if_pos (Nat.zero_le _)] at h
  obtain ⟨y, hy, he⟩ := Lib.mapM_at h 0 0 (by simp [hs])
  have e : (a.add 0).add 0 = a := by simp [Addr.add]
  rw [e] at he
  unfold World.cell? at he
  cases hq : a.spot with
  | none => rfl
  | some x =>
    cases hb : W.heap[a.block]? with
    | none => rw [hb] at he; cases he
    | some o => cases o <;> rw [hb] at he <;> simp [hq] at he
theorem cells_at {W : World} {b o k s : Nat} {cs : List Value} (h : W.cells? 0 ((⟨b, o, none⟩ : Addr).add k) s = some cs) (hs : 0 < s) : At (fun b => W.heap[b]?) [] b (o + k) cs := by
  unfold World.cells? at h
  rw [if_pos (Nat.zero_le _)] at h
  have hl : cs.length = s := by simpa using Lib.mapM_length h
  intro w hw j u hu
  have hi : j < s := by rw [← hl]; exact (List.getElem?_eq_some_iff.1 hu).1
  obtain ⟨y, hy, he⟩ := Lib.mapM_at h j j (by simp [hi])
  rw [hu] at hy; cases hy
  have e : ((⟨b, o, none⟩ : Addr).add k).add j = ⟨b, o + k + j, none⟩ := by rw [add_pl, add_pl]
  rw [e] at he
  unfold World.cell? at he ⊢
  cases hb : W.heap[b]? with
  | none => rw [hb] at he; cases he
  | some ob => rw [hb] at he; rw [hw.imm b ob hb]; exact he
theorem reads_slice {P : Program} {α : Type} [Rep α] {t e : TypeId} (ht : P.underlying t = some (.slice e)) (hsz : P.cellsOf e = Rep.sz α) (hpos : 0 < Rep.sz α) (hb : P.bytesOf e = Rep.bytes α) (he : Reads P α e) : Reads P (List α) t := by
  intro J enc W sp fuel cs d p h hw
  rcases DataW.trod_slice ht h with ⟨rfl, _⟩ | ⟨a, len, cap, elems, rest, n, rfl, rfl, hx, _, hlc, _, hel, hr, _, _⟩
  · exact ⟨[], _, rfl, RdL.nil _⟩
  · injection hx with hd _
    subst hd
    simp only [DataW.weights, ht] at hw
    have hsmall : (elems.map (·.1)).length * P.bytesOf e ≤ reachBytes := by
      have := hw _ List.mem_cons_self
      exact Nat.le_trans (Nat.mul_le_mul_right _ (Nat.le_add_right _ _)) this
    rw [List.length_map, hel, hb] at hsmall
    have key : ∀ i, i < len → ∃ (x : α) (cs : List Value), W.cells? 0 (a.add (i * Rep.sz α)) (Rep.sz α) = some cs ∧ Rep.rd (fun b => W.heap[b]?) cs x := fun i hi => by
      have h1 := hr i hi
      rw [hsz, List.getElem?_eq_getElem (by omega)] at h1
      obtain ⟨cs, h2, h3⟩ := Option.bind_eq_some_iff.1 h1
      obtain ⟨x, h4⟩ := he (d := (elems[i]'(by omega)).1) (p := (elems[i]'(by omega)).2) h3 (fun y hy => hw y (List.mem_cons_of_mem _ (List.mem_append_left _ (weightsAll_mem (List.mem_map.2 ⟨_, List.getElem_mem _, rfl⟩) hy))))
      exact ⟨x, cs, h2, h4⟩
    have all : ∀ m, m ≤ len → ∃ xs : List α, xs.length = m ∧ ∀ j x, xs[j]? = some x → ∃ cs, W.cells? 0 (a.add (j * Rep.sz α)) (Rep.sz α) = some cs ∧ Rep.rd (fun b => W.heap[b]?) cs x := by
      intro m
      induction m with
      | zero => exact fun _ => ⟨[], rfl, fun j x h => by simp at h⟩
      | succ m ih =>
        intro hm
        obtain ⟨xs, h1, h2⟩ := ih (by omega)
        obtain ⟨x, cs, h3, h4⟩ := key m (by omega)
        refine ⟨xs ++ [x], by simp [h1], fun j y hy => ?_⟩
        by_cases hj : j < m
        · rw [List.getElem?_append_left (by omega)] at hy; exact h2 j y hy
        · rw [List.getElem?_append_right (by omega)] at hy
          have e0 : j - xs.length = 0 := by
            have := (List.getElem?_eq_some_iff.1 hy).1
            simp at this; omega
          rw [e0] at hy
          simp at hy
          subst hy
          have : j = m := by omega
          subst this
          exact ⟨cs, h3, h4⟩
    obtain ⟨xs, h1, h2⟩ := all len (Nat.le_refl _)
    subst h1
    refine ⟨xs, _, rfl, some a, cap, rfl, hsmall, fun j x hx => ?_⟩
    have hsp : a.spot = none := by
      have h0 : 0 < xs.length := by have := (List.getElem?_eq_some_iff.1 hx).1; omega
      obtain ⟨cs, h3, _⟩ := h2 0 _ (List.getElem?_eq_getElem h0)
      rw [Nat.zero_mul] at h3
      exact cells_spot h3 hpos
    obtain ⟨cs, h3, h4⟩ := h2 j x hx
    cases a with
    | mk b o s =>
      simp only at hsp
      subst hsp
      exact ⟨cs, ⟨b, o, _, _, rfl, cells_at h3 hpos⟩, h4⟩
end Go.Ph
