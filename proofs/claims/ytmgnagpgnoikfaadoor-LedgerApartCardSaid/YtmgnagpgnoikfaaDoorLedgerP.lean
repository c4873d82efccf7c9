/- The ledger's plain law: what Append makes of logs, without a program. -/
import Derived.Test.YtmgnagpgnoikfaaDoorLedger6
set_option linter.unusedVariables false
set_option linter.unusedSimpArgs false
set_option maxRecDepth 100000
namespace Go.Ph
open Go Go.RowKit Go.Proofs.YtmgnagpgnoikfaaDoor

def Sorted (xs : List Log) : Prop := xs.Pairwise fun a b => a.group < b.group
def GoodLog (x : Log) : Prop := 0 < x.commits.length ∧ comsOk x = true
theorem lcheck_spec {xs : List Log} : lcheckB xs = true ↔ xs.length ≤ 16 ∧ Sorted xs ∧ ∀ x ∈ xs, GoodLog x := by
  simp only [lcheckB, Bool.and_eq_true, decide_eq_true_eq, List.all_eq_true, List.mem_range]
  constructor
  · rintro ⟨h1, h2⟩
    have h3 : ∀ k (hk : k < xs.length), 0 < xs[k].commits.length ∧ (k = 0 ∨ grpAt xs (k - 1) < grpAt xs k) ∧ comsOk xs[k] = true := fun k hk => by
      have := h2 k hk
      simp only [logOk, logAt_eq hk, Bool.and_eq_true, Bool.or_eq_true, decide_eq_true_eq] at this
      exact this
    have h4 : ∀ j i, i < j → (hj : j < xs.length) → grpAt xs i < grpAt xs j := by
      intro j
      induction j with
      | zero => intro i hi; omega
      | succ j ih =>
        intro i hi hj
        have := (h3 (j + 1) hj).2.1
        rw [Nat.add_sub_cancel] at this
        rcases this with h | h
        · omega
        · by_cases e : i = j
          · subst e; exact h
          · have := ih i (by omega) (by omega); omega
    refine ⟨h1, List.pairwise_iff_getElem.2 (fun i j hi hj hij => ?_), fun x hx => ?_⟩
    · have := h4 j i hij hj
      rwa [grpAt_eq hi, grpAt_eq hj] at this
    · obtain ⟨k, hk, rfl⟩ := List.getElem_of_mem hx
      exact ⟨(h3 k hk).1, (h3 k hk).2.2⟩
  · rintro ⟨h1, h2, h3⟩
    refine ⟨h1, fun k hk => ?_⟩
    simp only [logOk, logAt_eq hk, Bool.and_eq_true, Bool.or_eq_true, decide_eq_true_eq]
    obtain ⟨h4, h5⟩ := h3 _ (List.getElem_mem hk)
    refine ⟨h4, ?_, h5⟩
    by_cases e : k = 0
    · exact .inl e
    · refine .inr ?_
      rw [grpAt_eq (show k - 1 < xs.length by omega), grpAt_eq hk]
      exact List.pairwise_iff_getElem.1 h2 (k - 1) k (by omega) hk (by omega)
theorem place_spec {xs : List Log} (hs : Sorted xs) (g : Int) : (∀ k, k < placeN xs g → (hk : k < xs.length) → xs[k].group < g) ∧ (∀ k, placeN xs g ≤ k → (hk : k < xs.length) → g ≤ xs[k].group) := by
  have hm : ∀ a b, a ≤ b → b < xs.length → placeP xs g a = true → placeP xs g b = true := fun a b hab hb h => by
    simp only [placeP, decide_eq_true_eq] at h ⊢
    rw [grpAt_eq (show a < xs.length by omega)] at h
    rw [grpAt_eq hb]
    by_cases e : a = b
    · subst e; exact h
    · have := List.pairwise_iff_getElem.1 hs a b (by omega) hb (by omega); omega
  have := searchN_spec (placeP xs g) xs.length hm 0 xs.length (by omega) (Nat.le_refl _) (fun k hk => by omega) (fun k h1 h2 => by omega)
  refine ⟨fun k hk hl => ?_, fun k hk hl => ?_⟩
  · have := this.1 k hk
    simp only [placeP, decide_eq_false_iff_not, grpAt_eq hl] at this; omega
  · have := this.2 k hk hl
    simp only [placeP, decide_eq_true_eq, grpAt_eq hl] at this; omega
theorem placeN_le (xs : List Log) (g : Int) : placeN xs g ≤ xs.length := (searchN_le (placeP xs g) 0 xs.length (by omega)).2
/-- Where a group's log is, or would be. -/
theorem parts {xs : List Log} (hs : Sorted xs) (g : Int) : ∃ A D, (∀ x ∈ A, x.group < g) ∧ (∀ x ∈ D, g < x.group) ∧ A = xs.take (placeN xs g) ∧
    ((foundB xs g = true ∧ ∃ x, x.group = g ∧ xs = A ++ x :: D ∧ logAt xs (placeN xs g) = x ∧ D = xs.drop (placeN xs g + 1)) ∨ (foundB xs g = false ∧ xs = A ++ D ∧ D = xs.drop (placeN xs g))) := by
  obtain ⟨h1, h2⟩ := place_spec hs g
  have hA : ∀ x ∈ xs.take (placeN xs g), x.group < g := fun x hx => by
    obtain ⟨k, hk, rfl⟩ := List.getElem_of_mem hx
    rw [List.length_take] at hk
    rw [List.getElem_take]
    exact h1 k (by omega) (by omega)
  by_cases hf : foundB xs g = true
  · have hl := (of_decide_eq_true hf).1
    have hg := (of_decide_eq_true hf).2
    rw [grpAt_eq hl] at hg
    refine ⟨_, xs.drop (placeN xs g + 1), hA, fun x hx => ?_, rfl, .inl ⟨hf, xs[placeN xs g], hg, ?_, logAt_eq hl, rfl⟩⟩
    · obtain ⟨k, hk, rfl⟩ := List.getElem_of_mem hx
      rw [List.length_drop] at hk
      rw [List.getElem_drop]
      have := List.pairwise_iff_getElem.1 hs (placeN xs g) (placeN xs g + 1 + k) hl (by omega) (by omega)
      omega
    · rw [← List.drop_eq_getElem_cons hl, List.take_append_drop]
  · rw [Bool.not_eq_true] at hf
    refine ⟨_, xs.drop (placeN xs g), hA, fun x hx => ?_, rfl, .inr ⟨hf, (List.take_append_drop _ _).symm, rfl⟩⟩
    obtain ⟨k, hk, rfl⟩ := List.getElem_of_mem hx
    rw [List.length_drop] at hk
    rw [List.getElem_drop]
    have h3 := h2 (placeN xs g + k) (by omega) (by omega)
    by_cases e : k = 0
    · subst e
      have h4 : xs[placeN xs g + 0].group ≠ g := fun e => by
        have : foundB xs g = true := decide_eq_true ⟨by omega, by rw [grpAt_eq (by omega)]; exact e⟩
        rw [hf] at this; cases this
      omega
    · have := List.pairwise_iff_getElem.1 hs (placeN xs g) (placeN xs g + k) (by omega) (by omega) (by omega)
      have h5 := h2 (placeN xs g) (Nat.le_refl _) (by omega)
      omega
theorem commitsOf_spec {xs : List Log} (h : lcheckB xs = true) (g : Int) : (∀ x ∈ xs, x.group = g → commitsOf xs g = x.commits) ∧ ((∀ x ∈ xs, x.group ≠ g) → commitsOf xs g = []) ∧ (foundB xs g = true ↔ ∃ x ∈ xs, x.group = g) := by
  obtain ⟨A, D, hA, hD, _, hh⟩ := parts (lcheck_spec.1 h).2.1 g
  rcases hh with ⟨hf, x, hx, hxs, hl, _⟩ | ⟨hf, hxs, _⟩
  · have e : commitsOf xs g = x.commits := by rw [commitsOf, if_pos ⟨hf, h⟩, hl]
    refine ⟨fun y hy hg => ?_, fun hn => absurd hx (hn x (by rw [hxs]; simp)), ⟨fun _ => ⟨x, by rw [hxs]; simp, hx⟩, fun _ => hf⟩⟩
    rw [hxs] at hy
    rcases List.mem_append.1 hy with hy | hy
    · have := hA y hy; omega
    · rcases List.mem_cons.1 hy with rfl | hy
      · exact e
      · have := hD y hy; omega
  · have hn : ∀ y ∈ xs, y.group ≠ g := fun y hy => by
      rw [hxs] at hy
      rcases List.mem_append.1 hy with hy | hy
      · have := hA y hy; omega
      · have := hD y hy; omega
    refine ⟨fun y hy hg => absurd hg (hn y hy), fun _ => by rw [commitsOf, if_neg (by rw [hf]; simp)], ⟨fun h => (by rw [hf] at h; cases h), fun ⟨y, hy, hg⟩ => absurd hg (hn y hy)⟩⟩
/-- What Append makes, in one sentence. -/
theorem app_parts {xs : List Log} {c : Commit} (h : appErr xs c = 0) : lcheckB xs = true ∧ takeB c = true ∧ c.epoch = (commitsOf xs c.group).length ∧ ∃ A D, (∀ x ∈ A, x.group < c.group) ∧ (∀ x ∈ D, c.group < x.group) ∧ appLogs xs c = A ++ ⟨c.group, commitsOf xs c.group ++ [c]⟩ :: D ∧
    ((foundB xs c.group = true ∧ ∃ x, x.group = c.group ∧ x.commits = commitsOf xs c.group ∧ xs = A ++ x :: D) ∨ (foundB xs c.group = false ∧ commitsOf xs c.group = [] ∧ xs = A ++ D ∧ xs.length < 16)) := by
  have h0 := h
  unfold appErr at h
  split at h
  · rename_i hv
    split at h
    · rename_i he
      split at h
      · cases h
      · rename_i hl
        refine ⟨hv.1, hv.2, he, ?_⟩
        obtain ⟨A, D, hA, hD, eA, hh⟩ := parts (lcheck_spec.1 hv.1).2.1 c.group
        rcases hh with ⟨hf, x, hx, hxs, hlx, eD⟩ | ⟨hf, hxs, eD⟩
        · have e : commitsOf xs c.group = x.commits := by rw [commitsOf, if_pos ⟨hf, hv.1⟩, hlx]
          refine ⟨A, D, hA, hD, ?_, .inl ⟨hf, x, hx, e.symm, hxs⟩⟩
          rw [appLogs, if_pos h0, if_pos hf, hlx, ← eA, ← eD, e]; simp
        · have e : commitsOf xs c.group = [] := by rw [commitsOf, if_neg (by rw [hf]; simp)]
          refine ⟨A, D, hA, hD, ?_, .inr ⟨hf, e, hxs, ?_⟩⟩
          · rw [appLogs, if_pos h0, if_neg (by rw [hf]; simp), ← eA, ← eD, e]; simp
          · have h16 := (lcheck_spec.1 hv.1).1
            have : xs.length ≠ 16 := fun e => hl ⟨hf, e⟩
            omega
    · cases h
  · cases h
theorem comsOk_iff {x : Log} : comsOk x = true ↔ ∀ j (hj : j < x.commits.length), x.commits[j].group = x.group ∧ x.commits[j].epoch = j ∧ takeB x.commits[j] = true := by
  simp only [comsOk, List.all_eq_true, List.mem_range]
  constructor
  · intro h j hj
    have := h j hj
    rw [comOk_spec hj] at this
    simpa using this
  · intro h j hj
    rw [comOk_spec hj]
    simpa using h j hj
theorem app_valid {xs : List Log} {c : Commit} (h : appErr xs c = 0) : lcheckB (appLogs xs c) = true := by
  obtain ⟨hv, ht, he, A, D, hA, hD, hl, hh⟩ := app_parts h
  obtain ⟨h16, hs, hg⟩ := lcheck_spec.1 hv
  have hco : comsOk ⟨c.group, commitsOf xs c.group ++ [c]⟩ = true := by
    rw [comsOk_iff]
    intro j hj
    simp only [List.length_append, List.length_cons, List.length_nil] at hj
    by_cases hjl : j < (commitsOf xs c.group).length
    · rcases hh with ⟨_, x, hx, hc, hxs⟩ | ⟨_, hc, _⟩
      · have := comsOk_iff.1 (hg x (by rw [hxs]; simp)).2 j (by rw [hc]; exact hjl)
        simp only [hc] at this
        simp only [List.getElem_append_left hjl]
        exact ⟨this.1.trans hx, this.2⟩
      · rw [hc] at hjl; simp at hjl
    · have : j = (commitsOf xs c.group).length := by omega
      subst this
      simp only [List.getElem_concat_length]
      exact ⟨trivial, he, ht⟩
  rw [hl, lcheck_spec]
  have hsub : ∀ x, x ∈ A ∨ x ∈ D → x ∈ xs := by
    rintro x hx
    rcases hh with ⟨_, y, _, _, hxs⟩ | ⟨_, _, hxs, _⟩ <;> rw [hxs] <;> rcases hx with hx | hx <;> simp [hx]
  have hAD : Sorted (A ++ D) := by
    rcases hh with ⟨_, y, _, _, hxs⟩ | ⟨_, _, hxs, _⟩
    · rw [hxs] at hs
      exact hs.sublist ((List.Sublist.refl A).append (List.sublist_cons_self y D))
    · rw [← hxs]; exact hs
  refine ⟨?_, ?_, fun x hx => ?_⟩
  · rcases hh with ⟨_, y, _, _, hxs⟩ | ⟨_, _, hxs, hlt⟩
    · rw [hxs] at h16; simp at h16 ⊢; omega
    · rw [hxs] at hlt; simp at hlt ⊢; omega
  · have h1 := List.pairwise_append.1 hAD
    refine List.pairwise_append.2 ⟨h1.1, List.pairwise_cons.2 ⟨fun b hb => hD b hb, h1.2.1⟩, fun a ha b hb => ?_⟩
    rcases List.mem_cons.1 hb with rfl | hb
    · exact hA a ha
    · exact h1.2.2 a ha b hb
  · rcases List.mem_append.1 hx with hx | hx
    · exact hg x (hsub x (.inl hx))
    · rcases List.mem_cons.1 hx with rfl | hx
      · exact ⟨by simp, hco⟩
      · exact hg x (hsub x (.inr hx))
theorem app_commits {xs : List Log} {c : Commit} (h : appErr xs c = 0) (g : Int) : commitsOf (appLogs xs c) g = if g = c.group then commitsOf xs c.group ++ [c] else commitsOf xs g := by
  have hv2 := app_valid h
  obtain ⟨hv, ht, he, A, D, hA, hD, hl, hh⟩ := app_parts h
  obtain ⟨k1, k2, _⟩ := commitsOf_spec hv2 g
  obtain ⟨m1, m2, _⟩ := commitsOf_spec hv g
  split
  · rename_i e
    subst e
    exact k1 ⟨c.group, commitsOf xs c.group ++ [c]⟩ (by rw [hl]; simp) rfl
  · rename_i hne
    have hmem : ∀ x, x.group = g → (x ∈ appLogs xs c ↔ x ∈ xs) := fun x hx => by
      have n1 : x ≠ ⟨c.group, commitsOf xs c.group ++ [c]⟩ := fun e => hne (by rw [← hx, e])
      rcases hh with ⟨_, y, hy, _, hxs⟩ | ⟨_, _, hxs, _⟩
      · have n2 : x ≠ y := fun e => hne (by rw [← hx, e, hy])
        have h3 : x ∈ xs ↔ x ∈ A ++ y :: D := by rw [← hxs]
        rw [hl, h3]; simp [n1, n2]
      · have h3 : x ∈ xs ↔ x ∈ A ++ D := by rw [← hxs]
        rw [hl, h3]; simp [n1]
    by_cases hex : ∃ x ∈ xs, x.group = g
    · obtain ⟨x, hx, hg⟩ := hex
      rw [k1 x ((hmem x hg).2 hx) hg, m1 x hx hg]
    · have hn : ∀ x ∈ xs, x.group ≠ g := fun x hx e => hex ⟨x, hx, e⟩
      rw [m2 hn, k2 (fun x hx e => hn x ((hmem x e).1 hx) e)]
theorem app_found {xs : List Log} {c : Commit} (h : appErr xs c = 0) (g : Int) : foundB (appLogs xs c) g = (decide (g = c.group) || foundB xs g) := by
  have h1 := (commitsOf_spec (app_valid h) g).2.2
  obtain ⟨hv, ht, he, A, D, hA, hD, hl, hh⟩ := app_parts h
  have h2 := (commitsOf_spec hv g).2.2
  rw [Bool.eq_iff_iff, h1, Bool.or_eq_true, h2, decide_eq_true_eq]
  constructor
  · rintro ⟨x, hx, hg⟩
    rw [hl] at hx
    rcases List.mem_append.1 hx with hx | hx
    · refine .inr ⟨x, ?_, hg⟩
      rcases hh with ⟨_, y, _, _, hxs⟩ | ⟨_, _, hxs, _⟩ <;> rw [hxs] <;> simp [hx]
    · rcases List.mem_cons.1 hx with rfl | hx
      · exact .inl hg.symm
      · refine .inr ⟨x, ?_, hg⟩
        rcases hh with ⟨_, y, _, _, hxs⟩ | ⟨_, _, hxs, _⟩ <;> rw [hxs] <;> simp [hx]
  · rintro (hg | ⟨x, hx, hg⟩)
    · exact ⟨⟨c.group, commitsOf xs c.group ++ [c]⟩, by rw [hl]; simp, hg.symm⟩
    · rcases hh with ⟨_, y, hy, _, hxs⟩ | ⟨_, _, hxs, _⟩
      · rw [hxs] at hx
        rcases List.mem_append.1 hx with hx | hx
        · exact ⟨x, by rw [hl]; simp [hx], hg⟩
        · rcases List.mem_cons.1 hx with rfl | hx
          · exact ⟨_, by rw [hl]; exact List.mem_append.2 (.inr List.mem_cons_self), by rw [← hg, hy]⟩
          · exact ⟨x, by rw [hl]; simp [hx], hg⟩
      · rw [hxs] at hx
        refine ⟨x, ?_, hg⟩
        rw [hl]
        rcases List.mem_append.1 hx with hx | hx <;> simp [hx]
theorem app_len {xs : List Log} {c : Commit} (h : appErr xs c = 0) : (appLogs xs c).length = xs.length + (if foundB xs c.group = true then 0 else 1) := by
  obtain ⟨hv, ht, he, A, D, hA, hD, hl, hh⟩ := app_parts h
  rcases hh with ⟨hf, y, hy, _, hxs⟩ | ⟨hf, _, hxs, _⟩
  · rw [if_pos hf, hl, hxs]; simp
  · rw [if_neg (by rw [hf]; simp), hl, hxs]; simp; omega
theorem sorted_ext : ∀ {xs ys : List Log}, Sorted xs → Sorted ys → (∀ x, x ∈ xs ↔ x ∈ ys) → xs = ys
  | [], ys, _, _, h => by
    cases ys with
    | nil => rfl
    | cons y ys => have := (h y).2 (by simp); simp at this
  | x :: xs, [], _, _, h => by have := (h x).1 (by simp); simp at this
  | x :: xs, y :: ys, h1, h2, h => by
    obtain ⟨a1, a2⟩ := List.pairwise_cons.1 h1
    obtain ⟨b1, b2⟩ := List.pairwise_cons.1 h2
    have e : x = y := by
      rcases List.mem_cons.1 ((h x).1 (by simp)) with e | hx
      · exact e
      · rcases List.mem_cons.1 ((h y).2 (by simp)) with e | hy
        · exact e.symm
        · have := a1 y hy
          have := b1 x hx
          omega
    subst e
    rw [sorted_ext a2 b2 fun z => ?_]
    constructor
    · intro hz
      rcases List.mem_cons.1 ((h z).1 (by simp [hz])) with e | hz'
      · subst e; have := a1 z hz; omega
      · exact hz'
    · intro hz
      rcases List.mem_cons.1 ((h z).2 (by simp [hz])) with e | hz'
      · subst e; have := b1 z hz; omega
      · exact hz'
theorem logs_ext {xs ys : List Log} (hx : lcheckB xs = true) (hy : lcheckB ys = true) (h : ∀ g, commitsOf xs g = commitsOf ys g) : xs = ys := by
  have key : ∀ {xs ys : List Log}, lcheckB xs = true → lcheckB ys = true → (∀ g, commitsOf xs g = commitsOf ys g) → ∀ x, x ∈ xs → x ∈ ys := fun {xs ys} hx hy h x hm => by
    have e := (commitsOf_spec hx x.group).1 x hm rfl
    have hp := ((lcheck_spec.1 hx).2.2 x hm).1
    by_cases hex : ∃ y ∈ ys, y.group = x.group
    · obtain ⟨y, hym, hg⟩ := hex
      have e2 := (commitsOf_spec hy x.group).1 y hym hg
      have : x = y := by
        cases x; cases y
        simp only at hg e e2
        rw [Log.mk.injEq]
        exact ⟨hg.symm, by rw [← e, h, e2]⟩
      rw [this]; exact hym
    · have e2 := (commitsOf_spec hy x.group).2.1 (fun y hy e => hex ⟨y, hy, e⟩)
      rw [← e, h, e2] at hp
      simp at hp
  exact sorted_ext (lcheck_spec.1 hx).2.1 (lcheck_spec.1 hy).2.1 fun x => ⟨key hx hy h x, key hy hx (fun g => (h g).symm) x⟩
theorem app_ok {xs : List Log} {c : Commit} (hv : lcheckB xs = true) (ht : takeB c = true) (he : c.epoch = (commitsOf xs c.group).length) (hl : foundB xs c.group = true ∨ xs.length < 16) : appErr xs c = 0 := by
  rw [appErr, if_pos ⟨hv, ht⟩, if_pos he, if_neg]
  rintro ⟨h1, h2⟩
  rcases hl with hl | hl
  · rw [hl] at h1; cases h1
  · omega
/-- Of two commits of two groups. -/
theorem apart_law {xs : List Log} {c d : Commit} (hg : c.group ≠ d.group) (h1 : appErr xs c = 0) (h2 : appErr (appLogs xs c) d = 0) : appErr xs d = 0 ∧ appErr (appLogs xs d) c = 0 ∧ appLogs (appLogs xs c) d = appLogs (appLogs xs d) c := by
  obtain ⟨hv, tc, ec, A, D, _, _, _, hc⟩ := app_parts h1
  obtain ⟨_, td, ed, A2, D2, _, _, _, hd⟩ := app_parts h2
  have c1 := app_commits h1 d.group
  rw [if_neg (Ne.symm hg)] at c1
  have l1 := app_len h1
  have f1 := app_found h1 d.group
  rw [decide_eq_false (Ne.symm hg), Bool.false_or] at f1
  have h16 := (lcheck_spec.1 hv).1
  have lim : foundB (appLogs xs c) d.group = true ∨ (appLogs xs c).length < 16 := by
    rcases hd with ⟨h, _⟩ | ⟨_, _, _, h⟩
    · exact .inl h
    · exact .inr h
  have limc : foundB xs c.group = true ∨ xs.length < 16 := by
    rcases hc with ⟨h, _⟩ | ⟨_, _, _, h⟩
    · exact .inl h
    · exact .inr h
  have k1 : appErr xs d = 0 := app_ok hv td (by rw [ed, c1]) (by
    rw [f1] at lim
    rcases lim with h | h
    · exact .inl h
    · right; rw [l1] at h; omega)
  have c2 := app_commits k1 c.group
  rw [if_neg hg] at c2
  have l2 := app_len k1
  have f2 := app_found k1 c.group
  rw [decide_eq_false hg, Bool.false_or] at f2
  have k2 : appErr (appLogs xs d) c = 0 := app_ok (app_valid k1) tc (by rw [ec, c2]) (by
    rw [f2]
    rcases limc with h | h
    · exact .inl h
    · by_cases hf : foundB xs c.group = true
      · exact .inl hf
      · right
        rw [if_neg hf] at l1
        rw [f1] at lim
        rcases lim with h3 | h3
        · rw [if_pos h3] at l2; omega
        · split at l2 <;> omega)
  refine ⟨k1, k2, logs_ext (app_valid h2) (app_valid k2) fun g => ?_⟩
  rw [app_commits h2, app_commits k2, app_commits h1, app_commits k1, app_commits h1, app_commits k1]
  rw [if_neg (Ne.symm hg), if_neg hg]
  by_cases e1 : g = d.group
  · subst e1
    rw [if_pos rfl, if_neg (Ne.symm hg), if_pos rfl]
  · rw [if_neg e1]
    by_cases e2 : g = c.group
    · rw [if_pos e2, if_pos e2]
    · rw [if_neg e2, if_neg e2, if_neg e1]
/-- What is there behind a commit that was taken. -/
theorem first_last {xs : List Log} {c : Commit} (h : appErr xs c = 0) : getB (appLogs xs c) c.group (((commitsOf (appLogs xs c) c.group).length : Int) - 1) = true ∧ getC (appLogs xs c) c.group (((commitsOf (appLogs xs c) c.group).length : Int) - 1) = c ∧ (commitsOf (appLogs xs c) c.group).length = (commitsOf xs c.group).length + 1 := by
  have e : commitsOf (appLogs xs c) c.group = commitsOf xs c.group ++ [c] := by rw [app_commits h, if_pos rfl]
  have el : (commitsOf (appLogs xs c) c.group).length = (commitsOf xs c.group).length + 1 := by rw [e]; simp
  refine ⟨decide_eq_true ⟨by omega, by omega⟩, ?_, el⟩
  rw [getC, if_pos (by omega), e]
  have : (((commitsOf xs c.group ++ [c]).length : Int) - 1).toNat = (commitsOf xs c.group).length := by simp
  rw [this]; simp
theorem first_kept {xs : List Log} {c : Commit} (h : appErr xs c = 0) {i n : Nat} (hi : i < xs.length) (hn : n < xs[i].commits.length) : getB (appLogs xs c) xs[i].group (n : Int) = true ∧ getC (appLogs xs c) xs[i].group (n : Int) = xs[i].commits[n] := by
  have hv := (app_parts h).1
  have e1 := (commitsOf_spec hv xs[i].group).1 _ (List.getElem_mem hi) rfl
  have e2 := app_commits h xs[i].group
  have e3 : ∃ ys, commitsOf (appLogs xs c) xs[i].group = xs[i].commits ++ ys := by
    rw [e2]; split
    · rename_i e; rw [← e, e1]; exact ⟨_, rfl⟩
    · rw [e1]; exact ⟨[], by simp⟩
  obtain ⟨ys, e3⟩ := e3
  have hn2 : n < (xs[i].commits ++ ys).length := by rw [List.length_append]; omega
  refine ⟨decide_eq_true ⟨by omega, by rw [e3]; omega⟩, ?_⟩
  rw [getC, if_pos (by omega), e3, Int.toNat_natCast, List.getD_eq_getElem?_getD, List.getElem?_eq_getElem hn2, List.getElem_append_left hn]
  rfl
theorem first_second {xs : List Log} {c d : Commit} (h : appErr xs c = 0) (hg : d.group = c.group) (he : d.epoch = c.epoch) : appErr (appLogs xs c) d = 10 ∨ appErr (appLogs xs c) d = 1 := by
  unfold appErr
  split
  · rw [if_neg]
    · exact .inl rfl
    · have := (first_last h).2.2
      have e := (app_parts h).2.2.1
      rw [hg, he]; omega
  · exact .inr rfl
theorem app_nil {xs : List Log} {c : Commit} (h : appErr xs c ≠ 0) : appLogs xs c = [] := by rw [appLogs, if_neg h]
theorem app_small {xs : List Log} {c : Commit} {m : Nat} (hx : ∀ x ∈ xs, x.commits.length ≤ m) : ∀ x ∈ appLogs xs c, x.commits.length ≤ m + 1 := by
  by_cases h : appErr xs c = 0
  · obtain ⟨hv, ht, he, A, D, hA, hD, hl, hh⟩ := app_parts h
    intro x hm
    have hsub : ∀ x, x ∈ A ∨ x ∈ D → x ∈ xs := by
      rintro x hx
      rcases hh with ⟨_, y, _, _, hxs⟩ | ⟨_, _, hxs, _⟩ <;> rw [hxs] <;> rcases hx with hx | hx <;> simp [hx]
    rw [hl] at hm
    rcases List.mem_append.1 hm with hm | hm
    · have := hx x (hsub x (.inl hm)); omega
    · rcases List.mem_cons.1 hm with rfl | hm
      · rcases hh with ⟨_, y, _, hy, hxs⟩ | ⟨_, hy, _, _⟩
        · have := hx y (by rw [hxs]; simp)
          simp only [List.length_append, List.length_cons, List.length_nil, ← hy]; omega
        · simp [hy]
      · have := hx x (hsub x (.inr hm)); omega
  · rw [app_nil h]; simp
theorem sum_mem : ∀ {l : List Nat} {x : Nat}, x ∈ l → x ≤ l.sum
  | y :: l, x, h => by
    rw [List.sum_cons]
    rcases List.mem_cons.1 h with rfl | h
    · omega
    · have := sum_mem h; omega
theorem logs_small {xs : List Log} (h : logsSize xs ≤ 262144) : ∀ x ∈ xs, x.commits.length ≤ 262144 := by
  intro x hx
  have e := capSum_eq (lim := 1048575) (xs.map logSize) xs.length (by unfold logsSize at h; omega)
  have h1 : logSize x ≤ (xs.map logSize).sum := sum_mem (List.mem_map.2 ⟨x, hx, rfl⟩)
  have h2 : 1 + x.commits.length ≤ logSize x := capSum_ge _ _
  unfold logsSize at h
  omega
end Go.Ph
