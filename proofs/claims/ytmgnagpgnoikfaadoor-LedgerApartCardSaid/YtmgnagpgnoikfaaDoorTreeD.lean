/- Which trees may be. -/
import Derived.Test.YtmgnagpgnoikfaaDoorTreeC
set_option linter.unusedVariables false
set_option linter.unusedSimpArgs false
set_option maxRecDepth 100000
namespace Go.Ph
open Go Go.RowKit Go.Proofs.YtmgnagpgnoikfaaDoor

def isLeaf (xs : List Node) (j : Nat) : Bool := Nat.beq (j % 2) 0 && !(nodeAt xs j).blankB
/-- The members among the first nodes, from the left. -/
def memsTo (xs : List Node) : Nat → List Int
  | 0 => []
  | k + 1 => memsTo xs k ++ (if isLeaf xs k then [(nodeAt xs k).member] else [])
def lastTo (xs : List Node) : Nat → Int
  | 0 => -1
  | k + 1 => if isLeaf xs k then ((k / 2 : Nat) : Int) else lastTo xs k
def goodAt (xs : List Node) (j : Nat) : Bool :=
  if j % 2 = 1 then parentB xs j else (nodeAt xs j).blankB || (decide (1 ≤ (nodeAt xs j).pub) && decide (0 ≤ (nodeAt xs j).member) && decide (0 ≤ (nodeAt xs j).epoch) && decide ((nodeAt xs j).unmerged.length = 0) && !(memsTo xs j).contains (nodeAt xs j).member)
def checkB (xs : List Node) : Bool :=
  decide (xs.length = 0) || (decide (leavesN xs.length ≠ 0) && (List.range xs.length).all (goodAt xs) && decide (((leavesN xs.length : Nat) : Int) / 2 ≤ lastTo xs xs.length))
def errI (b : Bool) : Int := if b then 0 else 1
theorem leavesN_len {m : Nat} (h : leavesN m ≠ 0) : TreeLen m := by unfold leavesN at h; unfold TreeLen; (repeat' split at h) <;> omega
theorem memsTo_len (xs : List Node) : ∀ k, (memsTo xs k).length ≤ k
  | 0 => by simp [memsTo]
  | k + 1 => by
    have := memsTo_len xs k
    simp only [memsTo, List.length_append]
    split <;> simp <;> omega
theorem isLeaf_odd {xs : List Node} {k : Nat} (h : k % 2 = 1) : isLeaf xs k = false := by simp [isLeaf, h]
theorem isLeaf_blank {xs : List Node} {k : Nat} (h : (nodeAt xs k).blankB = true) : isLeaf xs k = false := by simp [isLeaf, h]
theorem isLeaf_yes {xs : List Node} {k : Nat} (h : k % 2 ≠ 1) (h2 : (nodeAt xs k).blankB = false) : isLeaf xs k = true := by
  have : k % 2 = 0 := by omega
  simp [isLeaf, this, h2]
theorem memsTo_no {xs : List Node} {k : Nat} (h : isLeaf xs k = false) : memsTo xs (k + 1) = memsTo xs k := by simp [memsTo, h]
theorem memsTo_yes {xs : List Node} {k : Nat} (h : isLeaf xs k = true) : memsTo xs (k + 1) = memsTo xs k ++ [(nodeAt xs k).member] := by simp [memsTo, h]
theorem lastTo_no {xs : List Node} {k : Nat} (h : isLeaf xs k = false) : lastTo xs (k + 1) = lastTo xs k := by simp [lastTo, h]
theorem lastTo_yes {xs : List Node} {k : Nat} (h : isLeaf xs k = true) : lastTo xs (k + 1) = ((k / 2 : Nat) : Int) := by simp [lastTo, h]
theorem checkB_bad {xs : List Node} {j : Nat} (hj : j < xs.length) (h : goodAt xs j = false) : errI (checkB xs) = 1 := by
  have h1 : (List.range xs.length).all (goodAt xs) = false := by
    rw [List.all_eq_false]; exact ⟨j, by simpa using hj, by simp [h]⟩
  have h2 : xs.length ≠ 0 := by omega
  simp [checkB, h1, h2, errI]
theorem checkB_ok {xs : List Node} (h0 : xs.length ≠ 0) (h1 : leavesN xs.length ≠ 0) (h : ∀ j, j < xs.length → goodAt xs j = true) : errI (checkB xs) = if ((leavesN xs.length : Nat) : Int) / 2 ≤ lastTo xs xs.length then 0 else 1 := by
  have h2 : (List.range xs.length).all (goodAt xs) = true := by
    rw [List.all_eq_true]; intro j hj; exact h j (by simpa using hj)
  simp [checkB, h0, h1, h2, errI]
theorem checkB_nil {xs : List Node} (h : xs.length = 0) : errI (checkB xs) = 0 := by simp [checkB, h, errI]
theorem checkB_len {xs : List Node} (h : xs.length ≠ 0) (h1 : leavesN xs.length = 0) : errI (checkB xs) = 1 := by simp [checkB, h, h1, errI]
theorem goodAt_odd {xs : List Node} {k : Nat} (h : k % 2 = 1) : goodAt xs k = parentB xs k := by simp [goodAt, h]
theorem goodAt_blank {xs : List Node} {k : Nat} (h : ¬ k % 2 = 1) (h2 : (nodeAt xs k).blankB = true) : goodAt xs k = true := by simp [goodAt, h, h2]
theorem goodAt_leaf {xs : List Node} {k : Nat} (h : ¬ k % 2 = 1) (h2 : (nodeAt xs k).blankB = false) : goodAt xs k = (decide (1 ≤ (nodeAt xs k).pub) && decide (0 ≤ (nodeAt xs k).member) && decide (0 ≤ (nodeAt xs k).epoch) && decide ((nodeAt xs k).unmerged.length = 0) && !(memsTo xs k).contains (nodeAt xs k).member) := by
  simp [goodAt, h, h2]
theorem goodAt_bad {xs : List Node} {k : Nat} (h : ¬ k % 2 = 1) (h2 : (nodeAt xs k).blankB = false) (h3 : (nodeAt xs k).pub < 1 ∨ (nodeAt xs k).member < 0 ∨ (nodeAt xs k).epoch < 0 ∨ 0 < (nodeAt xs k).unmerged.length ∨ 0 < (memsTo xs k).count (nodeAt xs k).member) : goodAt xs k = false := by
  rw [goodAt_leaf h h2]
  rcases h3 with h3 | h3 | h3 | h3 | h3
  · simp [show ¬ 1 ≤ (nodeAt xs k).pub by omega]
  · simp [show ¬ 0 ≤ (nodeAt xs k).member by omega]
  · simp [show ¬ 0 ≤ (nodeAt xs k).epoch by omega]
  · have : (nodeAt xs k).unmerged ≠ [] := by intro e; rw [e] at h3; simp at h3
    simp [this]
  · rw [List.count_pos_iff] at h3
    simp [h3]
theorem goodAt_fine {xs : List Node} {k : Nat} (h : ¬ k % 2 = 1) (h2 : (nodeAt xs k).blankB = false) (h3 : ¬ ((nodeAt xs k).pub < 1 ∨ (nodeAt xs k).member < 0 ∨ (nodeAt xs k).epoch < 0 ∨ 0 < (nodeAt xs k).unmerged.length ∨ 0 < (memsTo xs k).count (nodeAt xs k).member)) : goodAt xs k = true := by
  rw [goodAt_leaf h h2]
  have h4 : ¬ (nodeAt xs k).member ∈ memsTo xs k := fun hm => h3 (.inr (.inr (.inr (.inr (List.count_pos_iff.2 hm)))))
  have h5 : (nodeAt xs k).unmerged = [] := List.eq_nil_of_length_eq_zero (by omega)
  simp [h4, h5, show 1 ≤ (nodeAt xs k).pub by omega, show 0 ≤ (nodeAt xs k).member by omega, show 0 ≤ (nodeAt xs k).epoch by omega]
theorem upto_succ {p : Nat → Bool} {k : Nat} (h : ∀ j, j < k → p j = true) (h2 : p k = true) : ∀ j, j < k + 1 → p j = true := fun j hj => by
  rcases Nat.lt_or_ge j k with h3 | h3
  · exact h j h3
  · have : j = k := by omega
    subst this; exact h2
theorem MapF.congr {o : Obj} {f g : Int → Int} (h : MapF o f) (e : ∀ k, f k = g k) : MapF o g := (funext e : f = g) ▸ h
theorem leavesN_le (m : Nat) : leavesN m ≤ 8 := by unfold leavesN; (repeat' split) <;> omega
theorem lastTo_rng (xs : List Node) : ∀ k, -1 ≤ lastTo xs k ∧ lastTo xs k ≤ k
  | 0 => by simp [lastTo]
  | k + 1 => by
    have := lastTo_rng xs k
    simp only [lastTo]
    split <;> omega
theorem check_ok {B : World} {H : HM} {O : OL} {v : Value} {xs : List Node} (hT : TabAt H) (h : RdL H v xs) :
    CallsM Go.Proofs.Tryd.prog 35 [.agg #[v]].toArray B H O (Same (.int .i64 (errI (checkB xs))) H O) := by
  have hs := h.lenle
  have h8 := leavesN_le xs.length
  refine enter Go.Proofs.Tryd.func35 rfl Go.Proofs.Tryd.ntmps35 (l := [(0, _)]) rfl rfl ?_
  refine x_seq ?_
  refine x_region rfl ?_
  refine o_box rfl (cs := [_]) rfl (fun b1 => ?_)
  refine o_y (y_assign rfl) ?_
  refine o_nil ?_
  refine x_seq ?_
  refine x_seq ?_
  refine x_region rfl ?_
  refine o_y (y_fieldAddr fd29_0 ti27 (by decide) rfl) ?_
  refine o_y (y_loadO ti27 rfl (by repeat (first | assumption | exact .z | apply In.s | apply In.a)) rfl) ?_
  first | refine o_y (y_lenL (by assumption) Go.Proofs.Tryd.underlying27 rfl) ?_ | refine o_y (y_lenR (by assumption) Go.Proofs.Tryd.underlying27 rfl) ?_ | refine o_y (y_len Go.Proofs.Tryd.underlying27 rfl) ?_
  refine o_y (y_eql rfl rfl) ?_
  refine o_nil ?_
  refine x_cond rfl (fun hc0 => ?_) (fun hc0 => ?_)
  · try simp only [k1, k2, k3, k4, k5, k6, k7, k8, k9] at hc0
    refine x_seq ?_
    refine x_region rfl ?_
    refine o_y (y_assign rfl) ?_
    refine o_nil ?_
    refine x_ret ?_
    refine x_fin 1 (ret1 rfl rfl) ?_
    rw [checkB_nil (by omega)]; exact ⟨rfl, rfl, rfl⟩
  · try simp only [k1, k2, k3, k4, k5, k6, k7, k8, k9] at hc0
    refine x_skip ?_
    refine x_seq ?_
    refine x_region rfl ?_
    refine o_y (y_loadA ti29 rfl (by repeat (first | assumption | exact .z | apply In.s | apply In.a)) rfl) ?_
    refine o_call fn50 rfl (leaves_ok h) ?_
    rintro _ _ _ ⟨rfl, rfl, rfl⟩
    refine o_y (y_assign rfl) ?_
    refine o_nil ?_
    refine x_seq ?_
    refine x_seq ?_
    refine x_region rfl ?_
    refine o_y (y_move rfl) ?_
    refine o_y (y_eql rfl rfl) ?_
    refine o_nil ?_
    refine x_cond rfl (fun hc1 => ?_) (fun hc1 => ?_)
    · try simp only [k1, k2, k3, k4, k5, k6, k7, k8, k9] at hc1
      refine x_seq ?_
      refine x_region rfl ?_
      refine o_y (y_assign rfl) ?_
      refine o_nil ?_
      refine x_ret ?_
      refine x_fin 1 (ret1 rfl rfl) ?_
      rw [checkB_len (by omega) (by omega)]; exact ⟨rfl, rfl, rfl⟩
    · try simp only [k1, k2, k3, k4, k5, k6, k7, k8, k9] at hc1
      have hl := leavesN_len (m := xs.length) (by omega)
      have h15 := hl.le
      refine x_skip ?_
      refine x_seq ?_
      refine x_region rfl ?_
      refine o_makeMap (fun r16 => ?_)
      refine o_y (y_assign rfl) ?_
      refine o_nil ?_
      refine x_seq ?_
      refine x_region rfl ?_
      refine o_y (y_assign rfl) ?_
      refine o_nil ?_
      refine x_seq ?_
      refine x_seq ?_
      refine x_region rfl ?_
      refine o_y (y_fieldAddr fd29_0 ti27 (by decide) rfl) ?_
      refine o_y (y_loadO ti27 rfl (by repeat (first | assumption | exact .z | apply In.s | apply In.a)) rfl) ?_
      first | refine o_y (y_lenL (by assumption) Go.Proofs.Tryd.underlying27 rfl) ?_ | refine o_y (y_lenR (by assumption) Go.Proofs.Tryd.underlying27 rfl) ?_ | refine o_y (y_len Go.Proofs.Tryd.underlying27 rfl) ?_
      refine o_y (y_move rfl) ?_
      refine o_nil ?_
      refine x_block ?_
      refine x_loopf (σ := Nat × Obj) (fun s => [(20, .int .i64 (s.1 : Int)), (19, .int .i64 (xs.length : Int)), (18, v), (4, .map (some r16)), (5, .int .i64 (lastTo xs s.1)), (3, .int .i64 (leavesN xs.length : Int)), (1, .pointer (some ⟨b1, 0, none⟩))]) (fun s => (r16, s.2) :: (b1, cl [v] 29) :: O) (fun s => s.1 ≤ xs.length ∧ (∀ j, j < s.1 → goodAt xs j = true) ∧ MapF s.2 (fun m => ((memsTo xs s.1).count m : Int))) (fun s => xs.length - s.1) (0, .map #[] 0) ⟨by simp, fun j hj => by omega, MapF.empty⟩ (.c rfl (.c rfl (.c rfl (.c rfl (.c rfl (.c rfl (.c rfl .n))))))) rfl ?_
      rintro ⟨k, om⟩ ⟨i1, i2, i3⟩
      simp only at i1 i2 i3
      refine x_seq ?_
      refine x_region rfl ?_
      refine o_y (y_lss rfl rfl) ?_
      refine o_nil ?_
      refine x_seq ?_
      refine x_cond rfl (fun hc2 => ?_) (fun hc2 => ?_)
      · try simp only [k1, k2, k3, k4, k5, k6, k7, k8, k9] at hc2
        have hk : k < xs.length := by omega
        have en := nodeAt_eq hk
        have hml := memsTo_len xs k
        refine x_skip ?_
        refine x_seq ?_
        refine x_block ?_
        refine x_seq ?_
        refine x_region rfl ?_
        refine o_y (y_move rfl) ?_
        obtain ⟨ce23, ae23, re23⟩ := RdL.at h _ k hk
        have se23 := AtS.isSl ae23
        have te23 := re23
        obtain ⟨u23_3, z23, q23_0, q23_1, q23_2, q23_3⟩ := re23
        subst z23
        have w23 := Rep.one te23
        refine o_y (y_idxL h k hk Go.Proofs.Tryd.underlying27 ti72 rfl rfl (by omega)) ?_
        refine o_y (y_loadS ti72 rfl (by assumption) rfl (fun e => by cases e)) ?_
        refine o_alloc ti72 rfl (fun b7 => ?_)
        refine o_y (y_assign rfl) ?_
        refine o_store (u := [_, _, _, _]) (C' := [_, _, _, _]) ti72 rfl rfl rfl rfl (by first | rfl | assumption | (simp only [ones, List.all_cons, List.all_nil, Bool.and_true, one_of (by assumption)]; done)) (by repeat (first | exact .z | apply Upd.s | apply Upd.a)) (by exact Nat.le_of_ble_eq_true rfl) (by rfl) ?_
        refine o_nil ?_
        refine x_seq ?_
        refine x_seq ?_
        refine x_region rfl ?_
        refine o_y (y_move rfl) ?_
        refine o_y (y_remN rfl rfl (by omega) (by omega)) ?_
        refine o_y (y_eql rfl rfl) ?_
        refine o_nil ?_
        refine x_cond rfl (fun hc3 => ?_) (fun hc3 => ?_)
        · try simp only [k1, k2, k3, k4, k5, k6, k7, k8, k9] at hc3
          refine x_seq ?_
          refine x_seq ?_
          refine x_region rfl ?_
          refine o_y (y_loadA ti29 rfl (by repeat (first | assumption | exact .z | apply In.s | apply In.a)) rfl) ?_
          refine o_y (y_move rfl) ?_
          refine o_call fn51 rfl (parent_ok hT h hl k hk) ?_
          rintro _ _ _ ⟨rfl, rfl, rfl⟩
          refine o_y (y_not rfl) ?_
          refine o_nil ?_
          refine x_cond rfl (fun hc4 => ?_) (fun hc4 => ?_)
          · try simp only [k1, k2, k3, k4, k5, k6, k7, k8, k9] at hc4
            refine x_seq ?_
            refine x_region rfl ?_
            refine o_y (y_assign rfl) ?_
            refine o_nil ?_
            refine x_ret ?_
            refine x_fin 3 (ret1 rfl rfl) ?_
            rw [checkB_bad hk (by rw [goodAt_odd (by omega)]; assumption)]; exact ⟨rfl, rfl, rfl⟩
          · try simp only [k1, k2, k3, k4, k5, k6, k7, k8, k9] at hc4
            refine x_skip ?_
            refine x_exit ?_
            refine x_region rfl ?_
            refine o_y (y_addN rfl rfl (by omega) (by omega)) ?_
            refine o_y (y_move rfl) ?_
            refine o_nil ?_
            first
              | (have e6 : isLeaf xs k = false := isLeaf_odd (by omega)
                 exact ⟨(k + 1, om), 1, rfl, (.c rfl (.c rfl (.c rfl (.c rfl (.c (by rw [lastTo_no e6]; rfl) (.c rfl (.c rfl .n))))))), rfl, ⟨by omega, upto_succ i2 (by rw [goodAt_odd (by omega)]; assumption), by simp only [memsTo_no e6]; exact i3⟩, by omega⟩)
              | (have e6 : isLeaf xs k = false := isLeaf_blank (by rw [en]; assumption)
                 exact ⟨(k + 1, om), 1, rfl, (.c rfl (.c rfl (.c rfl (.c rfl (.c (by rw [lastTo_no e6]; rfl) (.c rfl (.c rfl .n))))))), rfl, ⟨by omega, upto_succ i2 (goodAt_blank (by omega) (by rw [en]; assumption)), by simp only [memsTo_no e6]; exact i3⟩, by omega⟩)
              | (have e6 : isLeaf xs k = true := isLeaf_yes (by omega) (by rw [en]; assumption)
                 exact ⟨(k + 1, om15_5), 1, rfl, (.c rfl (.c rfl (.c rfl (.c rfl (.c (by rw [lastTo_yes e6]; rfl) (.c rfl (.c rfl .n))))))), rfl, ⟨by omega, upto_succ i2 (goodAt_fine (by omega) (by rw [en]; assumption) (by rw [en]; omega)), hm15_5.congr (fun m => by
                   rw [memsTo_yes e6, en, List.count_append, List.count_singleton]
                   by_cases hm : m = xs[k].member
                   · subst hm; simp
                   · have hm' : ¬ xs[k].member = m := fun e => hm e.symm
                     simp [hm, hm'])⟩, by omega⟩)
        · try simp only [k1, k2, k3, k4, k5, k6, k7, k8, k9] at hc3
          refine x_skip ?_
          refine x_seq ?_
          refine x_seq ?_
          refine x_region rfl ?_
          refine o_y (y_loadA ti72 rfl (by repeat (first | assumption | exact .z | apply In.s | apply In.a)) rfl) ?_
          refine o_call fn52 rfl (blank_ok te23) ?_
          rintro _ _ _ ⟨rfl, rfl, rfl⟩
          refine o_nil ?_
          refine x_cond rfl (fun hc5 => ?_) (fun hc5 => ?_)
          · try simp only [k1, k2, k3, k4, k5, k6, k7, k8, k9] at hc5
            refine x_exit ?_
            refine x_region rfl ?_
            refine o_y (y_addN rfl rfl (by omega) (by omega)) ?_
            refine o_y (y_move rfl) ?_
            refine o_nil ?_
            first
              | (have e6 : isLeaf xs k = false := isLeaf_odd (by omega)
                 exact ⟨(k + 1, om), 1, rfl, (.c rfl (.c rfl (.c rfl (.c rfl (.c (by rw [lastTo_no e6]; rfl) (.c rfl (.c rfl .n))))))), rfl, ⟨by omega, upto_succ i2 (by rw [goodAt_odd (by omega)]; assumption), by simp only [memsTo_no e6]; exact i3⟩, by omega⟩)
              | (have e6 : isLeaf xs k = false := isLeaf_blank (by rw [en]; assumption)
                 exact ⟨(k + 1, om), 1, rfl, (.c rfl (.c rfl (.c rfl (.c rfl (.c (by rw [lastTo_no e6]; rfl) (.c rfl (.c rfl .n))))))), rfl, ⟨by omega, upto_succ i2 (goodAt_blank (by omega) (by rw [en]; assumption)), by simp only [memsTo_no e6]; exact i3⟩, by omega⟩)
              | (have e6 : isLeaf xs k = true := isLeaf_yes (by omega) (by rw [en]; assumption)
                 exact ⟨(k + 1, om15_5), 1, rfl, (.c rfl (.c rfl (.c rfl (.c rfl (.c (by rw [lastTo_yes e6]; rfl) (.c rfl (.c rfl .n))))))), rfl, ⟨by omega, upto_succ i2 (goodAt_fine (by omega) (by rw [en]; assumption) (by rw [en]; omega)), hm15_5.congr (fun m => by
                   rw [memsTo_yes e6, en, List.count_append, List.count_singleton]
                   by_cases hm : m = xs[k].member
                   · subst hm; simp
                   · have hm' : ¬ xs[k].member = m := fun e => hm e.symm
                     simp [hm, hm'])⟩, by omega⟩)
          · try simp only [k1, k2, k3, k4, k5, k6, k7, k8, k9] at hc5
            refine x_skip ?_
            refine x_seq ?_
            refine x_region rfl ?_
            refine o_y (y_move rfl) ?_
            refine o_y (y_fieldAddr fd72_1 ti3 (by decide) rfl) ?_
            refine o_y (y_loadO ti3 rfl (by repeat (first | assumption | exact .z | apply In.s | apply In.a)) rfl) ?_
            refine o_y (y_lookup Go.Proofs.Tryd.underlying93 Go.Proofs.Tryd.underlying3 ti3 (by assumption) rfl rfl (by repeat (first | assumption | exact .z | apply In.s | apply In.a))) ?_
            have hcn := List.count_le_length (a := xs[k].member) (l := memsTo xs k)
            refine o_y (y_addN rfl rfl (by omega) (by omega)) ?_
            refine o_mapUpdate Go.Proofs.Tryd.underlying93 Go.Proofs.Tryd.underlying3 (by assumption) rfl rfl rfl (by repeat (first | exact .o | exact .z | exact .e | apply Hole.s | apply Hole.g)) (fun om15_5 hm15_5 => ?_)
            refine o_nil ?_
            refine x_seq ?_
            refine x_seq ?_
            refine x_region rfl ?_
            refine o_y (y_fieldAddr fd72_0 ti3 (by decide) rfl) ?_
            refine o_y (y_loadO ti3 rfl (by repeat (first | assumption | exact .z | apply In.s | apply In.a)) rfl) ?_
            refine o_y (y_lss rfl rfl) ?_
            refine o_y (y_move rfl) ?_
            refine o_split 42 rfl (fun hg16_42 => ?_) (fun hg16_42 => ?_)
            · try simp only [k1, k2, k3, k4, k5, k6, k7, k8, k9] at hg16_42
              refine o_gn 42 rfl rfl rfl ?_
              refine o_gn 42 rfl rfl rfl ?_
              refine o_gn 42 rfl rfl rfl ?_
              refine o_y (y_pick rfl rfl) ?_
              refine o_y (y_move rfl) ?_
              refine o_gn 47 rfl rfl rfl ?_
              refine o_gn 47 rfl rfl rfl ?_
              refine o_gn 47 rfl rfl rfl ?_
              refine o_y (y_pick rfl rfl) ?_
              refine o_y (y_move rfl) ?_
              refine o_gn 52 rfl rfl rfl ?_
              refine o_gn 52 rfl rfl rfl ?_
              refine o_gn 52 rfl rfl rfl ?_
              refine o_gn 52 rfl rfl rfl ?_
              refine o_y (y_pick rfl rfl) ?_
              refine o_y (y_move rfl) ?_
              refine o_gn 58 rfl rfl rfl ?_
              refine o_gn 58 rfl rfl rfl ?_
              refine o_gn 58 rfl rfl rfl ?_
              refine o_gn 58 rfl rfl rfl ?_
              refine o_gn 58 rfl rfl rfl ?_
              refine o_y (y_pick rfl rfl) ?_
              refine o_nil ?_
              refine x_condT rfl ?_
              refine x_seq ?_
              refine x_region rfl ?_
              refine o_y (y_assign rfl) ?_
              refine o_nil ?_
              refine x_ret ?_
              refine x_fin 3 (ret1 rfl rfl) ?_
              rw [checkB_bad hk (goodAt_bad (by omega) (by rw [en]; assumption) (by rw [en]; omega))]; exact ⟨rfl, rfl, rfl⟩
            · try simp only [k1, k2, k3, k4, k5, k6, k7, k8, k9] at hg16_42
              refine o_gy 42 rfl rfl (y_fieldAddr fd72_1 ti3 (by decide) rfl) ?_
              refine o_gy 42 rfl rfl (y_loadO ti3 rfl (by repeat (first | assumption | exact .z | apply In.s | apply In.a)) rfl) ?_
              refine o_gy 42 rfl rfl (y_lss rfl rfl) ?_
              refine o_y (y_pick rfl rfl) ?_
              refine o_y (y_move rfl) ?_
              refine o_split 47 rfl (fun hg16_47 => ?_) (fun hg16_47 => ?_)
              · try simp only [k1, k2, k3, k4, k5, k6, k7, k8, k9] at hg16_47
                refine o_gn 47 rfl rfl rfl ?_
                refine o_gn 47 rfl rfl rfl ?_
                refine o_gn 47 rfl rfl rfl ?_
                refine o_y (y_pick rfl rfl) ?_
                refine o_y (y_move rfl) ?_
                refine o_gn 52 rfl rfl rfl ?_
                refine o_gn 52 rfl rfl rfl ?_
                refine o_gn 52 rfl rfl rfl ?_
                refine o_gn 52 rfl rfl rfl ?_
                refine o_y (y_pick rfl rfl) ?_
                refine o_y (y_move rfl) ?_
                refine o_gn 58 rfl rfl rfl ?_
                refine o_gn 58 rfl rfl rfl ?_
                refine o_gn 58 rfl rfl rfl ?_
                refine o_gn 58 rfl rfl rfl ?_
                refine o_gn 58 rfl rfl rfl ?_
                refine o_y (y_pick rfl rfl) ?_
                refine o_nil ?_
                refine x_condT rfl ?_
                refine x_seq ?_
                refine x_region rfl ?_
                refine o_y (y_assign rfl) ?_
                refine o_nil ?_
                refine x_ret ?_
                refine x_fin 3 (ret1 rfl rfl) ?_
                rw [checkB_bad hk (goodAt_bad (by omega) (by rw [en]; assumption) (by rw [en]; omega))]; exact ⟨rfl, rfl, rfl⟩
              · try simp only [k1, k2, k3, k4, k5, k6, k7, k8, k9] at hg16_47
                refine o_gy 47 rfl rfl (y_fieldAddr fd72_2 ti3 (by decide) rfl) ?_
                refine o_gy 47 rfl rfl (y_loadO ti3 rfl (by repeat (first | assumption | exact .z | apply In.s | apply In.a)) rfl) ?_
                refine o_gy 47 rfl rfl (y_lss rfl rfl) ?_
                refine o_y (y_pick rfl rfl) ?_
                refine o_y (y_move rfl) ?_
                refine o_split 52 rfl (fun hg16_52 => ?_) (fun hg16_52 => ?_)
                · try simp only [k1, k2, k3, k4, k5, k6, k7, k8, k9] at hg16_52
                  refine o_gn 52 rfl rfl rfl ?_
                  refine o_gn 52 rfl rfl rfl ?_
                  refine o_gn 52 rfl rfl rfl ?_
                  refine o_gn 52 rfl rfl rfl ?_
                  refine o_y (y_pick rfl rfl) ?_
                  refine o_y (y_move rfl) ?_
                  refine o_gn 58 rfl rfl rfl ?_
                  refine o_gn 58 rfl rfl rfl ?_
                  refine o_gn 58 rfl rfl rfl ?_
                  refine o_gn 58 rfl rfl rfl ?_
                  refine o_gn 58 rfl rfl rfl ?_
                  refine o_y (y_pick rfl rfl) ?_
                  refine o_nil ?_
                  refine x_condT rfl ?_
                  refine x_seq ?_
                  refine x_region rfl ?_
                  refine o_y (y_assign rfl) ?_
                  refine o_nil ?_
                  refine x_ret ?_
                  refine x_fin 3 (ret1 rfl rfl) ?_
                  rw [checkB_bad hk (goodAt_bad (by omega) (by rw [en]; assumption) (by rw [en]; omega))]; exact ⟨rfl, rfl, rfl⟩
                · try simp only [k1, k2, k3, k4, k5, k6, k7, k8, k9] at hg16_52
                  refine o_gy 52 rfl rfl (y_fieldAddr fd72_3 ti24 (by decide) rfl) ?_
                  refine o_gy 52 rfl rfl (y_loadO ti24 rfl (by repeat (first | assumption | exact .z | apply In.s | apply In.a)) rfl) ?_
                  first | refine o_gy 52 rfl rfl (y_lenL (by assumption) Go.Proofs.Tryd.underlying24 rfl) ?_ | refine o_gy 52 rfl rfl (y_lenR (by assumption) Go.Proofs.Tryd.underlying24 rfl) ?_ | refine o_gy 52 rfl rfl (y_len Go.Proofs.Tryd.underlying24 rfl) ?_
                  refine o_gy 52 rfl rfl (y_gtr rfl rfl) ?_
                  refine o_y (y_pick rfl rfl) ?_
                  refine o_y (y_move rfl) ?_
                  refine o_split 58 rfl (fun hg16_58 => ?_) (fun hg16_58 => ?_)
                  · try simp only [k1, k2, k3, k4, k5, k6, k7, k8, k9] at hg16_58
                    refine o_gn 58 rfl rfl rfl ?_
                    refine o_gn 58 rfl rfl rfl ?_
                    refine o_gn 58 rfl rfl rfl ?_
                    refine o_gn 58 rfl rfl rfl ?_
                    refine o_gn 58 rfl rfl rfl ?_
                    refine o_y (y_pick rfl rfl) ?_
                    refine o_nil ?_
                    refine x_condT rfl ?_
                    refine x_seq ?_
                    refine x_region rfl ?_
                    refine o_y (y_assign rfl) ?_
                    refine o_nil ?_
                    refine x_ret ?_
                    refine x_fin 3 (ret1 rfl rfl) ?_
                    rw [checkB_bad hk (goodAt_bad (by omega) (by rw [en]; assumption) (by rw [en]; omega))]; exact ⟨rfl, rfl, rfl⟩
                  · try simp only [k1, k2, k3, k4, k5, k6, k7, k8, k9] at hg16_58
                    refine o_gy 58 rfl rfl (y_move rfl) ?_
                    refine o_gy 58 rfl rfl (y_fieldAddr fd72_1 ti3 (by decide) rfl) ?_
                    refine o_gy 58 rfl rfl (y_loadO ti3 rfl (by repeat (first | assumption | exact .z | apply In.s | apply In.a)) rfl) ?_
                    refine o_gy 58 rfl rfl (y_lookup Go.Proofs.Tryd.underlying93 Go.Proofs.Tryd.underlying3 ti3 (by assumption) rfl rfl (by repeat (first | assumption | exact .z | apply In.s | apply In.a))) ?_
                    refine o_gy 58 rfl rfl (y_gtr rfl rfl) ?_
                    refine o_y (y_pick rfl rfl) ?_
                    refine o_nil ?_
                    refine x_cond rfl (fun hc6 => ?_) (fun hc6 => ?_)
                    · try simp only [k1, k2, k3, k4, k5, k6, k7, k8, k9] at hc6
                      try simp only [if_true] at hc6
                      refine x_seq ?_
                      refine x_region rfl ?_
                      refine o_y (y_assign rfl) ?_
                      refine o_nil ?_
                      refine x_ret ?_
                      refine x_fin 3 (ret1 rfl rfl) ?_
                      rw [checkB_bad hk (goodAt_bad (by omega) (by rw [en]; assumption) (by rw [en]; omega))]; exact ⟨rfl, rfl, rfl⟩
                    · try simp only [k1, k2, k3, k4, k5, k6, k7, k8, k9] at hc6
                      try simp only [if_true] at hc6
                      refine x_skip ?_
                      refine x_region rfl ?_
                      refine o_y (y_move rfl) ?_
                      refine o_y (y_quoN rfl rfl (by omega) (by omega) (by omega)) ?_
                      refine o_y (y_assign rfl) ?_
                      refine o_nil ?_
                      refine x_region rfl ?_
                      refine o_y (y_addN rfl rfl (by omega) (by omega)) ?_
                      refine o_y (y_move rfl) ?_
                      refine o_nil ?_
                      first
                        | (have e6 : isLeaf xs k = false := isLeaf_odd (by omega)
                           exact ⟨(k + 1, om), 1, rfl, (.c rfl (.c rfl (.c rfl (.c rfl (.c (by rw [lastTo_no e6]; rfl) (.c rfl (.c rfl .n))))))), rfl, ⟨by omega, upto_succ i2 (by rw [goodAt_odd (by omega)]; assumption), by simp only [memsTo_no e6]; exact i3⟩, by omega⟩)
                        | (have e6 : isLeaf xs k = false := isLeaf_blank (by rw [en]; assumption)
                           exact ⟨(k + 1, om), 1, rfl, (.c rfl (.c rfl (.c rfl (.c rfl (.c (by rw [lastTo_no e6]; rfl) (.c rfl (.c rfl .n))))))), rfl, ⟨by omega, upto_succ i2 (goodAt_blank (by omega) (by rw [en]; assumption)), by simp only [memsTo_no e6]; exact i3⟩, by omega⟩)
                        | (have e6 : isLeaf xs k = true := isLeaf_yes (by omega) (by rw [en]; assumption)
                           exact ⟨(k + 1, om15_5), 1, rfl, (.c rfl (.c rfl (.c rfl (.c rfl (.c (by rw [lastTo_yes e6]; rfl) (.c rfl (.c rfl .n))))))), rfl, ⟨by omega, upto_succ i2 (goodAt_fine (by omega) (by rw [en]; assumption) (by rw [en]; omega)), hm15_5.congr (fun m => by
                             rw [memsTo_yes e6, en, List.count_append, List.count_singleton]
                             by_cases hm : m = xs[k].member
                             · subst hm; simp
                             · have hm' : ¬ xs[k].member = m := fun e => hm e.symm
                               simp [hm, hm'])⟩, by omega⟩)
      · try simp only [k1, k2, k3, k4, k5, k6, k7, k8, k9] at hc2
        refine x_exit ?_
        refine x_seq ?_
        refine x_seq ?_
        refine x_region rfl ?_
        refine o_y (y_move rfl) ?_
        refine o_y (y_move rfl) ?_
        refine o_y (y_quoN rfl rfl (by omega) (by omega) (by omega)) ?_
        refine o_y (y_lss rfl rfl) ?_
        refine o_nil ?_
        refine x_cond rfl (fun hc7 => ?_) (fun hc7 => ?_)
        · try simp only [k1, k2, k3, k4, k5, k6, k7, k8, k9] at hc7
          refine x_seq ?_
          refine x_region rfl ?_
          refine o_y (y_assign rfl) ?_
          refine o_nil ?_
          refine x_ret ?_
          refine x_fin 2 (ret1 rfl rfl) ?_
          obtain rfl : k = xs.length := by omega
          rw [checkB_ok (by omega) (by omega) i2, if_neg (by omega)]; exact ⟨rfl, rfl, rfl⟩
        · try simp only [k1, k2, k3, k4, k5, k6, k7, k8, k9] at hc7
          refine x_skip ?_
          refine x_seq ?_
          refine x_region rfl ?_
          refine o_y (y_assign rfl) ?_
          refine o_nil ?_
          refine x_ret ?_
          refine x_fin 2 (ret1 rfl rfl) ?_
          obtain rfl : k = xs.length := by omega
          rw [checkB_ok (by omega) (by omega) i2, if_pos (by omega)]; exact ⟨rfl, rfl, rfl⟩
end Go.Ph
