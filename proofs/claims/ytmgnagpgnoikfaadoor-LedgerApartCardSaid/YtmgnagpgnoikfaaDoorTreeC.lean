/- Which parents may be. -/
import Derived.Test.YtmgnagpgnoikfaaDoorTreeB
set_option linter.unusedVariables false
set_option linter.unusedSimpArgs false
set_option maxRecDepth 100000
namespace Go.Ph
open Go Go.RowKit Go.Proofs.YtmgnagpgnoikfaaDoor

def nodeAt (xs : List Node) (j : Nat) : Node := xs.getD j default
theorem nodeAt_eq {xs : List Node} {j : Nat} (h : j < xs.length) : nodeAt xs j = xs[j] := by simp [nodeAt, List.getD_eq_getElem?_getD, h]
def TreeLen (m : Nat) : Prop := m = 1 ∨ m = 3 ∨ m = 7 ∨ m = 15
theorem TreeLen.le {m : Nat} (h : TreeLen m) : m ≤ 15 := by unfold TreeLen at h; omega
theorem span_in : ∀ m ∈ [1, 3, 7, 15], ∀ x : Nat, x < m → 2 * spanHi x < (m : Int) ∧ -1 ≤ spanHi x - spanLo x ∧ spanHi x ≤ 8 := by decide +kernel
theorem TreeLen.span {m : Nat} (h : TreeLen m) {x : Nat} (hx : x < m) : 2 * spanHi x < (m : Int) ∧ -1 ≤ spanHi x - spanLo x ∧ spanHi x ≤ 8 :=
  span_in m (by unfold TreeLen at h; simp; omega) x hx
/-- Are these leaves of a tree, rising, from a number on, that are not blank? -/
def umOk (xs : List Node) (hi : Int) : Int → List Int → Bool
  | _, [] => true
  | lo, u :: us => if u < lo ∨ hi < u ∨ (nodeAt xs (2 * u.toNat)).pub = 0 then false else umOk xs hi (u + 1) us
def parentB (xs : List Node) (x : Nat) : Bool :=
  if (nodeAt xs x).pub < 1 ∨ (nodeAt xs x).member ≠ 0 ∨ (nodeAt xs x).epoch ≠ 0 then (nodeAt xs x).blankB else umOk xs (spanHi x) (spanLo x) (nodeAt xs x).unmerged
theorem parentB_1 {xs : List Node} {x : Nat} {n : Node} (e : nodeAt xs x = n) (h : n.pub < 1 ∨ n.member ≠ 0 ∨ n.epoch ≠ 0) : parentB xs x = n.blankB := by subst e; unfold parentB; rw [if_pos h]
theorem parentB_2 {xs : List Node} {x : Nat} {n : Node} (e : nodeAt xs x = n) (h : ¬ (n.pub < 1 ∨ n.member ≠ 0 ∨ n.epoch ≠ 0)) : parentB xs x = umOk xs (spanHi x) (spanLo x) n.unmerged := by subst e; unfold parentB; rw [if_neg h]
theorem umOk_no {xs : List Node} {hi f : Int} {us : List Int} {k : Nat} (hk : k < us.length) (h : us[k] < f ∨ hi < us[k] ∨ (nodeAt xs (2 * us[k].toNat)).pub = 0) : umOk xs hi f (us.drop k) = false := by
  rw [List.drop_eq_getElem_cons hk, umOk, if_pos h]
theorem umOk_yes {xs : List Node} {hi f : Int} {us : List Int} {k : Nat} (hk : k < us.length) (h : ¬ (us[k] < f ∨ hi < us[k] ∨ (nodeAt xs (2 * us[k].toNat)).pub = 0)) : umOk xs hi f (us.drop k) = umOk xs hi (us[k] + 1) (us.drop (k + 1)) := by
  rw [List.drop_eq_getElem_cons hk, umOk, if_neg h]
theorem parent_ok {B : World} {H : HM} {O : OL} {v : Value} {xs : List Node} (hT : TabAt H) (h : RdL H v xs) (hl : TreeLen xs.length) (x : Nat) (hx : x < xs.length) :
    CallsM Go.Proofs.Tryd.prog 51 [.agg #[v], .int .i64 x].toArray B H O (Same (.bool (parentB xs x)) H O) := by
  have hs := h.lenle
  have h15 := hl.le
  obtain ⟨p1, p2, p3⟩ := hl.span hx
  obtain ⟨p4, p5, _, _⟩ := span_ok' x (by omega)
  have en := nodeAt_eq hx
  refine enter Go.Proofs.Tryd.func51 rfl Go.Proofs.Tryd.ntmps51 (l := [(0, _), (1, _)]) rfl rfl ?_
  refine x_seq ?_
  refine x_region rfl ?_
  refine o_box rfl (cs := [_]) rfl (fun b2 => ?_)
  refine o_y (y_assign rfl) ?_
  refine o_nil ?_
  refine x_seq ?_
  refine x_region rfl ?_
  refine o_y (y_fieldAddr fd29_0 ti27 (by decide) rfl) ?_
  refine o_y (y_loadO ti27 rfl (by repeat (first | assumption | exact .z | apply In.s | apply In.a)) rfl) ?_
  refine o_y (y_move rfl) ?_
  obtain ⟨ce13, ae13, re13⟩ := RdL.at h _ x hx
  have se13 := AtS.isSl ae13
  have te13 := re13
  obtain ⟨u13_3, z13, q13_0, q13_1, q13_2, q13_3⟩ := re13
  subst z13
  have w13 := Rep.one te13
  refine o_y (y_idxL h x hx Go.Proofs.Tryd.underlying27 ti72 rfl rfl (by omega)) ?_
  refine o_y (y_loadS ti72 rfl (by assumption) rfl (fun e => by cases e)) ?_
  refine o_alloc ti72 rfl (fun b5 => ?_)
  refine o_store (u := [_, _, _, _]) (C' := [_, _, _, _]) ti72 rfl rfl rfl rfl (by first | rfl | assumption | (simp only [ones, List.all_cons, List.all_nil, Bool.and_true, one_of (by assumption)]; done)) (by repeat (first | exact .z | apply Upd.s | apply Upd.a)) (by exact Nat.le_of_ble_eq_true rfl) (by rfl) ?_
  refine o_nil ?_
  refine x_seq ?_
  refine x_seq ?_
  refine x_region rfl ?_
  refine o_y (y_fieldAddr fd72_0 ti3 (by decide) rfl) ?_
  refine o_y (y_loadO ti3 rfl (by repeat (first | assumption | exact .z | apply In.s | apply In.a)) rfl) ?_
  refine o_y (y_lss rfl rfl) ?_
  refine o_y (y_move rfl) ?_
  refine o_split 18 rfl (fun hg2_18 => ?_) (fun hg2_18 => ?_)
  · try simp only [k1, k2, k3, k4, k5, k6, k7, k8, k9] at hg2_18
    refine o_gn 18 rfl rfl rfl ?_
    refine o_gn 18 rfl rfl rfl ?_
    refine o_gn 18 rfl rfl rfl ?_
    refine o_y (y_pick rfl rfl) ?_
    refine o_y (y_move rfl) ?_
    refine o_gn 23 rfl rfl rfl ?_
    refine o_gn 23 rfl rfl rfl ?_
    refine o_gn 23 rfl rfl rfl ?_
    refine o_y (y_pick rfl rfl) ?_
    refine o_nil ?_
    refine x_condT rfl ?_
    refine x_seq ?_
    refine x_region rfl ?_
    refine o_y (y_loadA ti72 rfl (by repeat (first | assumption | exact .z | apply In.s | apply In.a)) rfl) ?_
    refine o_call fn52 rfl (blank_ok te13) ?_
    rintro _ _ _ ⟨rfl, rfl, rfl⟩
    refine o_y (y_assign rfl) ?_
    refine o_nil ?_
    refine x_ret ?_
    refine x_fin 2 (ret1 rfl rfl) ?_
    rw [parentB_1 en (by omega)]; exact ⟨rfl, rfl, rfl⟩
  · try simp only [k1, k2, k3, k4, k5, k6, k7, k8, k9] at hg2_18
    refine o_gy 18 rfl rfl (y_fieldAddr fd72_1 ti3 (by decide) rfl) ?_
    refine o_gy 18 rfl rfl (y_loadO ti3 rfl (by repeat (first | assumption | exact .z | apply In.s | apply In.a)) rfl) ?_
    refine o_gy 18 rfl rfl (y_neq rfl rfl) ?_
    refine o_y (y_pick rfl rfl) ?_
    refine o_y (y_move rfl) ?_
    refine o_split 23 rfl (fun hg2_23 => ?_) (fun hg2_23 => ?_)
    · try simp only [k1, k2, k3, k4, k5, k6, k7, k8, k9] at hg2_23
      refine o_gn 23 rfl rfl rfl ?_
      refine o_gn 23 rfl rfl rfl ?_
      refine o_gn 23 rfl rfl rfl ?_
      refine o_y (y_pick rfl rfl) ?_
      refine o_nil ?_
      refine x_condT rfl ?_
      refine x_seq ?_
      refine x_region rfl ?_
      refine o_y (y_loadA ti72 rfl (by repeat (first | assumption | exact .z | apply In.s | apply In.a)) rfl) ?_
      refine o_call fn52 rfl (blank_ok te13) ?_
      rintro _ _ _ ⟨rfl, rfl, rfl⟩
      refine o_y (y_assign rfl) ?_
      refine o_nil ?_
      refine x_ret ?_
      refine x_fin 2 (ret1 rfl rfl) ?_
      rw [parentB_1 en (by omega)]; exact ⟨rfl, rfl, rfl⟩
    · try simp only [k1, k2, k3, k4, k5, k6, k7, k8, k9] at hg2_23
      refine o_gy 23 rfl rfl (y_fieldAddr fd72_2 ti3 (by decide) rfl) ?_
      refine o_gy 23 rfl rfl (y_loadO ti3 rfl (by repeat (first | assumption | exact .z | apply In.s | apply In.a)) rfl) ?_
      refine o_gy 23 rfl rfl (y_neq rfl rfl) ?_
      refine o_y (y_pick rfl rfl) ?_
      refine o_nil ?_
      refine x_cond rfl (fun hc0 => ?_) (fun hc0 => ?_)
      · try simp only [k1, k2, k3, k4, k5, k6, k7, k8, k9] at hc0
        refine x_seq ?_
        refine x_region rfl ?_
        refine o_y (y_loadA ti72 rfl (by repeat (first | assumption | exact .z | apply In.s | apply In.a)) rfl) ?_
        refine o_call fn52 rfl (blank_ok te13) ?_
        rintro _ _ _ ⟨rfl, rfl, rfl⟩
        refine o_y (y_assign rfl) ?_
        refine o_nil ?_
        refine x_ret ?_
        refine x_fin 2 (ret1 rfl rfl) ?_
        rw [parentB_1 en (by omega)]; exact ⟨rfl, rfl, rfl⟩
      · try simp only [k1, k2, k3, k4, k5, k6, k7, k8, k9] at hc0
        refine x_skip ?_
        refine x_seq ?_
        refine x_region rfl ?_
        refine o_y (y_move rfl) ?_
        refine o_call fn67 rfl (span_ok hT x (by omega)) ?_
        rintro _ _ _ ⟨rfl, rfl, rfl⟩
        refine o_y (y_move rfl) ?_
        refine o_y (y_extract rfl rfl) ?_
        refine o_y (y_extract rfl rfl) ?_
        refine o_y (y_assign rfl) ?_
        refine o_y (y_assign rfl) ?_
        refine o_nil ?_
        refine x_seq ?_
        refine x_seq ?_
        refine x_region rfl ?_
        refine o_y (y_fieldAddr fd72_3 ti24 (by decide) rfl) ?_
        refine o_y (y_loadO ti24 rfl (by repeat (first | assumption | exact .z | apply In.s | apply In.a)) rfl) ?_
        first | refine o_y (y_lenL (by assumption) Go.Proofs.Tryd.underlying24 rfl) ?_ | refine o_y (y_lenR (by assumption) Go.Proofs.Tryd.underlying24 rfl) ?_ | refine o_y (y_len Go.Proofs.Tryd.underlying24 rfl) ?_
        refine o_y (y_move rfl) ?_
        refine o_nil ?_
        refine x_block ?_
        have hum := q13_3
        have hus := hum.lenle
        refine x_loopf (σ := Nat × Int) (fun s => [(38, .int .i64 (s.1 : Int)), (37, .int .i64 (xs[x].unmerged.length : Int)), (36, u13_3), (6, .int .i64 s.2), (7, .int .i64 (spanHi x)), (2, .pointer (some ⟨b2, 0, none⟩))]) (fun _ => _) (fun s => s.1 ≤ xs[x].unmerged.length ∧ spanLo x ≤ s.2 ∧ s.2 ≤ spanHi x + 1 ∧ umOk xs (spanHi x) s.2 (xs[x].unmerged.drop s.1) = umOk xs (spanHi x) (spanLo x) xs[x].unmerged) (fun s => xs[x].unmerged.length - s.1) (0, spanLo x) ⟨by simp, by simp, by simp; omega, by simp⟩ (.c rfl (.c rfl (.c rfl (.c rfl (.c rfl (.c rfl .n)))))) rfl ?_
        rintro ⟨k, f⟩ ⟨i1, i2, i3, i4⟩
        simp only at i1 i2 i3 i4
        refine x_seq ?_
        refine x_region rfl ?_
        refine o_y (y_lss rfl rfl) ?_
        refine o_nil ?_
        refine x_seq ?_
        refine x_cond rfl (fun hc1 => ?_) (fun hc1 => ?_)
        · try simp only [k1, k2, k3, k4, k5, k6, k7, k8, k9] at hc1
          have hk : k < xs[x].unmerged.length := by omega
          refine x_skip ?_
          refine x_seq ?_
          refine x_block ?_
          refine x_seq ?_
          refine x_region rfl ?_
          obtain ⟨ce40, ae40, re40⟩ := RdL.at hum _ k hk
          have se40 := AtS.isSl ae40
          obtain ⟨rfl, q40⟩ := re40
          refine o_y (y_idxL hum k hk Go.Proofs.Tryd.underlying24 ti3 rfl rfl (by omega)) ?_
          refine o_y (y_loadS ti3 rfl (by assumption) rfl (fun _ => rfl)) ?_
          refine o_y (y_assign rfl) ?_
          refine o_nil ?_
          refine x_seq ?_
          refine x_seq ?_
          refine x_region rfl ?_
          refine o_y (y_move rfl) ?_
          refine o_y (y_move rfl) ?_
          refine o_y (y_lss rfl rfl) ?_
          refine o_y (y_move rfl) ?_
          refine o_split 45 rfl (fun hg8_45 => ?_) (fun hg8_45 => ?_)
          · try simp only [k1, k2, k3, k4, k5, k6, k7, k8, k9] at hg8_45
            refine o_gn 45 rfl rfl rfl ?_
            refine o_gn 45 rfl rfl rfl ?_
            refine o_gn 45 rfl rfl rfl ?_
            refine o_y (y_pick rfl rfl) ?_
            refine o_y (y_move rfl) ?_
            refine o_gn 50 rfl rfl rfl ?_
            refine o_gn 50 rfl rfl rfl ?_
            refine o_gn 50 rfl rfl rfl ?_
            refine o_gn 50 rfl rfl rfl ?_
            refine o_gn 50 rfl rfl rfl ?_
            refine o_gn 50 rfl rfl rfl ?_
            refine o_gn 50 rfl rfl rfl ?_
            refine o_gn 50 rfl rfl rfl ?_
            refine o_y (y_pick rfl rfl) ?_
            refine o_nil ?_
            refine x_condT rfl ?_
            refine x_seq ?_
            refine x_region rfl ?_
            refine o_y (y_assign rfl) ?_
            refine o_nil ?_
            refine x_ret ?_
            refine x_fin 2 (ret1 rfl rfl) ?_
            refine ⟨?_, rfl, rfl⟩
            rw [parentB_2 en (by omega), ← i4, umOk_no hk (by first | omega | (rw [e2]; omega))]
          · try simp only [k1, k2, k3, k4, k5, k6, k7, k8, k9] at hg8_45
            refine o_gy 45 rfl rfl (y_move rfl) ?_
            refine o_gy 45 rfl rfl (y_move rfl) ?_
            refine o_gy 45 rfl rfl (y_gtr rfl rfl) ?_
            refine o_y (y_pick rfl rfl) ?_
            refine o_y (y_move rfl) ?_
            refine o_split 50 rfl (fun hg8_50 => ?_) (fun hg8_50 => ?_)
            · try simp only [k1, k2, k3, k4, k5, k6, k7, k8, k9] at hg8_50
              refine o_gn 50 rfl rfl rfl ?_
              refine o_gn 50 rfl rfl rfl ?_
              refine o_gn 50 rfl rfl rfl ?_
              refine o_gn 50 rfl rfl rfl ?_
              refine o_gn 50 rfl rfl rfl ?_
              refine o_gn 50 rfl rfl rfl ?_
              refine o_gn 50 rfl rfl rfl ?_
              refine o_gn 50 rfl rfl rfl ?_
              refine o_y (y_pick rfl rfl) ?_
              refine o_nil ?_
              refine x_condT rfl ?_
              refine x_seq ?_
              refine x_region rfl ?_
              refine o_y (y_assign rfl) ?_
              refine o_nil ?_
              refine x_ret ?_
              refine x_fin 2 (ret1 rfl rfl) ?_
              refine ⟨?_, rfl, rfl⟩
              rw [parentB_2 en (by omega), ← i4, umOk_no hk (by first | omega | (rw [e2]; omega))]
            · try simp only [k1, k2, k3, k4, k5, k6, k7, k8, k9] at hg8_50
              refine o_gy 50 rfl rfl (y_fieldAddr fd29_0 ti27 (by decide) rfl) ?_
              refine o_gy 50 rfl rfl (y_loadO ti27 rfl (by repeat (first | assumption | exact .z | apply In.s | apply In.a)) rfl) ?_
              refine o_gy 50 rfl rfl (y_move rfl) ?_
              refine o_gy 50 rfl rfl (y_mulN rfl rfl (by omega) (by omega)) ?_
              have hj : 2 * (xs[x].unmerged[k]).toNat < xs.length := by omega
              have e2 := nodeAt_eq hj
              obtain ⟨ce55, ae55, re55⟩ := RdL.at h _ (2 * (xs[x].unmerged[k]).toNat) hj
              have se55 := AtS.isSl ae55
              have te55 := re55
              obtain ⟨u55_3, z55, q55_0, q55_1, q55_2, q55_3⟩ := re55
              subst z55
              have w55 := Rep.one te55
              refine o_gy 50 rfl rfl (y_idxL h (2 * (xs[x].unmerged[k]).toNat) hj Go.Proofs.Tryd.underlying27 ti72 rfl rfl (by omega)) ?_
              refine o_gy 50 rfl rfl (y_fieldAddrP fd72_0 ti3 (by decide) (by assumption) rfl) ?_
              refine o_gy 50 rfl rfl (y_loadS1 ti3 rfl (by assumption) rfl) ?_
              refine o_gy 50 rfl rfl (y_eql rfl rfl) ?_
              refine o_y (y_pick rfl rfl) ?_
              refine o_nil ?_
              refine x_cond rfl (fun hc2 => ?_) (fun hc2 => ?_)
              · try simp only [k1, k2, k3, k4, k5, k6, k7, k8, k9] at hc2
                refine x_seq ?_
                refine x_region rfl ?_
                refine o_y (y_assign rfl) ?_
                refine o_nil ?_
                refine x_ret ?_
                refine x_fin 2 (ret1 rfl rfl) ?_
                refine ⟨?_, rfl, rfl⟩
                rw [parentB_2 en (by omega), ← i4, umOk_no hk (by first | omega | (rw [e2]; omega))]
              · try simp only [k1, k2, k3, k4, k5, k6, k7, k8, k9] at hc2
                refine x_skip ?_
                refine x_region rfl ?_
                refine o_y (y_move rfl) ?_
                refine o_y (y_addN rfl rfl (by omega) (by omega)) ?_
                refine o_y (y_assign rfl) ?_
                refine o_nil ?_
                refine x_region rfl ?_
                refine o_y (y_addN rfl rfl (by omega) (by omega)) ?_
                refine o_y (y_move rfl) ?_
                refine o_nil ?_
                exact ⟨(k + 1, xs[x].unmerged[k] + 1), 0, rfl, (.c rfl (.c rfl (.c rfl (.c rfl (.c rfl (.c rfl .n)))))), rfl, ⟨by omega, by omega, by omega, by
                  have z := umOk_yes (xs := xs) (hi := spanHi x) (f := f) hk (by rw [e2]; omega)
                  rw [← z]; exact i4⟩, by omega⟩
        · try simp only [k1, k2, k3, k4, k5, k6, k7, k8, k9] at hc1
          refine x_exit ?_
          refine x_seq ?_
          refine x_region rfl ?_
          refine o_y (y_assign rfl) ?_
          refine o_nil ?_
          refine x_ret ?_
          refine x_fin 2 (ret1 rfl rfl) ?_
          refine ⟨?_, rfl, rfl⟩
          obtain rfl : k = xs[x].unmerged.length := by omega
          rw [parentB_2 en (by omega), ← i4, List.drop_length]; rfl
end Go.Ph
