/- A ledger with one commit more: the walk. -/
import Derived.Test.YtmgnagpgnoikfaaDoorLedger5
import Derived.Test.YtmgnagpgnoikfaaDoorInsert
set_option linter.unusedVariables false
set_option linter.unusedSimpArgs false
set_option maxRecDepth 100000
namespace Go.Ph
open Go Go.RowKit Go.Proofs.YtmgnagpgnoikfaaDoor

theorem El.parts {α : Type} [Rep α] {H : HM} {cs : List Value} {xs : List α} (h : El H cs xs) (k : Nat) (hk : k ≤ xs.length) : El H (cs.take (k * Rep.sz α)) (xs.take k) ∧ El H (cs.drop (k * Rep.sz α)) (xs.drop k) := by
  by_cases hl : k < xs.length
  · obtain ⟨A, ds, D, rfl, h1, h2, h3, h4⟩ := h.split k hl
    refine ⟨?_, ?_⟩
    · rw [List.append_assoc, ← h1, List.take_left]; exact h2
    · rw [List.append_assoc, ← h1, List.drop_left, List.drop_eq_getElem_cons hl]; exact .c h3 h4
  · have : k = xs.length := by omega
    subst this
    have hl := h.len
    refine ⟨?_, ?_⟩
    · rw [← hl, List.take_length, List.take_length]; exact h
    · rw [← hl, List.drop_length, List.drop_length]; exact .n
def appErr (xs : List Log) (c : Commit) : Int :=
  if lcheckB xs = true ∧ takeB c = true then (if c.epoch = (commitsOf xs c.group).length then (if foundB xs c.group = false ∧ xs.length = 16 then 3 else 0) else 10) else 1
def appLogs (xs : List Log) (c : Commit) : List Log :=
  if appErr xs c = 0 then (if foundB xs c.group = true then xs.take (placeN xs c.group) ++ [⟨c.group, (logAt xs (placeN xs c.group)).commits ++ [c]⟩] ++ xs.drop (placeN xs c.group + 1)
    else xs.take (placeN xs c.group) ++ [⟨c.group, [c]⟩] ++ xs.drop (placeN xs c.group)) else []
abbrev App (err : Int) (ys : List Log) (H : HM) (O : OL) : Value → HM → OL → Prop := fun v H' O' => Ext H H' ∧ O = O' ∧ ∃ u, v = .tuple #[u, .int .i64 err] ∧ RdL H' u ys
theorem append_ok {B : World} {H : HM} {O : OL} {v : Value} {xs : List Log} {cs : List Value} {c : Commit} (hT : TabAt H) (h : RdL H v xs) (hc : Rep.rd H cs c) (hsm : ∀ x ∈ xs, x.commits.length ≤ 1000000) :
    CallsM Go.Proofs.Tryd.prog 10 [v, .agg cs.toArray].toArray B H O (App (appErr xs c) (appLogs xs c) H O) := by
  have hk := hc
  have wk := Rep.one hc
  obtain ⟨u6, u7, u8, u9, u12, rfl, h0, h1, h2, h3, h4, h5, h6, h7, h8, h9, h10, h11, h12, h13⟩ := hc
  have hlc := errI_cases (lcheckB xs)
  have hsv := h.lenle
  obtain ⟨P, hP⟩ : ∃ P, P = placeN xs c.group := ⟨_, rfl⟩
  have hPle := (searchN_le (placeP xs c.group) 0 xs.length (by omega)).2
  change placeN xs c.group ≤ xs.length at hPle
  refine enter Go.Proofs.Tryd.func10 rfl Go.Proofs.Tryd.ntmps10 (l := [(0, _), (1, _)]) rfl rfl ?_
  refine x_seq ?_
  refine x_region rfl ?_
  refine o_box rfl (cs := [_, _, _, _, _, _, _, _, _, _, _, _, _, _, _]) rfl (fun b3 => ?_)
  refine o_y (y_assign rfl) ?_
  refine o_y (y_assign rfl) ?_
  refine o_nil ?_
  refine x_seq ?_
  refine x_seq ?_
  refine x_region rfl ?_
  refine o_y (y_move rfl) ?_
  refine o_call fn14 rfl (lcheck_ok hT h) ?_
  rintro _ _ _ ⟨rfl, rfl, rfl⟩
  refine o_y (y_neq rfl rfl) ?_
  refine o_y (y_move rfl) ?_
  refine o_split 17 rfl (fun hg1_17 => ?_) (fun hg1_17 => ?_)
  · try simp only [k1, k2, k3, k4, k5, k6, k7, k8, k9] at hg1_17
    refine o_gn 17 rfl rfl rfl ?_
    refine o_gn 17 rfl rfl rfl ?_
    refine o_gn 17 rfl rfl rfl ?_
    refine o_y (y_pick rfl rfl) ?_
    refine o_nil ?_
    refine x_condT rfl ?_
    refine x_seq ?_
    refine x_region rfl ?_
    refine o_y (y_assign rfl) ?_
    refine o_y (y_assign rfl) ?_
    refine o_nil ?_
    refine x_ret ?_
    refine x_fin 1 (ret2 rfl rfl rfl) ?_
    have e : appErr xs c = 1 := by
      rw [appErr, if_neg]
      rintro ⟨e1, e2⟩
      first
        | (rw [e1] at hlc; simp [errI] at hlc; omega)
        | simp_all
    rw [e, appLogs, e]
    exact ⟨Ext.refl _, rfl, _, rfl, RdL.nil _⟩
  · try simp only [k1, k2, k3, k4, k5, k6, k7, k8, k9] at hg1_17
    refine o_gy 17 rfl rfl (y_loadA ti31 rfl (by repeat (first | assumption | exact .z | apply In.s | apply In.a)) rfl) ?_
    refine o_gcall 17 rfl rfl fn22 rfl (takeable_ok hT hk) ?_
    rintro _ _ _ ⟨rfl, rfl, rfl⟩
    refine o_gy 17 rfl rfl (y_not rfl) ?_
    refine o_y (y_pick rfl rfl) ?_
    refine o_nil ?_
    refine x_cond rfl (fun hc0 => ?_) (fun hc0 => ?_)
    · try simp only [k1, k2, k3, k4, k5, k6, k7, k8, k9] at hc0
      refine x_seq ?_
      refine x_region rfl ?_
      refine o_y (y_assign rfl) ?_
      refine o_y (y_assign rfl) ?_
      refine o_nil ?_
      refine x_ret ?_
      refine x_fin 1 (ret2 rfl rfl rfl) ?_
      have e : appErr xs c = 1 := by
        rw [appErr, if_neg]
        rintro ⟨e1, e2⟩
        first
          | (rw [e1] at hlc; simp [errI] at hlc; omega)
          | simp_all
      rw [e, appLogs, e]
      exact ⟨Ext.refl _, rfl, _, rfl, RdL.nil _⟩
    · try simp only [k1, k2, k3, k4, k5, k6, k7, k8, k9] at hc0
      refine x_skip ?_
      refine x_seq ?_
      refine x_seq ?_
      refine x_regionQ mixed (by kernel_rfl) rfl ?_
      refine q_y (y_fieldAddr fd31_1 ti3 (by decide) rfl) ?_
      refine q_y (y_loadO ti3 rfl (by repeat (first | assumption | exact .z | apply In.s | apply In.a)) rfl) ?_
      refine q_y (y_move rfl) ?_
      refine q_y (y_fieldAddr fd31_0 ti3 (by decide) rfl) ?_
      refine q_y (y_loadO ti3 rfl (by repeat (first | assumption | exact .z | apply In.s | apply In.a)) rfl) ?_
      refine q_call fn15 rfl (len_ok hT h h0) ?_
      refine q_y (y_neq rfl rfl) ?_
      refine q_nil ?_
      refine x_cond rfl (fun hc1 => ?_) (fun hc1 => ?_)
      · try simp only [k1, k2, k3, k4, k5, k6, k7, k8, k9] at hc1
        refine x_seq ?_
        refine x_region rfl ?_
        refine o_y (y_assign rfl) ?_
        refine o_y (y_assign rfl) ?_
        refine o_nil ?_
        refine x_ret ?_
        refine x_fin 1 (ret2 rfl rfl rfl) ?_
        have e : appErr xs c = 10 := by
          rw [appErr, if_pos ⟨by rcases hlc with ⟨e1, e2⟩ | ⟨e1, e2⟩ <;> first | exact e1 | (exfalso; omega), by simp_all⟩, if_neg (by omega)]
        rw [e, appLogs, e]
        exact ⟨Ext.refl _, rfl, _, rfl, RdL.nil _⟩
      · try simp only [k1, k2, k3, k4, k5, k6, k7, k8, k9] at hc1
        refine x_skip ?_
        refine x_seq ?_
        refine x_region rfl ?_
        refine o_y (y_move rfl) ?_
        refine o_y (y_fieldAddr fd31_0 ti3 (by decide) rfl) ?_
        refine o_y (y_loadO ti3 rfl (by repeat (first | assumption | exact .z | apply In.s | apply In.a)) rfl) ?_
        refine o_call fn23 rfl (place_ok h h0) ?_
        rintro _ _ _ ⟨rfl, rfl, rfl⟩
        refine o_y (y_move rfl) ?_
        refine o_y (y_extract rfl rfl) ?_
        refine o_y (y_extract rfl rfl) ?_
        refine o_y (y_assign rfl) ?_
        refine o_y (y_assign rfl) ?_
        refine o_nil ?_
        refine x_seq ?_
        refine x_seq ?_
        refine x_region rfl ?_
        refine o_y (y_move rfl) ?_
        refine o_y (y_not rfl) ?_
        refine o_y (y_move rfl) ?_
        refine o_split 38 rfl (fun hg6_38 => ?_) (fun hg6_38 => ?_)
        · try simp only [k1, k2, k3, k4, k5, k6, k7, k8, k9] at hg6_38
          refine o_gy 38 rfl rfl (y_move rfl) ?_
          first | refine o_gy 38 rfl rfl (y_lenL (by assumption) Go.Proofs.Tryd.underlying22 rfl) ?_ | refine o_gy 38 rfl rfl (y_lenR (by assumption) Go.Proofs.Tryd.underlying22 rfl) ?_ | refine o_gy 38 rfl rfl (y_len Go.Proofs.Tryd.underlying22 rfl) ?_
          refine o_gy 38 rfl rfl (y_eql rfl rfl) ?_
          refine o_y (y_pick rfl rfl) ?_
          refine o_nil ?_
          refine x_cond rfl (fun hc2 => ?_) (fun hc2 => ?_)
          · try simp only [k1, k2, k3, k4, k5, k6, k7, k8, k9] at hc2
            refine x_seq ?_
            refine x_region rfl ?_
            refine o_y (y_assign rfl) ?_
            refine o_y (y_assign rfl) ?_
            refine o_nil ?_
            refine x_ret ?_
            refine x_fin 1 (ret2 rfl rfl rfl) ?_
            have e : appErr xs c = 3 := by
              rw [appErr, if_pos ⟨by rcases hlc with ⟨e1, e2⟩ | ⟨e1, e2⟩ <;> first | exact e1 | (exfalso; omega), by simp_all⟩, if_pos (by omega), if_pos ⟨by simp_all, by omega⟩]
            rw [e, appLogs, e]
            exact ⟨Ext.refl _, rfl, _, rfl, RdL.nil _⟩
          · try simp only [k1, k2, k3, k4, k5, k6, k7, k8, k9] at hc2
            refine x_skip ?_
            refine x_seq ?_
            have hlcb : lcheckB xs = true := by rcases hlc with ⟨e1, e2⟩ | ⟨e1, e2⟩ <;> first | exact e1 | (exfalso; omega)
            have hn16 : xs.length ≤ 16 := by
              have := hlcb
              simp only [lcheckB, Bool.and_eq_true, decide_eq_true_eq] at this
              exact this.1
            have hae : appErr xs c = 0 := by
              rw [appErr, if_pos ⟨hlcb, by simp_all⟩, if_pos (by omega), if_neg]
              rintro ⟨e1, e2⟩
              first
                | omega
                | simp_all
            rw [← hP]
            have hPle' : P ≤ xs.length := by rw [hP]; exact hPle
            refine x_region rfl ?_
            refine o_y (y_assign rfl) ?_
            refine o_nil ?_
            refine x_seq ?_
            refine x_seq ?_
            refine x_region rfl ?_
            refine o_y (y_move rfl) ?_
            first | refine o_y (y_lenL (by assumption) Go.Proofs.Tryd.underlying22 rfl) ?_ | refine o_y (y_lenR (by assumption) Go.Proofs.Tryd.underlying22 rfl) ?_ | refine o_y (y_len Go.Proofs.Tryd.underlying22 rfl) ?_
            refine o_y (y_move rfl) ?_
            refine o_nil ?_
            refine x_block ?_
            refine x_loopg (σ := Nat × HM × Value × List Value × OL × OL) (fun s => [(45, .int .i64 (s.1 : Int)), (44, .int .i64 (xs.length : Int)), (43, v), (0, v), (8, s.2.2.1), (6, .int .i64 (P : Int)), (7, .bool (foundB xs c.group)), (3, .pointer (some ⟨b3, 0, none⟩))]) (fun s => s.2.1) (fun s => s.2.2.2.2.2 ++ (s.2.2.2.2.1 ++ _)) (fun s => s.1 ≤ xs.length ∧ Ext H s.2.1 ∧ Row s.2.2.1 s.1 s.2.2.2.1 48 2 s.2.2.2.2.1 ∧ OwnLs s.2.1 s.2.2.2.1 (xs.take s.1) s.2.2.2.2.2) (fun s => xs.length - s.1) (0, H, .slice none 0 0, [], [], []) ⟨by simp, Ext.refl _, Row.nil _ _, .n⟩ (.c rfl (.c rfl (.c rfl (.c rfl (.c rfl (.c rfl (.c rfl (.c rfl .n)))))))) rfl rfl ?_
            rintro ⟨k, H5, v9, cs9, R9, Rs⟩ ⟨i1, i2, i3, i4⟩
            simp only at i1 i2 i3 i4
            refine x_seq ?_
            refine x_region rfl ?_
            refine o_y (y_lss rfl rfl) ?_
            refine o_nil ?_
            refine x_seq ?_
            refine x_cond rfl (fun hc3 => ?_) (fun hc3 => ?_)
            · try simp only [k1, k2, k3, k4, k5, k6, k7, k8, k9] at hc3
              have hkk : k < xs.length := by omega
              have hsk := hsm _ (List.getElem_mem hkk)
              have hv5 := h.mono i2
              refine x_skip ?_
              refine x_seq ?_
              refine x_block ?_
              refine x_seq ?_
              refine x_region rfl ?_
              obtain ⟨ce47, ae47, re47⟩ := RdL.at hv5 _ k hkk
              have se47 := AtS.isSl ae47
              have te47 := re47
              obtain ⟨u47_1, z47, q47_0, q47_1⟩ := re47
              subst z47
              have w47 := Rep.one te47
              refine o_y (y_idxL hv5 k hkk Go.Proofs.Tryd.underlying22 ti48 rfl rfl (by omega)) ?_
              refine o_y (y_loadS ti48 rfl (by assumption) rfl (fun e => by cases e)) ?_
              refine o_alloc ti48 rfl (fun b10 => ?_)
              refine o_store (u := [_, _]) (C' := [_, _]) ti48 rfl rfl rfl rfl (by first | rfl | assumption | (simp only [ones, List.all_cons, List.all_nil, Bool.and_true, one_of (by assumption)]; done)) (by repeat (first | exact .z | apply Upd.s | apply Upd.a)) (by exact Nat.le_of_ble_eq_true rfl) (by rfl) ?_
              refine o_nil ?_
              refine x_seq ?_
              refine x_region rfl ?_
              refine o_y (y_fieldAddr fd48_0 ti3 (by decide) rfl) ?_
              refine o_y (y_loadO ti3 rfl (by repeat (first | assumption | exact .z | apply In.s | apply In.a)) rfl) ?_
              refine o_y (y_buildS bt48 rfl (C := [_, _]) rfl) ?_
              refine o_alloc ti48 rfl (fun b11 => ?_)
              refine o_store (u := [_, _]) (C' := [_, _]) ti48 rfl rfl rfl rfl (by first | rfl | assumption | (simp only [ones, List.all_cons, List.all_nil, Bool.and_true, one_of (by assumption)]; done)) (by repeat (first | exact .z | apply Upd.s | apply Upd.a)) (by exact Nat.le_of_ble_eq_true rfl) (by rfl) ?_
              refine o_nil ?_
              refine x_seq ?_
              refine x_seq ?_
              refine x_region rfl ?_
              refine o_y (y_fieldAddr fd48_1 ti46 (by decide) rfl) ?_
              refine o_y (y_loadO ti46 rfl (by repeat (first | assumption | exact .z | apply In.s | apply In.a)) rfl) ?_
              first | refine o_y (y_lenL (by assumption) Go.Proofs.Tryd.underlying46 rfl) ?_ | refine o_y (y_lenR (by assumption) Go.Proofs.Tryd.underlying46 rfl) ?_ | refine o_y (y_len Go.Proofs.Tryd.underlying46 rfl) ?_
              refine o_y (y_move rfl) ?_
              refine o_nil ?_
              refine x_block ?_
              refine x_loopg (σ := Nat × HM × Value × List Value × OL) (fun s => [(55, .int .i64 (s.1 : Int)), (54, .int .i64 (xs[k].commits.length : Int)), (53, u47_1), (45, .int .i64 (k : Int)), (44, .int .i64 (xs.length : Int)), (43, v), (0, v), (8, v9), (6, .int .i64 (P : Int)), (7, .bool (foundB xs c.group)), (3, .pointer (some ⟨b3, 0, none⟩)), (11, .pointer (some ⟨b11, 0, none⟩))]) (fun s => s.2.1) (fun s => s.2.2.2.2 ++ ((b11, cl [.int .i64 xs[k].group, s.2.2.1] 48) :: _)) (fun s => s.1 ≤ xs[k].commits.length ∧ Ext H5 s.2.1 ∧ Row s.2.2.1 s.1 s.2.2.2.1 31 15 s.2.2.2.2 ∧ El s.2.1 s.2.2.2.1 (xs[k].commits.take s.1)) (fun s => xs[k].commits.length - s.1) (0, H5, .slice none 0 0, [], []) ⟨by simp, Ext.refl _, Row.nil _ _, .n⟩ (.c rfl (.c rfl (.c rfl (.c rfl (.c rfl (.c rfl (.c rfl (.c rfl (.c rfl (.c rfl (.c rfl (.c rfl .n)))))))))))) rfl rfl ?_
              rintro ⟨m, H6, va, csa, Ra⟩ ⟨l1, l2, l3, l4⟩
              simp only at l1 l2 l3 l4
              refine x_seq ?_
              refine x_region rfl ?_
              refine o_y (y_lss rfl rfl) ?_
              refine o_nil ?_
              refine x_seq ?_
              refine x_cond rfl (fun hc4 => ?_) (fun hc4 => ?_)
              · try simp only [k1, k2, k3, k4, k5, k6, k7, k8, k9] at hc4
                have hm : m < xs[k].commits.length := by omega
                have hq5 := q47_1.mono l2
                refine x_skip ?_
                refine x_seq ?_
                refine x_block ?_
                refine x_seq ?_
                refine x_region rfl ?_
                obtain ⟨ce57, ae57, re57⟩ := RdL.at hq5 _ m hm
                have se57 := AtS.isSl ae57
                have te57 := re57
                obtain ⟨u57_6, u57_7, u57_8, u57_9, u57_12, z57, q57_0, q57_1, q57_2, q57_3, q57_4, q57_5, q57_6, q57_7, q57_8, q57_9, q57_10, q57_11, q57_12, q57_13⟩ := re57
                subst z57
                have w57 := Rep.one te57
                refine o_y (y_idxL hq5 m hm Go.Proofs.Tryd.underlying46 ti31 rfl rfl (by omega)) ?_
                refine o_y (y_loadS ti31 rfl (by assumption) rfl (fun e => by cases e)) ?_
                refine o_alloc ti31 rfl (fun b13 => ?_)
                refine o_store (u := [_, _, _, _, _, _, _, _, _, _, _, _, _, _, _]) (C' := [_, _, _, _, _, _, _, _, _, _, _, _, _, _, _]) ti31 rfl rfl rfl rfl (by first | rfl | assumption | (simp only [ones, List.all_cons, List.all_nil, Bool.and_true, one_of (by assumption)]; done)) (by repeat (first | exact .z | apply Upd.s | apply Upd.a)) (by exact Nat.le_of_ble_eq_true rfl) (by rfl) ?_
                refine o_nil ?_
                refine x_regionPs _ held_1 [(0, true), (1, true), (2, true), (3, false), (4, false), (5, false), (6, true), (7, false)] [0, 1, 2, 6] [7] mixed (by kernel_rfl) (by repeat (first | exact np_fn | apply np_then | apply np_block)) ?_
                have hE := Ext.refl H6
                refine p_take rfl rfl (y_fieldAddr fd48_1 ti46 (by decide) rfl) ?_
                refine p_take rfl rfl (y_loadO ti46 rfl (by repeat (first | assumption | exact .z | apply In.s | apply In.a)) rfl) ?_
                refine p_take rfl rfl (y_loadA ti31 rfl (by repeat (first | assumption | exact .z | apply In.s | apply In.a)) rfl) ?_
                refine p_only rfl rfl ?_
                refine o_call fn24 rfl (copied_ok te57) ?_
                rintro v62 H7 _ ⟨x62, rfl, cs62, rfl, r62⟩
                refine o_nil ?_
                replace hE := hE.trans x62
                have w62 := Rep.one r62
                obtain ⟨d6, d7, d8, d9, d12, rfl, r62⟩ := r62
                refine ⟨.inr ⟨hE, by first | exact fun _ h => h | exact fun _ h => .tail _ h | exact fun _ h => .tail _ (.tail _ h) | exact fun _ h => .tail _ (.tail _ (.tail _ h)) | exact held_0 | exact held_1 | exact held_2 | exact held_z0 | exact held_z1 | exact held_s | exact (fun _ h => by cases h)⟩, ?_⟩
                refine p_only rfl rfl ?_
                refine o_slice1 Go.Proofs.Tryd.underlying46 ti31 (by decide) (by decide) rfl rfl (C := [_, _, _, _, _, _, _, _, _, _, _, _, _, _, _]) rfl rfl (fun b63 => ?_)
                refine o_nil ?_
                refine ⟨.inr ⟨hE, by first | exact fun _ h => h | exact fun _ h => .tail _ h | exact fun _ h => .tail _ (.tail _ h) | exact fun _ h => .tail _ (.tail _ (.tail _ h)) | exact held_0 | exact held_1 | exact held_2 | exact held_z0 | exact held_z1 | exact held_s | exact (fun _ h => by cases h)⟩, ?_⟩
                refine p_only rfl rfl ?_
                refine o_append Go.Proofs.Tryd.underlying46 ti31 rfl (by decide) rfl l3 rfl (At.all (by repeat (first | assumption | exact .z | apply In.s | apply In.a))) rfl w62 (by omega) (by omega) (by repeat (first | exact .o | exact .z | exact .e | apply Hole.s | apply Hole.g)) (fun v64 R64 j64 => ?_)
                refine o_nil ?_
                obtain ⟨p64, c64, rfl⟩ := j64.shape
                refine ⟨.inr ⟨hE, by first | exact fun _ h => h | exact fun _ h => .tail _ h | exact fun _ h => .tail _ (.tail _ h) | exact fun _ h => .tail _ (.tail _ (.tail _ h)) | exact held_0 | exact held_1 | exact held_2 | exact held_z0 | exact held_z1 | exact held_s | exact (fun _ h => by cases h)⟩, ?_⟩
                refine p_take rfl rfl (y_fieldAddr fd48_1 ti46 (by decide) rfl) ?_
                refine p_only rfl rfl ?_
                refine o_store (u := [_]) (C' := [_, _]) ti46 rfl rfl rfl rfl (by first | rfl | assumption | (simp only [ones, List.all_cons, List.all_nil, Bool.and_true, one_of (by assumption)]; done)) (by repeat (first | exact .z | apply Upd.s | apply Upd.a)) (by exact Nat.le_of_ble_eq_true rfl) (by rfl) ?_
                refine o_nil ?_
                refine ⟨.inl rfl, ?_⟩
                refine p_nil ?_
                refine x_region rfl ?_
                refine o_y (y_addN rfl rfl (by omega) (by omega)) ?_
                refine o_y (y_move rfl) ?_
                refine o_nil ?_
                exact ⟨(m + 1, H7, .slice p64 (m + 1) c64, _, R64), 2, rfl, (.c rfl (.c rfl (.c rfl (.c rfl (.c rfl (.c rfl (.c rfl (.c rfl (.c rfl (.c rfl (.c rfl (.c rfl .n)))))))))))), rfl, ⟨by omega, l2.trans x62, j64, by rw [take_next hm]; exact (l4.mono x62).snoc ⟨_, _, _, _, _, rfl, r62⟩⟩, by simp only; omega⟩
              · try simp only [k1, k2, k3, k4, k5, k6, k7, k8, k9] at hc4
                refine x_exit ?_
                obtain rfl : m = xs[k].commits.length := by omega
                obtain ⟨pa, ca, rfl⟩ := l3.shape
                rw [List.take_length] at l4
                refine x_region rfl ?_
                refine o_y (y_move rfl) ?_
                refine o_y (y_loadA ti48 rfl (by repeat (first | assumption | exact .z | apply In.s | apply In.a)) rfl) ?_
                refine o_slice1 Go.Proofs.Tryd.underlying22 ti48 (by decide) (by decide) rfl rfl (C := [_, _]) rfl rfl (fun b69 => ?_)
                refine o_append Go.Proofs.Tryd.underlying22 ti48 rfl (by decide) rfl i3 rfl (At.all (by repeat (first | assumption | exact .z | apply In.s | apply In.a))) rfl rfl (by omega) (by omega) (by repeat (first | exact .o | exact .z | exact .e | apply Hole.s | apply Hole.g)) (fun v70 R70 j70 => ?_)
                refine o_y (y_assign rfl) ?_
                refine o_nil ?_
                refine x_pick (O' := (Ra ++ Rs) ++ (R70 ++ _)) (.cons _ (by rw [List.append_assoc]; exact (List.Sublist.refl Ra).append (.cons _ (.cons _ (List.Sublist.refl _))))) ?_
                refine x_region rfl ?_
                refine o_y (y_addN rfl rfl (by omega) (by omega)) ?_
                refine o_y (y_move rfl) ?_
                refine o_nil ?_
                exact ⟨(k + 1, H6, v70, _, R70, Ra ++ Rs), 0, rfl, (.c rfl (.c rfl (.c rfl (.c rfl (.c rfl (.c rfl (.c rfl (.c rfl .n)))))))), rfl, ⟨by omega, i2.trans l2, j70, by rw [take_next hkk]; exact OwnLs.c (i4.mono l2) q47_0 l3 l4 (by omega)⟩, by simp only; omega⟩
            · try simp only [k1, k2, k3, k4, k5, k6, k7, k8, k9] at hc3
              refine x_exit ?_
              refine x_seq ?_
              refine x_seq ?_
              obtain rfl : k = xs.length := by omega
              rw [List.take_length] at i4
              refine x_region rfl ?_
              refine o_y (y_move rfl) ?_
              refine o_y (y_not rfl) ?_
              refine o_nil ?_
              refine x_cond rfl (fun hc5 => ?_) (fun hc5 => ?_)
              · try simp only [k1, k2, k3, k4, k5, k6, k7, k8, k9] at hc5
                have hf : foundB xs c.group = false := by assumption
                refine x_freezeP (S := Rs) (O' := R9 ++ _) (List.Perm.refl _) (fun H9 hX9 hI9 => ?_)
                have el := i4.el hX9 hI9
                refine x_region rfl ?_
                refine o_y (y_move rfl) ?_
                refine o_y (y_move rfl) ?_
                refine o_y (y_fieldAddr fd31_0 ti3 (by decide) rfl) ?_
                refine o_y (y_loadO ti3 rfl (by repeat (first | assumption | exact .z | apply In.s | apply In.a)) rfl) ?_
                refine o_y (y_buildS bt48 rfl (C := [_, _]) rfl) ?_
                refine o_slice1 Go.Proofs.Tryd.underlying22 ti48 (by decide) (by decide) rfl rfl (C := [_, _]) rfl rfl (fun b79 => ?_)
                refine o_call fn25 rfl (insert_log i3 hPle' (by omega) rfl rfl el.one .z) ?_
                rintro v9 _ _ ⟨rfl, R9, rfl, j80⟩
                refine o_y (y_assign rfl) ?_
                refine o_nil ?_
                obtain ⟨Rq, hRq⟩ : ∃ Rq : OL, Rq = [] := ⟨_, rfl⟩
                refine x_pick (O' := Rq ++ (R9 ++ _)) (by subst hRq; exact .cons _ (List.Sublist.refl _)) ?_
                obtain ⟨N, A, D, gq, vq, csq, cq, LA, LD, hN, hN2, jb, hA, hgq, jq, ecq, hcq, eA, eD, hfin⟩ : ∃ (N : Nat) (A D : List Value) (gq : Int) (vq : Value) (csq : List Value) (cq : List Commit) (LA LD : List Log), P < N ∧ N ≤ 17 ∧ Row v9 N (A ++ [.int .i64 gq, vq] ++ D) 48 2 R9 ∧ A.length = P * 2 ∧ gq = c.group ∧ Row vq cq.length csq 31 15 Rq ∧ El H9 csq cq ∧ cq.length ≤ 1000000 ∧ El H9 A LA ∧ El H9 D LD ∧ appLogs xs c = LA ++ [⟨gq, cq ++ [c]⟩] ++ LD :=
                  ⟨xs.length + 1, _, _, c.group, _, [], [], xs.take P, xs.drop P, by omega, by omega, j80, by have := i4.len; rw [List.length_take]; omega, rfl, by rw [hRq]; exact Row.nil _ _, .n, by simp, (el.parts P hPle').1, (el.parts P hPle').2, by
                    rw [appLogs, if_pos hae, if_neg (by rw [hf]; simp), ← hP, List.nil_append]⟩
                have xE := i2.trans hX9
                refine x_seq ?_
                refine x_regionPs _ held_0 [(0, true), (1, true), (2, true), (3, true), (4, true), (5, true), (6, true), (7, true), (8, false), (9, false), (10, false), (11, false), (12, true), (13, false)] [0, 1, 2, 3, 4, 5, 6, 7, 12] [13] mixed (by kernel_rfl) (by repeat (first | exact np_fn | apply np_then | apply np_block)) ?_
                have hE := Ext.refl H9
                have s9 := jb.sl (by omega)
                have hjl := jb.len
                have aq : AtS H9 R9 v9 (_ * 2) [.int .i64 gq, vq] := jb.at (fun p hp => hp) (by omega) (fun i u hu => by
                  rw [List.append_assoc, ← hA, List.getElem?_append_right (by omega), Nat.add_sub_cancel_left, List.getElem?_append_left (List.getElem?_eq_some_iff.1 hu).1]; exact hu)
                refine p_take rfl rfl (y_move rfl) ?_
                refine p_take rfl rfl (y_move rfl) ?_
                refine p_take rfl rfl (y_move rfl) ?_
                refine p_take rfl rfl (y_move rfl) ?_
                refine p_take rfl rfl (y_idxR jb _ hN Go.Proofs.Tryd.underlying22 ti48 rfl rfl rfl) ?_
                refine p_take rfl rfl (y_fieldAddrP fd48_1 ti46 (by decide) (by assumption) rfl) ?_
                refine p_take rfl rfl (y_loadS1 ti46 rfl (AtS.sub (by assumption) (fun p hp => by repeat (first | exact hp | exact List.mem_append_left _ hp | apply List.mem_cons_of_mem | apply List.mem_append_right))) rfl) ?_
                refine p_take rfl rfl (y_loadA ti31 rfl (by repeat (first | assumption | exact .z | apply In.s | apply In.a)) rfl) ?_
                refine p_only rfl rfl ?_
                refine o_call fn24 rfl (copied_ok (Rep.mono xE hk)) ?_
                rintro v89 H10 _ ⟨x89, rfl, cs89, rfl, r89⟩
                refine o_nil ?_
                replace hE := hE.trans x89
                have w89 := Rep.one r89
                obtain ⟨d6, d7, d8, d9, d12, rfl, r89⟩ := r89
                refine ⟨.inr ⟨hE, by first | exact fun _ h => h | exact fun _ h => .tail _ h | exact fun _ h => .tail _ (.tail _ h) | exact fun _ h => .tail _ (.tail _ (.tail _ h)) | exact held_0 | exact held_1 | exact held_2 | exact held_z0 | exact held_z1 | exact held_s | exact (fun _ h => by cases h)⟩, ?_⟩
                refine p_only rfl rfl ?_
                refine o_slice1 Go.Proofs.Tryd.underlying46 ti31 (by decide) (by decide) rfl rfl (C := [_, _, _, _, _, _, _, _, _, _, _, _, _, _, _]) rfl rfl (fun b90 => ?_)
                refine o_nil ?_
                refine ⟨.inr ⟨hE, by first | exact fun _ h => h | exact fun _ h => .tail _ h | exact fun _ h => .tail _ (.tail _ h) | exact fun _ h => .tail _ (.tail _ (.tail _ h)) | exact held_0 | exact held_1 | exact held_2 | exact held_z0 | exact held_z1 | exact held_s | exact (fun _ h => by cases h)⟩, ?_⟩
                refine p_only rfl rfl ?_
                refine o_append Go.Proofs.Tryd.underlying46 ti31 rfl (by decide) rfl jq rfl (At.all (by repeat (first | assumption | exact .z | apply In.s | apply In.a))) rfl w89 (by omega) (by omega) (by repeat (first | exact .o | exact .z | exact .e | apply Hole.s | apply Hole.g)) (fun v91 R91 j91 => ?_)
                refine o_nil ?_
                obtain ⟨p91, c91, rfl⟩ := j91.shape
                refine ⟨.inr ⟨hE, by first | exact fun _ h => h | exact fun _ h => .tail _ h | exact fun _ h => .tail _ (.tail _ h) | exact fun _ h => .tail _ (.tail _ (.tail _ h)) | exact held_0 | exact held_1 | exact held_2 | exact held_z0 | exact held_z1 | exact held_s | exact (fun _ h => by cases h)⟩, ?_⟩
                refine p_only rfl rfl ?_
                refine o_y (y_idxR jb _ hN Go.Proofs.Tryd.underlying22 ti48 rfl rfl rfl) ?_
                refine o_nil ?_
                refine ⟨.inr ⟨hE, by first | exact fun _ h => h | exact fun _ h => .tail _ h | exact fun _ h => .tail _ (.tail _ h) | exact fun _ h => .tail _ (.tail _ (.tail _ h)) | exact held_0 | exact held_1 | exact held_2 | exact held_z0 | exact held_z1 | exact held_s | exact (fun _ h => by cases h)⟩, ?_⟩
                refine p_take rfl rfl (y_fieldAddrP fd48_1 ti46 (by decide) (by assumption) rfl) ?_
                refine p_only rfl rfl ?_
                refine o_storeS (u := [_]) ti46 rfl rfl jb rfl rfl (by first | rfl | assumption | (simp only [ones, List.all_cons, List.all_nil, Bool.and_true, one_of (by assumption)]; done)) (by omega) (by omega) (by repeat (first | exact .o | exact .z | exact .e | apply Hole.s | apply Hole.g)) (fun R22_13 j22_13 => ?_)
                refine o_nil ?_
                refine ⟨.inl rfl, ?_⟩
                refine p_nil ?_
                refine x_seq ?_
                refine x_region rfl ?_
                refine o_y (y_move rfl) ?_
                refine o_y (y_assign rfl) ?_
                refine o_y (y_assign rfl) ?_
                refine o_nil ?_
                rw [putC_mid hA (by exact Nat.le_of_ble_eq_true rfl)] at j22_13
                refine x_pick (O' := (R91 ++ R22_13) ++ O) (.cons _ (by rw [List.append_assoc]; exact (List.Sublist.refl R91).append ((List.Sublist.refl R22_13).append (.cons _ (List.Sublist.refl _))))) ?_
                refine x_freezeP (S := R91 ++ R22_13) (O' := O) (List.Perm.refl _) (fun H11 hX11 hI11 => ?_)
                refine x_ret ?_
                refine x_fin 0 (ret2 rfl rfl rfl) ?_
                have xF := x89.trans hX11
                rw [hae]
                refine ⟨xE.trans xF, rfl, _, rfl, ?_⟩
                have eq1 : El H11 _ (cq ++ [c]) := ((ecq.mono x89).mono hX11).append (El.one1 (Rep.mono hX11 (show Rep.rd H10 _ c from ⟨_, _, _, _, _, rfl, r89⟩)))
                have rq := Row.inH j91 (by simp) eq1 (by have e : Rep.bytes Commit = 200 := rfl; rw [e]; simp; omega) (fun b o hm => hI11 b o (by simp [hm]))
                have e2 : N = (LA ++ [(⟨gq, cq ++ [c]⟩ : Log)] ++ LD).length := by
                  have h1 := jb.len
                  have h2 := eA.len
                  have h3 := eD.len
                  have e : Rep.sz Log = 2 := rfl
                  rw [e] at h2 h3
                  simp only [List.length_append, List.length_cons, List.length_nil] at h1 ⊢
                  omega
                rw [hfin]
                refine Row.inH j22_13 e2 (((eA.mono xF).snoc (x := (⟨gq, cq ++ [c]⟩ : Log)) ⟨_, rfl, by show InR gq; rw [hgq]; exact h0, rq⟩).append (eD.mono xF)) (by rw [← e2]; have e : Rep.bytes Log = 32 := rfl; rw [e]; omega) (fun b o hm => hI11 b o (by simp [hm]))
              · try simp only [k1, k2, k3, k4, k5, k6, k7, k8, k9] at hc5
                have hf : foundB xs c.group = true := by assumption
                have hPl := (of_decide_eq_true hf).1
                have hPg := (of_decide_eq_true hf).2
                rw [← hP] at hPl hPg
                rw [grpAt_eq hPl] at hPg
                obtain ⟨A, D, vq, csq, Rq, Rr, z1, hA, z3, z4, z5, z6, z7, z8⟩ := i4.split P hPl
                refine x_freezeP (S := Rr) (O' := Rq ++ (R9 ++ _)) ((z3.append_right _).trans (by rw [List.append_assoc])) (fun H9 hX9 hI9 => ?_)
                obtain ⟨z9, z10⟩ := z8 H9 hX9 hI9
                have hsP := hsm _ (List.getElem_mem hPl)
                obtain ⟨N, A, D, gq, vq, csq, cq, LA, LD, hN, hN2, jb, hA, hgq, jq, ecq, hcq, eA, eD, hfin⟩ : ∃ (N : Nat) (A D : List Value) (gq : Int) (vq : Value) (csq : List Value) (cq : List Commit) (LA LD : List Log), P < N ∧ N ≤ 17 ∧ Row v9 N (A ++ [.int .i64 gq, vq] ++ D) 48 2 R9 ∧ A.length = P * 2 ∧ gq = c.group ∧ Row vq cq.length csq 31 15 Rq ∧ El H9 csq cq ∧ cq.length ≤ 1000000 ∧ El H9 A LA ∧ El H9 D LD ∧ appLogs xs c = LA ++ [⟨gq, cq ++ [c]⟩] ++ LD :=
                  ⟨xs.length, A, D, xs[P].group, vq, csq, xs[P].commits, _, _, hPl, by omega, by rw [← z1]; exact i3, hA, hPg, z5, z6.mono hX9, hsP, z9, z10, by
                    rw [appLogs, if_pos hae, if_pos hf, ← hP, logAt_eq hPl, hPg]⟩
                have xE := i2.trans hX9
                refine x_skip ?_
                refine x_seq ?_
                refine x_regionPs _ held_0 [(0, true), (1, true), (2, true), (3, true), (4, true), (5, true), (6, true), (7, true), (8, false), (9, false), (10, false), (11, false), (12, true), (13, false)] [0, 1, 2, 3, 4, 5, 6, 7, 12] [13] mixed (by kernel_rfl) (by repeat (first | exact np_fn | apply np_then | apply np_block)) ?_
                have hE := Ext.refl H9
                have s9 := jb.sl (by omega)
                have hjl := jb.len
                have aq : AtS H9 R9 v9 (_ * 2) [.int .i64 gq, vq] := jb.at (fun p hp => hp) (by omega) (fun i u hu => by
                  rw [List.append_assoc, ← hA, List.getElem?_append_right (by omega), Nat.add_sub_cancel_left, List.getElem?_append_left (List.getElem?_eq_some_iff.1 hu).1]; exact hu)
                refine p_take rfl rfl (y_move rfl) ?_
                refine p_take rfl rfl (y_move rfl) ?_
                refine p_take rfl rfl (y_move rfl) ?_
                refine p_take rfl rfl (y_move rfl) ?_
                refine p_take rfl rfl (y_idxR jb _ hN Go.Proofs.Tryd.underlying22 ti48 rfl rfl rfl) ?_
                refine p_take rfl rfl (y_fieldAddrP fd48_1 ti46 (by decide) (by assumption) rfl) ?_
                refine p_take rfl rfl (y_loadS1 ti46 rfl (AtS.sub (by assumption) (fun p hp => by repeat (first | exact hp | exact List.mem_append_left _ hp | apply List.mem_cons_of_mem | apply List.mem_append_right))) rfl) ?_
                refine p_take rfl rfl (y_loadA ti31 rfl (by repeat (first | assumption | exact .z | apply In.s | apply In.a)) rfl) ?_
                refine p_only rfl rfl ?_
                refine o_call fn24 rfl (copied_ok (Rep.mono xE hk)) ?_
                rintro v89 H10 _ ⟨x89, rfl, cs89, rfl, r89⟩
                refine o_nil ?_
                replace hE := hE.trans x89
                have w89 := Rep.one r89
                obtain ⟨d6, d7, d8, d9, d12, rfl, r89⟩ := r89
                refine ⟨.inr ⟨hE, by first | exact fun _ h => h | exact fun _ h => .tail _ h | exact fun _ h => .tail _ (.tail _ h) | exact fun _ h => .tail _ (.tail _ (.tail _ h)) | exact held_0 | exact held_1 | exact held_2 | exact held_z0 | exact held_z1 | exact held_s | exact (fun _ h => by cases h)⟩, ?_⟩
                refine p_only rfl rfl ?_
                refine o_slice1 Go.Proofs.Tryd.underlying46 ti31 (by decide) (by decide) rfl rfl (C := [_, _, _, _, _, _, _, _, _, _, _, _, _, _, _]) rfl rfl (fun b90 => ?_)
                refine o_nil ?_
                refine ⟨.inr ⟨hE, by first | exact fun _ h => h | exact fun _ h => .tail _ h | exact fun _ h => .tail _ (.tail _ h) | exact fun _ h => .tail _ (.tail _ (.tail _ h)) | exact held_0 | exact held_1 | exact held_2 | exact held_z0 | exact held_z1 | exact held_s | exact (fun _ h => by cases h)⟩, ?_⟩
                refine p_only rfl rfl ?_
                refine o_append Go.Proofs.Tryd.underlying46 ti31 rfl (by decide) rfl jq rfl (At.all (by repeat (first | assumption | exact .z | apply In.s | apply In.a))) rfl w89 (by omega) (by omega) (by repeat (first | exact .o | exact .z | exact .e | apply Hole.s | apply Hole.g)) (fun v91 R91 j91 => ?_)
                refine o_nil ?_
                obtain ⟨p91, c91, rfl⟩ := j91.shape
                refine ⟨.inr ⟨hE, by first | exact fun _ h => h | exact fun _ h => .tail _ h | exact fun _ h => .tail _ (.tail _ h) | exact fun _ h => .tail _ (.tail _ (.tail _ h)) | exact held_0 | exact held_1 | exact held_2 | exact held_z0 | exact held_z1 | exact held_s | exact (fun _ h => by cases h)⟩, ?_⟩
                refine p_only rfl rfl ?_
                refine o_y (y_idxR jb _ hN Go.Proofs.Tryd.underlying22 ti48 rfl rfl rfl) ?_
                refine o_nil ?_
                refine ⟨.inr ⟨hE, by first | exact fun _ h => h | exact fun _ h => .tail _ h | exact fun _ h => .tail _ (.tail _ h) | exact fun _ h => .tail _ (.tail _ (.tail _ h)) | exact held_0 | exact held_1 | exact held_2 | exact held_z0 | exact held_z1 | exact held_s | exact (fun _ h => by cases h)⟩, ?_⟩
                refine p_take rfl rfl (y_fieldAddrP fd48_1 ti46 (by decide) (by assumption) rfl) ?_
                refine p_only rfl rfl ?_
                refine o_storeS (u := [_]) ti46 rfl rfl jb rfl rfl (by first | rfl | assumption | (simp only [ones, List.all_cons, List.all_nil, Bool.and_true, one_of (by assumption)]; done)) (by omega) (by omega) (by repeat (first | exact .o | exact .z | exact .e | apply Hole.s | apply Hole.g)) (fun R22_13 j22_13 => ?_)
                refine o_nil ?_
                refine ⟨.inl rfl, ?_⟩
                refine p_nil ?_
                refine x_seq ?_
                refine x_region rfl ?_
                refine o_y (y_move rfl) ?_
                refine o_y (y_assign rfl) ?_
                refine o_y (y_assign rfl) ?_
                refine o_nil ?_
                rw [putC_mid hA (by exact Nat.le_of_ble_eq_true rfl)] at j22_13
                refine x_pick (O' := (R91 ++ R22_13) ++ O) (.cons _ (by rw [List.append_assoc]; exact (List.Sublist.refl R91).append ((List.Sublist.refl R22_13).append (.cons _ (List.Sublist.refl _))))) ?_
                refine x_freezeP (S := R91 ++ R22_13) (O' := O) (List.Perm.refl _) (fun H11 hX11 hI11 => ?_)
                refine x_ret ?_
                refine x_fin 0 (ret2 rfl rfl rfl) ?_
                have xF := x89.trans hX11
                rw [hae]
                refine ⟨xE.trans xF, rfl, _, rfl, ?_⟩
                have eq1 : El H11 _ (cq ++ [c]) := ((ecq.mono x89).mono hX11).append (El.one1 (Rep.mono hX11 (show Rep.rd H10 _ c from ⟨_, _, _, _, _, rfl, r89⟩)))
                have rq := Row.inH j91 (by simp) eq1 (by have e : Rep.bytes Commit = 200 := rfl; rw [e]; simp; omega) (fun b o hm => hI11 b o (by simp [hm]))
                have e2 : N = (LA ++ [(⟨gq, cq ++ [c]⟩ : Log)] ++ LD).length := by
                  have h1 := jb.len
                  have h2 := eA.len
                  have h3 := eD.len
                  have e : Rep.sz Log = 2 := rfl
                  rw [e] at h2 h3
                  simp only [List.length_append, List.length_cons, List.length_nil] at h1 ⊢
                  omega
                rw [hfin]
                refine Row.inH j22_13 e2 (((eA.mono xF).snoc (x := (⟨gq, cq ++ [c]⟩ : Log)) ⟨_, rfl, by show InR gq; rw [hgq]; exact h0, rq⟩).append (eD.mono xF)) (by rw [← e2]; have e : Rep.bytes Log = 32 := rfl; rw [e]; omega) (fun b o hm => hI11 b o (by simp [hm]))
        · try simp only [k1, k2, k3, k4, k5, k6, k7, k8, k9] at hg6_38
          refine o_gn 38 rfl rfl rfl ?_
          refine o_gn 38 rfl rfl rfl ?_
          refine o_gn 38 rfl rfl rfl ?_
          refine o_y (y_pick rfl rfl) ?_
          refine o_nil ?_
          refine x_condF rfl ?_
          refine x_skip ?_
          refine x_seq ?_
          have hlcb : lcheckB xs = true := by rcases hlc with ⟨e1, e2⟩ | ⟨e1, e2⟩ <;> first | exact e1 | (exfalso; omega)
          have hn16 : xs.length ≤ 16 := by
            have := hlcb
            simp only [lcheckB, Bool.and_eq_true, decide_eq_true_eq] at this
            exact this.1
          have hae : appErr xs c = 0 := by
            rw [appErr, if_pos ⟨hlcb, by simp_all⟩, if_pos (by omega), if_neg]
            rintro ⟨e1, e2⟩
            first
              | omega
              | simp_all
          rw [← hP]
          have hPle' : P ≤ xs.length := by rw [hP]; exact hPle
          refine x_region rfl ?_
          refine o_y (y_assign rfl) ?_
          refine o_nil ?_
          refine x_seq ?_
          refine x_seq ?_
          refine x_region rfl ?_
          refine o_y (y_move rfl) ?_
          first | refine o_y (y_lenL (by assumption) Go.Proofs.Tryd.underlying22 rfl) ?_ | refine o_y (y_lenR (by assumption) Go.Proofs.Tryd.underlying22 rfl) ?_ | refine o_y (y_len Go.Proofs.Tryd.underlying22 rfl) ?_
          refine o_y (y_move rfl) ?_
          refine o_nil ?_
          refine x_block ?_
          refine x_loopg (σ := Nat × HM × Value × List Value × OL × OL) (fun s => [(45, .int .i64 (s.1 : Int)), (44, .int .i64 (xs.length : Int)), (43, v), (0, v), (8, s.2.2.1), (6, .int .i64 (P : Int)), (7, .bool (foundB xs c.group)), (3, .pointer (some ⟨b3, 0, none⟩))]) (fun s => s.2.1) (fun s => s.2.2.2.2.2 ++ (s.2.2.2.2.1 ++ _)) (fun s => s.1 ≤ xs.length ∧ Ext H s.2.1 ∧ Row s.2.2.1 s.1 s.2.2.2.1 48 2 s.2.2.2.2.1 ∧ OwnLs s.2.1 s.2.2.2.1 (xs.take s.1) s.2.2.2.2.2) (fun s => xs.length - s.1) (0, H, .slice none 0 0, [], [], []) ⟨by simp, Ext.refl _, Row.nil _ _, .n⟩ (.c rfl (.c rfl (.c rfl (.c rfl (.c rfl (.c rfl (.c rfl (.c rfl .n)))))))) rfl rfl ?_
          rintro ⟨k, H5, v9, cs9, R9, Rs⟩ ⟨i1, i2, i3, i4⟩
          simp only at i1 i2 i3 i4
          refine x_seq ?_
          refine x_region rfl ?_
          refine o_y (y_lss rfl rfl) ?_
          refine o_nil ?_
          refine x_seq ?_
          refine x_cond rfl (fun hc3 => ?_) (fun hc3 => ?_)
          · try simp only [k1, k2, k3, k4, k5, k6, k7, k8, k9] at hc3
            have hkk : k < xs.length := by omega
            have hsk := hsm _ (List.getElem_mem hkk)
            have hv5 := h.mono i2
            refine x_skip ?_
            refine x_seq ?_
            refine x_block ?_
            refine x_seq ?_
            refine x_region rfl ?_
            obtain ⟨ce47, ae47, re47⟩ := RdL.at hv5 _ k hkk
            have se47 := AtS.isSl ae47
            have te47 := re47
            obtain ⟨u47_1, z47, q47_0, q47_1⟩ := re47
            subst z47
            have w47 := Rep.one te47
            refine o_y (y_idxL hv5 k hkk Go.Proofs.Tryd.underlying22 ti48 rfl rfl (by omega)) ?_
            refine o_y (y_loadS ti48 rfl (by assumption) rfl (fun e => by cases e)) ?_
            refine o_alloc ti48 rfl (fun b10 => ?_)
            refine o_store (u := [_, _]) (C' := [_, _]) ti48 rfl rfl rfl rfl (by first | rfl | assumption | (simp only [ones, List.all_cons, List.all_nil, Bool.and_true, one_of (by assumption)]; done)) (by repeat (first | exact .z | apply Upd.s | apply Upd.a)) (by exact Nat.le_of_ble_eq_true rfl) (by rfl) ?_
            refine o_nil ?_
            refine x_seq ?_
            refine x_region rfl ?_
            refine o_y (y_fieldAddr fd48_0 ti3 (by decide) rfl) ?_
            refine o_y (y_loadO ti3 rfl (by repeat (first | assumption | exact .z | apply In.s | apply In.a)) rfl) ?_
            refine o_y (y_buildS bt48 rfl (C := [_, _]) rfl) ?_
            refine o_alloc ti48 rfl (fun b11 => ?_)
            refine o_store (u := [_, _]) (C' := [_, _]) ti48 rfl rfl rfl rfl (by first | rfl | assumption | (simp only [ones, List.all_cons, List.all_nil, Bool.and_true, one_of (by assumption)]; done)) (by repeat (first | exact .z | apply Upd.s | apply Upd.a)) (by exact Nat.le_of_ble_eq_true rfl) (by rfl) ?_
            refine o_nil ?_
            refine x_seq ?_
            refine x_seq ?_
            refine x_region rfl ?_
            refine o_y (y_fieldAddr fd48_1 ti46 (by decide) rfl) ?_
            refine o_y (y_loadO ti46 rfl (by repeat (first | assumption | exact .z | apply In.s | apply In.a)) rfl) ?_
            first | refine o_y (y_lenL (by assumption) Go.Proofs.Tryd.underlying46 rfl) ?_ | refine o_y (y_lenR (by assumption) Go.Proofs.Tryd.underlying46 rfl) ?_ | refine o_y (y_len Go.Proofs.Tryd.underlying46 rfl) ?_
            refine o_y (y_move rfl) ?_
            refine o_nil ?_
            refine x_block ?_
            refine x_loopg (σ := Nat × HM × Value × List Value × OL) (fun s => [(55, .int .i64 (s.1 : Int)), (54, .int .i64 (xs[k].commits.length : Int)), (53, u47_1), (45, .int .i64 (k : Int)), (44, .int .i64 (xs.length : Int)), (43, v), (0, v), (8, v9), (6, .int .i64 (P : Int)), (7, .bool (foundB xs c.group)), (3, .pointer (some ⟨b3, 0, none⟩)), (11, .pointer (some ⟨b11, 0, none⟩))]) (fun s => s.2.1) (fun s => s.2.2.2.2 ++ ((b11, cl [.int .i64 xs[k].group, s.2.2.1] 48) :: _)) (fun s => s.1 ≤ xs[k].commits.length ∧ Ext H5 s.2.1 ∧ Row s.2.2.1 s.1 s.2.2.2.1 31 15 s.2.2.2.2 ∧ El s.2.1 s.2.2.2.1 (xs[k].commits.take s.1)) (fun s => xs[k].commits.length - s.1) (0, H5, .slice none 0 0, [], []) ⟨by simp, Ext.refl _, Row.nil _ _, .n⟩ (.c rfl (.c rfl (.c rfl (.c rfl (.c rfl (.c rfl (.c rfl (.c rfl (.c rfl (.c rfl (.c rfl (.c rfl .n)))))))))))) rfl rfl ?_
            rintro ⟨m, H6, va, csa, Ra⟩ ⟨l1, l2, l3, l4⟩
            simp only at l1 l2 l3 l4
            refine x_seq ?_
            refine x_region rfl ?_
            refine o_y (y_lss rfl rfl) ?_
            refine o_nil ?_
            refine x_seq ?_
            refine x_cond rfl (fun hc4 => ?_) (fun hc4 => ?_)
            · try simp only [k1, k2, k3, k4, k5, k6, k7, k8, k9] at hc4
              have hm : m < xs[k].commits.length := by omega
              have hq5 := q47_1.mono l2
              refine x_skip ?_
              refine x_seq ?_
              refine x_block ?_
              refine x_seq ?_
              refine x_region rfl ?_
              obtain ⟨ce57, ae57, re57⟩ := RdL.at hq5 _ m hm
              have se57 := AtS.isSl ae57
              have te57 := re57
              obtain ⟨u57_6, u57_7, u57_8, u57_9, u57_12, z57, q57_0, q57_1, q57_2, q57_3, q57_4, q57_5, q57_6, q57_7, q57_8, q57_9, q57_10, q57_11, q57_12, q57_13⟩ := re57
              subst z57
              have w57 := Rep.one te57
              refine o_y (y_idxL hq5 m hm Go.Proofs.Tryd.underlying46 ti31 rfl rfl (by omega)) ?_
              refine o_y (y_loadS ti31 rfl (by assumption) rfl (fun e => by cases e)) ?_
              refine o_alloc ti31 rfl (fun b13 => ?_)
              refine o_store (u := [_, _, _, _, _, _, _, _, _, _, _, _, _, _, _]) (C' := [_, _, _, _, _, _, _, _, _, _, _, _, _, _, _]) ti31 rfl rfl rfl rfl (by first | rfl | assumption | (simp only [ones, List.all_cons, List.all_nil, Bool.and_true, one_of (by assumption)]; done)) (by repeat (first | exact .z | apply Upd.s | apply Upd.a)) (by exact Nat.le_of_ble_eq_true rfl) (by rfl) ?_
              refine o_nil ?_
              refine x_regionPs _ held_1 [(0, true), (1, true), (2, true), (3, false), (4, false), (5, false), (6, true), (7, false)] [0, 1, 2, 6] [7] mixed (by kernel_rfl) (by repeat (first | exact np_fn | apply np_then | apply np_block)) ?_
              have hE := Ext.refl H6
              refine p_take rfl rfl (y_fieldAddr fd48_1 ti46 (by decide) rfl) ?_
              refine p_take rfl rfl (y_loadO ti46 rfl (by repeat (first | assumption | exact .z | apply In.s | apply In.a)) rfl) ?_
              refine p_take rfl rfl (y_loadA ti31 rfl (by repeat (first | assumption | exact .z | apply In.s | apply In.a)) rfl) ?_
              refine p_only rfl rfl ?_
              refine o_call fn24 rfl (copied_ok te57) ?_
              rintro v62 H7 _ ⟨x62, rfl, cs62, rfl, r62⟩
              refine o_nil ?_
              replace hE := hE.trans x62
              have w62 := Rep.one r62
              obtain ⟨d6, d7, d8, d9, d12, rfl, r62⟩ := r62
              refine ⟨.inr ⟨hE, by first | exact fun _ h => h | exact fun _ h => .tail _ h | exact fun _ h => .tail _ (.tail _ h) | exact fun _ h => .tail _ (.tail _ (.tail _ h)) | exact held_0 | exact held_1 | exact held_2 | exact held_z0 | exact held_z1 | exact held_s | exact (fun _ h => by cases h)⟩, ?_⟩
              refine p_only rfl rfl ?_
              refine o_slice1 Go.Proofs.Tryd.underlying46 ti31 (by decide) (by decide) rfl rfl (C := [_, _, _, _, _, _, _, _, _, _, _, _, _, _, _]) rfl rfl (fun b63 => ?_)
              refine o_nil ?_
              refine ⟨.inr ⟨hE, by first | exact fun _ h => h | exact fun _ h => .tail _ h | exact fun _ h => .tail _ (.tail _ h) | exact fun _ h => .tail _ (.tail _ (.tail _ h)) | exact held_0 | exact held_1 | exact held_2 | exact held_z0 | exact held_z1 | exact held_s | exact (fun _ h => by cases h)⟩, ?_⟩
              refine p_only rfl rfl ?_
              refine o_append Go.Proofs.Tryd.underlying46 ti31 rfl (by decide) rfl l3 rfl (At.all (by repeat (first | assumption | exact .z | apply In.s | apply In.a))) rfl w62 (by omega) (by omega) (by repeat (first | exact .o | exact .z | exact .e | apply Hole.s | apply Hole.g)) (fun v64 R64 j64 => ?_)
              refine o_nil ?_
              obtain ⟨p64, c64, rfl⟩ := j64.shape
              refine ⟨.inr ⟨hE, by first | exact fun _ h => h | exact fun _ h => .tail _ h | exact fun _ h => .tail _ (.tail _ h) | exact fun _ h => .tail _ (.tail _ (.tail _ h)) | exact held_0 | exact held_1 | exact held_2 | exact held_z0 | exact held_z1 | exact held_s | exact (fun _ h => by cases h)⟩, ?_⟩
              refine p_take rfl rfl (y_fieldAddr fd48_1 ti46 (by decide) rfl) ?_
              refine p_only rfl rfl ?_
              refine o_store (u := [_]) (C' := [_, _]) ti46 rfl rfl rfl rfl (by first | rfl | assumption | (simp only [ones, List.all_cons, List.all_nil, Bool.and_true, one_of (by assumption)]; done)) (by repeat (first | exact .z | apply Upd.s | apply Upd.a)) (by exact Nat.le_of_ble_eq_true rfl) (by rfl) ?_
              refine o_nil ?_
              refine ⟨.inl rfl, ?_⟩
              refine p_nil ?_
              refine x_region rfl ?_
              refine o_y (y_addN rfl rfl (by omega) (by omega)) ?_
              refine o_y (y_move rfl) ?_
              refine o_nil ?_
              exact ⟨(m + 1, H7, .slice p64 (m + 1) c64, _, R64), 2, rfl, (.c rfl (.c rfl (.c rfl (.c rfl (.c rfl (.c rfl (.c rfl (.c rfl (.c rfl (.c rfl (.c rfl (.c rfl .n)))))))))))), rfl, ⟨by omega, l2.trans x62, j64, by rw [take_next hm]; exact (l4.mono x62).snoc ⟨_, _, _, _, _, rfl, r62⟩⟩, by simp only; omega⟩
            · try simp only [k1, k2, k3, k4, k5, k6, k7, k8, k9] at hc4
              refine x_exit ?_
              obtain rfl : m = xs[k].commits.length := by omega
              obtain ⟨pa, ca, rfl⟩ := l3.shape
              rw [List.take_length] at l4
              refine x_region rfl ?_
              refine o_y (y_move rfl) ?_
              refine o_y (y_loadA ti48 rfl (by repeat (first | assumption | exact .z | apply In.s | apply In.a)) rfl) ?_
              refine o_slice1 Go.Proofs.Tryd.underlying22 ti48 (by decide) (by decide) rfl rfl (C := [_, _]) rfl rfl (fun b69 => ?_)
              refine o_append Go.Proofs.Tryd.underlying22 ti48 rfl (by decide) rfl i3 rfl (At.all (by repeat (first | assumption | exact .z | apply In.s | apply In.a))) rfl rfl (by omega) (by omega) (by repeat (first | exact .o | exact .z | exact .e | apply Hole.s | apply Hole.g)) (fun v70 R70 j70 => ?_)
              refine o_y (y_assign rfl) ?_
              refine o_nil ?_
              refine x_pick (O' := (Ra ++ Rs) ++ (R70 ++ _)) (.cons _ (by rw [List.append_assoc]; exact (List.Sublist.refl Ra).append (.cons _ (.cons _ (List.Sublist.refl _))))) ?_
              refine x_region rfl ?_
              refine o_y (y_addN rfl rfl (by omega) (by omega)) ?_
              refine o_y (y_move rfl) ?_
              refine o_nil ?_
              exact ⟨(k + 1, H6, v70, _, R70, Ra ++ Rs), 0, rfl, (.c rfl (.c rfl (.c rfl (.c rfl (.c rfl (.c rfl (.c rfl (.c rfl .n)))))))), rfl, ⟨by omega, i2.trans l2, j70, by rw [take_next hkk]; exact OwnLs.c (i4.mono l2) q47_0 l3 l4 (by omega)⟩, by simp only; omega⟩
          · try simp only [k1, k2, k3, k4, k5, k6, k7, k8, k9] at hc3
            refine x_exit ?_
            refine x_seq ?_
            refine x_seq ?_
            obtain rfl : k = xs.length := by omega
            rw [List.take_length] at i4
            refine x_region rfl ?_
            refine o_y (y_move rfl) ?_
            refine o_y (y_not rfl) ?_
            refine o_nil ?_
            refine x_cond rfl (fun hc5 => ?_) (fun hc5 => ?_)
            · try simp only [k1, k2, k3, k4, k5, k6, k7, k8, k9] at hc5
              have hf : foundB xs c.group = false := by assumption
              refine x_freezeP (S := Rs) (O' := R9 ++ _) (List.Perm.refl _) (fun H9 hX9 hI9 => ?_)
              have el := i4.el hX9 hI9
              refine x_region rfl ?_
              refine o_y (y_move rfl) ?_
              refine o_y (y_move rfl) ?_
              refine o_y (y_fieldAddr fd31_0 ti3 (by decide) rfl) ?_
              refine o_y (y_loadO ti3 rfl (by repeat (first | assumption | exact .z | apply In.s | apply In.a)) rfl) ?_
              refine o_y (y_buildS bt48 rfl (C := [_, _]) rfl) ?_
              refine o_slice1 Go.Proofs.Tryd.underlying22 ti48 (by decide) (by decide) rfl rfl (C := [_, _]) rfl rfl (fun b79 => ?_)
              refine o_call fn25 rfl (insert_log i3 hPle' (by omega) rfl rfl el.one .z) ?_
              rintro v9 _ _ ⟨rfl, R9, rfl, j80⟩
              refine o_y (y_assign rfl) ?_
              refine o_nil ?_
              obtain ⟨Rq, hRq⟩ : ∃ Rq : OL, Rq = [] := ⟨_, rfl⟩
              refine x_pick (O' := Rq ++ (R9 ++ _)) (by subst hRq; exact .cons _ (List.Sublist.refl _)) ?_
              obtain ⟨N, A, D, gq, vq, csq, cq, LA, LD, hN, hN2, jb, hA, hgq, jq, ecq, hcq, eA, eD, hfin⟩ : ∃ (N : Nat) (A D : List Value) (gq : Int) (vq : Value) (csq : List Value) (cq : List Commit) (LA LD : List Log), P < N ∧ N ≤ 17 ∧ Row v9 N (A ++ [.int .i64 gq, vq] ++ D) 48 2 R9 ∧ A.length = P * 2 ∧ gq = c.group ∧ Row vq cq.length csq 31 15 Rq ∧ El H9 csq cq ∧ cq.length ≤ 1000000 ∧ El H9 A LA ∧ El H9 D LD ∧ appLogs xs c = LA ++ [⟨gq, cq ++ [c]⟩] ++ LD :=
                ⟨xs.length + 1, _, _, c.group, _, [], [], xs.take P, xs.drop P, by omega, by omega, j80, by have := i4.len; rw [List.length_take]; omega, rfl, by rw [hRq]; exact Row.nil _ _, .n, by simp, (el.parts P hPle').1, (el.parts P hPle').2, by
                  rw [appLogs, if_pos hae, if_neg (by rw [hf]; simp), ← hP, List.nil_append]⟩
              have xE := i2.trans hX9
              refine x_seq ?_
              refine x_regionPs _ held_0 [(0, true), (1, true), (2, true), (3, true), (4, true), (5, true), (6, true), (7, true), (8, false), (9, false), (10, false), (11, false), (12, true), (13, false)] [0, 1, 2, 3, 4, 5, 6, 7, 12] [13] mixed (by kernel_rfl) (by repeat (first | exact np_fn | apply np_then | apply np_block)) ?_
              have hE := Ext.refl H9
              have s9 := jb.sl (by omega)
              have hjl := jb.len
              have aq : AtS H9 R9 v9 (_ * 2) [.int .i64 gq, vq] := jb.at (fun p hp => hp) (by omega) (fun i u hu => by
                rw [List.append_assoc, ← hA, List.getElem?_append_right (by omega), Nat.add_sub_cancel_left, List.getElem?_append_left (List.getElem?_eq_some_iff.1 hu).1]; exact hu)
              refine p_take rfl rfl (y_move rfl) ?_
              refine p_take rfl rfl (y_move rfl) ?_
              refine p_take rfl rfl (y_move rfl) ?_
              refine p_take rfl rfl (y_move rfl) ?_
              refine p_take rfl rfl (y_idxR jb _ hN Go.Proofs.Tryd.underlying22 ti48 rfl rfl rfl) ?_
              refine p_take rfl rfl (y_fieldAddrP fd48_1 ti46 (by decide) (by assumption) rfl) ?_
              refine p_take rfl rfl (y_loadS1 ti46 rfl (AtS.sub (by assumption) (fun p hp => by repeat (first | exact hp | exact List.mem_append_left _ hp | apply List.mem_cons_of_mem | apply List.mem_append_right))) rfl) ?_
              refine p_take rfl rfl (y_loadA ti31 rfl (by repeat (first | assumption | exact .z | apply In.s | apply In.a)) rfl) ?_
              refine p_only rfl rfl ?_
              refine o_call fn24 rfl (copied_ok (Rep.mono xE hk)) ?_
              rintro v89 H10 _ ⟨x89, rfl, cs89, rfl, r89⟩
              refine o_nil ?_
              replace hE := hE.trans x89
              have w89 := Rep.one r89
              obtain ⟨d6, d7, d8, d9, d12, rfl, r89⟩ := r89
              refine ⟨.inr ⟨hE, by first | exact fun _ h => h | exact fun _ h => .tail _ h | exact fun _ h => .tail _ (.tail _ h) | exact fun _ h => .tail _ (.tail _ (.tail _ h)) | exact held_0 | exact held_1 | exact held_2 | exact held_z0 | exact held_z1 | exact held_s | exact (fun _ h => by cases h)⟩, ?_⟩
              refine p_only rfl rfl ?_
              refine o_slice1 Go.Proofs.Tryd.underlying46 ti31 (by decide) (by decide) rfl rfl (C := [_, _, _, _, _, _, _, _, _, _, _, _, _, _, _]) rfl rfl (fun b90 => ?_)
              refine o_nil ?_
              refine ⟨.inr ⟨hE, by first | exact fun _ h => h | exact fun _ h => .tail _ h | exact fun _ h => .tail _ (.tail _ h) | exact fun _ h => .tail _ (.tail _ (.tail _ h)) | exact held_0 | exact held_1 | exact held_2 | exact held_z0 | exact held_z1 | exact held_s | exact (fun _ h => by cases h)⟩, ?_⟩
              refine p_only rfl rfl ?_
              refine o_append Go.Proofs.Tryd.underlying46 ti31 rfl (by decide) rfl jq rfl (At.all (by repeat (first | assumption | exact .z | apply In.s | apply In.a))) rfl w89 (by omega) (by omega) (by repeat (first | exact .o | exact .z | exact .e | apply Hole.s | apply Hole.g)) (fun v91 R91 j91 => ?_)
              refine o_nil ?_
              obtain ⟨p91, c91, rfl⟩ := j91.shape
              refine ⟨.inr ⟨hE, by first | exact fun _ h => h | exact fun _ h => .tail _ h | exact fun _ h => .tail _ (.tail _ h) | exact fun _ h => .tail _ (.tail _ (.tail _ h)) | exact held_0 | exact held_1 | exact held_2 | exact held_z0 | exact held_z1 | exact held_s | exact (fun _ h => by cases h)⟩, ?_⟩
              refine p_only rfl rfl ?_
              refine o_y (y_idxR jb _ hN Go.Proofs.Tryd.underlying22 ti48 rfl rfl rfl) ?_
              refine o_nil ?_
              refine ⟨.inr ⟨hE, by first | exact fun _ h => h | exact fun _ h => .tail _ h | exact fun _ h => .tail _ (.tail _ h) | exact fun _ h => .tail _ (.tail _ (.tail _ h)) | exact held_0 | exact held_1 | exact held_2 | exact held_z0 | exact held_z1 | exact held_s | exact (fun _ h => by cases h)⟩, ?_⟩
              refine p_take rfl rfl (y_fieldAddrP fd48_1 ti46 (by decide) (by assumption) rfl) ?_
              refine p_only rfl rfl ?_
              refine o_storeS (u := [_]) ti46 rfl rfl jb rfl rfl (by first | rfl | assumption | (simp only [ones, List.all_cons, List.all_nil, Bool.and_true, one_of (by assumption)]; done)) (by omega) (by omega) (by repeat (first | exact .o | exact .z | exact .e | apply Hole.s | apply Hole.g)) (fun R22_13 j22_13 => ?_)
              refine o_nil ?_
              refine ⟨.inl rfl, ?_⟩
              refine p_nil ?_
              refine x_seq ?_
              refine x_region rfl ?_
              refine o_y (y_move rfl) ?_
              refine o_y (y_assign rfl) ?_
              refine o_y (y_assign rfl) ?_
              refine o_nil ?_
              rw [putC_mid hA (by exact Nat.le_of_ble_eq_true rfl)] at j22_13
              refine x_pick (O' := (R91 ++ R22_13) ++ O) (.cons _ (by rw [List.append_assoc]; exact (List.Sublist.refl R91).append ((List.Sublist.refl R22_13).append (.cons _ (List.Sublist.refl _))))) ?_
              refine x_freezeP (S := R91 ++ R22_13) (O' := O) (List.Perm.refl _) (fun H11 hX11 hI11 => ?_)
              refine x_ret ?_
              refine x_fin 0 (ret2 rfl rfl rfl) ?_
              have xF := x89.trans hX11
              rw [hae]
              refine ⟨xE.trans xF, rfl, _, rfl, ?_⟩
              have eq1 : El H11 _ (cq ++ [c]) := ((ecq.mono x89).mono hX11).append (El.one1 (Rep.mono hX11 (show Rep.rd H10 _ c from ⟨_, _, _, _, _, rfl, r89⟩)))
              have rq := Row.inH j91 (by simp) eq1 (by have e : Rep.bytes Commit = 200 := rfl; rw [e]; simp; omega) (fun b o hm => hI11 b o (by simp [hm]))
              have e2 : N = (LA ++ [(⟨gq, cq ++ [c]⟩ : Log)] ++ LD).length := by
                have h1 := jb.len
                have h2 := eA.len
                have h3 := eD.len
                have e : Rep.sz Log = 2 := rfl
                rw [e] at h2 h3
                simp only [List.length_append, List.length_cons, List.length_nil] at h1 ⊢
                omega
              rw [hfin]
              refine Row.inH j22_13 e2 (((eA.mono xF).snoc (x := (⟨gq, cq ++ [c]⟩ : Log)) ⟨_, rfl, by show InR gq; rw [hgq]; exact h0, rq⟩).append (eD.mono xF)) (by rw [← e2]; have e : Rep.bytes Log = 32 := rfl; rw [e]; omega) (fun b o hm => hI11 b o (by simp [hm]))
            · try simp only [k1, k2, k3, k4, k5, k6, k7, k8, k9] at hc5
              have hf : foundB xs c.group = true := by assumption
              have hPl := (of_decide_eq_true hf).1
              have hPg := (of_decide_eq_true hf).2
              rw [← hP] at hPl hPg
              rw [grpAt_eq hPl] at hPg
              obtain ⟨A, D, vq, csq, Rq, Rr, z1, hA, z3, z4, z5, z6, z7, z8⟩ := i4.split P hPl
              refine x_freezeP (S := Rr) (O' := Rq ++ (R9 ++ _)) ((z3.append_right _).trans (by rw [List.append_assoc])) (fun H9 hX9 hI9 => ?_)
              obtain ⟨z9, z10⟩ := z8 H9 hX9 hI9
              have hsP := hsm _ (List.getElem_mem hPl)
              obtain ⟨N, A, D, gq, vq, csq, cq, LA, LD, hN, hN2, jb, hA, hgq, jq, ecq, hcq, eA, eD, hfin⟩ : ∃ (N : Nat) (A D : List Value) (gq : Int) (vq : Value) (csq : List Value) (cq : List Commit) (LA LD : List Log), P < N ∧ N ≤ 17 ∧ Row v9 N (A ++ [.int .i64 gq, vq] ++ D) 48 2 R9 ∧ A.length = P * 2 ∧ gq = c.group ∧ Row vq cq.length csq 31 15 Rq ∧ El H9 csq cq ∧ cq.length ≤ 1000000 ∧ El H9 A LA ∧ El H9 D LD ∧ appLogs xs c = LA ++ [⟨gq, cq ++ [c]⟩] ++ LD :=
                ⟨xs.length, A, D, xs[P].group, vq, csq, xs[P].commits, _, _, hPl, by omega, by rw [← z1]; exact i3, hA, hPg, z5, z6.mono hX9, hsP, z9, z10, by
                  rw [appLogs, if_pos hae, if_pos hf, ← hP, logAt_eq hPl, hPg]⟩
              have xE := i2.trans hX9
              refine x_skip ?_
              refine x_seq ?_
              refine x_regionPs _ held_0 [(0, true), (1, true), (2, true), (3, true), (4, true), (5, true), (6, true), (7, true), (8, false), (9, false), (10, false), (11, false), (12, true), (13, false)] [0, 1, 2, 3, 4, 5, 6, 7, 12] [13] mixed (by kernel_rfl) (by repeat (first | exact np_fn | apply np_then | apply np_block)) ?_
              have hE := Ext.refl H9
              have s9 := jb.sl (by omega)
              have hjl := jb.len
              have aq : AtS H9 R9 v9 (_ * 2) [.int .i64 gq, vq] := jb.at (fun p hp => hp) (by omega) (fun i u hu => by
                rw [List.append_assoc, ← hA, List.getElem?_append_right (by omega), Nat.add_sub_cancel_left, List.getElem?_append_left (List.getElem?_eq_some_iff.1 hu).1]; exact hu)
              refine p_take rfl rfl (y_move rfl) ?_
              refine p_take rfl rfl (y_move rfl) ?_
              refine p_take rfl rfl (y_move rfl) ?_
              refine p_take rfl rfl (y_move rfl) ?_
              refine p_take rfl rfl (y_idxR jb _ hN Go.Proofs.Tryd.underlying22 ti48 rfl rfl rfl) ?_
              refine p_take rfl rfl (y_fieldAddrP fd48_1 ti46 (by decide) (by assumption) rfl) ?_
              refine p_take rfl rfl (y_loadS1 ti46 rfl (AtS.sub (by assumption) (fun p hp => by repeat (first | exact hp | exact List.mem_append_left _ hp | apply List.mem_cons_of_mem | apply List.mem_append_right))) rfl) ?_
              refine p_take rfl rfl (y_loadA ti31 rfl (by repeat (first | assumption | exact .z | apply In.s | apply In.a)) rfl) ?_
              refine p_only rfl rfl ?_
              refine o_call fn24 rfl (copied_ok (Rep.mono xE hk)) ?_
              rintro v89 H10 _ ⟨x89, rfl, cs89, rfl, r89⟩
              refine o_nil ?_
              replace hE := hE.trans x89
              have w89 := Rep.one r89
              obtain ⟨d6, d7, d8, d9, d12, rfl, r89⟩ := r89
              refine ⟨.inr ⟨hE, by first | exact fun _ h => h | exact fun _ h => .tail _ h | exact fun _ h => .tail _ (.tail _ h) | exact fun _ h => .tail _ (.tail _ (.tail _ h)) | exact held_0 | exact held_1 | exact held_2 | exact held_z0 | exact held_z1 | exact held_s | exact (fun _ h => by cases h)⟩, ?_⟩
              refine p_only rfl rfl ?_
              refine o_slice1 Go.Proofs.Tryd.underlying46 ti31 (by decide) (by decide) rfl rfl (C := [_, _, _, _, _, _, _, _, _, _, _, _, _, _, _]) rfl rfl (fun b90 => ?_)
              refine o_nil ?_
              refine ⟨.inr ⟨hE, by first | exact fun _ h => h | exact fun _ h => .tail _ h | exact fun _ h => .tail _ (.tail _ h) | exact fun _ h => .tail _ (.tail _ (.tail _ h)) | exact held_0 | exact held_1 | exact held_2 | exact held_z0 | exact held_z1 | exact held_s | exact (fun _ h => by cases h)⟩, ?_⟩
              refine p_only rfl rfl ?_
              refine o_append Go.Proofs.Tryd.underlying46 ti31 rfl (by decide) rfl jq rfl (At.all (by repeat (first | assumption | exact .z | apply In.s | apply In.a))) rfl w89 (by omega) (by omega) (by repeat (first | exact .o | exact .z | exact .e | apply Hole.s | apply Hole.g)) (fun v91 R91 j91 => ?_)
              refine o_nil ?_
              obtain ⟨p91, c91, rfl⟩ := j91.shape
              refine ⟨.inr ⟨hE, by first | exact fun _ h => h | exact fun _ h => .tail _ h | exact fun _ h => .tail _ (.tail _ h) | exact fun _ h => .tail _ (.tail _ (.tail _ h)) | exact held_0 | exact held_1 | exact held_2 | exact held_z0 | exact held_z1 | exact held_s | exact (fun _ h => by cases h)⟩, ?_⟩
              refine p_only rfl rfl ?_
              refine o_y (y_idxR jb _ hN Go.Proofs.Tryd.underlying22 ti48 rfl rfl rfl) ?_
              refine o_nil ?_
              refine ⟨.inr ⟨hE, by first | exact fun _ h => h | exact fun _ h => .tail _ h | exact fun _ h => .tail _ (.tail _ h) | exact fun _ h => .tail _ (.tail _ (.tail _ h)) | exact held_0 | exact held_1 | exact held_2 | exact held_z0 | exact held_z1 | exact held_s | exact (fun _ h => by cases h)⟩, ?_⟩
              refine p_take rfl rfl (y_fieldAddrP fd48_1 ti46 (by decide) (by assumption) rfl) ?_
              refine p_only rfl rfl ?_
              refine o_storeS (u := [_]) ti46 rfl rfl jb rfl rfl (by first | rfl | assumption | (simp only [ones, List.all_cons, List.all_nil, Bool.and_true, one_of (by assumption)]; done)) (by omega) (by omega) (by repeat (first | exact .o | exact .z | exact .e | apply Hole.s | apply Hole.g)) (fun R22_13 j22_13 => ?_)
              refine o_nil ?_
              refine ⟨.inl rfl, ?_⟩
              refine p_nil ?_
              refine x_seq ?_
              refine x_region rfl ?_
              refine o_y (y_move rfl) ?_
              refine o_y (y_assign rfl) ?_
              refine o_y (y_assign rfl) ?_
              refine o_nil ?_
              rw [putC_mid hA (by exact Nat.le_of_ble_eq_true rfl)] at j22_13
              refine x_pick (O' := (R91 ++ R22_13) ++ O) (.cons _ (by rw [List.append_assoc]; exact (List.Sublist.refl R91).append ((List.Sublist.refl R22_13).append (.cons _ (List.Sublist.refl _))))) ?_
              refine x_freezeP (S := R91 ++ R22_13) (O' := O) (List.Perm.refl _) (fun H11 hX11 hI11 => ?_)
              refine x_ret ?_
              refine x_fin 0 (ret2 rfl rfl rfl) ?_
              have xF := x89.trans hX11
              rw [hae]
              refine ⟨xE.trans xF, rfl, _, rfl, ?_⟩
              have eq1 : El H11 _ (cq ++ [c]) := ((ecq.mono x89).mono hX11).append (El.one1 (Rep.mono hX11 (show Rep.rd H10 _ c from ⟨_, _, _, _, _, rfl, r89⟩)))
              have rq := Row.inH j91 (by simp) eq1 (by have e : Rep.bytes Commit = 200 := rfl; rw [e]; simp; omega) (fun b o hm => hI11 b o (by simp [hm]))
              have e2 : N = (LA ++ [(⟨gq, cq ++ [c]⟩ : Log)] ++ LD).length := by
                have h1 := jb.len
                have h2 := eA.len
                have h3 := eD.len
                have e : Rep.sz Log = 2 := rfl
                rw [e] at h2 h3
                simp only [List.length_append, List.length_cons, List.length_nil] at h1 ⊢
                omega
              rw [hfin]
              refine Row.inH j22_13 e2 (((eA.mono xF).snoc (x := (⟨gq, cq ++ [c]⟩ : Log)) ⟨_, rfl, by show InR gq; rw [hgq]; exact h0, rq⟩).append (eD.mono xF)) (by rw [← e2]; have e : Rep.bytes Log = 32 := rfl; rw [e]; omega) (fun b o hm => hI11 b o (by simp [hm]))
end Go.Ph
