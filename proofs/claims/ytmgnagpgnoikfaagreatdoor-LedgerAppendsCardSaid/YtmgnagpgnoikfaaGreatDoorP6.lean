/- What the claim stands on, part 6. -/
import Derived.Test.YtmgnagpgnoikfaaGreatDoorP5
set_option linter.unusedVariables false
set_option linter.unusedSimpArgs false
set_option maxRecDepth 100000
namespace Go.Ph
open Go Go.RowKit Go.Proofs.YtmgnagpgnoikfaaGreatDoor Go.Proofs.Tryz
theorem append_own {B : World} {H : HM} {O : OL} {v : Value} {xs : List Log} {cs : List Value} {c : Commit} (hT : TabAt H) (h : RdL H v xs) (hc : Rep.rd H cs c) (hsm : ∀ x ∈ xs, x.commits.length ≤ 1000000) :
    CallsM prog 10 [v, .agg cs.toArray].toArray B H O (AppO (appErr xs c) (appLogs xs c) H O) := by
  have hk := hc
  have wk := Rep.one hc
  obtain ⟨u6, u7, u8, u9, u12, rfl, h0, h1, h2, h3, h4, h5, h6, h7, h8, h9, h10, h11, h12, h13⟩ := hc
  have hlc := errI_cases (lcheckB xs)
  have hsv := h.lenle
  obtain ⟨P, hP⟩ : ∃ P, P = placeN xs c.group := ⟨_, rfl⟩
  have hPle := (searchN_le (placeP xs c.group) 0 xs.length (by omega)).2
  change placeN xs c.group ≤ xs.length at hPle
  refine enter func10 rfl ntmps10 (l := [(0, _), (1, _)]) rfl rfl ?_
  refine x_seq ?_
  refine x_region rfl ?_
  refine o_box rfl (cs := [_, _, _, _, _, _, _, _, _, _, _, _, _, _, _]) rfl (fun b3 => ?_)
  refine o_y (y_assign rfl) ?_
  refine o_y (y_assign rfl) ?_
  refine o_nil ?_
  refine x_seq ?_
  refine x_seq ?_
  refine x_region rfl ?_
  refine o_y (y_move rfl) ?_
  refine o_call fn25 rfl (lcheck_ok hT h) ?_
  rintro _ _ _ ⟨rfl, rfl, rfl⟩
  refine o_y (y_neq rfl rfl) ?_
  refine o_y (y_move rfl) ?_
  refine o_split 17 rfl (fun hg1_17 => ?_) (fun hg1_17 => ?_)
  · try simp only [kk] at hg1_17
    refine o_gn 17 rfl rfl rfl ?_
    refine o_gn 17 rfl rfl rfl ?_
    refine o_gn 17 rfl rfl rfl ?_
    refine o_y (y_pick rfl rfl) ?_
    refine o_nil ?_
    refine x_condT rfl ?_
    refine x_seq ?_
    refine x_region rfl ?_
    refine o_y (y_assign rfl) ?_
    refine o_y (y_assign rfl) ?_
    refine o_nil ?_
    refine x_ret ?_
    refine x_fin 1 (ret2 rfl rfl rfl) ?_
    have e : appErr xs c = 1 := by
      rw [appErr, if_neg]
      rintro ⟨e1, e2⟩
      first
        | (rw [e1] at hlc; simp [errI] at hlc; omega)
        | simp_all
    rw [e, appLogs, e]
    exact ⟨rfl, [], _, Grew.refl _, rfl, OwL.nil _⟩
  try simp only [kk] at hg1_17
  refine o_gy 17 rfl rfl (y_loadA ti31 rfl inn rfl) ?_
  refine o_gcall 17 rfl rfl fn41 rfl (takeable_ok hT hk) ?_
  rintro _ _ _ ⟨rfl, rfl, rfl⟩
  refine o_gy 17 rfl rfl (y_not rfl) ?_
  refine o_y (y_pick rfl rfl) ?_
  refine o_nil ?_
  refine x_cond rfl (fun hc0 => ?_) (fun hc0 => ?_)
  · try simp only [kk] at hc0
    refine x_seq ?_
    refine x_region rfl ?_
    refine o_y (y_assign rfl) ?_
    refine o_y (y_assign rfl) ?_
    refine o_nil ?_
    refine x_ret ?_
    refine x_fin 1 (ret2 rfl rfl rfl) ?_
    have e : appErr xs c = 1 := by
      rw [appErr, if_neg]
      rintro ⟨e1, e2⟩
      first
        | (rw [e1] at hlc; simp [errI] at hlc; omega)
        | simp_all
    rw [e, appLogs, e]
    exact ⟨rfl, [], _, Grew.refl _, rfl, OwL.nil _⟩
  try simp only [kk] at hc0
  refine x_skip ?_
  refine x_seq ?_
  refine x_seq ?_
  refine x_regionQ mixed (by kernel_rfl) rfl ?_
  refine q_y (y_fieldAddr fd31_1 ti3 (by decide) rfl) ?_
  refine q_y (y_loadO ti3 rfl inn rfl) ?_
  refine q_y (y_move rfl) ?_
  refine q_y (y_fieldAddr fd31_0 ti3 (by decide) rfl) ?_
  refine q_y (y_loadO ti3 rfl inn rfl) ?_
  refine q_call fn27 rfl (len_ok hT h h0) ?_
  refine q_y (y_neq rfl rfl) ?_
  refine q_nil ?_
  refine x_cond rfl (fun hc1 => ?_) (fun hc1 => ?_)
  · try simp only [kk] at hc1
    refine x_seq ?_
    refine x_region rfl ?_
    refine o_y (y_assign rfl) ?_
    refine o_y (y_assign rfl) ?_
    refine o_nil ?_
    refine x_ret ?_
    refine x_fin 1 (ret2 rfl rfl rfl) ?_
    have e : appErr xs c = 10 := by
      rw [appErr, if_pos ⟨by rcases hlc with ⟨e1, e2⟩ | ⟨e1, e2⟩ <;> first | exact e1 | (exfalso; omega), by simp_all⟩, if_neg (by omega)]
    rw [e, appLogs, e]
    exact ⟨rfl, [], _, Grew.refl _, rfl, OwL.nil _⟩
  try simp only [kk] at hc1
  refine x_skip ?_
  refine x_seq ?_
  refine x_region rfl ?_
  refine o_y (y_move rfl) ?_
  refine o_y (y_fieldAddr fd31_0 ti3 (by decide) rfl) ?_
  refine o_y (y_loadO ti3 rfl inn rfl) ?_
  refine o_call fn42 rfl (place_ok h h0) ?_
  rintro _ _ _ ⟨rfl, rfl, rfl⟩
  refine o_y (y_move rfl) ?_
  refine o_y (y_extract rfl rfl) ?_
  refine o_y (y_extract rfl rfl) ?_
  refine o_y (y_assign rfl) ?_
  refine o_y (y_assign rfl) ?_
  refine o_nil ?_
  refine x_seq ?_
  refine x_seq ?_
  refine x_region rfl ?_
  refine o_y (y_move rfl) ?_
  refine o_y (y_not rfl) ?_
  refine o_y (y_move rfl) ?_
  refine o_split 38 rfl (fun hg6_38 => ?_) (fun hg6_38 => ?_)
  · try simp only [kk] at hg6_38
    refine o_gy 38 rfl rfl (y_move rfl) ?_
    first | refine o_gy 38 rfl rfl (y_lenL (by assumption) underlying22 rfl) ?_ | refine o_gy 38 rfl rfl (y_lenR (by assumption) underlying22 rfl) ?_ | refine o_gy 38 rfl rfl (y_len underlying22 rfl) ?_
    refine o_gy 38 rfl rfl (y_eql rfl rfl) ?_
    refine o_y (y_pick rfl rfl) ?_
    refine o_nil ?_
    refine x_cond rfl (fun hc2 => ?_) (fun hc2 => ?_)
    · try simp only [kk] at hc2
      refine x_seq ?_
      refine x_region rfl ?_
      refine o_y (y_assign rfl) ?_
      refine o_y (y_assign rfl) ?_
      refine o_nil ?_
      refine x_ret ?_
      refine x_fin 1 (ret2 rfl rfl rfl) ?_
      have e : appErr xs c = 3 := by
        rw [appErr, if_pos ⟨by rcases hlc with ⟨e1, e2⟩ | ⟨e1, e2⟩ <;> first | exact e1 | (exfalso; omega), by simp_all⟩, if_pos (by omega), if_pos ⟨by simp_all, by omega⟩]
      rw [e, appLogs, e]
      exact ⟨rfl, [], _, Grew.refl _, rfl, OwL.nil _⟩
    try simp only [kk] at hc2
    refine x_skip ?_
    refine x_seq ?_
    have hlcb : lcheckB xs = true := by rcases hlc with ⟨e1, e2⟩ | ⟨e1, e2⟩ <;> first | exact e1 | (exfalso; omega)
    have hn16 : xs.length ≤ 16 := by
      have := hlcb
      simp only [lcheckB, Bool.and_eq_true, decide_eq_true_eq] at this
      exact this.1
    have hae : appErr xs c = 0 := by
      rw [appErr, if_pos ⟨hlcb, by simp_all⟩, if_pos (by omega), if_neg]
      rintro ⟨e1, e2⟩
      first
        | omega
        | simp_all
    rw [← hP]
    have hPle' : P ≤ xs.length := by rw [hP]; exact hPle
    refine x_region rfl ?_
    refine o_y (y_assign rfl) ?_
    refine o_nil ?_
    refine x_seq ?_
    refine x_seq ?_
    refine x_region rfl ?_
    refine o_y (y_move rfl) ?_
    refine o_y (y_lenA underlying22 rfl) ?_
    refine o_y (y_move rfl) ?_
    refine o_nil ?_
    refine x_block ?_
    refine x_loopg (σ := Nat × HM × Value × List Value × OL × OL × List Nat) (fun s => [(45, .int .i64 (s.1 : Int)), (44, .int .i64 (xs.length : Int)), (43, v), (0, v), (8, s.2.2.1), (6, .int .i64 (P : Int)), (7, .bool (foundB xs c.group)), (3, .pointer (some ⟨b3, 0, none⟩))]) (fun s => s.2.1) (fun s => s.2.2.2.2.2.1 ++ (s.2.2.2.2.1 ++ _)) (fun s => s.1 ≤ xs.length ∧ Grew H s.2.1 s.2.2.2.2.2.2 ∧ Row s.2.2.1 s.1 s.2.2.2.1 95 2 s.2.2.2.2.1 ∧ OwnLF s.2.1 s.2.2.2.1 (xs.take s.1) s.2.2.2.2.2.1 s.2.2.2.2.2.2) (fun s => xs.length - s.1) (0, H, .slice none 0 0, [], [], [], []) ⟨by simp, Grew.refl _, Row.nil _ _, .n⟩ (.c rfl (.c rfl (.c rfl (.c rfl (.c rfl (.c rfl (.c rfl (.c rfl .n)))))))) rfl rfl ?_
    rintro ⟨k, H5, v9, cs9, R9, Rs, F9⟩ ⟨i1, i2, i3, i4⟩
    simp only at i1 i2 i3 i4
    refine x_seq ?_
    refine x_region rfl ?_
    refine o_y (y_lss rfl rfl) ?_
    refine o_nil ?_
    refine x_seq ?_
    refine x_cond rfl (fun hc3 => ?_) (fun hc3 => ?_)
    · try simp only [kk] at hc3
      have hkk : k < xs.length := by omega
      have hsk := hsm _ (List.getElem_mem hkk)
      have hv5 := h.mono i2.ext
      refine x_skip ?_
      refine x_seq ?_
      refine x_block ?_
      refine x_seq ?_
      refine x_region rfl ?_
      obtain ⟨ce47, ae47, re47⟩ := RdL.at hv5 _ k hkk
      have se47 := AtS.isSl ae47
      have te47 := re47
      obtain ⟨u47_1, z47, q47_0, q47_1⟩ := re47
      subst z47
      have w47 := Rep.one te47
      refine o_y (y_idxL hv5 k hkk underlying22 ti95 rfl rfl (by omega)) ?_
      refine o_y (y_loadS ti95 rfl (by assumption) rfl (fun e => by cases e)) ?_
      refine o_alloc ti95 rfl (fun b10 => ?_)
      refine o_store (u := [_, _]) (C' := [_, _]) ti95 rfl rfl rfl rfl (by first | rfl | assumption | (simp only [ones, List.all_cons, List.all_nil, Bool.and_true, one_of (by assumption)]; done)) (by repeat (first | exact .z | apply Upd.s | apply Upd.a)) (by exact Nat.le_of_ble_eq_true rfl) (by rfl) ?_
      refine o_nil ?_
      refine x_seq ?_
      refine x_region rfl ?_
      refine o_y (y_fieldAddr fd95_0 ti3 (by decide) rfl) ?_
      refine o_y (y_loadO ti3 rfl inn rfl) ?_
      refine o_y (y_buildS bt95 rfl (C := [_, _]) rfl) ?_
      refine o_alloc ti95 rfl (fun b11 => ?_)
      refine o_store (u := [_, _]) (C' := [_, _]) ti95 rfl rfl rfl rfl (by first | rfl | assumption | (simp only [ones, List.all_cons, List.all_nil, Bool.and_true, one_of (by assumption)]; done)) (by repeat (first | exact .z | apply Upd.s | apply Upd.a)) (by exact Nat.le_of_ble_eq_true rfl) (by rfl) ?_
      refine o_nil ?_
      refine x_seq ?_
      refine x_seq ?_
      refine x_region rfl ?_
      refine o_y (y_fieldAddr fd95_1 ti93 (by decide) rfl) ?_
      refine o_y (y_loadO ti93 rfl inn rfl) ?_
      refine o_y (y_lenA underlying93 rfl) ?_
      refine o_y (y_move rfl) ?_
      refine o_nil ?_
      refine x_block ?_
      refine x_loopg (σ := Nat × HM × Value × List Value × OL × List Nat) (fun s => [(55, .int .i64 (s.1 : Int)), (54, .int .i64 (xs[k].commits.length : Int)), (53, u47_1), (45, .int .i64 (k : Int)), (44, .int .i64 (xs.length : Int)), (43, v), (0, v), (8, v9), (6, .int .i64 (P : Int)), (7, .bool (foundB xs c.group)), (3, .pointer (some ⟨b3, 0, none⟩)), (11, .pointer (some ⟨b11, 0, none⟩))]) (fun s => s.2.1) (fun s => s.2.2.2.2.1 ++ ((b11, cl [.int .i64 xs[k].group, s.2.2.1] 95) :: _)) (fun s => s.1 ≤ xs[k].commits.length ∧ Grew H5 s.2.1 s.2.2.2.2.2 ∧ Row s.2.2.1 s.1 s.2.2.2.1 31 15 s.2.2.2.2.1 ∧ ElO false s.2.1 s.2.2.2.1 (xs[k].commits.take s.1) s.2.2.2.2.2) (fun s => xs[k].commits.length - s.1) (0, H5, .slice none 0 0, [], [], []) ⟨by simp, Grew.refl _, Row.nil _ _, .n⟩ (.c rfl (.c rfl (.c rfl (.c rfl (.c rfl (.c rfl (.c rfl (.c rfl (.c rfl (.c rfl (.c rfl (.c rfl .n)))))))))))) rfl rfl ?_
      rintro ⟨m, H6, va, csa, Ra, Fa⟩ ⟨l1, l2, l3, l4⟩
      simp only at l1 l2 l3 l4
      refine x_seq ?_
      refine x_region rfl ?_
      refine o_y (y_lss rfl rfl) ?_
      refine o_nil ?_
      refine x_seq ?_
      refine x_cond rfl (fun hc4 => ?_) (fun hc4 => ?_)
      · try simp only [kk] at hc4
        have hm : m < xs[k].commits.length := by omega
        have hq5 := q47_1.mono l2.ext
        refine x_skip ?_
        refine x_seq ?_
        refine x_block ?_
        refine x_seq ?_
        refine x_region rfl ?_
        obtain ⟨ce57, ae57, re57⟩ := RdL.at hq5 _ m hm
        have se57 := AtS.isSl ae57
        have te57 := re57
        obtain ⟨u57_6, u57_7, u57_8, u57_9, u57_12, z57, q57_0, q57_1, q57_2, q57_3, q57_4, q57_5, q57_6, q57_7, q57_8, q57_9, q57_10, q57_11, q57_12, q57_13⟩ := re57
        subst z57
        have w57 := Rep.one te57
        refine o_y (y_idxL hq5 m hm underlying93 ti31 rfl rfl (by omega)) ?_
        refine o_y (y_loadS ti31 rfl (by assumption) rfl (fun e => by cases e)) ?_
        refine o_alloc ti31 rfl (fun b13 => ?_)
        refine o_store (u := [_, _, _, _, _, _, _, _, _, _, _, _, _, _, _]) (C' := [_, _, _, _, _, _, _, _, _, _, _, _, _, _, _]) ti31 rfl rfl rfl rfl (by first | rfl | assumption | (simp only [ones, List.all_cons, List.all_nil, Bool.and_true, one_of (by assumption)]; done)) (by repeat (first | exact .z | apply Upd.s | apply Upd.a)) (by exact Nat.le_of_ble_eq_true rfl) (by rfl) ?_
        refine o_nil ?_
        refine x_regionPs _ held_1 [(0, true), (1, true), (2, true), (3, false), (4, false), (5, false), (6, true), (7, false)] [0, 1, 2, 6] [7] mixed (by kernel_rfl) npa ?_
        have hE := Ext.refl H6
        refine p_take rfl rfl (y_fieldAddr fd95_1 ti93 (by decide) rfl) ?_
        refine p_take rfl rfl (y_loadO ti93 rfl inn rfl) ?_
        refine p_take rfl rfl (y_loadA ti31 rfl inn rfl) ?_
        refine p_only rfl rfl ?_
        refine o_call fn43 rfl (copied_own te57) ?_
        rintro v62 H7 _ ⟨rfl, F62, cs62, x62, rfl, r62⟩
        refine o_nil ?_
        replace hE := hE.trans x62.ext
        have w62 := Rep.one (Own.ow_rd r62)
        obtain ⟨d6, d7, d8, d9, d12, f6, f7, f8, f9, f12, rfl, r62⟩ := r62
        refine ⟨.inr ⟨hE, hld⟩, ?_⟩
        refine p_only rfl rfl ?_
        refine o_slice1 underlying93 ti31 (by decide) (by decide) rfl rfl (C := [_, _, _, _, _, _, _, _, _, _, _, _, _, _, _]) rfl rfl (fun b63 => ?_)
        refine o_nil ?_
        refine ⟨.inr ⟨hE, hld⟩, ?_⟩
        refine p_only rfl rfl ?_
        refine o_append underlying93 ti31 rfl (by decide) rfl l3 rfl (At.all inn) rfl w62 (by omega) (by omega) hol (fun v64 R64 j64 => ?_)
        refine o_nil ?_
        obtain ⟨p64, c64, rfl⟩ := j64.shape
        refine ⟨.inr ⟨hE, hld⟩, ?_⟩
        refine p_take rfl rfl (y_fieldAddr fd95_1 ti93 (by decide) rfl) ?_
        refine p_only rfl rfl ?_
        refine o_store (u := [_]) (C' := [_, _]) ti93 rfl rfl rfl rfl (by first | rfl | assumption | (simp only [ones, List.all_cons, List.all_nil, Bool.and_true, one_of (by assumption)]; done)) (by repeat (first | exact .z | apply Upd.s | apply Upd.a)) (by exact Nat.le_of_ble_eq_true rfl) (by rfl) ?_
        refine o_nil ?_
        refine ⟨.inl rfl, ?_⟩
        refine p_nil ?_
        refine x_region rfl ?_
        refine o_y (y_addN rfl rfl (by omega) (by omega)) ?_
        refine o_y (y_move rfl) ?_
        refine o_nil ?_
        exact ⟨(m + 1, H7, .slice p64 (m + 1) c64, _, R64, Fa ++ F62), 2, rfl, (.c rfl (.c rfl (.c rfl (.c rfl (.c rfl (.c rfl (.c rfl (.c rfl (.c rfl (.c rfl (.c rfl (.c rfl .n)))))))))))), rfl, ⟨by omega, l2.trans x62, j64, by rw [take_next hm]; exact (l4.mono x62.ext).snoc ⟨_, _, _, _, _, _, _, _, _, _, rfl, r62⟩⟩, by simp only; omega⟩
      try simp only [kk] at hc4
      refine x_exit ?_
      obtain rfl : m = xs[k].commits.length := by omega
      obtain ⟨pa, ca, rfl⟩ := l3.shape
      rw [List.take_length] at l4
      refine x_region rfl ?_
      refine o_y (y_move rfl) ?_
      refine o_y (y_loadA ti95 rfl inn rfl) ?_
      refine o_slice1 underlying22 ti95 (by decide) (by decide) rfl rfl (C := [_, _]) rfl rfl (fun b69 => ?_)
      refine o_append underlying22 ti95 rfl (by decide) rfl i3 rfl (At.all inn) rfl rfl (by omega) (by omega) hol (fun v70 R70 j70 => ?_)
      refine o_y (y_assign rfl) ?_
      refine o_nil ?_
      refine x_pick (O' := (Ra ++ Rs) ++ (R70 ++ _)) (.cons _ (by rw [List.append_assoc]; exact (List.Sublist.refl Ra).append (.cons _ (.cons _ (List.Sublist.refl _))))) ?_
      refine x_region rfl ?_
      refine o_y (y_addN rfl rfl (by omega) (by omega)) ?_
      refine o_y (y_move rfl) ?_
      refine o_nil ?_
      exact ⟨(k + 1, H6, v70, _, R70, Ra ++ Rs, F9 ++ Fa), 0, rfl, (.c rfl (.c rfl (.c rfl (.c rfl (.c rfl (.c rfl (.c rfl (.c rfl .n)))))))), rfl, ⟨by omega, i2.trans l2, j70, by rw [take_next hkk]; exact OwnLF.c (i4.mono l2.ext) q47_0 l3 l4 (by omega)⟩, by simp only; omega⟩
    try simp only [kk] at hc3
    refine x_exit ?_
    refine x_seq ?_
    refine x_seq ?_
    obtain rfl : k = xs.length := by omega
    rw [List.take_length] at i4
    refine x_region rfl ?_
    refine o_y (y_move rfl) ?_
    refine o_y (y_not rfl) ?_
    refine o_nil ?_
    refine x_cond rfl (fun hc5 => ?_) (fun hc5 => ?_)
    · try simp only [kk] at hc5
      have hf : foundB xs c.group = false := by assumption
      refine x_freezeG (S := Rs) (O' := R9 ++ _) (List.Perm.refl _) (fun H9 g9 hI9 => ?_)
      obtain ⟨G, el, hG⟩ := i4.el g9.ext hI9
      refine x_region rfl ?_
      refine o_y (y_move rfl) ?_
      refine o_y (y_move rfl) ?_
      refine o_y (y_fieldAddr fd31_0 ti3 (by decide) rfl) ?_
      refine o_y (y_loadO ti3 rfl inn rfl) ?_
      refine o_y (y_buildS bt95 rfl (C := [_, _]) rfl) ?_
      refine o_slice1 underlying22 ti95 (by decide) (by decide) rfl rfl (C := [_, _]) rfl rfl (fun b79 => ?_)
      refine o_call fn44 rfl (insert_log i3 hPle' (by omega) rfl rfl el.el.one .z) ?_
      rintro v9 _ _ ⟨rfl, R9, rfl, j80⟩
      refine o_y (y_assign rfl) ?_
      refine o_nil ?_
      obtain ⟨Rq, hRq⟩ : ∃ Rq : OL, Rq = [] := ⟨_, rfl⟩
      refine x_pick (O' := Rq ++ (R9 ++ _)) (by subst hRq; exact .cons _ (List.Sublist.refl _)) ?_
      obtain ⟨GA, GD, hGe, eA0, eD0⟩ := el.parts P hPle'
      obtain ⟨N, A, D, gq, vq, csq, cq, LA, LD, FA, FD, Fq, hN, hN2, jb, hA, hgq, jq, ecq, hcq, eA, eD, hfin, hgr⟩ : ∃ (N : Nat) (A D : List Value) (gq : Int) (vq : Value) (csq : List Value) (cq : List Commit) (LA LD : List Log) (FA FD Fq : List Nat), P < N ∧ N ≤ 17 ∧ Row v9 N (A ++ [.int .i64 gq, vq] ++ D) 95 2 R9 ∧ A.length = P * 2 ∧ gq = c.group ∧ Row vq cq.length csq 31 15 Rq ∧ ElO false H9 csq cq Fq ∧ cq.length ≤ 1000000 ∧ ElO false H9 A LA FA ∧ ElO false H9 D LD FD ∧ appLogs xs c = LA ++ [⟨gq, cq ++ [c]⟩] ++ LD ∧ Grew H H9 (FA ++ (FD ++ Fq)) :=
        ⟨xs.length + 1, _, _, c.group, _, [], [], xs.take P, xs.drop P, GA, GD, [], by omega, by omega, j80, by have := i4.len; rw [List.length_take]; omega, rfl, by rw [hRq]; exact Row.nil _ _, .n, by simp, eA0, eD0, by
          rw [appLogs, if_pos hae, if_neg (by rw [hf]; simp), ← hP, List.nil_append], (i2.trans g9).perm (by
          refine perm_count fun a => ?_
          have h1 := hG.count_eq a
          rw [hGe] at h1
          simp only [List.count_append, List.append_nil] at h1 ⊢
          omega)⟩
      refine x_seq ?_
      refine x_regionPs _ held_0 [(0, true), (1, true), (2, true), (3, true), (4, true), (5, true), (6, true), (7, true), (8, false), (9, false), (10, false), (11, false), (12, true), (13, false)] [0, 1, 2, 3, 4, 5, 6, 7, 12] [13] mixed (by kernel_rfl) npa ?_
      have hE := Ext.refl H9
      have s9 := jb.sl (by omega)
      have hjl := jb.len
      have aq : AtS H9 R9 v9 (_ * 2) [.int .i64 gq, vq] := jb.at (fun p hp => hp) (by omega) (fun i u hu => by
        rw [List.append_assoc, ← hA, List.getElem?_append_right (by omega), Nat.add_sub_cancel_left, List.getElem?_append_left (List.getElem?_eq_some_iff.1 hu).1]; exact hu)
      refine p_take rfl rfl (y_move rfl) ?_
      refine p_take rfl rfl (y_move rfl) ?_
      refine p_take rfl rfl (y_move rfl) ?_
      refine p_take rfl rfl (y_move rfl) ?_
      refine p_take rfl rfl (y_idxR jb _ hN underlying22 ti95 rfl rfl rfl) ?_
      refine p_take rfl rfl (y_fieldAddrP fd95_1 ti93 (by decide) (by assumption) rfl) ?_
      refine p_take rfl rfl (y_loadS1 ti93 rfl (AtS.sub (by assumption) (fun p hp => by repeat (first | exact hp | exact List.mem_append_left _ hp | apply List.mem_cons_of_mem | apply List.mem_append_right))) rfl) ?_
      refine p_take rfl rfl (y_loadA ti31 rfl inn rfl) ?_
      refine p_only rfl rfl ?_
      refine o_call fn43 rfl (copied_own (Rep.mono hgr.ext hk)) ?_
      rintro v89 H10 _ ⟨rfl, F89, cs89, x89, rfl, r89⟩
      refine o_nil ?_
      replace hE := hE.trans x89.ext
      have w89 := Rep.one (Own.ow_rd r89)
      obtain ⟨d6, d7, d8, d9, d12, f6, f7, f8, f9, f12, rfl, r89⟩ := r89
      refine ⟨.inr ⟨hE, hld⟩, ?_⟩
      refine p_only rfl rfl ?_
      refine o_slice1 underlying93 ti31 (by decide) (by decide) rfl rfl (C := [_, _, _, _, _, _, _, _, _, _, _, _, _, _, _]) rfl rfl (fun b90 => ?_)
      refine o_nil ?_
      refine ⟨.inr ⟨hE, hld⟩, ?_⟩
      refine p_only rfl rfl ?_
      refine o_append underlying93 ti31 rfl (by decide) rfl jq rfl (At.all inn) rfl w89 (by omega) (by omega) hol (fun v91 R91 j91 => ?_)
      refine o_nil ?_
      obtain ⟨p91, c91, rfl⟩ := j91.shape
      refine ⟨.inr ⟨hE, hld⟩, ?_⟩
      refine p_only rfl rfl ?_
      refine o_y (y_idxR jb _ hN underlying22 ti95 rfl rfl rfl) ?_
      refine o_nil ?_
      refine ⟨.inr ⟨hE, hld⟩, ?_⟩
      refine p_take rfl rfl (y_fieldAddrP fd95_1 ti93 (by decide) (by assumption) rfl) ?_
      refine p_only rfl rfl ?_
      refine o_storeS (u := [_]) ti93 rfl rfl jb rfl rfl (by first | rfl | assumption | (simp only [ones, List.all_cons, List.all_nil, Bool.and_true, one_of (by assumption)]; done)) (by omega) (by omega) hol (fun R22_13 j22_13 => ?_)
      refine o_nil ?_
      refine ⟨.inl rfl, ?_⟩
      refine p_nil ?_
      refine x_seq ?_
      refine x_region rfl ?_
      refine o_y (y_move rfl) ?_
      refine o_y (y_assign rfl) ?_
      refine o_y (y_assign rfl) ?_
      refine o_nil ?_
      rw [putC_mid hA (by exact Nat.le_of_ble_eq_true rfl)] at j22_13
      refine x_pick (O' := (R91 ++ R22_13) ++ O) (.cons _ (by rw [List.append_assoc]; exact (List.Sublist.refl R91).append ((List.Sublist.refl R22_13).append (.cons _ (List.Sublist.refl _))))) ?_
      refine x_freezeG (S := R91 ++ R22_13) (O' := O) (List.Perm.refl _) (fun H11 g11 hI11 => ?_)
      refine x_ret ?_
      refine x_fin 0 (ret2 rfl rfl rfl) ?_
      have xF := x89.ext.trans g11.ext
      rw [hae]
      have eq1 : ElO false H11 _ (cq ++ [c]) (Fq ++ F89) := ((ecq.mono x89.ext).mono g11.ext).snoc (Own.ow_mono g11.ext (show Own.ow false H10 _ c F89 from ⟨_, _, _, _, _, _, _, _, _, _, rfl, r89⟩))
      have rq := OwL.ofRow j91 (by simp) eq1 (fun b o hm => hI11 b o (by simp [hm])) (by have e : Rep.bytes Commit = 200 := rfl; rw [e]; simp; omega)
      have e2 : N = (LA ++ [(⟨gq, cq ++ [c]⟩ : Log)] ++ LD).length := by
        have h1 := jb.len
        have h2 := eA.el.len
        have h3 := eD.el.len
        have e : Rep.sz Log = 2 := rfl
        rw [e] at h2 h3
        simp only [List.length_append, List.length_cons, List.length_nil] at h1 ⊢
        omega
      rw [hfin]
      have eW := ((eA.mono xF).snoc (x := (⟨gq, cq ++ [c]⟩ : Log)) ⟨_, _, rfl, by show InR gq; rw [hgq]; exact h0, rq, rfl⟩).append (eD.mono xF)
      refine ⟨rfl, _, _, ((hgr.trans x89).trans g11).perm ?_, rfl, OwL.ofRow j22_13 e2 eW (fun b o hm => hI11 b o (by simp [hm])) (by rw [← e2]; have e : Rep.bytes Log = 32 := rfl; rw [e]; omega)⟩
      exact perm_count fun a => by simp only [List.count_append, List.map_append]; omega
    try simp only [kk] at hc5
    have hf : foundB xs c.group = true := by assumption
    have hPl := (of_decide_eq_true hf).1
    have hPg := (of_decide_eq_true hf).2
    rw [← hP] at hPl hPg
    rw [grpAt_eq hPl] at hPg
    obtain ⟨A, D, vq, csq, Rq, Rr, Fq, Fr, z1, hA, z3, z3', z4, z5, z6, z7, z8⟩ := i4.split P hPl
    refine x_freezeG (S := Rr) (O' := Rq ++ (R9 ++ _)) ((z3.append_right _).trans (by rw [List.append_assoc])) (fun H9 g9 hI9 => ?_)
    obtain ⟨GA, GD, z9, z10, z11⟩ := z8 H9 g9.ext hI9
    have hsP := hsm _ (List.getElem_mem hPl)
    obtain ⟨N, A, D, gq, vq, csq, cq, LA, LD, FA, FD, Fq, hN, hN2, jb, hA, hgq, jq, ecq, hcq, eA, eD, hfin, hgr⟩ : ∃ (N : Nat) (A D : List Value) (gq : Int) (vq : Value) (csq : List Value) (cq : List Commit) (LA LD : List Log) (FA FD Fq : List Nat), P < N ∧ N ≤ 17 ∧ Row v9 N (A ++ [.int .i64 gq, vq] ++ D) 95 2 R9 ∧ A.length = P * 2 ∧ gq = c.group ∧ Row vq cq.length csq 31 15 Rq ∧ ElO false H9 csq cq Fq ∧ cq.length ≤ 1000000 ∧ ElO false H9 A LA FA ∧ ElO false H9 D LD FD ∧ appLogs xs c = LA ++ [⟨gq, cq ++ [c]⟩] ++ LD ∧ Grew H H9 (FA ++ (FD ++ Fq)) :=
      ⟨xs.length, A, D, xs[P].group, vq, csq, xs[P].commits, _, _, GA, GD, Fq, hPl, by omega, by rw [← z1]; exact i3, hA, hPg, z5, z6.mono g9.ext, hsP, z9, z10, by
        rw [appLogs, if_pos hae, if_pos hf, ← hP, logAt_eq hPl, hPg], (i2.trans g9).perm (by
        refine perm_count fun a => ?_
        have h1 := z11.count_eq a
        have h2 := z3'.count_eq a
        simp only [List.count_append] at h1 h2 ⊢
        omega)⟩
    refine x_skip ?_
    refine x_seq ?_
    refine x_regionPs _ held_0 [(0, true), (1, true), (2, true), (3, true), (4, true), (5, true), (6, true), (7, true), (8, false), (9, false), (10, false), (11, false), (12, true), (13, false)] [0, 1, 2, 3, 4, 5, 6, 7, 12] [13] mixed (by kernel_rfl) npa ?_
    have hE := Ext.refl H9
    have s9 := jb.sl (by omega)
    have hjl := jb.len
    have aq : AtS H9 R9 v9 (_ * 2) [.int .i64 gq, vq] := jb.at (fun p hp => hp) (by omega) (fun i u hu => by
      rw [List.append_assoc, ← hA, List.getElem?_append_right (by omega), Nat.add_sub_cancel_left, List.getElem?_append_left (List.getElem?_eq_some_iff.1 hu).1]; exact hu)
    refine p_take rfl rfl (y_move rfl) ?_
    refine p_take rfl rfl (y_move rfl) ?_
    refine p_take rfl rfl (y_move rfl) ?_
    refine p_take rfl rfl (y_move rfl) ?_
    refine p_take rfl rfl (y_idxR jb _ hN underlying22 ti95 rfl rfl rfl) ?_
    refine p_take rfl rfl (y_fieldAddrP fd95_1 ti93 (by decide) (by assumption) rfl) ?_
    refine p_take rfl rfl (y_loadS1 ti93 rfl (AtS.sub (by assumption) (fun p hp => by repeat (first | exact hp | exact List.mem_append_left _ hp | apply List.mem_cons_of_mem | apply List.mem_append_right))) rfl) ?_
    refine p_take rfl rfl (y_loadA ti31 rfl inn rfl) ?_
    refine p_only rfl rfl ?_
    refine o_call fn43 rfl (copied_own (Rep.mono hgr.ext hk)) ?_
    rintro v89 H10 _ ⟨rfl, F89, cs89, x89, rfl, r89⟩
    refine o_nil ?_
    replace hE := hE.trans x89.ext
    have w89 := Rep.one (Own.ow_rd r89)
    obtain ⟨d6, d7, d8, d9, d12, f6, f7, f8, f9, f12, rfl, r89⟩ := r89
    refine ⟨.inr ⟨hE, hld⟩, ?_⟩
    refine p_only rfl rfl ?_
    refine o_slice1 underlying93 ti31 (by decide) (by decide) rfl rfl (C := [_, _, _, _, _, _, _, _, _, _, _, _, _, _, _]) rfl rfl (fun b90 => ?_)
    refine o_nil ?_
    refine ⟨.inr ⟨hE, hld⟩, ?_⟩
    refine p_only rfl rfl ?_
    refine o_append underlying93 ti31 rfl (by decide) rfl jq rfl (At.all inn) rfl w89 (by omega) (by omega) hol (fun v91 R91 j91 => ?_)
    refine o_nil ?_
    obtain ⟨p91, c91, rfl⟩ := j91.shape
    refine ⟨.inr ⟨hE, hld⟩, ?_⟩
    refine p_only rfl rfl ?_
    refine o_y (y_idxR jb _ hN underlying22 ti95 rfl rfl rfl) ?_
    refine o_nil ?_
    refine ⟨.inr ⟨hE, hld⟩, ?_⟩
    refine p_take rfl rfl (y_fieldAddrP fd95_1 ti93 (by decide) (by assumption) rfl) ?_
    refine p_only rfl rfl ?_
    refine o_storeS (u := [_]) ti93 rfl rfl jb rfl rfl (by first | rfl | assumption | (simp only [ones, List.all_cons, List.all_nil, Bool.and_true, one_of (by assumption)]; done)) (by omega) (by omega) hol (fun R22_13 j22_13 => ?_)
    refine o_nil ?_
    refine ⟨.inl rfl, ?_⟩
    refine p_nil ?_
    refine x_seq ?_
    refine x_region rfl ?_
    refine o_y (y_move rfl) ?_
    refine o_y (y_assign rfl) ?_
    refine o_y (y_assign rfl) ?_
    refine o_nil ?_
    rw [putC_mid hA (by exact Nat.le_of_ble_eq_true rfl)] at j22_13
    refine x_pick (O' := (R91 ++ R22_13) ++ O) (.cons _ (by rw [List.append_assoc]; exact (List.Sublist.refl R91).append ((List.Sublist.refl R22_13).append (.cons _ (List.Sublist.refl _))))) ?_
    refine x_freezeG (S := R91 ++ R22_13) (O' := O) (List.Perm.refl _) (fun H11 g11 hI11 => ?_)
    refine x_ret ?_
    refine x_fin 0 (ret2 rfl rfl rfl) ?_
    have xF := x89.ext.trans g11.ext
    rw [hae]
    have eq1 : ElO false H11 _ (cq ++ [c]) (Fq ++ F89) := ((ecq.mono x89.ext).mono g11.ext).snoc (Own.ow_mono g11.ext (show Own.ow false H10 _ c F89 from ⟨_, _, _, _, _, _, _, _, _, _, rfl, r89⟩))
    have rq := OwL.ofRow j91 (by simp) eq1 (fun b o hm => hI11 b o (by simp [hm])) (by have e : Rep.bytes Commit = 200 := rfl; rw [e]; simp; omega)
    have e2 : N = (LA ++ [(⟨gq, cq ++ [c]⟩ : Log)] ++ LD).length := by
      have h1 := jb.len
      have h2 := eA.el.len
      have h3 := eD.el.len
      have e : Rep.sz Log = 2 := rfl
      rw [e] at h2 h3
      simp only [List.length_append, List.length_cons, List.length_nil] at h1 ⊢
      omega
    rw [hfin]
    have eW := ((eA.mono xF).snoc (x := (⟨gq, cq ++ [c]⟩ : Log)) ⟨_, _, rfl, by show InR gq; rw [hgq]; exact h0, rq, rfl⟩).append (eD.mono xF)
    refine ⟨rfl, _, _, ((hgr.trans x89).trans g11).perm ?_, rfl, OwL.ofRow j22_13 e2 eW (fun b o hm => hI11 b o (by simp [hm])) (by rw [← e2]; have e : Rep.bytes Log = 32 := rfl; rw [e]; omega)⟩
    exact perm_count fun a => by simp only [List.count_append, List.map_append]; omega
  try simp only [kk] at hg6_38
  refine o_gn 38 rfl rfl rfl ?_
  refine o_gn 38 rfl rfl rfl ?_
  refine o_gn 38 rfl rfl rfl ?_
  refine o_y (y_pick rfl rfl) ?_
  refine o_nil ?_
  refine x_condF rfl ?_
  refine x_skip ?_
  refine x_seq ?_
  have hlcb : lcheckB xs = true := by rcases hlc with ⟨e1, e2⟩ | ⟨e1, e2⟩ <;> first | exact e1 | (exfalso; omega)
  have hn16 : xs.length ≤ 16 := by
    have := hlcb
    simp only [lcheckB, Bool.and_eq_true, decide_eq_true_eq] at this
    exact this.1
  have hae : appErr xs c = 0 := by
    rw [appErr, if_pos ⟨hlcb, by simp_all⟩, if_pos (by omega), if_neg]
    rintro ⟨e1, e2⟩
    first
      | omega
      | simp_all
  rw [← hP]
  have hPle' : P ≤ xs.length := by rw [hP]; exact hPle
  refine x_region rfl ?_
  refine o_y (y_assign rfl) ?_
  refine o_nil ?_
  refine x_seq ?_
  refine x_seq ?_
  refine x_region rfl ?_
  refine o_y (y_move rfl) ?_
  refine o_y (y_lenA underlying22 rfl) ?_
  refine o_y (y_move rfl) ?_
  refine o_nil ?_
  refine x_block ?_
  refine x_loopg (σ := Nat × HM × Value × List Value × OL × OL × List Nat) (fun s => [(45, .int .i64 (s.1 : Int)), (44, .int .i64 (xs.length : Int)), (43, v), (0, v), (8, s.2.2.1), (6, .int .i64 (P : Int)), (7, .bool (foundB xs c.group)), (3, .pointer (some ⟨b3, 0, none⟩))]) (fun s => s.2.1) (fun s => s.2.2.2.2.2.1 ++ (s.2.2.2.2.1 ++ _)) (fun s => s.1 ≤ xs.length ∧ Grew H s.2.1 s.2.2.2.2.2.2 ∧ Row s.2.2.1 s.1 s.2.2.2.1 95 2 s.2.2.2.2.1 ∧ OwnLF s.2.1 s.2.2.2.1 (xs.take s.1) s.2.2.2.2.2.1 s.2.2.2.2.2.2) (fun s => xs.length - s.1) (0, H, .slice none 0 0, [], [], [], []) ⟨by simp, Grew.refl _, Row.nil _ _, .n⟩ (.c rfl (.c rfl (.c rfl (.c rfl (.c rfl (.c rfl (.c rfl (.c rfl .n)))))))) rfl rfl ?_
  rintro ⟨k, H5, v9, cs9, R9, Rs, F9⟩ ⟨i1, i2, i3, i4⟩
  simp only at i1 i2 i3 i4
  refine x_seq ?_
  refine x_region rfl ?_
  refine o_y (y_lss rfl rfl) ?_
  refine o_nil ?_
  refine x_seq ?_
  refine x_cond rfl (fun hc3 => ?_) (fun hc3 => ?_)
  · try simp only [kk] at hc3
    have hkk : k < xs.length := by omega
    have hsk := hsm _ (List.getElem_mem hkk)
    have hv5 := h.mono i2.ext
    refine x_skip ?_
    refine x_seq ?_
    refine x_block ?_
    refine x_seq ?_
    refine x_region rfl ?_
    obtain ⟨ce47, ae47, re47⟩ := RdL.at hv5 _ k hkk
    have se47 := AtS.isSl ae47
    have te47 := re47
    obtain ⟨u47_1, z47, q47_0, q47_1⟩ := re47
    subst z47
    have w47 := Rep.one te47
    refine o_y (y_idxL hv5 k hkk underlying22 ti95 rfl rfl (by omega)) ?_
    refine o_y (y_loadS ti95 rfl (by assumption) rfl (fun e => by cases e)) ?_
    refine o_alloc ti95 rfl (fun b10 => ?_)
    refine o_store (u := [_, _]) (C' := [_, _]) ti95 rfl rfl rfl rfl (by first | rfl | assumption | (simp only [ones, List.all_cons, List.all_nil, Bool.and_true, one_of (by assumption)]; done)) (by repeat (first | exact .z | apply Upd.s | apply Upd.a)) (by exact Nat.le_of_ble_eq_true rfl) (by rfl) ?_
    refine o_nil ?_
    refine x_seq ?_
    refine x_region rfl ?_
    refine o_y (y_fieldAddr fd95_0 ti3 (by decide) rfl) ?_
    refine o_y (y_loadO ti3 rfl inn rfl) ?_
    refine o_y (y_buildS bt95 rfl (C := [_, _]) rfl) ?_
    refine o_alloc ti95 rfl (fun b11 => ?_)
    refine o_store (u := [_, _]) (C' := [_, _]) ti95 rfl rfl rfl rfl (by first | rfl | assumption | (simp only [ones, List.all_cons, List.all_nil, Bool.and_true, one_of (by assumption)]; done)) (by repeat (first | exact .z | apply Upd.s | apply Upd.a)) (by exact Nat.le_of_ble_eq_true rfl) (by rfl) ?_
    refine o_nil ?_
    refine x_seq ?_
    refine x_seq ?_
    refine x_region rfl ?_
    refine o_y (y_fieldAddr fd95_1 ti93 (by decide) rfl) ?_
    refine o_y (y_loadO ti93 rfl inn rfl) ?_
    refine o_y (y_lenA underlying93 rfl) ?_
    refine o_y (y_move rfl) ?_
    refine o_nil ?_
    refine x_block ?_
    refine x_loopg (σ := Nat × HM × Value × List Value × OL × List Nat) (fun s => [(55, .int .i64 (s.1 : Int)), (54, .int .i64 (xs[k].commits.length : Int)), (53, u47_1), (45, .int .i64 (k : Int)), (44, .int .i64 (xs.length : Int)), (43, v), (0, v), (8, v9), (6, .int .i64 (P : Int)), (7, .bool (foundB xs c.group)), (3, .pointer (some ⟨b3, 0, none⟩)), (11, .pointer (some ⟨b11, 0, none⟩))]) (fun s => s.2.1) (fun s => s.2.2.2.2.1 ++ ((b11, cl [.int .i64 xs[k].group, s.2.2.1] 95) :: _)) (fun s => s.1 ≤ xs[k].commits.length ∧ Grew H5 s.2.1 s.2.2.2.2.2 ∧ Row s.2.2.1 s.1 s.2.2.2.1 31 15 s.2.2.2.2.1 ∧ ElO false s.2.1 s.2.2.2.1 (xs[k].commits.take s.1) s.2.2.2.2.2) (fun s => xs[k].commits.length - s.1) (0, H5, .slice none 0 0, [], [], []) ⟨by simp, Grew.refl _, Row.nil _ _, .n⟩ (.c rfl (.c rfl (.c rfl (.c rfl (.c rfl (.c rfl (.c rfl (.c rfl (.c rfl (.c rfl (.c rfl (.c rfl .n)))))))))))) rfl rfl ?_
    rintro ⟨m, H6, va, csa, Ra, Fa⟩ ⟨l1, l2, l3, l4⟩
    simp only at l1 l2 l3 l4
    refine x_seq ?_
    refine x_region rfl ?_
    refine o_y (y_lss rfl rfl) ?_
    refine o_nil ?_
    refine x_seq ?_
    refine x_cond rfl (fun hc4 => ?_) (fun hc4 => ?_)
    · try simp only [kk] at hc4
      have hm : m < xs[k].commits.length := by omega
      have hq5 := q47_1.mono l2.ext
      refine x_skip ?_
      refine x_seq ?_
      refine x_block ?_
      refine x_seq ?_
      refine x_region rfl ?_
      obtain ⟨ce57, ae57, re57⟩ := RdL.at hq5 _ m hm
      have se57 := AtS.isSl ae57
      have te57 := re57
      obtain ⟨u57_6, u57_7, u57_8, u57_9, u57_12, z57, q57_0, q57_1, q57_2, q57_3, q57_4, q57_5, q57_6, q57_7, q57_8, q57_9, q57_10, q57_11, q57_12, q57_13⟩ := re57
      subst z57
      have w57 := Rep.one te57
      refine o_y (y_idxL hq5 m hm underlying93 ti31 rfl rfl (by omega)) ?_
      refine o_y (y_loadS ti31 rfl (by assumption) rfl (fun e => by cases e)) ?_
      refine o_alloc ti31 rfl (fun b13 => ?_)
      refine o_store (u := [_, _, _, _, _, _, _, _, _, _, _, _, _, _, _]) (C' := [_, _, _, _, _, _, _, _, _, _, _, _, _, _, _]) ti31 rfl rfl rfl rfl (by first | rfl | assumption | (simp only [ones, List.all_cons, List.all_nil, Bool.and_true, one_of (by assumption)]; done)) (by repeat (first | exact .z | apply Upd.s | apply Upd.a)) (by exact Nat.le_of_ble_eq_true rfl) (by rfl) ?_
      refine o_nil ?_
      refine x_regionPs _ held_1 [(0, true), (1, true), (2, true), (3, false), (4, false), (5, false), (6, true), (7, false)] [0, 1, 2, 6] [7] mixed (by kernel_rfl) npa ?_
      have hE := Ext.refl H6
      refine p_take rfl rfl (y_fieldAddr fd95_1 ti93 (by decide) rfl) ?_
      refine p_take rfl rfl (y_loadO ti93 rfl inn rfl) ?_
      refine p_take rfl rfl (y_loadA ti31 rfl inn rfl) ?_
      refine p_only rfl rfl ?_
      refine o_call fn43 rfl (copied_own te57) ?_
      rintro v62 H7 _ ⟨rfl, F62, cs62, x62, rfl, r62⟩
      refine o_nil ?_
      replace hE := hE.trans x62.ext
      have w62 := Rep.one (Own.ow_rd r62)
      obtain ⟨d6, d7, d8, d9, d12, f6, f7, f8, f9, f12, rfl, r62⟩ := r62
      refine ⟨.inr ⟨hE, hld⟩, ?_⟩
      refine p_only rfl rfl ?_
      refine o_slice1 underlying93 ti31 (by decide) (by decide) rfl rfl (C := [_, _, _, _, _, _, _, _, _, _, _, _, _, _, _]) rfl rfl (fun b63 => ?_)
      refine o_nil ?_
      refine ⟨.inr ⟨hE, hld⟩, ?_⟩
      refine p_only rfl rfl ?_
      refine o_append underlying93 ti31 rfl (by decide) rfl l3 rfl (At.all inn) rfl w62 (by omega) (by omega) hol (fun v64 R64 j64 => ?_)
      refine o_nil ?_
      obtain ⟨p64, c64, rfl⟩ := j64.shape
      refine ⟨.inr ⟨hE, hld⟩, ?_⟩
      refine p_take rfl rfl (y_fieldAddr fd95_1 ti93 (by decide) rfl) ?_
      refine p_only rfl rfl ?_
      refine o_store (u := [_]) (C' := [_, _]) ti93 rfl rfl rfl rfl (by first | rfl | assumption | (simp only [ones, List.all_cons, List.all_nil, Bool.and_true, one_of (by assumption)]; done)) (by repeat (first | exact .z | apply Upd.s | apply Upd.a)) (by exact Nat.le_of_ble_eq_true rfl) (by rfl) ?_
      refine o_nil ?_
      refine ⟨.inl rfl, ?_⟩
      refine p_nil ?_
      refine x_region rfl ?_
      refine o_y (y_addN rfl rfl (by omega) (by omega)) ?_
      refine o_y (y_move rfl) ?_
      refine o_nil ?_
      exact ⟨(m + 1, H7, .slice p64 (m + 1) c64, _, R64, Fa ++ F62), 2, rfl, (.c rfl (.c rfl (.c rfl (.c rfl (.c rfl (.c rfl (.c rfl (.c rfl (.c rfl (.c rfl (.c rfl (.c rfl .n)))))))))))), rfl, ⟨by omega, l2.trans x62, j64, by rw [take_next hm]; exact (l4.mono x62.ext).snoc ⟨_, _, _, _, _, _, _, _, _, _, rfl, r62⟩⟩, by simp only; omega⟩
    try simp only [kk] at hc4
    refine x_exit ?_
    obtain rfl : m = xs[k].commits.length := by omega
    obtain ⟨pa, ca, rfl⟩ := l3.shape
    rw [List.take_length] at l4
    refine x_region rfl ?_
    refine o_y (y_move rfl) ?_
    refine o_y (y_loadA ti95 rfl inn rfl) ?_
    refine o_slice1 underlying22 ti95 (by decide) (by decide) rfl rfl (C := [_, _]) rfl rfl (fun b69 => ?_)
    refine o_append underlying22 ti95 rfl (by decide) rfl i3 rfl (At.all inn) rfl rfl (by omega) (by omega) hol (fun v70 R70 j70 => ?_)
    refine o_y (y_assign rfl) ?_
    refine o_nil ?_
    refine x_pick (O' := (Ra ++ Rs) ++ (R70 ++ _)) (.cons _ (by rw [List.append_assoc]; exact (List.Sublist.refl Ra).append (.cons _ (.cons _ (List.Sublist.refl _))))) ?_
    refine x_region rfl ?_
    refine o_y (y_addN rfl rfl (by omega) (by omega)) ?_
    refine o_y (y_move rfl) ?_
    refine o_nil ?_
    exact ⟨(k + 1, H6, v70, _, R70, Ra ++ Rs, F9 ++ Fa), 0, rfl, (.c rfl (.c rfl (.c rfl (.c rfl (.c rfl (.c rfl (.c rfl (.c rfl .n)))))))), rfl, ⟨by omega, i2.trans l2, j70, by rw [take_next hkk]; exact OwnLF.c (i4.mono l2.ext) q47_0 l3 l4 (by omega)⟩, by simp only; omega⟩
  try simp only [kk] at hc3
  refine x_exit ?_
  refine x_seq ?_
  refine x_seq ?_
  obtain rfl : k = xs.length := by omega
  rw [List.take_length] at i4
  refine x_region rfl ?_
  refine o_y (y_move rfl) ?_
  refine o_y (y_not rfl) ?_
  refine o_nil ?_
  refine x_cond rfl (fun hc5 => ?_) (fun hc5 => ?_)
  · try simp only [kk] at hc5
    have hf : foundB xs c.group = false := by assumption
    refine x_freezeG (S := Rs) (O' := R9 ++ _) (List.Perm.refl _) (fun H9 g9 hI9 => ?_)
    obtain ⟨G, el, hG⟩ := i4.el g9.ext hI9
    refine x_region rfl ?_
    refine o_y (y_move rfl) ?_
    refine o_y (y_move rfl) ?_
    refine o_y (y_fieldAddr fd31_0 ti3 (by decide) rfl) ?_
    refine o_y (y_loadO ti3 rfl inn rfl) ?_
    refine o_y (y_buildS bt95 rfl (C := [_, _]) rfl) ?_
    refine o_slice1 underlying22 ti95 (by decide) (by decide) rfl rfl (C := [_, _]) rfl rfl (fun b79 => ?_)
    refine o_call fn44 rfl (insert_log i3 hPle' (by omega) rfl rfl el.el.one .z) ?_
    rintro v9 _ _ ⟨rfl, R9, rfl, j80⟩
    refine o_y (y_assign rfl) ?_
    refine o_nil ?_
    obtain ⟨Rq, hRq⟩ : ∃ Rq : OL, Rq = [] := ⟨_, rfl⟩
    refine x_pick (O' := Rq ++ (R9 ++ _)) (by subst hRq; exact .cons _ (List.Sublist.refl _)) ?_
    obtain ⟨GA, GD, hGe, eA0, eD0⟩ := el.parts P hPle'
    obtain ⟨N, A, D, gq, vq, csq, cq, LA, LD, FA, FD, Fq, hN, hN2, jb, hA, hgq, jq, ecq, hcq, eA, eD, hfin, hgr⟩ : ∃ (N : Nat) (A D : List Value) (gq : Int) (vq : Value) (csq : List Value) (cq : List Commit) (LA LD : List Log) (FA FD Fq : List Nat), P < N ∧ N ≤ 17 ∧ Row v9 N (A ++ [.int .i64 gq, vq] ++ D) 95 2 R9 ∧ A.length = P * 2 ∧ gq = c.group ∧ Row vq cq.length csq 31 15 Rq ∧ ElO false H9 csq cq Fq ∧ cq.length ≤ 1000000 ∧ ElO false H9 A LA FA ∧ ElO false H9 D LD FD ∧ appLogs xs c = LA ++ [⟨gq, cq ++ [c]⟩] ++ LD ∧ Grew H H9 (FA ++ (FD ++ Fq)) :=
      ⟨xs.length + 1, _, _, c.group, _, [], [], xs.take P, xs.drop P, GA, GD, [], by omega, by omega, j80, by have := i4.len; rw [List.length_take]; omega, rfl, by rw [hRq]; exact Row.nil _ _, .n, by simp, eA0, eD0, by
        rw [appLogs, if_pos hae, if_neg (by rw [hf]; simp), ← hP, List.nil_append], (i2.trans g9).perm (by
        refine perm_count fun a => ?_
        have h1 := hG.count_eq a
        rw [hGe] at h1
        simp only [List.count_append, List.append_nil] at h1 ⊢
        omega)⟩
    refine x_seq ?_
    refine x_regionPs _ held_0 [(0, true), (1, true), (2, true), (3, true), (4, true), (5, true), (6, true), (7, true), (8, false), (9, false), (10, false), (11, false), (12, true), (13, false)] [0, 1, 2, 3, 4, 5, 6, 7, 12] [13] mixed (by kernel_rfl) npa ?_
    have hE := Ext.refl H9
    have s9 := jb.sl (by omega)
    have hjl := jb.len
    have aq : AtS H9 R9 v9 (_ * 2) [.int .i64 gq, vq] := jb.at (fun p hp => hp) (by omega) (fun i u hu => by
      rw [List.append_assoc, ← hA, List.getElem?_append_right (by omega), Nat.add_sub_cancel_left, List.getElem?_append_left (List.getElem?_eq_some_iff.1 hu).1]; exact hu)
    refine p_take rfl rfl (y_move rfl) ?_
    refine p_take rfl rfl (y_move rfl) ?_
    refine p_take rfl rfl (y_move rfl) ?_
    refine p_take rfl rfl (y_move rfl) ?_
    refine p_take rfl rfl (y_idxR jb _ hN underlying22 ti95 rfl rfl rfl) ?_
    refine p_take rfl rfl (y_fieldAddrP fd95_1 ti93 (by decide) (by assumption) rfl) ?_
    refine p_take rfl rfl (y_loadS1 ti93 rfl (AtS.sub (by assumption) (fun p hp => by repeat (first | exact hp | exact List.mem_append_left _ hp | apply List.mem_cons_of_mem | apply List.mem_append_right))) rfl) ?_
    refine p_take rfl rfl (y_loadA ti31 rfl inn rfl) ?_
    refine p_only rfl rfl ?_
    refine o_call fn43 rfl (copied_own (Rep.mono hgr.ext hk)) ?_
    rintro v89 H10 _ ⟨rfl, F89, cs89, x89, rfl, r89⟩
    refine o_nil ?_
    replace hE := hE.trans x89.ext
    have w89 := Rep.one (Own.ow_rd r89)
    obtain ⟨d6, d7, d8, d9, d12, f6, f7, f8, f9, f12, rfl, r89⟩ := r89
    refine ⟨.inr ⟨hE, hld⟩, ?_⟩
    refine p_only rfl rfl ?_
    refine o_slice1 underlying93 ti31 (by decide) (by decide) rfl rfl (C := [_, _, _, _, _, _, _, _, _, _, _, _, _, _, _]) rfl rfl (fun b90 => ?_)
    refine o_nil ?_
    refine ⟨.inr ⟨hE, hld⟩, ?_⟩
    refine p_only rfl rfl ?_
    refine o_append underlying93 ti31 rfl (by decide) rfl jq rfl (At.all inn) rfl w89 (by omega) (by omega) hol (fun v91 R91 j91 => ?_)
    refine o_nil ?_
    obtain ⟨p91, c91, rfl⟩ := j91.shape
    refine ⟨.inr ⟨hE, hld⟩, ?_⟩
    refine p_only rfl rfl ?_
    refine o_y (y_idxR jb _ hN underlying22 ti95 rfl rfl rfl) ?_
    refine o_nil ?_
    refine ⟨.inr ⟨hE, hld⟩, ?_⟩
    refine p_take rfl rfl (y_fieldAddrP fd95_1 ti93 (by decide) (by assumption) rfl) ?_
    refine p_only rfl rfl ?_
    refine o_storeS (u := [_]) ti93 rfl rfl jb rfl rfl (by first | rfl | assumption | (simp only [ones, List.all_cons, List.all_nil, Bool.and_true, one_of (by assumption)]; done)) (by omega) (by omega) hol (fun R22_13 j22_13 => ?_)
    refine o_nil ?_
    refine ⟨.inl rfl, ?_⟩
    refine p_nil ?_
    refine x_seq ?_
    refine x_region rfl ?_
    refine o_y (y_move rfl) ?_
    refine o_y (y_assign rfl) ?_
    refine o_y (y_assign rfl) ?_
    refine o_nil ?_
    rw [putC_mid hA (by exact Nat.le_of_ble_eq_true rfl)] at j22_13
    refine x_pick (O' := (R91 ++ R22_13) ++ O) (.cons _ (by rw [List.append_assoc]; exact (List.Sublist.refl R91).append ((List.Sublist.refl R22_13).append (.cons _ (List.Sublist.refl _))))) ?_
    refine x_freezeG (S := R91 ++ R22_13) (O' := O) (List.Perm.refl _) (fun H11 g11 hI11 => ?_)
    refine x_ret ?_
    refine x_fin 0 (ret2 rfl rfl rfl) ?_
    have xF := x89.ext.trans g11.ext
    rw [hae]
    have eq1 : ElO false H11 _ (cq ++ [c]) (Fq ++ F89) := ((ecq.mono x89.ext).mono g11.ext).snoc (Own.ow_mono g11.ext (show Own.ow false H10 _ c F89 from ⟨_, _, _, _, _, _, _, _, _, _, rfl, r89⟩))
    have rq := OwL.ofRow j91 (by simp) eq1 (fun b o hm => hI11 b o (by simp [hm])) (by have e : Rep.bytes Commit = 200 := rfl; rw [e]; simp; omega)
    have e2 : N = (LA ++ [(⟨gq, cq ++ [c]⟩ : Log)] ++ LD).length := by
      have h1 := jb.len
      have h2 := eA.el.len
      have h3 := eD.el.len
      have e : Rep.sz Log = 2 := rfl
      rw [e] at h2 h3
      simp only [List.length_append, List.length_cons, List.length_nil] at h1 ⊢
      omega
    rw [hfin]
    have eW := ((eA.mono xF).snoc (x := (⟨gq, cq ++ [c]⟩ : Log)) ⟨_, _, rfl, by show InR gq; rw [hgq]; exact h0, rq, rfl⟩).append (eD.mono xF)
    refine ⟨rfl, _, _, ((hgr.trans x89).trans g11).perm ?_, rfl, OwL.ofRow j22_13 e2 eW (fun b o hm => hI11 b o (by simp [hm])) (by rw [← e2]; have e : Rep.bytes Log = 32 := rfl; rw [e]; omega)⟩
    exact perm_count fun a => by simp only [List.count_append, List.map_append]; omega
  try simp only [kk] at hc5
  have hf : foundB xs c.group = true := by assumption
  have hPl := (of_decide_eq_true hf).1
  have hPg := (of_decide_eq_true hf).2
  rw [← hP] at hPl hPg
  rw [grpAt_eq hPl] at hPg
  obtain ⟨A, D, vq, csq, Rq, Rr, Fq, Fr, z1, hA, z3, z3', z4, z5, z6, z7, z8⟩ := i4.split P hPl
  refine x_freezeG (S := Rr) (O' := Rq ++ (R9 ++ _)) ((z3.append_right _).trans (by rw [List.append_assoc])) (fun H9 g9 hI9 => ?_)
  obtain ⟨GA, GD, z9, z10, z11⟩ := z8 H9 g9.ext hI9
  have hsP := hsm _ (List.getElem_mem hPl)
  obtain ⟨N, A, D, gq, vq, csq, cq, LA, LD, FA, FD, Fq, hN, hN2, jb, hA, hgq, jq, ecq, hcq, eA, eD, hfin, hgr⟩ : ∃ (N : Nat) (A D : List Value) (gq : Int) (vq : Value) (csq : List Value) (cq : List Commit) (LA LD : List Log) (FA FD Fq : List Nat), P < N ∧ N ≤ 17 ∧ Row v9 N (A ++ [.int .i64 gq, vq] ++ D) 95 2 R9 ∧ A.length = P * 2 ∧ gq = c.group ∧ Row vq cq.length csq 31 15 Rq ∧ ElO false H9 csq cq Fq ∧ cq.length ≤ 1000000 ∧ ElO false H9 A LA FA ∧ ElO false H9 D LD FD ∧ appLogs xs c = LA ++ [⟨gq, cq ++ [c]⟩] ++ LD ∧ Grew H H9 (FA ++ (FD ++ Fq)) :=
    ⟨xs.length, A, D, xs[P].group, vq, csq, xs[P].commits, _, _, GA, GD, Fq, hPl, by omega, by rw [← z1]; exact i3, hA, hPg, z5, z6.mono g9.ext, hsP, z9, z10, by
      rw [appLogs, if_pos hae, if_pos hf, ← hP, logAt_eq hPl, hPg], (i2.trans g9).perm (by
      refine perm_count fun a => ?_
      have h1 := z11.count_eq a
      have h2 := z3'.count_eq a
      simp only [List.count_append] at h1 h2 ⊢
      omega)⟩
  refine x_skip ?_
  refine x_seq ?_
  refine x_regionPs _ held_0 [(0, true), (1, true), (2, true), (3, true), (4, true), (5, true), (6, true), (7, true), (8, false), (9, false), (10, false), (11, false), (12, true), (13, false)] [0, 1, 2, 3, 4, 5, 6, 7, 12] [13] mixed (by kernel_rfl) npa ?_
  have hE := Ext.refl H9
  have s9 := jb.sl (by omega)
  have hjl := jb.len
  have aq : AtS H9 R9 v9 (_ * 2) [.int .i64 gq, vq] := jb.at (fun p hp => hp) (by omega) (fun i u hu => by
    rw [List.append_assoc, ← hA, List.getElem?_append_right (by omega), Nat.add_sub_cancel_left, List.getElem?_append_left (List.getElem?_eq_some_iff.1 hu).1]; exact hu)
  refine p_take rfl rfl (y_move rfl) ?_
  refine p_take rfl rfl (y_move rfl) ?_
  refine p_take rfl rfl (y_move rfl) ?_
  refine p_take rfl rfl (y_move rfl) ?_
  refine p_take rfl rfl (y_idxR jb _ hN underlying22 ti95 rfl rfl rfl) ?_
  refine p_take rfl rfl (y_fieldAddrP fd95_1 ti93 (by decide) (by assumption) rfl) ?_
  refine p_take rfl rfl (y_loadS1 ti93 rfl (AtS.sub (by assumption) (fun p hp => by repeat (first | exact hp | exact List.mem_append_left _ hp | apply List.mem_cons_of_mem | apply List.mem_append_right))) rfl) ?_
  refine p_take rfl rfl (y_loadA ti31 rfl inn rfl) ?_
  refine p_only rfl rfl ?_
  refine o_call fn43 rfl (copied_own (Rep.mono hgr.ext hk)) ?_
  rintro v89 H10 _ ⟨rfl, F89, cs89, x89, rfl, r89⟩
  refine o_nil ?_
  replace hE := hE.trans x89.ext
  have w89 := Rep.one (Own.ow_rd r89)
  obtain ⟨d6, d7, d8, d9, d12, f6, f7, f8, f9, f12, rfl, r89⟩ := r89
  refine ⟨.inr ⟨hE, hld⟩, ?_⟩
  refine p_only rfl rfl ?_
  refine o_slice1 underlying93 ti31 (by decide) (by decide) rfl rfl (C := [_, _, _, _, _, _, _, _, _, _, _, _, _, _, _]) rfl rfl (fun b90 => ?_)
  refine o_nil ?_
  refine ⟨.inr ⟨hE, hld⟩, ?_⟩
  refine p_only rfl rfl ?_
  refine o_append underlying93 ti31 rfl (by decide) rfl jq rfl (At.all inn) rfl w89 (by omega) (by omega) hol (fun v91 R91 j91 => ?_)
  refine o_nil ?_
  obtain ⟨p91, c91, rfl⟩ := j91.shape
  refine ⟨.inr ⟨hE, hld⟩, ?_⟩
  refine p_only rfl rfl ?_
  refine o_y (y_idxR jb _ hN underlying22 ti95 rfl rfl rfl) ?_
  refine o_nil ?_
  refine ⟨.inr ⟨hE, hld⟩, ?_⟩
  refine p_take rfl rfl (y_fieldAddrP fd95_1 ti93 (by decide) (by assumption) rfl) ?_
  refine p_only rfl rfl ?_
  refine o_storeS (u := [_]) ti93 rfl rfl jb rfl rfl (by first | rfl | assumption | (simp only [ones, List.all_cons, List.all_nil, Bool.and_true, one_of (by assumption)]; done)) (by omega) (by omega) hol (fun R22_13 j22_13 => ?_)
  refine o_nil ?_
  refine ⟨.inl rfl, ?_⟩
  refine p_nil ?_
  refine x_seq ?_
  refine x_region rfl ?_
  refine o_y (y_move rfl) ?_
  refine o_y (y_assign rfl) ?_
  refine o_y (y_assign rfl) ?_
  refine o_nil ?_
  rw [putC_mid hA (by exact Nat.le_of_ble_eq_true rfl)] at j22_13
  refine x_pick (O' := (R91 ++ R22_13) ++ O) (.cons _ (by rw [List.append_assoc]; exact (List.Sublist.refl R91).append ((List.Sublist.refl R22_13).append (.cons _ (List.Sublist.refl _))))) ?_
  refine x_freezeG (S := R91 ++ R22_13) (O' := O) (List.Perm.refl _) (fun H11 g11 hI11 => ?_)
  refine x_ret ?_
  refine x_fin 0 (ret2 rfl rfl rfl) ?_
  have xF := x89.ext.trans g11.ext
  rw [hae]
  have eq1 : ElO false H11 _ (cq ++ [c]) (Fq ++ F89) := ((ecq.mono x89.ext).mono g11.ext).snoc (Own.ow_mono g11.ext (show Own.ow false H10 _ c F89 from ⟨_, _, _, _, _, _, _, _, _, _, rfl, r89⟩))
  have rq := OwL.ofRow j91 (by simp) eq1 (fun b o hm => hI11 b o (by simp [hm])) (by have e : Rep.bytes Commit = 200 := rfl; rw [e]; simp; omega)
  have e2 : N = (LA ++ [(⟨gq, cq ++ [c]⟩ : Log)] ++ LD).length := by
    have h1 := jb.len
    have h2 := eA.el.len
    have h3 := eD.el.len
    have e : Rep.sz Log = 2 := rfl
    rw [e] at h2 h3
    simp only [List.length_append, List.length_cons, List.length_nil] at h1 ⊢
    omega
  rw [hfin]
  have eW := ((eA.mono xF).snoc (x := (⟨gq, cq ++ [c]⟩ : Log)) ⟨_, _, rfl, by show InR gq; rw [hgq]; exact h0, rq, rfl⟩).append (eD.mono xF)
  refine ⟨rfl, _, _, ((hgr.trans x89).trans g11).perm ?_, rfl, OwL.ofRow j22_13 e2 eW (fun b o hm => hI11 b o (by simp [hm])) (by rw [← e2]; have e : Rep.bytes Log = 32 := rfl; rw [e]; omega)⟩
  exact perm_count fun a => by simp only [List.count_append, List.map_append]; omega
end Go.Ph
set_option linter.unusedVariables false
set_option linter.unusedSimpArgs false
set_option maxRecDepth 100000
namespace Go.Ph
open Go Go.RowKit Go.Proofs.YtmgnagpgnoikfaaGreatDoor Go.Proofs.Tryz
open Classical in
theorem CallsM.subO {P : Program} {f : FuncId} {args : Array Value} {B : World} {H : HM} {O : OL} {R : Value → HM → OL → Prop} (T : OL) (h : ∀ (c : OL → Nat) (s : Nat × Obj → Nat), c [] = 0 → (∀ x A, c (x :: A) = s x + c A) → (∀ A B, c (A ++ B) = c A + c B) → c T ≤ c O) (k : CallsM P f args B H T R) : CallsM P f args B H O R := by
  obtain ⟨rest, hp⟩ := Go.Ph.subO (T := T) (O := O) fun a => h (fun L => L.count a) (fun x => if x == a then 1 else 0) (by simp) (fun x A => by simp only [List.count_cons]; omega) (fun A B => List.count_append)
  intro w hw
  have hw1 := hw.perm hp
  exact k w (hw1.pick (fun p hp => List.mem_append_left _ hp) (hw1.nd.sublist ((List.sublist_append_left _ _).map _)))
theorem range33 : List.range 33 = [0, 1, 2, 3, 4, 5, 6, 7, 8, 9, 10, 11, 12, 13, 14, 15, 16, 17, 18, 19, 20, 21, 22, 23, 24, 25, 26, 27, 28, 29, 30, 31, 32] := rfl
theorem apart_call {B : World} {H0 H : HM} {O S : OL} {bk : Nat} {l : List (Nat × Value)} {F : List Nat} (hB : Base B H0) (g : Grew H0 H F) (m : BkMem 77 hty bk (BK.zero.adds l) S) (f : Flat kt ks kb H l F) (hl : l.length ≤ 1000000000000) :
    CallsM prog 17 [.pointer (some ⟨bk, 0, none⟩)].toArray B H (S ++ O) (Yes H0 O) := by
  obtain ⟨Rs, fl, hp⟩ := f
  obtain ⟨RK, hRK, hk⟩ := fl.kinds
  obtain ⟨C, Rows, rfl, hC, h0, h1, h2, h3⟩ := m.h
  have hz : ∀ k, k < 33 → ∃ (v : Value) (L : List (Value × Nat)), C[k + 2]? = some v ∧ Row v L.length (heldCells L) (hty k) 2 (Rows k) ∧ Held (kt k) (ks k) (kb k) Any3 140737488351232 L (RK k) ∧ L.length ≤ 1000000000000 ∧ (kt k = 0 → v = .slice none 0 0) := by
    intro k hk'
    obtain ⟨v, a1, a2, a3⟩ := h3 k hk'
    obtain ⟨ns, b1, b2, b3⟩ := adds_ls BK.zero l k
    have e : (BK.zero.adds l).ls k = (ofKind k l).zip ns := by rw [b2]; rfl
    have hn := h2 k
    rw [e] at a2 a3 hn
    rw [BK.adds_count] at hn
    have hc0 : BK.zero.count = 0 := rfl
    refine ⟨v, _, a1, a2, hk k hk' ns b1 (fun n hn => by have := b3 n hn; omega), by omega, fun hh => a3 (by rw [fl.absent hh]; rfl)⟩
  have ab : ∀ k, k < 33 → kt k = 0 → C[k + 2]? = some (.slice none 0 0) := fun k hk' hh => by
    obtain ⟨v, L, a1, _, _, _, a5⟩ := hz k hk'
    rw [a1, a5 hh]
  obtain ⟨v0, L0, c0, r0, d0, m0, _⟩ := hz 0 (by decide)
  obtain ⟨v4, L4, c4, r4, d4, m4, _⟩ := hz 4 (by decide)
  obtain ⟨v6, L6, c6, r6, d6, m6, _⟩ := hz 6 (by decide)
  obtain ⟨v7, L7, c7, r7, d7, m7, _⟩ := hz 7 (by decide)
  obtain ⟨v17, L17, c17, r17, d17, m17, _⟩ := hz 17 (by decide)
  obtain ⟨v19, L19, c19, r19, d19, m19, _⟩ := hz 19 (by decide)
  obtain ⟨v26, L26, c26, r26, d26, m26, _⟩ := hz 26 (by decide)
  have key : CallsM prog 17 [.pointer (some ⟨bk, 0, none⟩)].toArray B (H.cuts F) (Rs ++ (((bk, cl C 77) :: (List.range 33).flatMap Rows) ++ O)) (Same (.bool true) (H.cuts F) O) := by
    refine CallsM.perm (hRK.append_right _) ?_
    refine CallsM.subO ((bk, cl C 77) :: (Rows 0 ++ (RK 0 ++ (Rows 4 ++ (RK 4 ++ (Rows 6 ++ (RK 6 ++ (Rows 7 ++ (RK 7 ++ (Rows 17 ++ (RK 17 ++ (Rows 19 ++ (RK 19 ++ (Rows 26 ++ (RK 26 ++ (O)))))))))))))))) (fun q s e0 e1 e2 => ?_) ?_
    · rw [range33]; simp only [List.flatMap_cons, List.flatMap_nil, e0, e1, e2]; omega
    exact apart_ok h1 c0 r0 d0 m0 c4 r4 d4 m4 c6 r6 d6 m6 c7 r7 d7 m7 c17 r17 d17 m17 c19 r19 d19 m19 c26 r26 d26 m26 (ab 1 (by decide) rfl) (ab 2 (by decide) rfl) (ab 3 (by decide) rfl) (ab 5 (by decide) rfl) (ab 8 (by decide) rfl) (ab 9 (by decide) rfl) (ab 10 (by decide) rfl) (ab 11 (by decide) rfl) (ab 12 (by decide) rfl) (ab 13 (by decide) rfl) (ab 14 (by decide) rfl) (ab 15 (by decide) rfl) (ab 16 (by decide) rfl) (ab 18 (by decide) rfl) (ab 20 (by decide) rfl) (ab 21 (by decide) rfl) (ab 22 (by decide) rfl) (ab 23 (by decide) rfl) (ab 24 (by decide) rfl) (ab 25 (by decide) rfl) (ab 27 (by decide) rfl) (ab 28 (by decide) rfl) (ab 29 (by decide) rfl) (ab 30 (by decide) rfl) (ab 31 (by decide) rfl) (ab 32 (by decide) rfl)
  intro w hw
  refine (key w (hw.thaws hB g hp fl.inH)).mono ?_
  rintro e' w' ⟨v, H', O', h1, h2, rfl, rfl, rfl⟩
  exact ⟨_, _, _, h1, h2, rfl, Ext.cuts g, rfl⟩
theorem sum_le {α : Type} {f g : α → Nat} : ∀ {l : List α}, (∀ x ∈ l, f x ≤ g x) → (l.map f).sum ≤ (l.map g).sum
  | [], _ => by simp
  | x :: l, h => by
    have h1 := h x (by simp)
    have h2 := sum_le (l := l) (f := f) (g := g) (fun y hy => h y (by simp [hy]))
    simp only [List.map_cons, List.sum_cons]; omega
theorem sum_mul {α : Type} (f : α → Nat) (k : Nat) : ∀ l : List α, (l.map fun x => k * f x).sum = k * (l.map f).sum
  | [] => rfl
  | x :: l => by simp only [List.map_cons, List.sum_cons, sum_mul f k l, Nat.mul_add]
theorem nlNodes_eq (xs : List Node) : nlNodes xs = xs.length + 1 := by
  unfold nlNodes
  have : (xs.map nlNode).sum = xs.length := by
    induction xs with
    | nil => rfl
    | cons x xs ih => simp only [List.map_cons, List.sum_cons, ih, nlNode, List.length_cons]; omega
  rw [this]
theorem nlCommit_le (c : Commit) : nlCommit c ≤ 5 * commitSize c := by
  have h1 : c.next_.nodes.length ≤ treeSize c.next_ := capSum_ge _ _
  unfold nlCommit commitSize
  rw [nlNodes_eq]; omega
theorem nlLog_le {x : Log} (h : logSize x ≤ 262144) : nlLog x ≤ 5 * logSize x := by
  have e := capSum_eq (lim := 262144) (x.commits.map commitSize) (1 + x.commits.length) (by unfold logSize at h; omega)
  unfold nlLog nlCommits logSize
  rw [e]
  have := sum_le (l := x.commits) (f := nlCommit) (g := fun c => 5 * commitSize c) (fun c _ => nlCommit_le c)
  rw [sum_mul] at this
  omega
theorem nlLogs_le {xs : List Log} (h : logsSize xs ≤ 262144) : nlLogs xs ≤ 2000000 := by
  have e := capSum_eq (lim := 1048575) (xs.map logSize) xs.length (by unfold logsSize at h; omega)
  unfold logsSize at h
  rw [e] at h
  have := sum_le (l := xs) (f := nlLog) (g := fun x => 5 * logSize x) (fun x hx => nlLog_le (by
    have := sum_mem (List.mem_map.2 ⟨x, hx, rfl⟩ : logSize x ∈ xs.map logSize)
    omega))
  rw [sum_mul] at this
  unfold nlLogs
  omega
theorem nlLogs_app {xs : List Log} {c : Commit} : nlLogs (appLogs xs c) ≤ nlLogs xs + nlCommit c + 1 := by
  by_cases h : appErr xs c = 0
  · obtain ⟨hv, ht, he, A, D, hA, hD, hl, hh⟩ := app_parts h
    rw [hl]
    rcases hh with ⟨hf, x, hx, hc, hxs⟩ | ⟨hf, hc, hxs, _⟩
    · rw [hxs]
      rw [hxs] at hc
      have e : nlLog ⟨c.group, x.commits ++ [c]⟩ = nlLog x + nlCommit c := by simp [nlLog, nlCommits]; omega
      rw [← hc]
      simp only [nlLogs, List.map_append, List.map_cons, List.sum_append, List.sum_cons, e]; omega
    rw [hc, hxs]
    have e : nlLog ⟨c.group, [] ++ [c]⟩ = nlCommit c + 1 := by simp [nlLog, nlCommits]
    simp only [nlLogs, List.map_append, List.map_cons, List.sum_append, List.sum_cons, e]; omega
  rw [app_nil h]; simp [nlLogs]
end Go.Ph
set_option linter.unusedVariables false
set_option linter.unusedSimpArgs false
set_option maxRecDepth 100000
namespace Go.Ph
open Go Go.RowKit Go.Proofs.YtmgnagpgnoikfaaGreatDoor Go.Proofs.Tryz
theorem beyond2 {a b : Nat} (h : beyondI [(a : Int), (b : Int)] 0 = false) : a ≤ 262144 ∧ b ≤ 262144 := by
  simp only [beyondI] at h
  split at h
  · cases h
  split at h
  · cases h
  split at h
  · cases h
  split at h
  · cases h
  omega
theorem row2 {H : HM} {b : Nat} {x y : Int} (hx : InR x) (hy : InR y) (hN : ∀ c o, (c, o) ∈ [(b, cl [.int .i64 x, .int .i64 y] 3)] → H c = none) : RdL (H.add [(b, cl [.int .i64 x, .int .i64 y] 3)]) (.slice (some ⟨b, 0, none⟩) 2 2) [x, y] :=
  Row.freeze (n := 2) (e := 3) (cs := [.int .i64 x, .int .i64 y]) ⟨rfl, .inr ⟨b, 2, [], rfl, Nat.le_refl _, rfl, rfl⟩⟩ rfl (El.c (cs := [.int .i64 x]) ⟨rfl, hx⟩ (El.c (cs := [.int .i64 y]) ⟨rfl, hy⟩ .n)) (by exact Nat.le_of_ble_eq_true rfl) hN
theorem sameLogs_yes {B : World} {H : HM} {O : OL} {v u : Value} {xs : List Log} (h : RdL H v xs) (hu : RdL H u xs) : CallsM prog 12 [v, u].toArray B H O (Same (.bool true) H O) := by
  have := sameLogs_ok (B := B) (O := O) h hu
  rwa [decide_eq_true rfl] at this
set_option maxHeartbeats 2000000 in
theorem appends_true {B : World} {H : HM} {O : OL} {v : Value} {xs : List Log} {cs : List Value} {c : Commit} (hT : TabAt H) (h : RdL H v xs) (hc : Rep.rd H cs c) : CallsM prog 3 [v, .agg cs.toArray].toArray B H O (Yes H O) := by
  refine CallsM.base fun hB => ?_
  have hls := logsSize_le h
  have hcz := commitSize_le hc
  have hk := hc
  have wk := Rep.one hc
  obtain ⟨u6, u7, u8, u9, u12, rfl, h0, h1, h2, h3, h4, h5, h6, h7, h8, h9, h10, h11, h12, h13⟩ := hc
  refine enter func3 rfl ntmps3 (l := [(0, _), (1, _)]) rfl rfl ?_
  refine x_seq ?_
  refine x_region rfl ?_
  refine o_box rfl (cs := [_, _, _, _, _, _, _, _, _, _, _, _, _, _, _]) rfl (fun b3 => ?_)
  refine o_y (y_assign rfl) ?_
  refine o_nil ?_
  refine x_seq ?_
  refine x_seq ?_
  refine x_regionP [(0, true), (2, true), (1, false), (3, false), (4, false), (5, false)] [0, 2] [] mixed (by kernel_rfl) npa ?_
  have hE := Ext.refl H
  refine p_take rfl rfl (y_move rfl) ?_
  refine p_take rfl rfl (y_loadA ti31 rfl inn rfl) ?_
  refine p_only rfl rfl ?_
  refine o_call fn6 rfl (logsSize_ok h) ?_
  rintro _ _ _ ⟨rfl, rfl, rfl⟩
  refine o_nil ?_
  refine ⟨.inr ⟨hE, hld⟩, ?_⟩
  refine p_only rfl rfl ?_
  refine o_call fn7 rfl (commitSize_ok hk) ?_
  rintro _ _ _ ⟨rfl, rfl, rfl⟩
  refine o_nil ?_
  refine ⟨.inr ⟨hE, hld⟩, ?_⟩
  refine p_only rfl rfl ?_
  refine o_buildSlice (C := [_, _]) underlying24 ti3 (by decide) (by decide) (evs_ok rfl) (fill_i2 _ _) (fun b16 => ?_)
  refine o_nil ?_
  refine ⟨.inr ⟨hE, hld⟩, ?_⟩
  refine p_only rfl rfl ?_
  refine o_call fn5 rfl (CallsM.lend (A := []) (O' := _) [(b16, _)] rfl (fun hN hX => beyond_ok (xs := [(logsSize xs : Int), (commitSize c : Int)]) (row2 (by show InR (logsSize xs : Int); unfold InR; omega) (by show InR (commitSize c : Int); unfold InR; omega) hN))) ?_
  rintro _ _ _ ⟨rfl, rfl, rfl⟩
  refine o_nil ?_
  refine ⟨.inr ⟨hE, hld⟩, ?_⟩
  refine p_nil ?_
  refine x_cond rfl (fun hc0 => ?_) (fun hc0 => ?_)
  · try simp only [kk] at hc0
    refine x_seq ?_
    refine x_region rfl ?_
    refine o_y (y_assign rfl) ?_
    refine o_nil ?_
    refine x_ret ?_
    refine x_fin 2 (ret1 rfl rfl) ?_
    exact ⟨rfl, Ext.refl _, rfl⟩
  try simp only [kk] at hc0
  obtain ⟨hz1, hz2⟩ := beyond2 hc0
  have hsm : ∀ x ∈ xs, x.commits.length ≤ 1000000 := fun x hx => by have := logs_small hz1 x hx; omega
  have n1 := nlLogs_le hz1
  have n2 := nlCommit_le c
  have n3 := nlLogs_app (xs := xs) (c := c)
  refine x_skip ?_
  refine x_seq ?_
  refine x_regionG _ (fun _ h => h) [0, 2, 5] [6] mixed (by kernel_rfl) npa ?_
  have hE := Ext.refl H
  refine g_take 0 (by kernel_rfl) rfl rfl rfl (y_move rfl) ?_
  refine g_take 2 (by kernel_rfl) rfl rfl rfl (y_loadA ti31 rfl inn rfl) ?_
  refine g_all2 (i := 1) (j := 4) (by kernel_rfl) ?g1a ?g1b
  case' g1a =>
    refine g_one rfl rfl rfl rfl ?_
    refine o_call fn8 rfl (twinLogs_ok h) ?_
    rintro v19 H1 _ ⟨rfl, F19, g19, r19⟩
    refine o_nil ?_
    replace hE := hE.trans g19.ext
    obtain ⟨p19, c19, rfl⟩ := r19.shape
    refine ⟨.inr ⟨hE, hld⟩, ?_⟩
    refine g_all2 (i := 3) (j := 4) (by kernel_rfl) ?g2a ?g2b
    case' g2a =>
      refine g_one rfl rfl rfl rfl ?_
      refine o_call fn9 rfl (twinCommit_ok (Rep.mono g19.ext hk)) ?_
      rintro v21 H2 _ ⟨rfl, F21, cs21, g21, rfl, r21⟩
      refine o_nil ?_
      replace hE := hE.trans g21.ext
      have w21 := Rep.one (Own.ow_rd r21)
      have r21k := r21
      obtain ⟨d6, d7, d8, d9, d12, f6, f7, f8, f9, f12, rfl, r21⟩ := r21
      refine ⟨.inr ⟨hE, hld⟩, ?_⟩
      refine g_all1 (i := 4) (by kernel_rfl) ?_
      refine g_one rfl rfl rfl rfl ?_
      refine o_alloc ti31 rfl (fun b6 => ?_)
      refine o_nil ?_
      refine ⟨.inr ⟨hE, hld⟩, ?_⟩
      refine g_take 5 (by kernel_rfl) rfl rfl rfl (y_assign rfl) ?_
      refine g_all1 (i := 6) (by kernel_rfl) ?_
      refine g_one rfl rfl rfl rfl ?_
      refine o_store (u := [_, _, _, _, _, _, _, _, _, _, _, _, _, _, _]) (C' := [_, _, _, _, _, _, _, _, _, _, _, _, _, _, _]) ti31 rfl rfl rfl rfl (by first | rfl | assumption | (simp only [ones, List.all_cons, List.all_nil, Bool.and_true, one_of (by assumption)]; done)) (by repeat (first | exact .z | apply Upd.s | apply Upd.a)) (by exact Nat.le_of_ble_eq_true rfl) (by rfl) ?_
      refine o_nil ?_
      refine ⟨.inl rfl, ?_⟩
      refine g_nil (by kernel_rfl) ?_
    case' g2b =>
      refine g_one rfl rfl rfl rfl ?_
      refine o_alloc ti31 rfl (fun b6 => ?_)
      refine o_nil ?_
      refine ⟨.inr ⟨hE, hld⟩, ?_⟩
      refine g_all1 (i := 3) (by kernel_rfl) ?_
      refine g_one rfl rfl rfl rfl ?_
      refine o_call fn9 rfl (twinCommit_ok (Rep.mono g19.ext hk)) ?_
      rintro v21 H2 _ ⟨rfl, F21, cs21, g21, rfl, r21⟩
      refine o_nil ?_
      replace hE := hE.trans g21.ext
      have w21 := Rep.one (Own.ow_rd r21)
      have r21k := r21
      obtain ⟨d6, d7, d8, d9, d12, f6, f7, f8, f9, f12, rfl, r21⟩ := r21
      refine ⟨.inr ⟨hE, hld⟩, ?_⟩
      refine g_take 5 (by kernel_rfl) rfl rfl rfl (y_assign rfl) ?_
      refine g_all1 (i := 6) (by kernel_rfl) ?_
      refine g_one rfl rfl rfl rfl ?_
      refine o_store (u := [_, _, _, _, _, _, _, _, _, _, _, _, _, _, _]) (C' := [_, _, _, _, _, _, _, _, _, _, _, _, _, _, _]) ti31 rfl rfl rfl rfl (by first | rfl | assumption | (simp only [ones, List.all_cons, List.all_nil, Bool.and_true, one_of (by assumption)]; done)) (by repeat (first | exact .z | apply Upd.s | apply Upd.a)) (by exact Nat.le_of_ble_eq_true rfl) (by rfl) ?_
      refine o_nil ?_
      refine ⟨.inl rfl, ?_⟩
      refine g_nil (by kernel_rfl) ?_
  case' g1b =>
    refine g_one rfl rfl rfl rfl ?_
    refine o_alloc ti31 rfl (fun b6 => ?_)
    refine o_nil ?_
    refine ⟨.inr ⟨hE, hld⟩, ?_⟩
    refine g_all1 (i := 1) (by kernel_rfl) ?_
    refine g_one rfl rfl rfl rfl ?_
    refine o_call fn8 rfl (twinLogs_ok h) ?_
    rintro v19 H1 _ ⟨rfl, F19, g19, r19⟩
    refine o_nil ?_
    replace hE := hE.trans g19.ext
    obtain ⟨p19, c19, rfl⟩ := r19.shape
    refine ⟨.inr ⟨hE, hld⟩, ?_⟩
    refine g_all1 (i := 3) (by kernel_rfl) ?_
    refine g_one rfl rfl rfl rfl ?_
    refine o_call fn9 rfl (twinCommit_ok (Rep.mono g19.ext hk)) ?_
    rintro v21 H2 _ ⟨rfl, F21, cs21, g21, rfl, r21⟩
    refine o_nil ?_
    replace hE := hE.trans g21.ext
    have w21 := Rep.one (Own.ow_rd r21)
    have r21k := r21
    obtain ⟨d6, d7, d8, d9, d12, f6, f7, f8, f9, f12, rfl, r21⟩ := r21
    refine ⟨.inr ⟨hE, hld⟩, ?_⟩
    refine g_take 5 (by kernel_rfl) rfl rfl rfl (y_assign rfl) ?_
    refine g_all1 (i := 6) (by kernel_rfl) ?_
    refine g_one rfl rfl rfl rfl ?_
    refine o_store (u := [_, _, _, _, _, _, _, _, _, _, _, _, _, _, _]) (C' := [_, _, _, _, _, _, _, _, _, _, _, _, _, _, _]) ti31 rfl rfl rfl rfl (by first | rfl | assumption | (simp only [ones, List.all_cons, List.all_nil, Bool.and_true, one_of (by assumption)]; done)) (by repeat (first | exact .z | apply Upd.s | apply Upd.a)) (by exact Nat.le_of_ble_eq_true rfl) (by rfl) ?_
    refine o_nil ?_
    refine ⟨.inl rfl, ?_⟩
    refine g_nil (by kernel_rfl) ?_
  all_goals
    refine x_seq ?_
    have r19b := r19.mono g21.ext
    have hX2 := g19.ext.trans g21.ext
    have hT2 := hT.ext hX2
    refine x_region rfl ?_
    refine o_y (y_move rfl) ?_
    refine o_y (y_loadA ti31 rfl inn rfl) ?_
    refine o_call fn10 rfl (append_own hT2 r19b.rdL (Own.ow_rd r21k) hsm) ?_
    rintro v25 H3 _ ⟨rfl, F25, u25, g25, rfl, r25⟩
    obtain ⟨p25, c25, rfl⟩ := r25.shape
    refine o_y (y_move rfl) ?_
    refine o_y (y_extract rfl rfl) ?_
    refine o_y (y_extract rfl rfl) ?_
    refine o_y (y_assign rfl) ?_
    refine o_y (y_assign rfl) ?_
    refine o_nil ?_
    refine x_seq ?_
    have hX3 := hX2.trans g25.ext
    refine x_region rfl ?_
    refine o_y (y_move rfl) ?_
    refine o_y (y_loadA ti31 rfl inn rfl) ?_
    refine o_call fn11 rfl (rappend_ok (h.mono hX3) (Rep.mono hX3 hk) hsm) ?_
    rintro v31 H4 _ ⟨x31, rfl, u31, rfl, r31⟩
    obtain ⟨p31, c31, rfl⟩ := r31.shape
    refine o_y (y_move rfl) ?_
    refine o_y (y_extract rfl rfl) ?_
    refine o_y (y_extract rfl rfl) ?_
    refine o_y (y_assign rfl) ?_
    refine o_y (y_assign rfl) ?_
    refine o_nil ?_
    refine x_seq ?_
    refine x_seq ?_
    have hX4 := hX3.trans x31
    have r19c := r19b.mono (g25.ext.trans x31)
    have r21c := Own.ow_mono (g25.ext.trans x31) r21k
    have r25c := r25.mono x31
    have gg := (((g19.trans g21).trans g25).ext' x31)
    refine x_region rfl ?_
    refine o_y (y_move rfl) ?_
    refine o_y (y_move rfl) ?_
    refine o_y (y_neq rfl rfl) ?_
    refine o_y (y_move rfl) ?_
    refine o_split 37 rfl (fun hg6_37 => ?_) (fun hg6_37 => ?_)
    · try simp only [kk] at hg6_37
      exfalso; simp at hg6_37
    try simp only [kk] at hg6_37
    refine o_gy 37 rfl rfl (y_move rfl) ?_
    refine o_gy 37 rfl rfl (y_move rfl) ?_
    refine o_gcall 37 rfl rfl fn12 rfl (sameLogs_yes r25c.rdL r31) ?_
    rintro _ _ _ ⟨rfl, rfl, rfl⟩
    refine o_gy 37 rfl rfl (y_not rfl) ?_
    refine o_y (y_pick rfl rfl) ?_
    refine o_y (y_move rfl) ?_
    refine o_gy 43 rfl rfl (y_move rfl) ?_
    refine o_gy 43 rfl rfl (y_move rfl) ?_
    refine o_gcall 43 rfl rfl fn13 rfl (leftLogs_ok r19c (h.mono hX4)) ?_
    rintro _ _ _ ⟨rfl, rfl, rfl⟩
    refine o_gy 43 rfl rfl (y_not rfl) ?_
    refine o_y (y_pick rfl rfl) ?_
    refine o_y (y_move rfl) ?_
    refine o_gy 49 rfl rfl (y_loadA ti31 rfl inn rfl) ?_
    refine o_gy 49 rfl rfl (y_loadA ti31 rfl inn rfl) ?_
    refine o_gcall 49 rfl rfl fn14 rfl (leftCommit_ok r21c (Rep.mono hX4 hk)) ?_
    rintro _ _ _ ⟨rfl, rfl, rfl⟩
    refine o_gy 49 rfl rfl (y_not rfl) ?_
    refine o_y (y_pick rfl rfl) ?_
    refine o_nil ?_
    refine x_condF rfl ?_
    refine x_skip ?_
    refine x_seq ?_
    refine x_region rfl ?_
    refine o_y (y_buildS bt77 rfl (C := [_, _, _, _, _, _, _, _, _, _, _, _, _, _, _, _, _, _, _, _, _, _, _, _, _, _, _, _, _, _, _, _, _, _, _]) rfl) ?_
    refine o_alloc ti77 rfl (fun b11 => ?_)
    refine o_store (u := [_, _, _, _, _, _, _, _, _, _, _, _, _, _, _, _, _, _, _, _, _, _, _, _, _, _, _, _, _, _, _, _, _, _, _]) (C' := [_, _, _, _, _, _, _, _, _, _, _, _, _, _, _, _, _, _, _, _, _, _, _, _, _, _, _, _, _, _, _, _, _, _, _]) ti77 rfl rfl rfl rfl (by first | rfl | assumption | (simp only [ones, List.all_cons, List.all_nil, Bool.and_true, one_of (by assumption)]; done)) (by repeat (first | exact .z | apply Upd.s | apply Upd.a)) (by exact Nat.le_of_ble_eq_true rfl) (by rfl) ?_
    refine o_nil ?_
    refine x_seq ?_
    refine x_region rfl ?_
    refine o_y (y_move rfl) ?_
    refine o_call fn15 rfl (bookLogs_ok (S := [(b11, _)]) (O := _) (BkMem.zero rfl) r19c (by show 0 + nlLogs xs ≤ 1000000000000; omega)) ?_
    rintro _ _ _ ⟨rfl, S1, l1, rfl, e1, m1, f1⟩
    refine o_nil ?_
    refine x_seq ?_
    refine x_region rfl ?_
    refine o_y (y_move rfl) ?_
    refine o_call fn15 rfl (bookLogs_ok m1 r25c (by rw [BK.adds_count]; show 0 + _ + _ ≤ _; omega)) ?_
    rintro _ _ _ ⟨rfl, S2, l2, rfl, e2, m2, f2⟩
    refine o_nil ?_
    refine x_seq ?_
    refine x_region rfl ?_
    refine o_y (y_loadA ti31 rfl inn rfl) ?_
    refine o_call fn16 rfl (bookCommit_ok m2 r21c (by rw [BK.adds_count, BK.adds_count]; show 0 + _ + _ + _ ≤ _; omega)) ?_
    rintro _ _ _ ⟨rfl, S3, l3, rfl, e3, m3, f3⟩
    refine o_nil ?_
    refine x_seq ?_
    rw [← BK.adds_append, ← BK.adds_append] at m3
    have fA := Flat.perm (f1.append f2 |>.append f3) (G := F19 ++ F21 ++ F25) (perm_count fun a => by simp only [List.count_append]; omega)
    refine x_region rfl ?_
    refine o_call fn17 rfl (apart_call hB gg (l := l1 ++ l2 ++ l3) (by simpa using m3) fA (by simp only [List.length_append]; omega)) ?_
    rintro v62 H5 _ ⟨rfl, x62, rfl⟩
    refine o_y (y_move rfl) ?_
    refine o_gcall 63 rfl rfl fn18 rfl (alive_ok (hT.ext x62)) ?_
    rintro v64 H6 _ ⟨rfl, x64, rfl⟩
    refine o_y (y_pick rfl rfl) ?_
    refine o_y (y_assign rfl) ?_
    refine o_nil ?_
    refine x_ret ?_
    refine x_fin 3 (ret1 rfl rfl) ?_
    exact ⟨rfl, x62.trans x64, rfl⟩
end Go.Ph
set_option linter.unusedVariables false
set_option linter.unusedSimpArgs false
set_option maxRecDepth 100000
namespace Go.Ph
open Go Go.RowKit Go.Proofs.YtmgnagpgnoikfaaGreatDoor Go.Proofs.Tryz
theorem reads_Int : Reads prog Int 3 := reads_int underlying3
theorem reads_Bool : Reads prog Bool 4 := reads_bool underlying4
theorem reads_AddE : Reads prog AddE 131 := by
  intro J enc W sp fuel cs d p h hw
  obtain ⟨hl, hf⟩ := trod_field underlying131 h hw
  rw [show prog.cellsOf 131 = 3 by kernel_rfl] at hl
  match cs, hl with
  | [a0, a1, a2], _ =>
    obtain ⟨_, _, _, h0, w0⟩ := hf 0 _ rfl
    obtain ⟨x0, r0⟩ := reads_Int h0 w0
    change Rep.rd _ (List.take (prog.cellsOf 3) (List.drop 0 [a0, a1, a2])) x0 at r0
    rw [show prog.cellsOf 3 = 1 by kernel_rfl] at r0
    change Rep.rd _ [a0] x0 at r0
    obtain ⟨e0, r0⟩ := r0
    simp only [List.cons.injEq, and_true] at e0
    obtain ⟨_, _, _, h1, w1⟩ := hf 1 _ rfl
    obtain ⟨x1, r1⟩ := reads_Int h1 w1
    change Rep.rd _ (List.take (prog.cellsOf 3) (List.drop 1 [a0, a1, a2])) x1 at r1
    rw [show prog.cellsOf 3 = 1 by kernel_rfl] at r1
    change Rep.rd _ [a1] x1 at r1
    obtain ⟨e1, r1⟩ := r1
    simp only [List.cons.injEq, and_true] at e1
    obtain ⟨_, _, _, h2, w2⟩ := hf 2 _ rfl
    obtain ⟨x2, r2⟩ := reads_Int h2 w2
    change Rep.rd _ (List.take (prog.cellsOf 3) (List.drop 2 [a0, a1, a2])) x2 at r2
    rw [show prog.cellsOf 3 = 1 by kernel_rfl] at r2
    change Rep.rd _ [a2] x2 at r2
    obtain ⟨e2, r2⟩ := r2
    simp only [List.cons.injEq, and_true] at e2
    subst e0
    subst e1
    subst e2
    exact ⟨⟨x0, x1, x2⟩, ⟨rfl, r0, r1, r2⟩⟩
theorem reads_Seal : Reads prog Seal 135 := by
  intro J enc W sp fuel cs d p h hw
  obtain ⟨hl, hf⟩ := trod_field underlying135 h hw
  rw [show prog.cellsOf 135 = 3 by kernel_rfl] at hl
  match cs, hl with
  | [a0, a1, a2], _ =>
    obtain ⟨_, _, _, h0, w0⟩ := hf 0 _ rfl
    obtain ⟨x0, r0⟩ := reads_Int h0 w0
    change Rep.rd _ (List.take (prog.cellsOf 3) (List.drop 0 [a0, a1, a2])) x0 at r0
    rw [show prog.cellsOf 3 = 1 by kernel_rfl] at r0
    change Rep.rd _ [a0] x0 at r0
    obtain ⟨e0, r0⟩ := r0
    simp only [List.cons.injEq, and_true] at e0
    obtain ⟨_, _, _, h1, w1⟩ := hf 1 _ rfl
    obtain ⟨x1, r1⟩ := reads_Int h1 w1
    change Rep.rd _ (List.take (prog.cellsOf 3) (List.drop 1 [a0, a1, a2])) x1 at r1
    rw [show prog.cellsOf 3 = 1 by kernel_rfl] at r1
    change Rep.rd _ [a1] x1 at r1
    obtain ⟨e1, r1⟩ := r1
    simp only [List.cons.injEq, and_true] at e1
    obtain ⟨_, _, _, h2, w2⟩ := hf 2 _ rfl
    obtain ⟨x2, r2⟩ := reads_Int h2 w2
    change Rep.rd _ (List.take (prog.cellsOf 3) (List.drop 2 [a0, a1, a2])) x2 at r2
    rw [show prog.cellsOf 3 = 1 by kernel_rfl] at r2
    change Rep.rd _ [a2] x2 at r2
    obtain ⟨e2, r2⟩ := r2
    simp only [List.cons.injEq, and_true] at e2
    subst e0
    subst e1
    subst e2
    exact ⟨⟨x0, x1, x2⟩, ⟨rfl, r0, r1, r2⟩⟩
theorem reads_Join : Reads prog Join 138 := by
  intro J enc W sp fuel cs d p h hw
  obtain ⟨hl, hf⟩ := trod_field underlying138 h hw
  rw [show prog.cellsOf 138 = 2 by kernel_rfl] at hl
  match cs, hl with
  | [a0, a1], _ =>
    obtain ⟨_, _, _, h0, w0⟩ := hf 0 _ rfl
    obtain ⟨x0, r0⟩ := reads_Int h0 w0
    change Rep.rd _ (List.take (prog.cellsOf 3) (List.drop 0 [a0, a1])) x0 at r0
    rw [show prog.cellsOf 3 = 1 by kernel_rfl] at r0
    change Rep.rd _ [a0] x0 at r0
    obtain ⟨e0, r0⟩ := r0
    simp only [List.cons.injEq, and_true] at e0
    obtain ⟨_, _, _, h1, w1⟩ := hf 1 _ rfl
    obtain ⟨x1, r1⟩ := reads_Int h1 w1
    change Rep.rd _ (List.take (prog.cellsOf 3) (List.drop 1 [a0, a1])) x1 at r1
    rw [show prog.cellsOf 3 = 1 by kernel_rfl] at r1
    change Rep.rd _ [a1] x1 at r1
    obtain ⟨e1, r1⟩ := r1
    simp only [List.cons.injEq, and_true] at e1
    subst e0
    subst e1
    exact ⟨⟨x0, x1⟩, ⟨rfl, r0, r1⟩⟩
theorem reads_sInt : Reads prog (List Int) 24 := reads_slice underlying24 (by kernel_rfl) (by decide) (by kernel_rfl) reads_Int
theorem reads_Node : Reads prog Node 127 := by
  intro J enc W sp fuel cs d p h hw
  obtain ⟨hl, hf⟩ := trod_field underlying127 h hw
  rw [show prog.cellsOf 127 = 4 by kernel_rfl] at hl
  match cs, hl with
  | [a0, a1, a2, a3], _ =>
    obtain ⟨_, _, _, h0, w0⟩ := hf 0 _ rfl
    obtain ⟨x0, r0⟩ := reads_Int h0 w0
    change Rep.rd _ (List.take (prog.cellsOf 3) (List.drop 0 [a0, a1, a2, a3])) x0 at r0
    rw [show prog.cellsOf 3 = 1 by kernel_rfl] at r0
    change Rep.rd _ [a0] x0 at r0
    obtain ⟨e0, r0⟩ := r0
    simp only [List.cons.injEq, and_true] at e0
    obtain ⟨_, _, _, h1, w1⟩ := hf 1 _ rfl
    obtain ⟨x1, r1⟩ := reads_Int h1 w1
    change Rep.rd _ (List.take (prog.cellsOf 3) (List.drop 1 [a0, a1, a2, a3])) x1 at r1
    rw [show prog.cellsOf 3 = 1 by kernel_rfl] at r1
    change Rep.rd _ [a1] x1 at r1
    obtain ⟨e1, r1⟩ := r1
    simp only [List.cons.injEq, and_true] at e1
    obtain ⟨_, _, _, h2, w2⟩ := hf 2 _ rfl
    obtain ⟨x2, r2⟩ := reads_Int h2 w2
    change Rep.rd _ (List.take (prog.cellsOf 3) (List.drop 2 [a0, a1, a2, a3])) x2 at r2
    rw [show prog.cellsOf 3 = 1 by kernel_rfl] at r2
    change Rep.rd _ [a2] x2 at r2
    obtain ⟨e2, r2⟩ := r2
    simp only [List.cons.injEq, and_true] at e2
    obtain ⟨_, _, _, h3, w3⟩ := hf 3 _ rfl
    obtain ⟨x3, r3⟩ := reads_sInt h3 w3
    change Rep.rd _ (List.take (prog.cellsOf 24) (List.drop 3 [a0, a1, a2, a3])) x3 at r3
    rw [show prog.cellsOf 24 = 1 by kernel_rfl] at r3
    change Rep.rd _ [a3] x3 at r3
    obtain ⟨v3, e3, r3⟩ := r3
    simp only [List.cons.injEq, and_true] at e3
    subst e0
    subst e1
    subst e2
    subst e3
    exact ⟨⟨x0, x1, x2, x3⟩, ⟨_, rfl, r0, r1, r2, r3⟩⟩
theorem reads_sNode : Reads prog (List Node) 27 := reads_slice underlying27 (by kernel_rfl) (by decide) (by kernel_rfl) reads_Node
theorem reads_Tree : Reads prog Tree 29 := by
  intro J enc W sp fuel cs d p h hw
  obtain ⟨hl, hf⟩ := trod_field underlying29 h hw
  rw [show prog.cellsOf 29 = 1 by kernel_rfl] at hl
  match cs, hl with
  | [a0], _ =>
    obtain ⟨_, _, _, h0, w0⟩ := hf 0 _ rfl
    obtain ⟨x0, r0⟩ := reads_sNode h0 w0
    change Rep.rd _ (List.take (prog.cellsOf 27) (List.drop 0 [a0])) x0 at r0
    rw [show prog.cellsOf 27 = 1 by kernel_rfl] at r0
    change Rep.rd _ [a0] x0 at r0
    obtain ⟨v0, e0, r0⟩ := r0
    simp only [List.cons.injEq, and_true] at e0
    subst e0
    exact ⟨⟨x0⟩, ⟨_, rfl, r0⟩⟩
theorem reads_sAddE : Reads prog (List AddE) 23 := reads_slice underlying23 (by kernel_rfl) (by decide) (by kernel_rfl) reads_AddE
theorem reads_sSeal : Reads prog (List Seal) 25 := reads_slice underlying25 (by kernel_rfl) (by decide) (by kernel_rfl) reads_Seal
theorem reads_sJoin : Reads prog (List Join) 26 := reads_slice underlying26 (by kernel_rfl) (by decide) (by kernel_rfl) reads_Join
theorem reads_Commit : Reads prog Commit 31 := by
  intro J enc W sp fuel cs d p h hw
  obtain ⟨hl, hf⟩ := trod_field underlying31 h hw
  rw [show prog.cellsOf 31 = 15 by kernel_rfl] at hl
  match cs, hl with
  | [a0, a1, a2, a3, a4, a5, a6, a7, a8, a9, a10, a11, a12, a13, a14], _ =>
    obtain ⟨_, _, _, h0, w0⟩ := hf 0 _ rfl
    obtain ⟨x0, r0⟩ := reads_Int h0 w0
    change Rep.rd _ (List.take (prog.cellsOf 3) (List.drop 0 [a0, a1, a2, a3, a4, a5, a6, a7, a8, a9, a10, a11, a12, a13, a14])) x0 at r0
    rw [show prog.cellsOf 3 = 1 by kernel_rfl] at r0
    change Rep.rd _ [a0] x0 at r0
    obtain ⟨e0, r0⟩ := r0
    simp only [List.cons.injEq, and_true] at e0
    obtain ⟨_, _, _, h1, w1⟩ := hf 1 _ rfl
    obtain ⟨x1, r1⟩ := reads_Int h1 w1
    change Rep.rd _ (List.take (prog.cellsOf 3) (List.drop 1 [a0, a1, a2, a3, a4, a5, a6, a7, a8, a9, a10, a11, a12, a13, a14])) x1 at r1
    rw [show prog.cellsOf 3 = 1 by kernel_rfl] at r1
    change Rep.rd _ [a1] x1 at r1
    obtain ⟨e1, r1⟩ := r1
    simp only [List.cons.injEq, and_true] at e1
    obtain ⟨_, _, _, h2, w2⟩ := hf 2 _ rfl
    obtain ⟨x2, r2⟩ := reads_Int h2 w2
    change Rep.rd _ (List.take (prog.cellsOf 3) (List.drop 2 [a0, a1, a2, a3, a4, a5, a6, a7, a8, a9, a10, a11, a12, a13, a14])) x2 at r2
    rw [show prog.cellsOf 3 = 1 by kernel_rfl] at r2
    change Rep.rd _ [a2] x2 at r2
    obtain ⟨e2, r2⟩ := r2
    simp only [List.cons.injEq, and_true] at e2
    obtain ⟨_, _, _, h3, w3⟩ := hf 3 _ rfl
    obtain ⟨x3, r3⟩ := reads_Int h3 w3
    change Rep.rd _ (List.take (prog.cellsOf 3) (List.drop 3 [a0, a1, a2, a3, a4, a5, a6, a7, a8, a9, a10, a11, a12, a13, a14])) x3 at r3
    rw [show prog.cellsOf 3 = 1 by kernel_rfl] at r3
    change Rep.rd _ [a3] x3 at r3
    obtain ⟨e3, r3⟩ := r3
    simp only [List.cons.injEq, and_true] at e3
    obtain ⟨_, _, _, h4, w4⟩ := hf 4 _ rfl
    obtain ⟨x4, r4⟩ := reads_Int h4 w4
    change Rep.rd _ (List.take (prog.cellsOf 3) (List.drop 4 [a0, a1, a2, a3, a4, a5, a6, a7, a8, a9, a10, a11, a12, a13, a14])) x4 at r4
    rw [show prog.cellsOf 3 = 1 by kernel_rfl] at r4
    change Rep.rd _ [a4] x4 at r4
    obtain ⟨e4, r4⟩ := r4
    simp only [List.cons.injEq, and_true] at e4
    obtain ⟨_, _, _, h5, w5⟩ := hf 5 _ rfl
    obtain ⟨x5, r5⟩ := reads_Bool h5 w5
    change Rep.rd _ (List.take (prog.cellsOf 4) (List.drop 5 [a0, a1, a2, a3, a4, a5, a6, a7, a8, a9, a10, a11, a12, a13, a14])) x5 at r5
    rw [show prog.cellsOf 4 = 1 by kernel_rfl] at r5
    change Rep.rd _ [a5] x5 at r5
    have e5 : [a5] = [Value.bool x5] := r5
    simp only [List.cons.injEq, and_true] at e5
    obtain ⟨_, _, _, h6, w6⟩ := hf 6 _ rfl
    obtain ⟨x6, r6⟩ := reads_sAddE h6 w6
    change Rep.rd _ (List.take (prog.cellsOf 23) (List.drop 6 [a0, a1, a2, a3, a4, a5, a6, a7, a8, a9, a10, a11, a12, a13, a14])) x6 at r6
    rw [show prog.cellsOf 23 = 1 by kernel_rfl] at r6
    change Rep.rd _ [a6] x6 at r6
    obtain ⟨v6, e6, r6⟩ := r6
    simp only [List.cons.injEq, and_true] at e6
    obtain ⟨_, _, _, h7, w7⟩ := hf 7 _ rfl
    obtain ⟨x7, r7⟩ := reads_sInt h7 w7
    change Rep.rd _ (List.take (prog.cellsOf 24) (List.drop 7 [a0, a1, a2, a3, a4, a5, a6, a7, a8, a9, a10, a11, a12, a13, a14])) x7 at r7
    rw [show prog.cellsOf 24 = 1 by kernel_rfl] at r7
    change Rep.rd _ [a7] x7 at r7
    obtain ⟨v7, e7, r7⟩ := r7
    simp only [List.cons.injEq, and_true] at e7
    obtain ⟨_, _, _, h8, w8⟩ := hf 8 _ rfl
    obtain ⟨x8, r8⟩ := reads_sSeal h8 w8
    change Rep.rd _ (List.take (prog.cellsOf 25) (List.drop 8 [a0, a1, a2, a3, a4, a5, a6, a7, a8, a9, a10, a11, a12, a13, a14])) x8 at r8
    rw [show prog.cellsOf 25 = 1 by kernel_rfl] at r8
    change Rep.rd _ [a8] x8 at r8
    obtain ⟨v8, e8, r8⟩ := r8
    simp only [List.cons.injEq, and_true] at e8
    obtain ⟨_, _, _, h9, w9⟩ := hf 9 _ rfl
    obtain ⟨x9, r9⟩ := reads_sJoin h9 w9
    change Rep.rd _ (List.take (prog.cellsOf 26) (List.drop 9 [a0, a1, a2, a3, a4, a5, a6, a7, a8, a9, a10, a11, a12, a13, a14])) x9 at r9
    rw [show prog.cellsOf 26 = 1 by kernel_rfl] at r9
    change Rep.rd _ [a9] x9 at r9
    obtain ⟨v9, e9, r9⟩ := r9
    simp only [List.cons.injEq, and_true] at e9
    obtain ⟨_, _, _, h10, w10⟩ := hf 10 _ rfl
    obtain ⟨x10, r10⟩ := reads_Int h10 w10
    change Rep.rd _ (List.take (prog.cellsOf 3) (List.drop 10 [a0, a1, a2, a3, a4, a5, a6, a7, a8, a9, a10, a11, a12, a13, a14])) x10 at r10
    rw [show prog.cellsOf 3 = 1 by kernel_rfl] at r10
    change Rep.rd _ [a10] x10 at r10
    obtain ⟨e10, r10⟩ := r10
    simp only [List.cons.injEq, and_true] at e10
    obtain ⟨_, _, _, h11, w11⟩ := hf 11 _ rfl
    obtain ⟨x11, r11⟩ := reads_Int h11 w11
    change Rep.rd _ (List.take (prog.cellsOf 3) (List.drop 11 [a0, a1, a2, a3, a4, a5, a6, a7, a8, a9, a10, a11, a12, a13, a14])) x11 at r11
    rw [show prog.cellsOf 3 = 1 by kernel_rfl] at r11
    change Rep.rd _ [a11] x11 at r11
    obtain ⟨e11, r11⟩ := r11
    simp only [List.cons.injEq, and_true] at e11
    obtain ⟨_, _, _, h12, w12⟩ := hf 12 _ rfl
    obtain ⟨x12, r12⟩ := reads_Tree h12 w12
    change Rep.rd _ (List.take (prog.cellsOf 29) (List.drop 12 [a0, a1, a2, a3, a4, a5, a6, a7, a8, a9, a10, a11, a12, a13, a14])) x12 at r12
    rw [show prog.cellsOf 29 = 1 by kernel_rfl] at r12
    change Rep.rd _ [a12] x12 at r12
    obtain ⟨v12, e12, r12⟩ := r12
    simp only [List.cons.injEq, and_true] at e12
    obtain ⟨_, _, _, h13, w13⟩ := hf 13 _ rfl
    obtain ⟨x13, r13⟩ := reads_Int h13 w13
    change Rep.rd _ (List.take (prog.cellsOf 3) (List.drop 13 [a0, a1, a2, a3, a4, a5, a6, a7, a8, a9, a10, a11, a12, a13, a14])) x13 at r13
    rw [show prog.cellsOf 3 = 1 by kernel_rfl] at r13
    change Rep.rd _ [a13] x13 at r13
    obtain ⟨e13, r13⟩ := r13
    simp only [List.cons.injEq, and_true] at e13
    obtain ⟨_, _, _, h14, w14⟩ := hf 14 _ rfl
    obtain ⟨x14, r14⟩ := reads_Int h14 w14
    change Rep.rd _ (List.take (prog.cellsOf 3) (List.drop 14 [a0, a1, a2, a3, a4, a5, a6, a7, a8, a9, a10, a11, a12, a13, a14])) x14 at r14
    rw [show prog.cellsOf 3 = 1 by kernel_rfl] at r14
    change Rep.rd _ [a14] x14 at r14
    obtain ⟨e14, r14⟩ := r14
    simp only [List.cons.injEq, and_true] at e14
    subst e0
    subst e1
    subst e2
    subst e3
    subst e4
    subst e5
    subst e6
    subst e7
    subst e8
    subst e9
    subst e10
    subst e11
    subst e12
    subst e13
    subst e14
    exact ⟨⟨x0, x1, x2, x3, x4, x5, x6, x7, x8, x9, x10, x11, x12, x13, x14⟩, ⟨_, _, _, _, _, rfl, r0, r1, r2, r3, r4, r6, r7, r8, r9, r10, r11, r12, r13, r14⟩⟩
theorem reads_sCommit : Reads prog (List Commit) 93 := reads_slice underlying93 (by kernel_rfl) (by decide) (by kernel_rfl) reads_Commit
theorem reads_Log : Reads prog Log 95 := by
  intro J enc W sp fuel cs d p h hw
  obtain ⟨hl, hf⟩ := trod_field underlying95 h hw
  rw [show prog.cellsOf 95 = 2 by kernel_rfl] at hl
  match cs, hl with
  | [a0, a1], _ =>
    obtain ⟨_, _, _, h0, w0⟩ := hf 0 _ rfl
    obtain ⟨x0, r0⟩ := reads_Int h0 w0
    change Rep.rd _ (List.take (prog.cellsOf 3) (List.drop 0 [a0, a1])) x0 at r0
    rw [show prog.cellsOf 3 = 1 by kernel_rfl] at r0
    change Rep.rd _ [a0] x0 at r0
    obtain ⟨e0, r0⟩ := r0
    simp only [List.cons.injEq, and_true] at e0
    obtain ⟨_, _, _, h1, w1⟩ := hf 1 _ rfl
    obtain ⟨x1, r1⟩ := reads_sCommit h1 w1
    change Rep.rd _ (List.take (prog.cellsOf 93) (List.drop 1 [a0, a1])) x1 at r1
    rw [show prog.cellsOf 93 = 1 by kernel_rfl] at r1
    change Rep.rd _ [a1] x1 at r1
    obtain ⟨v1, e1, r1⟩ := r1
    simp only [List.cons.injEq, and_true] at e1
    subst e0
    subst e1
    exact ⟨⟨x0, x1⟩, ⟨_, rfl, r0, r1⟩⟩
theorem reads_sLog : Reads prog (List Log) 22 := reads_slice underlying22 (by kernel_rfl) (by decide) (by kernel_rfl) reads_Log
end Go.Ph
