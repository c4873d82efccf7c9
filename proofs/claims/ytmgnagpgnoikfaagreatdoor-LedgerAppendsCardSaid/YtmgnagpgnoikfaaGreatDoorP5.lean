/- What the claim stands on, part 5. -/
import Derived.Test.YtmgnagpgnoikfaaGreatDoorP4
set_option linter.unusedVariables false
set_option linter.unusedSimpArgs false
set_option maxRecDepth 100000
namespace Go.Ph
open Go Go.RowKit Go.Proofs.YtmgnagpgnoikfaaGreatDoor Go.Proofs.Tryz
theorem twinLog_ok {B : World} {H : HM} {O : OL} {ds : List Value} {x : Log} (h : Rep.rd H ds x) : CallsM prog 34 [.agg ds.toArray].toArray B H O (TwinO x H O) := by
  obtain ⟨u1, rfl, h0, h1⟩ := h
  refine enter func34 rfl ntmps34 (l := [(0, _)]) rfl rfl ?_
  refine x_seq ?_
  refine x_region rfl ?_
  refine o_box rfl (cs := [_, _]) rfl (fun b1 => ?_)
  refine o_alloc ti95 rfl (fun b2 => ?_)
  refine o_nil ?_
  refine x_seq ?_
  refine x_region rfl ?_
  refine o_y (y_fieldAddr fd95_1 ti93 (by decide) rfl) ?_
  refine o_y (y_loadO ti93 rfl inn rfl) ?_
  refine o_call fn172 rfl (twinCommits_ok h1) ?_
  rintro _ H1 _ ⟨rfl, F1, g1, o1⟩
  obtain ⟨p1, c1, rfl⟩ := o1.shape
  refine o_y (y_fieldAddr fd95_1 ti93 (by decide) rfl) ?_
  refine o_store (u := [_]) (C' := [_, _]) ti93 rfl rfl rfl rfl (by first | rfl | assumption | (simp only [ones, List.all_cons, List.all_nil, Bool.and_true, one_of (by assumption)]; done)) (by repeat (first | exact .z | apply Upd.s | apply Upd.a)) (by exact Nat.le_of_ble_eq_true rfl) (by rfl) ?_
  refine o_nil ?_
  refine x_seq ?_
  refine x_region rfl ?_
  refine o_y (y_loadA ti95 rfl inn rfl) ?_
  refine o_store (u := [_, _]) (C' := [_, _]) ti95 rfl rfl rfl rfl (by first | rfl | assumption | (simp only [ones, List.all_cons, List.all_nil, Bool.and_true, one_of (by assumption)]; done)) (by repeat (first | exact .z | apply Upd.s | apply Upd.a)) (by exact Nat.le_of_ble_eq_true rfl) (by rfl) ?_
  refine o_nil ?_
  refine x_ret ?_
  refine x_fin 2 (retC rfl rfl ti95 inn rfl) ?_
  exact ⟨rfl, _, _, g1, rfl, _, _, rfl, h0, o1, rfl⟩
theorem leftLog_ok {B : World} {H : HM} {O : OL} {ds es : List Value} {x : Log} {F : List Nat} (h : Own.ow true H ds x F) (hu : Rep.rd H es x) : CallsM prog 47 [.agg ds.toArray, .agg es.toArray].toArray B H O (Same (.bool true) H O) := by
  obtain ⟨u1, F1, rfl, h0, h1, eF⟩ := h
  obtain ⟨w1, rfl, k0, k1⟩ := hu
  refine enter func47 rfl ntmps47 (l := [(0, _), (1, _)]) rfl rfl ?_
  refine x_seq ?_
  refine x_region rfl ?_
  refine o_box rfl (cs := [_, _]) rfl (fun b2 => ?_)
  refine o_box rfl (cs := [_, _]) rfl (fun b3 => ?_)
  refine o_y (y_assign rfl) ?_
  refine o_nil ?_
  refine x_seq ?_
  refine x_region rfl ?_
  refine o_y (y_fieldAddr fd95_0 ti3 (by decide) rfl) ?_
  refine o_y (y_loadO ti3 rfl inn rfl) ?_
  refine o_y (y_fieldAddr fd95_0 ti3 (by decide) rfl) ?_
  refine o_y (y_loadO ti3 rfl inn rfl) ?_
  refine o_y (y_eql rfl rfl) ?_
  refine o_y (y_move rfl) ?_
  refine o_split 10 rfl (fun hg1_10 => ?_) (fun hg1_10 => ?_)
  · try simp only [kk] at hg1_10
    refine o_gy 10 rfl rfl (y_fieldAddr fd95_1 ti93 (by decide) rfl) ?_
    refine o_gy 10 rfl rfl (y_loadO ti93 rfl inn rfl) ?_
    refine o_gy 10 rfl rfl (y_fieldAddr fd95_1 ti93 (by decide) rfl) ?_
    refine o_gy 10 rfl rfl (y_loadO ti93 rfl inn rfl) ?_
    refine o_gcall 10 rfl rfl fn190 rfl (leftCommits_ok h1 k1) ?_
    rintro _ _ _ ⟨rfl, rfl, rfl⟩
    refine o_y (y_pick rfl rfl) ?_
    refine o_y (y_assign rfl) ?_
    refine o_nil ?_
    refine x_ret ?_
    refine x_fin 2 (ret1 rfl rfl) ?_
    exact ⟨rfl, rfl, rfl⟩
  try simp only [kk] at hg1_10
  exfalso; simp at hg1_10
theorem twinLogs_ok {B : World} {H : HM} {O : OL} {v : Value} {xs : List Log} (h : RdL H v xs) : CallsM prog 8 [v].toArray B H O (TwinL xs H O) := by
  have hle := h.lenle
  have hsm : xs.length * 32 ≤ 140737488351232 := h.small
  refine enter func8 rfl ntmps8 (l := [(0, _)]) rfl rfl ?_
  refine x_seq ?_
  refine x_region rfl ?_
  refine o_y (y_assign rfl) ?_
  refine o_nil ?_
  refine x_seq ?_
  refine x_region rfl ?_
  refine o_y (y_move rfl) ?_
  refine o_y (y_lenA underlying22 rfl) ?_
  refine o_y (y_move rfl) ?_
  refine o_y (y_lenA underlying22 rfl) ?_
  refine o_y (y_addN rfl rfl (by omega) (by omega)) ?_
  refine o_makeSlice (n := xs.length) (c := xs.length + 2) underlying22 ti95 (by decide) rfl rfl rfl (by omega) (by omega) (by omega) (by omega) (fun bm => ?_)
  have hz : (List.replicate (xs.length + 2) ([.int .i64 0, .slice none 0 0] : List Value)).flatten.length = (xs.length + 2) * 2 := by simp
  have r0 := Row.make (n := xs.length) (b := bm) (e := 95) hz (by omega)
  refine o_y (y_assign rfl) ?_
  refine o_nil ?_
  refine x_seq ?_
  refine x_seq ?_
  refine x_region rfl ?_
  refine o_y (y_move rfl) ?_
  refine o_y (y_lenA underlying22 rfl) ?_
  refine o_y (y_move rfl) ?_
  refine o_nil ?_
  refine x_block ?_
  refine x_loopg (σ := Nat × HM × List Value × OL × List Nat) (fun s => [(15, .int .i64 (s.1 : Int)), (14, .int .i64 (xs.length : Int)), (3, .slice (some ⟨bm, 0, none⟩) xs.length (xs.length + 2)), (0, v)]) (fun s => s.2.1) (fun s => s.2.2.2.1 ++ O) (fun s => s.1 ≤ xs.length ∧ Grew H s.2.1 s.2.2.2.2 ∧ Row (.slice (some ⟨bm, 0, none⟩) xs.length (xs.length + 2)) xs.length s.2.2.1 95 2 s.2.2.2.1 ∧ ElO true s.2.1 (s.2.2.1.take (s.1 * 2)) (xs.take s.1) s.2.2.2.2) (fun s => xs.length - s.1) (0, H, _, _, []) ⟨by simp, Grew.refl H, r0, by simp only [Nat.zero_mul, List.take_zero]; exact .n⟩ (.c rfl (.c rfl (.c rfl (.c rfl .n)))) rfl rfl ?_
  rintro ⟨i, H1, cells, R, Fs⟩ ⟨i1, i2, i3, i4⟩
  simp only at i1 i2 i3 i4
  refine x_seq ?_
  refine x_region rfl ?_
  refine o_y (y_lss rfl rfl) ?_
  refine o_nil ?_
  refine x_seq ?_
  refine x_cond rfl (fun hc0 => ?_) (fun hc0 => ?_)
  · try simp only [kk] at hc0
    have hi : i < xs.length := by omega
    have hv1 := h.mono i2.ext
    have hcl := i3.len
    refine x_skip ?_
    refine x_seq ?_
    refine x_block ?_
    refine x_seq ?_
    refine x_region rfl ?_
    refine o_y (y_move rfl) ?_
    refine o_y (y_assign rfl) ?_
    refine o_nil ?_
    refine x_region rfl ?_
    refine o_y (y_move rfl) ?_
    refine o_y (y_move rfl) ?_
    refine o_y (y_move rfl) ?_
    refine o_y (y_move rfl) ?_
    obtain ⟨ce22, ae22, re22⟩ := RdL.at hv1 _ i hi
    have se22 := AtS.isSl ae22
    have te22 := re22
    obtain ⟨u22_1, z22, q22_0, q22_1⟩ := re22
    subst z22
    have w22 := Rep.one te22
    refine o_y (y_idxL hv1 i hi underlying22 ti95 rfl rfl (by omega)) ?_
    refine o_y (y_loadS ti95 rfl (by assumption) rfl (fun e => by cases e)) ?_
    refine o_call fn34 rfl (twinLog_ok te22) ?_
    rintro _ H2 _ ⟨rfl, F2, cs2, g2, rfl, o2⟩
    have o2' := o2
    have w2 := Rep.one (Own.ow_rd o2)
    have l2 : cs2.length = 2 := Rep.len (Own.ow_rd o2)
    have e2 : (putC cells (i * 2) cs2).take ((i + 1) * 2) = cells.take (i * 2) ++ cs2 := by
      rw [show (i + 1) * 2 = i * 2 + cs2.length by omega]; exact putC_take (by omega)
    obtain ⟨u1, G1, rfl, h0, h1, eG⟩ := o2
    refine o_y (y_idxR i3 i hi underlying22 ti95 rfl rfl rfl) ?_
    refine o_storeS (u := [_, _]) ti95 rfl rfl i3 rfl rfl (by first | rfl | assumption | (simp only [ones, List.all_cons, List.all_nil, Bool.and_true, one_of (by assumption)]; done)) (by omega) (by omega) hol (fun R5_8 j5_8 => ?_)
    refine o_nil ?_
    refine x_region rfl ?_
    refine o_y (y_addN rfl rfl (by omega) (by omega)) ?_
    refine o_y (y_move rfl) ?_
    refine o_nil ?_
    exact ⟨(i + 1, H2, _, R5_8, Fs ++ F2), 0, rfl, (.c rfl (.c rfl (.c rfl (.c rfl .n)))), rfl, ⟨by omega, i2.trans g2, j5_8, by have e := (i4.mono g2.ext).snoc o2'; rw [← e2] at e; rw [take_next hi]; exact e⟩, by simp only; omega⟩
  try simp only [kk] at hc0
  refine x_exit ?_
  refine x_seq ?_
  have hin : i = xs.length := by omega
  subst hin
  have hv7 := h.mono i2.ext
  rw [List.take_length, List.take_of_length_le (by rw [i3.len]; exact Nat.le_refl _)] at i4
  obtain ⟨news, hne⟩ : ∃ news, news = cells := ⟨_, rfl⟩
  rw [← hne] at i3 i4
  have hnl : news.length = xs.length * 2 := i3.len
  obtain ⟨ds, hds, jr⟩ := i3.upto (m := xs.length + 2) (by omega) (Nat.le_refl _)
  refine x_region rfl ?_
  refine o_y (y_move rfl) ?_
  refine o_y (y_move rfl) ?_
  refine o_y (y_lenA underlying22 rfl) ?_
  refine o_y (y_addN rfl rfl (by omega) (by omega)) ?_
  refine o_y (y_sliceH underlying22 ti95 rfl rfl (xs.length + 2) (by first | rfl | omega) (by omega)) ?_
  refine o_y (y_assign rfl) ?_
  refine o_nil ?_
  refine x_seq ?_
  refine x_seq ?_
  refine x_region rfl ?_
  refine o_y (y_move rfl) ?_
  refine o_y (y_lenA underlying22 rfl) ?_
  refine o_y (y_assign rfl) ?_
  refine o_nil ?_
  refine x_block ?_
  refine x_loopf (σ := Nat × List Value × OL) (fun s => [(6, .int .i64 ((xs.length + s.1 : Nat) : Int)), (5, .slice (some ⟨bm, 0, none⟩) (xs.length + 2) (xs.length + 2)), (3, .slice (some ⟨bm, 0, none⟩) xs.length (xs.length + 2))]) (fun s => s.2.2 ++ O) (fun s => s.1 ≤ 2 ∧ Row (.slice (some ⟨bm, 0, none⟩) (xs.length + 2) (xs.length + 2)) (xs.length + 2) s.2.1 95 2 s.2.2 ∧ ∃ rest, s.2.1 = news ++ (marksTo (Own.mark Log) xs.length s.1 ++ rest)) (fun s => 2 - s.1) (0, _, _) ⟨by simp, jr, ds, by simp [marksTo]⟩ (.c rfl (.c rfl (.c rfl .n))) rfl ?_
  rintro ⟨k, cells, R⟩ ⟨z1, z2, rest, z3⟩
  simp only at z1 z2 z3
  refine x_seq ?_
  refine x_seq ?_
  refine x_region rfl ?_
  refine o_y (y_move rfl) ?_
  refine o_y (y_move rfl) ?_
  refine o_y (y_lenA underlying22 rfl) ?_
  refine o_y (y_lss rfl rfl) ?_
  refine o_nil ?_
  refine x_cond rfl (fun hc1 => ?_) (fun hc1 => ?_)
  · try simp only [kk] at hc1
    have hk : k < 2 := by omega
    have hkl := z2.len
    have hrl : 2 ≤ rest.length := by
      rw [z3, List.length_append, List.length_append, marksTo_len (es := 2) (fun i => rfl), hnl] at hkl
      omega
    refine x_skip ?_
    refine x_seq ?_
    refine x_block ?_
    refine x_region rfl ?_
    refine o_y (y_move rfl) ?_
    refine o_y (y_move rfl) ?_
    refine o_y (y_move rfl) ?_
    refine o_call fn35 rfl (markLog_ok (xs.length + k) (by omega)) ?_
    rintro _ _ _ ⟨rfl, rfl, rfl⟩
    refine o_y (y_idxR z2 (xs.length + k) (by omega) underlying22 ti95 rfl rfl rfl) ?_
    refine o_storeS (u := [_, _]) ti95 rfl rfl z2 rfl rfl (by first | rfl | assumption | (simp only [ones, List.all_cons, List.all_nil, Bool.and_true, one_of (by assumption)]; done)) (by omega) (by omega) hol (fun R11_5 j11_5 => ?_)
    refine o_nil ?_
    refine x_region rfl ?_
    refine o_y (y_move rfl) ?_
    refine o_y (y_addN rfl rfl (by omega) (by omega)) ?_
    refine o_y (y_assign rfl) ?_
    refine o_nil ?_
    exact ⟨(k + 1, _, R11_5), 0, rfl, (.c rfl (.c rfl (.c rfl .n))), rfl, ⟨by omega, j11_5, rest.drop 2, by rw [z3]; exact putC_mark (mk := Own.mark Log) hnl (fun i => rfl) hrl⟩, by simp only; omega⟩
  try simp only [kk] at hc1
  refine x_exit ?_
  refine x_seq ?_
  refine x_region rfl ?_
  refine o_y (y_move rfl) ?_
  refine o_y (y_assign rfl) ?_
  refine o_nil ?_
  have hk2 : k = 2 := by omega
  subst hk2
  have hkl := z2.len
  have hre : rest = [] := by
    rw [z3, List.length_append, List.length_append, marksTo_len (es := 2) (fun i => rfl), hnl] at hkl
    exact List.eq_nil_of_length_eq_zero (by omega)
  subst hre
  rw [List.append_nil, marksTo_two] at z3
  subst z3
  refine x_freezeG (S := R) (O' := O) (List.Perm.refl _) (fun H9 g9 hI9 => ?_)
  refine x_ret ?_
  refine x_fin 0 (ret1 rfl rfl) ?_
  exact ⟨rfl, _, ((i2.trans g9).perm (List.perm_append_comm)), OwL.twin z2 rfl (i4.mono g9.ext) hI9 hsm⟩
theorem leftLogs_ok {B : World} {H : HM} {O : OL} {v u : Value} {xs : List Log} {F : List Nat} (h : OwL true H v xs F) (hu : RdL H u xs) : CallsM prog 13 [v, u].toArray B H O (Same (.bool true) H O) := by
  have hv := h.rdL
  have hle := hv.lenle
  obtain ⟨R, cs, Fs, hr, hH, hel, _, hsm, htw⟩ := h.h
  obtain ⟨bm, rfl, rfl⟩ := htw rfl
  have hcl : cs.length = xs.length * 2 := hr.len
  have hr2 : Row (.slice (some ⟨bm, 0, none⟩) (xs.length + 2) (xs.length + 2)) (xs.length + 2) (cs ++ (marksTo (Own.mark Log) xs.length 2 ++ [])) 95 2 [(bm, cl (cs ++ (Own.mark Log xs.length ++ Own.mark Log (xs.length + 1))) (Own.ty Log))] := ⟨by rw [List.length_append, List.length_append, marksTo_len (es := 2) (fun i => rfl), hcl]; simp only [List.length_nil]; omega, .inr ⟨bm, _, [], rfl, Nat.le_refl _, by simp, by rw [marksTo_two]; simp; rfl⟩⟩
  refine enter func13 rfl ntmps13 (l := [(0, _), (1, _)]) rfl rfl ?_
  refine x_seq ?_
  refine x_region rfl ?_
  refine o_y (y_assign rfl) ?_
  refine o_nil ?_
  refine x_seq ?_
  refine x_seq ?_
  refine x_region rfl ?_
  refine o_y (y_move rfl) ?_
  refine o_y (y_lenA underlying22 rfl) ?_
  refine o_y (y_move rfl) ?_
  refine o_y (y_lenA underlying22 rfl) ?_
  refine o_y (y_neq rfl rfl) ?_
  refine o_nil ?_
  refine x_cond rfl (fun hc0 => ?_) (fun hc0 => ?_)
  · try simp only [kk] at hc0
    exfalso; first | exact hc0 trivial | omega
  try simp only [kk] at hc0
  refine x_skip ?_
  refine x_seq ?_
  refine x_seq ?_
  refine x_region rfl ?_
  refine o_y (y_move rfl) ?_
  refine o_y (y_lenA underlying22 rfl) ?_
  refine o_y (y_move rfl) ?_
  refine o_nil ?_
  refine x_block ?_
  refine x_loopf (σ := Nat) (fun s => [(15, .int .i64 (s : Int)), (14, .int .i64 (xs.length : Int)), (0, .slice (some ⟨bm, 0, none⟩) xs.length (xs.length + 2)), (1, u)]) (fun s => O) (fun s => s ≤ xs.length) (fun s => xs.length - s) 0 (by simp) (.c rfl (.c rfl (.c rfl (.c rfl .n)))) rfl ?_
  rintro i i1
  refine x_seq ?_
  refine x_region rfl ?_
  refine o_y (y_lss rfl rfl) ?_
  refine o_nil ?_
  refine x_seq ?_
  refine x_cond rfl (fun hc1 => ?_) (fun hc1 => ?_)
  · try simp only [kk] at hc1
    have hi : i < xs.length := by omega
    obtain ⟨A1, ds, D1, FA, Fk, FD, ec, _, hA1', _, ho, _⟩ := hel.split i hi
    have hA1 : A1.length = i * 2 := hA1'
    have aE : AtS H O (.slice (some ⟨bm, 0, none⟩) xs.length (xs.length + 2)) (i * 2) ds := hr.atH hH (by omega) (fun j x hx => by
      rw [ec, List.append_assoc, ← hA1, List.getElem?_append_right (by omega), Nat.add_sub_cancel_left, List.getElem?_append_left (List.getElem?_eq_some_iff.1 hx).1]; exact hx)
    have ho' := ho
    obtain ⟨u1, G1, rfl, h0, h1, eG⟩ := ho
    refine x_skip ?_
    refine x_seq ?_
    refine x_block ?_
    refine x_seq ?_
    refine x_region rfl ?_
    refine o_y (y_move rfl) ?_
    refine o_y (y_assign rfl) ?_
    refine o_nil ?_
    refine x_seq ?_
    refine x_regionQ mixed (by kernel_rfl) rfl ?_
    refine q_y (y_move rfl) ?_
    refine q_y (y_move rfl) ?_
    refine q_y (y_idxR hr i hi underlying22 ti95 rfl rfl rfl) ?_
    refine q_y (y_loadS ti95 rfl (by assumption) rfl (fun e => by cases e)) ?_
    refine q_y (y_move rfl) ?_
    refine q_y (y_move rfl) ?_
    obtain ⟨ce24, ae24, re24⟩ := RdL.at hu _ i hi
    have se24 := AtS.isSl ae24
    have te24 := re24
    obtain ⟨u24_1, z24, q24_0, q24_1⟩ := re24
    subst z24
    have w24 := Rep.one te24
    refine q_y (y_idxL hu i hi underlying22 ti95 rfl rfl (by omega)) ?_
    refine q_y (y_loadS ti95 rfl (by assumption) rfl (fun e => by cases e)) ?_
    refine q_call fn47 rfl (leftLog_ok ho' te24) ?_
    refine q_y (y_not rfl) ?_
    refine q_nil ?_
    refine x_condF rfl ?_
    refine x_skip ?_
    refine x_region rfl ?_
    refine o_y (y_addN rfl rfl (by omega) (by omega)) ?_
    refine o_y (y_move rfl) ?_
    refine o_nil ?_
    exact ⟨i + 1, 0, rfl, (.c rfl (.c rfl (.c rfl (.c rfl .n)))), rfl, by omega, by omega⟩
  try simp only [kk] at hc1
  refine x_exit ?_
  refine x_seq ?_
  refine x_region rfl ?_
  refine o_y (y_move rfl) ?_
  refine o_y (y_move rfl) ?_
  refine o_y (y_lenA underlying22 rfl) ?_
  refine o_y (y_addN rfl rfl (by omega) (by omega)) ?_
  refine o_y (y_sliceH underlying22 ti95 rfl rfl (xs.length + 2) (by first | rfl | omega) (by omega)) ?_
  refine o_y (y_assign rfl) ?_
  refine o_nil ?_
  refine x_seq ?_
  refine x_seq ?_
  refine x_region rfl ?_
  refine o_y (y_move rfl) ?_
  refine o_y (y_lenA underlying22 rfl) ?_
  refine o_y (y_assign rfl) ?_
  refine o_nil ?_
  refine x_block ?_
  refine x_loopf (σ := Nat) (fun s => [(7, .int .i64 ((xs.length + s : Nat) : Int)), (6, .slice (some ⟨bm, 0, none⟩) (xs.length + 2) (xs.length + 2))]) (fun s => O) (fun s => s ≤ 2) (fun s => 2 - s) 0 (by simp) (.c rfl (.c rfl .n)) rfl ?_
  rintro k z1
  refine x_seq ?_
  refine x_seq ?_
  refine x_region rfl ?_
  refine o_y (y_move rfl) ?_
  refine o_y (y_move rfl) ?_
  refine o_y (y_lenA underlying22 rfl) ?_
  refine o_y (y_lss rfl rfl) ?_
  refine o_nil ?_
  refine x_cond rfl (fun hc3 => ?_) (fun hc3 => ?_)
  · try simp only [kk] at hc3
    have hk : k < 2 := by omega
    have aF : AtS H O (.slice (some ⟨bm, 0, none⟩) (xs.length + 2) (xs.length + 2)) ((xs.length + k) * 2) (Own.mark Log ((xs.length + k : Nat) : Int)) := hr2.atH hH (by omega) (fun i x hx => by
      have hi := (List.getElem?_eq_some_iff.1 hx).1
      have hi2 : i < 2 := hi
      rw [List.getElem?_append_right (by omega), hcl, show (xs.length + k) * 2 + i - xs.length * 2 = k * 2 + i by omega, List.append_nil]
      match k, hk with
      | 0, _ => rw [marksTo_two, List.getElem?_append_left (by show 0 * 2 + i < 2; omega)]; simpa using hx
      | 1, _ => rw [marksTo_two, List.getElem?_append_right (by show 2 ≤ 1 * 2 + i; omega)]; have e : 1 * 2 + i - (Own.mark Log (xs.length : Int)).length = i := by show 1 * 2 + i - 2 = i; omega
                rw [e]; simpa using hx)
    refine x_skip ?_
    refine x_seq ?_
    refine x_block ?_
    refine x_seq ?_
    refine x_region rfl ?_
    refine o_y (y_move rfl) ?_
    refine o_y (y_move rfl) ?_
    refine o_y (y_idxR hr2 (xs.length + k) (by omega) underlying22 ti95 rfl rfl rfl) ?_
    refine o_y (y_loadS ti95 rfl aF rfl (fun e => by cases e)) ?_
    refine o_y (y_move rfl) ?_
    refine o_call fn48 rfl (isLog_ok (xs.length + k) (by omega)) ?_
    rintro _ _ _ ⟨rfl, rfl, rfl⟩
    refine o_y (y_not rfl) ?_
    refine o_nil ?_
    refine x_condF rfl ?_
    refine x_skip ?_
    refine x_region rfl ?_
    refine o_y (y_move rfl) ?_
    refine o_y (y_addN rfl rfl (by omega) (by omega)) ?_
    refine o_y (y_assign rfl) ?_
    refine o_nil ?_
    exact ⟨k + 1, 0, rfl, (.c rfl (.c rfl .n)), rfl, by omega, by omega⟩
  try simp only [kk] at hc3
  refine x_exit ?_
  refine x_seq ?_
  refine x_region rfl ?_
  refine o_y (y_assign rfl) ?_
  refine o_nil ?_
  refine x_ret ?_
  refine x_fin 0 (ret1 rfl rfl) ?_
  exact ⟨rfl, rfl, rfl⟩
end Go.Ph
set_option linter.unusedVariables false
set_option linter.unusedSimpArgs false
set_option maxRecDepth 100000
namespace Go.Ph
open Go Go.RowKit Go.Proofs.YtmgnagpgnoikfaaGreatDoor Go.Proofs.Tryz
theorem lvl_step : ∀ y : Nat, y < 15 → (y % 2 = 1 → lvlN y = lvlN (y / 2) + 1) ∧ (y % 2 ≠ 1 → lvlN y = 0) := by decide
theorem rlevel_ok {B : World} {H : HM} {O : OL} (x : Nat) (hx : x < 15) : CallsM prog 307 [.int .i64 x].toArray B H O (Same (.int .i64 (lvlN x)) H O) := by
  refine enter func307 rfl ntmps307 (l := [(0, _)]) rfl rfl ?_
  refine x_seq ?_
  refine x_region rfl ?_
  refine o_y (y_assign rfl) ?_
  refine o_nil ?_
  refine x_seq ?_
  refine x_seq ?_
  refine x_region rfl ?_
  refine o_y (y_move rfl) ?_
  refine o_y (y_lss rfl rfl) ?_
  refine o_nil ?_
  refine x_cond rfl (fun hc0 => ?_) (fun hc0 => ?_)
  · try simp only [kk] at hc0
    exfalso; omega
  try simp only [kk] at hc0
  refine x_skip ?_
  refine x_seq ?_
  refine x_region rfl ?_
  refine o_y (y_assign rfl) ?_
  refine o_nil ?_
  refine x_seq ?_
  refine x_block ?_
  refine x_loopf (σ := Nat × Nat) (fun s => [(3, .int .i64 (s.1 : Int)), (0, .int .i64 (s.2 : Int))]) (fun s => O) (fun s => s.2 < 15 ∧ s.1 + lvlN s.2 = lvlN x ∧ s.1 ≤ 15 ∧ s.1 + s.2 ≤ 15) (fun s => s.2) (0, x) ⟨hx, by simp, by simp, by simp; omega⟩ (.c rfl (.c rfl .n)) rfl ?_
  rintro ⟨m, y⟩ ⟨i1, i2, i3, i4⟩
  simp only at i1 i2 i3 i4
  obtain ⟨l1, l2⟩ := lvl_step y i1
  refine x_seq ?_
  refine x_seq ?_
  refine x_region rfl ?_
  refine o_y (y_move rfl) ?_
  refine o_y (y_remN rfl rfl (by omega) (by omega)) ?_
  refine o_y (y_eql rfl rfl) ?_
  refine o_nil ?_
  refine x_cond rfl (fun hc1 => ?_) (fun hc1 => ?_)
  · try simp only [kk] at hc1
    have hy : y % 2 = 1 := by omega
    refine x_skip ?_
    refine x_block ?_
    refine x_seq ?_
    refine x_region rfl ?_
    refine o_y (y_move rfl) ?_
    refine o_y (y_addN rfl rfl (by omega) (by omega)) ?_
    refine o_y (y_assign rfl) ?_
    refine o_nil ?_
    refine x_region rfl ?_
    refine o_y (y_move rfl) ?_
    refine o_y (y_quoN rfl rfl (by omega) (by omega) (by omega)) ?_
    refine o_y (y_assign rfl) ?_
    refine o_nil ?_
    exact ⟨(m + 1, y / 2), 0, rfl, (.c rfl (.c rfl .n)), rfl, ⟨by simp only; omega, by have := l1 hy; simp only; omega, by omega, by simp only; omega⟩, by simp only; omega⟩
  try simp only [kk] at hc1
  refine x_exit ?_
  refine x_seq ?_
  refine x_region rfl ?_
  refine o_y (y_move rfl) ?_
  refine o_y (y_assign rfl) ?_
  refine o_nil ?_
  refine x_ret ?_
  refine x_fin 0 (ret1 rfl rfl) ?_
  have := l2 (by omega)
  have e : m = lvlN x := by omega
  subst e
  exact ⟨rfl, rfl, rfl⟩
def halfN (x : Nat) : Nat := if lvlN x = 0 then 0 else 2 ^ (lvlN x - 1)
theorem pow3 {i : Nat} (h : i ≤ 4) : 2 ^ (i - 1) ≤ 8 := Nat.pow_le_pow_right (by decide) (show i - 1 ≤ 3 by omega)
theorem rhalf_ok {B : World} {H : HM} {O : OL} (x : Nat) (hx : x < 15) : CallsM prog 303 [.int .i64 x].toArray B H O (Same (.int .i64 (halfN x)) H O) := by
  have h4 : lvlN x ≤ 4 := by unfold lvlN; (repeat' split) <;> omega
  refine enter func303 rfl ntmps303 (l := [(0, _)]) rfl rfl ?_
  refine x_seq ?_
  refine x_region rfl ?_
  refine o_y (y_assign rfl) ?_
  refine o_nil ?_
  refine x_seq ?_
  refine x_region rfl ?_
  refine o_y (y_move rfl) ?_
  refine o_call fn307 rfl (rlevel_ok x hx) ?_
  rintro _ _ _ ⟨rfl, rfl, rfl⟩
  refine o_y (y_assign rfl) ?_
  refine o_nil ?_
  refine x_seq ?_
  refine x_seq ?_
  refine x_region rfl ?_
  refine o_y (y_move rfl) ?_
  refine o_y (y_lss rfl rfl) ?_
  refine o_nil ?_
  refine x_cond rfl (fun hc0 => ?_) (fun hc0 => ?_)
  · try simp only [kk] at hc0
    refine x_seq ?_
    refine x_region rfl ?_
    refine o_y (y_assign rfl) ?_
    refine o_nil ?_
    refine x_ret ?_
    refine x_fin 0 (ret1 rfl rfl) ?_
    refine ⟨?_, rfl, rfl⟩
    rw [halfN, if_pos (by omega)]; rfl
  try simp only [kk] at hc0
  refine x_skip ?_
  refine x_seq ?_
  refine x_region rfl ?_
  refine o_y (y_assign rfl) ?_
  refine o_nil ?_
  refine x_seq ?_
  refine x_seq ?_
  refine x_region rfl ?_
  refine o_y (y_assign rfl) ?_
  refine o_nil ?_
  refine x_block ?_
  refine x_loopf (σ := Nat × Nat) (fun s => [(5, .int .i64 (s.1 : Int)), (4, .int .i64 (s.2 : Int)), (3, .int .i64 (lvlN x : Int))]) (fun s => O) (fun s => 1 ≤ s.1 ∧ s.1 ≤ lvlN x ∧ s.2 = 2 ^ (s.1 - 1)) (fun s => lvlN x - s.1) (1, 1) ⟨by simp, by simp only; omega, rfl⟩ (.c rfl (.c rfl (.c rfl .n))) rfl ?_
  rintro ⟨i, n⟩ ⟨i1, i2, i3⟩
  simp only at i1 i2 i3
  have hp := pow3 (i := i) (by omega)
  rw [← i3] at hp
  refine x_seq ?_
  refine x_seq ?_
  refine x_region rfl ?_
  refine o_y (y_move rfl) ?_
  refine o_y (y_move rfl) ?_
  refine o_y (y_lss rfl rfl) ?_
  refine o_nil ?_
  refine x_cond rfl (fun hc1 => ?_) (fun hc1 => ?_)
  · try simp only [kk] at hc1
    have hi : i < lvlN x := by omega
    refine x_skip ?_
    refine x_seq ?_
    refine x_block ?_
    refine x_region rfl ?_
    refine o_y (y_move rfl) ?_
    refine o_y (y_mulN rfl rfl (by omega) (by omega)) ?_
    refine o_y (y_assign rfl) ?_
    refine o_nil ?_
    refine x_region rfl ?_
    refine o_y (y_move rfl) ?_
    refine o_y (y_addN rfl rfl (by omega) (by omega)) ?_
    refine o_y (y_assign rfl) ?_
    refine o_nil ?_
    exact ⟨(i + 1, n * 2), 0, rfl, (.c rfl (.c (by show some (Value.int .i64 ((n : Int) * 2)) = some (Value.int .i64 ((n * 2 : Nat) : Int)); congr 2) (.c rfl .n))), rfl, ⟨by simp only; omega, by simp only; omega, by simp only; rw [i3, ← Nat.pow_succ]; congr 1; omega⟩, by simp only; omega⟩
  try simp only [kk] at hc1
  refine x_exit ?_
  refine x_seq ?_
  refine x_region rfl ?_
  refine o_y (y_move rfl) ?_
  refine o_y (y_assign rfl) ?_
  refine o_nil ?_
  refine x_ret ?_
  refine x_fin 0 (ret1 rfl rfl) ?_
  refine ⟨?_, rfl, rfl⟩
  have e : i = lvlN x := by omega
  rw [halfN, if_neg (by omega), ← e, i3]
theorem rspan_pure : ∀ x : Nat, x < 15 → halfN x ≤ 8 ∧ (2 * halfN x = 0 → spanLo x = ((x / 2 : Nat) : Int) ∧ spanHi x = ((x / 2 : Nat) : Int)) ∧ (2 * halfN x ≠ 0 → 2 * halfN x ≤ x + 1 ∧ spanLo x = (((x + 1 - 2 * halfN x) / 2 : Nat) : Int) ∧ spanHi x = ((x / 2 + 2 * halfN x / 2 : Nat) : Int)) := by decide +kernel
theorem rspan_ok {B : World} {H : HM} {O : OL} (x : Nat) (hx : x < 15) : CallsM prog 293 [.int .i64 x].toArray B H O (Same (.tuple #[.int .i64 (spanLo x), .int .i64 (spanHi x)]) H O) := by
  obtain ⟨h1, h2, h3⟩ := rspan_pure x hx
  refine enter func293 rfl ntmps293 (l := [(0, _)]) rfl rfl ?_
  refine x_seq ?_
  refine x_region rfl ?_
  refine o_y (y_assign rfl) ?_
  refine o_y (y_assign rfl) ?_
  refine o_nil ?_
  refine x_seq ?_
  refine x_seq ?_
  refine x_region rfl ?_
  refine o_y (y_move rfl) ?_
  refine o_y (y_lss rfl rfl) ?_
  refine o_y (y_move rfl) ?_
  refine o_split 7 rfl (fun hg1_7 => ?_) (fun hg1_7 => ?_)
  · try simp only [kk] at hg1_7
    exfalso; omega
  try simp only [kk] at hg1_7
  refine o_gy 7 rfl rfl (y_move rfl) ?_
  refine o_gy 7 rfl rfl (y_eql rfl rfl) ?_
  refine o_y (y_pick rfl rfl) ?_
  refine o_nil ?_
  refine x_cond rfl (fun hc0 => ?_) (fun hc0 => ?_)
  · try simp only [kk] at hc0
    exfalso; omega
  try simp only [kk] at hc0
  refine x_skip ?_
  refine x_seq ?_
  refine x_region rfl ?_
  refine o_y (y_move rfl) ?_
  refine o_call fn303 rfl (rhalf_ok x hx) ?_
  rintro _ _ _ ⟨rfl, rfl, rfl⟩
  refine o_y (y_mulN rfl rfl (by omega) (by omega)) ?_
  refine o_y (y_assign rfl) ?_
  refine o_nil ?_
  refine x_seq ?_
  refine x_seq ?_
  refine x_region rfl ?_
  refine o_y (y_move rfl) ?_
  refine o_y (y_eql rfl rfl) ?_
  refine o_nil ?_
  refine x_cond rfl (fun hc1 => ?_) (fun hc1 => ?_)
  · try simp only [kk] at hc1
    refine x_seq ?_
    refine x_region rfl ?_
    refine o_y (y_move rfl) ?_
    refine o_y (y_quoN rfl rfl (by omega) (by omega) (by omega)) ?_
    refine o_y (y_move rfl) ?_
    refine o_y (y_quoN rfl rfl (by omega) (by omega) (by omega)) ?_
    refine o_y (y_assign rfl) ?_
    refine o_y (y_assign rfl) ?_
    refine o_nil ?_
    refine x_ret ?_
    refine x_fin 0 (ret2 rfl rfl rfl) ?_
    obtain ⟨e1, e2⟩ := h2 (by omega)
    rw [e1, e2]
    refine ⟨?_, rfl, rfl⟩
    rfl
  try simp only [kk] at hc1
  obtain ⟨e0, e1, e2⟩ := h3 (by omega)
  refine x_skip ?_
  refine x_seq ?_
  refine x_region rfl ?_
  refine o_y (y_move rfl) ?_
  refine o_y (y_move rfl) ?_
  refine o_y (y_subN rfl rfl (by omega) (by omega)) ?_
  refine o_y (y_subN rfl rfl (by omega) (by omega)) ?_
  refine o_y (y_quoN rfl rfl (by omega) (by omega) (by omega)) ?_
  refine o_y (y_move rfl) ?_
  refine o_y (y_quoN rfl rfl (by omega) (by omega) (by omega)) ?_
  refine o_y (y_move rfl) ?_
  refine o_y (y_quoN rfl rfl (by omega) (by omega) (by omega)) ?_
  refine o_y (y_addN rfl rfl (by omega) (by omega)) ?_
  refine o_y (y_assign rfl) ?_
  refine o_y (y_assign rfl) ?_
  refine o_nil ?_
  refine x_ret ?_
  refine x_fin 0 (ret2 rfl rfl rfl) ?_
  rw [e1, e2]
  refine ⟨?_, rfl, rfl⟩
  congr 3
  congr 1; omega
theorem rblank_ok {B : World} {H : HM} {O : OL} {cs : List Value} {x : Node} (h : Rep.rd H cs x) : CallsM prog 292 [.agg cs.toArray].toArray B H O (Same (.bool x.blankB) H O) := by
  obtain ⟨u, rfl, h0, h1, h2, h3⟩ := h
  refine enter func292 rfl ntmps292 (l := [(0, _)]) rfl rfl ?_
  refine x_seq ?_
  refine x_region rfl ?_
  refine o_box rfl (cs := [_, _, _, _]) rfl (fun b1 => ?_)
  refine o_y (y_assign rfl) ?_
  refine o_nil ?_
  refine x_seq ?_
  refine x_region rfl ?_
  refine o_y (y_fieldAddr fd127_0 ti3 (by decide) rfl) ?_
  refine o_y (y_loadO ti3 rfl inn rfl) ?_
  refine o_y (y_eql rfl rfl) ?_
  refine o_y (y_move rfl) ?_
  refine o_split 6 rfl (fun hg1_6 => ?_) (fun hg1_6 => ?_)
  · try simp only [kk] at hg1_6
    refine o_gy 6 rfl rfl (y_fieldAddr fd127_1 ti3 (by decide) rfl) ?_
    refine o_gy 6 rfl rfl (y_loadO ti3 rfl inn rfl) ?_
    refine o_gy 6 rfl rfl (y_eql rfl rfl) ?_
    refine o_y (y_pick rfl rfl) ?_
    refine o_y (y_move rfl) ?_
    refine o_split 11 rfl (fun hg1_11 => ?_) (fun hg1_11 => ?_)
    · try simp only [kk] at hg1_11
      refine o_gy 11 rfl rfl (y_fieldAddr fd127_2 ti3 (by decide) rfl) ?_
      refine o_gy 11 rfl rfl (y_loadO ti3 rfl inn rfl) ?_
      refine o_gy 11 rfl rfl (y_eql rfl rfl) ?_
      refine o_y (y_pick rfl rfl) ?_
      refine o_y (y_move rfl) ?_
      refine o_split 16 rfl (fun hg1_16 => ?_) (fun hg1_16 => ?_)
      · try simp only [kk] at hg1_16
        refine o_gy 16 rfl rfl (y_fieldAddr fd127_3 ti24 (by decide) rfl) ?_
        refine o_gy 16 rfl rfl (y_loadO ti24 rfl inn rfl) ?_
        first | refine o_gy 16 rfl rfl (y_lenL (by assumption) underlying24 rfl) ?_ | refine o_gy 16 rfl rfl (y_lenR (by assumption) underlying24 rfl) ?_ | refine o_gy 16 rfl rfl (y_len underlying24 rfl) ?_
        refine o_gy 16 rfl rfl (y_eql rfl rfl) ?_
        refine o_y (y_pick rfl rfl) ?_
        refine o_y (y_assign rfl) ?_
        refine o_nil ?_
        refine x_ret ?_
        refine x_fin 1 (ret1 rfl rfl) ?_
        exact ⟨by simp [Node.blankB, *], rfl, rfl⟩
      try simp only [kk] at hg1_16
      refine o_gn 16 rfl rfl rfl ?_
      refine o_gn 16 rfl rfl rfl ?_
      refine o_gn 16 rfl rfl rfl ?_
      refine o_gn 16 rfl rfl rfl ?_
      refine o_y (y_pick rfl rfl) ?_
      refine o_y (y_assign rfl) ?_
      refine o_nil ?_
      refine x_ret ?_
      refine x_fin 1 (ret1 rfl rfl) ?_
      exact ⟨by simp [Node.blankB, *], rfl, rfl⟩
    try simp only [kk] at hg1_11
    refine o_gn 11 rfl rfl rfl ?_
    refine o_gn 11 rfl rfl rfl ?_
    refine o_gn 11 rfl rfl rfl ?_
    refine o_y (y_pick rfl rfl) ?_
    refine o_y (y_move rfl) ?_
    refine o_gn 16 rfl rfl rfl ?_
    refine o_gn 16 rfl rfl rfl ?_
    refine o_gn 16 rfl rfl rfl ?_
    refine o_gn 16 rfl rfl rfl ?_
    refine o_y (y_pick rfl rfl) ?_
    refine o_y (y_assign rfl) ?_
    refine o_nil ?_
    refine x_ret ?_
    refine x_fin 1 (ret1 rfl rfl) ?_
    exact ⟨by simp [Node.blankB, *], rfl, rfl⟩
  try simp only [kk] at hg1_6
  refine o_gn 6 rfl rfl rfl ?_
  refine o_gn 6 rfl rfl rfl ?_
  refine o_gn 6 rfl rfl rfl ?_
  refine o_y (y_pick rfl rfl) ?_
  refine o_y (y_move rfl) ?_
  refine o_gn 11 rfl rfl rfl ?_
  refine o_gn 11 rfl rfl rfl ?_
  refine o_gn 11 rfl rfl rfl ?_
  refine o_y (y_pick rfl rfl) ?_
  refine o_y (y_move rfl) ?_
  refine o_gn 16 rfl rfl rfl ?_
  refine o_gn 16 rfl rfl rfl ?_
  refine o_gn 16 rfl rfl rfl ?_
  refine o_gn 16 rfl rfl rfl ?_
  refine o_y (y_pick rfl rfl) ?_
  refine o_y (y_assign rfl) ?_
  refine o_nil ?_
  refine x_ret ?_
  refine x_fin 1 (ret1 rfl rfl) ?_
  exact ⟨by simp [Node.blankB, *], rfl, rfl⟩
theorem rleaves_ok {B : World} {H : HM} {O : OL} {v : Value} {xs : List Node} (h : RdL H v xs) : CallsM prog 267 [.agg #[v]].toArray B H O (Same (.int .i64 (leavesN xs.length)) H O) := by
  have hs := h.lenle
  refine enter func267 rfl ntmps267 (l := [(0, _)]) rfl rfl ?_
  refine x_seq ?_
  refine x_region rfl ?_
  refine o_box rfl (cs := [_]) rfl (fun b1 => ?_)
  refine o_y (y_assign rfl) ?_
  refine o_nil ?_
  refine x_seq ?_
  refine x_seq ?_
  refine x_region rfl ?_
  refine o_y (y_assign rfl) ?_
  refine o_nil ?_
  refine x_block ?_
  refine x_loopf (σ := Nat) (fun s => [(3, .int .i64 (s : Int)), (1, .pointer (some ⟨b1, 0, none⟩))]) (fun s => (b1, cl [v] 29) :: O) (fun s => (s = 1 ∨ s = 2 ∨ s = 4 ∨ s = 8 ∨ s = 16) ∧ (2 ≤ s → xs.length ≠ 1) ∧ (4 ≤ s → xs.length ≠ 3) ∧ (8 ≤ s → xs.length ≠ 7) ∧ (16 ≤ s → xs.length ≠ 15)) (fun s => 16 - s) 1 (by omega) (.c rfl (.c rfl .n)) rfl ?_
  rintro n ⟨i1, i2, i3, i4, i5⟩
  refine x_seq ?_
  refine x_seq ?_
  refine x_region rfl ?_
  refine o_y (y_move rfl) ?_
  refine o_y (y_leq rfl rfl) ?_
  refine o_nil ?_
  refine x_cond rfl (fun hc0 => ?_) (fun hc0 => ?_)
  · try simp only [kk] at hc0
    refine x_skip ?_
    refine x_seq ?_
    refine x_block ?_
    refine x_seq ?_
    refine x_region rfl ?_
    refine o_y (y_fieldAddr fd29_0 ti27 (by decide) rfl) ?_
    refine o_y (y_loadO ti27 rfl inn rfl) ?_
    refine o_y (y_lenA underlying27 rfl) ?_
    refine o_y (y_move rfl) ?_
    refine o_y (y_mulN rfl rfl (by omega) (by omega)) ?_
    refine o_y (y_subN rfl rfl (by omega) (by omega)) ?_
    refine o_y (y_eql rfl rfl) ?_
    refine o_nil ?_
    refine x_cond rfl (fun hc1 => ?_) (fun hc1 => ?_)
    · try simp only [kk] at hc1
      refine x_seq ?_
      refine x_region rfl ?_
      refine o_y (y_move rfl) ?_
      refine o_y (y_assign rfl) ?_
      refine o_nil ?_
      refine x_ret ?_
      refine x_fin 1 (ret1 rfl rfl) ?_
      have e : leavesN xs.length = n := by unfold leavesN; (repeat' split) <;> omega
      rw [e]; exact ⟨rfl, rfl, rfl⟩
    try simp only [kk] at hc1
    refine x_skip ?_
    refine x_region rfl ?_
    refine o_y (y_move rfl) ?_
    refine o_y (y_mulN rfl rfl (by omega) (by omega)) ?_
    refine o_y (y_assign rfl) ?_
    refine o_nil ?_
    exact ⟨n * 2, 0, rfl, (.c (by push_cast; rfl) (.c rfl .n)), rfl, by omega, by omega⟩
  try simp only [kk] at hc0
  refine x_exit ?_
  refine x_seq ?_
  refine x_region rfl ?_
  refine o_y (y_assign rfl) ?_
  refine o_nil ?_
  refine x_ret ?_
  refine x_fin 1 (ret1 rfl rfl) ?_
  have e : leavesN xs.length = 0 := by unfold leavesN; (repeat' split) <;> omega
  rw [e]; exact ⟨rfl, rfl, rfl⟩
def leafB (n : Node) : Bool := n.blankB || (decide (0 < n.pub) && (decide (0 ≤ n.member) && (decide (0 ≤ n.epoch) && decide ((n.unmerged.length : Int) = 0))))
theorem rleaf_ok {B : World} {H : HM} {O : OL} {cs : List Value} {x : Node} (h : Rep.rd H cs x) : CallsM prog 268 [.agg cs.toArray].toArray B H O (Same (.bool (leafB x)) H O) := by
  have hk := h
  obtain ⟨u, rfl, h0, h1, h2, h3⟩ := h
  refine enter func268 rfl ntmps268 (l := [(0, _)]) rfl rfl ?_
  refine x_seq ?_
  refine x_region rfl ?_
  refine o_box rfl (cs := [_, _, _, _]) rfl (fun b1 => ?_)
  refine o_y (y_assign rfl) ?_
  refine o_nil ?_
  refine x_seq ?_
  refine x_region rfl ?_
  refine o_y (y_loadA ti127 rfl inn rfl) ?_
  refine o_call fn292 rfl (rblank_ok hk) ?_
  rintro _ _ _ ⟨rfl, rfl, rfl⟩
  refine o_y (y_move rfl) ?_
  refine o_split 5 rfl (fun hg1_5 => ?_) (fun hg1_5 => ?_)
  · try simp only [kk] at hg1_5
    refine o_gn 5 rfl rfl rfl ?_
    refine o_gn 5 rfl rfl rfl ?_
    refine o_gn 5 rfl rfl rfl ?_
    refine o_gn 5 rfl rfl rfl ?_
    refine o_gu 9 rfl rfl ?_
    refine o_gu 9 rfl rfl ?_
    refine o_gu 9 rfl rfl ?_
    refine o_gn 5 rfl rfl rfl ?_
    refine o_gn 5 rfl rfl rfl ?_
    refine o_gu 14 rfl rfl ?_
    refine o_gu 14 rfl rfl ?_
    refine o_gu 14 rfl rfl ?_
    refine o_gn 5 rfl rfl rfl ?_
    refine o_gn 5 rfl rfl rfl ?_
    refine o_gu 19 rfl rfl ?_
    refine o_gu 19 rfl rfl ?_
    refine o_gu 19 rfl rfl ?_
    refine o_gu 19 rfl rfl ?_
    refine o_gn 5 rfl rfl rfl ?_
    refine o_y (y_pick rfl rfl) ?_
    refine o_y (y_assign rfl) ?_
    refine o_nil ?_
    refine x_ret ?_
    refine x_fin 1 (ret1 rfl rfl) ?_
    refine ⟨?_, rfl, rfl⟩
    unfold leafB
    simp_all <;> (intros; omega)
  try simp only [kk] at hg1_5
  refine o_gy 5 rfl rfl (y_fieldAddr fd127_0 ti3 (by decide) rfl) ?_
  refine o_gy 5 rfl rfl (y_loadO ti3 rfl inn rfl) ?_
  refine o_gy 5 rfl rfl (y_gtr rfl rfl) ?_
  refine o_gy 5 rfl rfl (y_move rfl) ?_
  refine o_split 9 rfl (fun hg1_9 => ?_) (fun hg1_9 => ?_)
  · try simp only [kk] at hg1_9
    refine o_gy 9 rfl rfl (y_fieldAddr fd127_1 ti3 (by decide) rfl) ?_
    refine o_gy 9 rfl rfl (y_loadO ti3 rfl inn rfl) ?_
    refine o_gy 9 rfl rfl (y_geq rfl rfl) ?_
    refine o_gy 5 rfl rfl (y_pick rfl rfl) ?_
    refine o_gy 5 rfl rfl (y_move rfl) ?_
    refine o_split 14 rfl (fun hg1_14 => ?_) (fun hg1_14 => ?_)
    · try simp only [kk] at hg1_14
      refine o_gy 14 rfl rfl (y_fieldAddr fd127_2 ti3 (by decide) rfl) ?_
      refine o_gy 14 rfl rfl (y_loadO ti3 rfl inn rfl) ?_
      refine o_gy 14 rfl rfl (y_geq rfl rfl) ?_
      refine o_gy 5 rfl rfl (y_pick rfl rfl) ?_
      refine o_gy 5 rfl rfl (y_move rfl) ?_
      refine o_split 19 rfl (fun hg1_19 => ?_) (fun hg1_19 => ?_)
      · try simp only [kk] at hg1_19
        refine o_gy 19 rfl rfl (y_fieldAddr fd127_3 ti24 (by decide) rfl) ?_
        refine o_gy 19 rfl rfl (y_loadO ti24 rfl inn rfl) ?_
        first | refine o_gy 19 rfl rfl (y_lenL (by assumption) underlying24 rfl) ?_ | refine o_gy 19 rfl rfl (y_lenR (by assumption) underlying24 rfl) ?_ | refine o_gy 19 rfl rfl (y_len underlying24 rfl) ?_
        refine o_gy 19 rfl rfl (y_eql rfl rfl) ?_
        refine o_gy 5 rfl rfl (y_pick rfl rfl) ?_
        refine o_y (y_pick rfl rfl) ?_
        refine o_y (y_assign rfl) ?_
        refine o_nil ?_
        refine x_ret ?_
        refine x_fin 1 (ret1 rfl rfl) ?_
        refine ⟨?_, rfl, rfl⟩
        unfold leafB
        simp_all <;> (intros; omega)
      try simp only [kk] at hg1_19
      refine o_gn 19 rfl rfl rfl ?_
      refine o_gn 19 rfl rfl rfl ?_
      refine o_gn 19 rfl rfl rfl ?_
      refine o_gn 19 rfl rfl rfl ?_
      refine o_gy 5 rfl rfl (y_pick rfl rfl) ?_
      refine o_y (y_pick rfl rfl) ?_
      refine o_y (y_assign rfl) ?_
      refine o_nil ?_
      refine x_ret ?_
      refine x_fin 1 (ret1 rfl rfl) ?_
      refine ⟨?_, rfl, rfl⟩
      unfold leafB
      simp_all <;> (intros; omega)
    try simp only [kk] at hg1_14
    refine o_gn 14 rfl rfl rfl ?_
    refine o_gn 14 rfl rfl rfl ?_
    refine o_gn 14 rfl rfl rfl ?_
    refine o_gy 5 rfl rfl (y_pick rfl rfl) ?_
    refine o_gy 5 rfl rfl (y_move rfl) ?_
    refine o_gn 19 rfl rfl rfl ?_
    refine o_gn 19 rfl rfl rfl ?_
    refine o_gn 19 rfl rfl rfl ?_
    refine o_gn 19 rfl rfl rfl ?_
    refine o_gy 5 rfl rfl (y_pick rfl rfl) ?_
    refine o_y (y_pick rfl rfl) ?_
    refine o_y (y_assign rfl) ?_
    refine o_nil ?_
    refine x_ret ?_
    refine x_fin 1 (ret1 rfl rfl) ?_
    refine ⟨?_, rfl, rfl⟩
    unfold leafB
    simp_all <;> (intros; omega)
  try simp only [kk] at hg1_9
  refine o_gn 9 rfl rfl rfl ?_
  refine o_gn 9 rfl rfl rfl ?_
  refine o_gn 9 rfl rfl rfl ?_
  refine o_gy 5 rfl rfl (y_pick rfl rfl) ?_
  refine o_gy 5 rfl rfl (y_move rfl) ?_
  refine o_gn 14 rfl rfl rfl ?_
  refine o_gn 14 rfl rfl rfl ?_
  refine o_gn 14 rfl rfl rfl ?_
  refine o_gy 5 rfl rfl (y_pick rfl rfl) ?_
  refine o_gy 5 rfl rfl (y_move rfl) ?_
  refine o_gn 19 rfl rfl rfl ?_
  refine o_gn 19 rfl rfl rfl ?_
  refine o_gn 19 rfl rfl rfl ?_
  refine o_gn 19 rfl rfl rfl ?_
  refine o_gy 5 rfl rfl (y_pick rfl rfl) ?_
  refine o_y (y_pick rfl rfl) ?_
  refine o_y (y_assign rfl) ?_
  refine o_nil ?_
  refine x_ret ?_
  refine x_fin 1 (ret1 rfl rfl) ?_
  refine ⟨?_, rfl, rfl⟩
  unfold leafB
  simp_all <;> (intros; omega)
theorem rparent_ok {B : World} {H : HM} {O : OL} {v : Value} {xs : List Node} (h : RdL H v xs) (hl : TreeLen xs.length) (x : Nat) (hx : x < xs.length) :
    CallsM prog 269 [.agg #[v], .int .i64 x].toArray B H O (Same (.bool (parentB xs x)) H O) := by
  have hs := h.lenle
  have h15 := hl.le
  obtain ⟨p1, p2, p3⟩ := hl.span hx
  obtain ⟨p4, p5, _, _⟩ := span_ok' x (by omega)
  have en := nodeAt_eq hx
  refine enter func269 rfl ntmps269 (l := [(0, _), (1, _)]) rfl rfl ?_
  refine x_seq ?_
  refine x_region rfl ?_
  refine o_box rfl (cs := [_]) rfl (fun b2 => ?_)
  refine o_y (y_assign rfl) ?_
  refine o_nil ?_
  refine x_seq ?_
  refine x_region rfl ?_
  refine o_y (y_fieldAddr fd29_0 ti27 (by decide) rfl) ?_
  refine o_y (y_loadO ti27 rfl inn rfl) ?_
  refine o_y (y_move rfl) ?_
  obtain ⟨ce13, ae13, re13⟩ := RdL.at h _ x hx
  have se13 := AtS.isSl ae13
  have te13 := re13
  obtain ⟨u13_3, z13, q13_0, q13_1, q13_2, q13_3⟩ := re13
  subst z13
  have w13 := Rep.one te13
  refine o_y (y_idxL h x hx underlying27 ti127 rfl rfl (by omega)) ?_
  refine o_y (y_loadS ti127 rfl (by assumption) rfl (fun e => by cases e)) ?_
  refine o_alloc ti127 rfl (fun b5 => ?_)
  refine o_store (u := [_, _, _, _]) (C' := [_, _, _, _]) ti127 rfl rfl rfl rfl (by first | rfl | assumption | (simp only [ones, List.all_cons, List.all_nil, Bool.and_true, one_of (by assumption)]; done)) (by repeat (first | exact .z | apply Upd.s | apply Upd.a)) (by exact Nat.le_of_ble_eq_true rfl) (by rfl) ?_
  refine o_nil ?_
  refine x_seq ?_
  refine x_seq ?_
  refine x_region rfl ?_
  refine o_y (y_loadA ti127 rfl inn rfl) ?_
  refine o_call fn292 rfl (rblank_ok te13) ?_
  rintro _ _ _ ⟨rfl, rfl, rfl⟩
  refine o_nil ?_
  refine x_cond rfl (fun hc0 => ?_) (fun hc0 => ?_)
  · try simp only [kk] at hc0
    refine x_seq ?_
    refine x_region rfl ?_
    refine o_y (y_assign rfl) ?_
    refine o_nil ?_
    refine x_ret ?_
    refine x_fin 2 (ret1 rfl rfl) ?_
    have hb : xs[x].blankB = true := by assumption
    have hp : xs[x].pub = 0 := by simp [Node.blankB] at hb; omega
    rw [parentB_1 en (by omega), hb]; exact ⟨rfl, rfl, rfl⟩
  try simp only [kk] at hc0
  refine x_skip ?_
  refine x_seq ?_
  refine x_seq ?_
  refine x_region rfl ?_
  refine o_y (y_fieldAddr fd127_0 ti3 (by decide) rfl) ?_
  refine o_y (y_loadO ti3 rfl inn rfl) ?_
  refine o_y (y_leq rfl rfl) ?_
  refine o_y (y_move rfl) ?_
  refine o_split 20 rfl (fun hg4_20 => ?_) (fun hg4_20 => ?_)
  · try simp only [kk] at hg4_20
    refine o_gn 20 rfl rfl rfl ?_
    refine o_gn 20 rfl rfl rfl ?_
    refine o_gn 20 rfl rfl rfl ?_
    refine o_y (y_pick rfl rfl) ?_
    refine o_y (y_move rfl) ?_
    refine o_gn 25 rfl rfl rfl ?_
    refine o_gn 25 rfl rfl rfl ?_
    refine o_gn 25 rfl rfl rfl ?_
    refine o_y (y_pick rfl rfl) ?_
    refine o_nil ?_
    refine x_condT rfl ?_
    refine x_seq ?_
    refine x_region rfl ?_
    refine o_y (y_assign rfl) ?_
    refine o_nil ?_
    refine x_ret ?_
    refine x_fin 2 (ret1 rfl rfl) ?_
    have hb : xs[x].blankB = false := by assumption
    rw [parentB_1 en (by omega), hb]; exact ⟨rfl, rfl, rfl⟩
  try simp only [kk] at hg4_20
  refine o_gy 20 rfl rfl (y_fieldAddr fd127_1 ti3 (by decide) rfl) ?_
  refine o_gy 20 rfl rfl (y_loadO ti3 rfl inn rfl) ?_
  refine o_gy 20 rfl rfl (y_neq rfl rfl) ?_
  refine o_y (y_pick rfl rfl) ?_
  refine o_y (y_move rfl) ?_
  refine o_split 25 rfl (fun hg4_25 => ?_) (fun hg4_25 => ?_)
  · try simp only [kk] at hg4_25
    refine o_gn 25 rfl rfl rfl ?_
    refine o_gn 25 rfl rfl rfl ?_
    refine o_gn 25 rfl rfl rfl ?_
    refine o_y (y_pick rfl rfl) ?_
    refine o_nil ?_
    refine x_condT rfl ?_
    refine x_seq ?_
    refine x_region rfl ?_
    refine o_y (y_assign rfl) ?_
    refine o_nil ?_
    refine x_ret ?_
    refine x_fin 2 (ret1 rfl rfl) ?_
    have hb : xs[x].blankB = false := by assumption
    rw [parentB_1 en (by omega), hb]; exact ⟨rfl, rfl, rfl⟩
  try simp only [kk] at hg4_25
  refine o_gy 25 rfl rfl (y_fieldAddr fd127_2 ti3 (by decide) rfl) ?_
  refine o_gy 25 rfl rfl (y_loadO ti3 rfl inn rfl) ?_
  refine o_gy 25 rfl rfl (y_neq rfl rfl) ?_
  refine o_y (y_pick rfl rfl) ?_
  refine o_nil ?_
  refine x_cond rfl (fun hc1 => ?_) (fun hc1 => ?_)
  · try simp only [kk] at hc1
    refine x_seq ?_
    refine x_region rfl ?_
    refine o_y (y_assign rfl) ?_
    refine o_nil ?_
    refine x_ret ?_
    refine x_fin 2 (ret1 rfl rfl) ?_
    have hb : xs[x].blankB = false := by assumption
    rw [parentB_1 en (by omega), hb]; exact ⟨rfl, rfl, rfl⟩
  try simp only [kk] at hc1
  have hng : ¬ (xs[x].pub < 1 ∨ xs[x].member ≠ 0 ∨ xs[x].epoch ≠ 0) := by omega
  refine x_skip ?_
  refine x_seq ?_
  refine x_region rfl ?_
  refine o_y (y_move rfl) ?_
  refine o_call fn293 rfl (rspan_ok x (by omega)) ?_
  rintro _ _ _ ⟨rfl, rfl, rfl⟩
  refine o_y (y_move rfl) ?_
  refine o_y (y_extract rfl rfl) ?_
  refine o_y (y_extract rfl rfl) ?_
  refine o_y (y_assign rfl) ?_
  refine o_y (y_assign rfl) ?_
  refine o_nil ?_
  refine x_seq ?_
  refine x_seq ?_
  refine x_region rfl ?_
  refine o_y (y_assign rfl) ?_
  refine o_nil ?_
  refine x_block ?_
  have hum := q13_3
  have hus := hum.lenle
  refine x_loopf (σ := Nat × Int) (fun s => [(8, .int .i64 (s.1 : Int)), (6, .int .i64 (spanLo x)), (7, .int .i64 (spanHi x)), (5, .pointer (some ⟨b5, 0, none⟩)), (2, .pointer (some ⟨b2, 0, none⟩))]) (fun _ => _) (fun s => s.1 ≤ xs[x].unmerged.length ∧ spanLo x ≤ s.2 ∧ s.2 ≤ spanHi x + 1 ∧ umOk xs (spanHi x) s.2 (xs[x].unmerged.drop s.1) = umOk xs (spanHi x) (spanLo x) xs[x].unmerged ∧ (s.1 = 0 → s.2 = spanLo x) ∧ ∀ h : s.1 - 1 < xs[x].unmerged.length, 0 < s.1 → s.2 = xs[x].unmerged[s.1 - 1] + 1) (fun s => xs[x].unmerged.length - s.1) (0, spanLo x) ⟨by simp, by simp, by simp; omega, by simp, by simp, fun _ h => by simp at h⟩ (.c rfl (.c rfl (.c rfl (.c rfl (.c rfl .n))))) rfl ?_
  rintro ⟨k, f⟩ ⟨i1, i2, i3, i4, i5, i6⟩
  simp only at i1 i2 i3 i4 i5 i6
  refine x_seq ?_
  refine x_seq ?_
  refine x_region rfl ?_
  refine o_y (y_move rfl) ?_
  refine o_y (y_fieldAddr fd127_3 ti24 (by decide) rfl) ?_
  refine o_y (y_loadO ti24 rfl inn rfl) ?_
  refine o_y (y_lenA underlying24 rfl) ?_
  refine o_y (y_lss rfl rfl) ?_
  refine o_nil ?_
  refine x_cond rfl (fun hc2 => ?_) (fun hc2 => ?_)
  · try simp only [kk] at hc2
    have hk : k < xs[x].unmerged.length := by omega
    have i6' := i6 (by omega)
    refine x_skip ?_
    refine x_seq ?_
    refine x_block ?_
    refine x_seq ?_
    refine x_region rfl ?_
    refine o_y (y_fieldAddr fd127_3 ti24 (by decide) rfl) ?_
    refine o_y (y_loadO ti24 rfl inn rfl) ?_
    refine o_y (y_move rfl) ?_
    obtain ⟨ce45, ae45, re45⟩ := RdL.at hum _ k hk
    have se45 := AtS.isSl ae45
    obtain ⟨rfl, q45⟩ := re45
    refine o_y (y_idxL hum k hk underlying24 ti3 rfl rfl (by omega)) ?_
    refine o_y (y_loadS ti3 rfl (by assumption) rfl (fun _ => rfl)) ?_
    refine o_y (y_assign rfl) ?_
    refine o_nil ?_
    refine x_seq ?_
    refine x_region rfl ?_
    refine o_y (y_move rfl) ?_
    refine o_y (y_move rfl) ?_
    refine o_y (y_lss rfl rfl) ?_
    refine o_y (y_move rfl) ?_
    refine o_split 50 rfl (fun hg11_50 => ?_) (fun hg11_50 => ?_)
    · try simp only [kk] at hg11_50
      refine o_gn 50 rfl rfl rfl ?_
      refine o_gn 50 rfl rfl rfl ?_
      refine o_gn 50 rfl rfl rfl ?_
      refine o_y (y_pick rfl rfl) ?_
      refine o_y (y_move rfl) ?_
      refine o_gn 55 rfl rfl rfl ?_
      refine o_gn 55 rfl rfl rfl ?_
      refine o_gn 55 rfl rfl rfl ?_
      refine o_gn 55 rfl rfl rfl ?_
      refine o_gn 55 rfl rfl rfl ?_
      refine o_gn 55 rfl rfl rfl ?_
      refine o_gn 55 rfl rfl rfl ?_
      refine o_gn 55 rfl rfl rfl ?_
      refine o_y (y_pick rfl rfl) ?_
      refine o_y (y_move rfl) ?_
      refine o_gn 65 rfl rfl rfl ?_
      refine o_gn 65 rfl rfl rfl ?_
      refine o_gn 65 rfl rfl rfl ?_
      refine o_gu 68 rfl rfl ?_
      refine o_gu 68 rfl rfl ?_
      refine o_gu 68 rfl rfl ?_
      refine o_gu 68 rfl rfl ?_
      refine o_gu 68 rfl rfl ?_
      refine o_gu 68 rfl rfl ?_
      refine o_gu 68 rfl rfl ?_
      refine o_gu 68 rfl rfl ?_
      refine o_gn 65 rfl rfl rfl ?_
      refine o_y (y_pick rfl rfl) ?_
      refine o_nil ?_
      refine x_condT rfl ?_
      refine x_seq ?_
      refine x_region rfl ?_
      refine o_y (y_assign rfl) ?_
      refine o_nil ?_
      refine x_ret ?_
      refine x_fin 2 (ret1 rfl rfl) ?_
      refine ⟨?_, rfl, rfl⟩
      rw [parentB_2 en hng, ← i4, umOk_no hk (by first | omega | (rw [e2]; omega))]
    try simp only [kk] at hg11_50
    refine o_gy 50 rfl rfl (y_move rfl) ?_
    refine o_gy 50 rfl rfl (y_move rfl) ?_
    refine o_gy 50 rfl rfl (y_gtr rfl rfl) ?_
    refine o_y (y_pick rfl rfl) ?_
    refine o_y (y_move rfl) ?_
    refine o_split 55 rfl (fun hg11_55 => ?_) (fun hg11_55 => ?_)
    · try simp only [kk] at hg11_55
      refine o_gn 55 rfl rfl rfl ?_
      refine o_gn 55 rfl rfl rfl ?_
      refine o_gn 55 rfl rfl rfl ?_
      refine o_gn 55 rfl rfl rfl ?_
      refine o_gn 55 rfl rfl rfl ?_
      refine o_gn 55 rfl rfl rfl ?_
      refine o_gn 55 rfl rfl rfl ?_
      refine o_gn 55 rfl rfl rfl ?_
      refine o_y (y_pick rfl rfl) ?_
      refine o_y (y_move rfl) ?_
      refine o_gn 65 rfl rfl rfl ?_
      refine o_gn 65 rfl rfl rfl ?_
      refine o_gn 65 rfl rfl rfl ?_
      refine o_gu 68 rfl rfl ?_
      refine o_gu 68 rfl rfl ?_
      refine o_gu 68 rfl rfl ?_
      refine o_gu 68 rfl rfl ?_
      refine o_gu 68 rfl rfl ?_
      refine o_gu 68 rfl rfl ?_
      refine o_gu 68 rfl rfl ?_
      refine o_gu 68 rfl rfl ?_
      refine o_gn 65 rfl rfl rfl ?_
      refine o_y (y_pick rfl rfl) ?_
      refine o_nil ?_
      refine x_condT rfl ?_
      refine x_seq ?_
      refine x_region rfl ?_
      refine o_y (y_assign rfl) ?_
      refine o_nil ?_
      refine x_ret ?_
      refine x_fin 2 (ret1 rfl rfl) ?_
      refine ⟨?_, rfl, rfl⟩
      rw [parentB_2 en hng, ← i4, umOk_no hk (by first | omega | (rw [e2]; omega))]
    try simp only [kk] at hg11_55
    refine o_gy 55 rfl rfl (y_fieldAddr fd29_0 ti27 (by decide) rfl) ?_
    refine o_gy 55 rfl rfl (y_loadO ti27 rfl inn rfl) ?_
    refine o_gy 55 rfl rfl (y_move rfl) ?_
    refine o_gy 55 rfl rfl (y_mulN rfl rfl (by omega) (by omega)) ?_
    have hj : 2 * (xs[x].unmerged[k]).toNat < xs.length := by omega
    have e2 := nodeAt_eq hj
    obtain ⟨ce60, ae60, re60⟩ := RdL.at h _ (2 * (xs[x].unmerged[k]).toNat) hj
    have se60 := AtS.isSl ae60
    have te60 := re60
    obtain ⟨u60_3, z60, q60_0, q60_1, q60_2, q60_3⟩ := re60
    subst z60
    have w60 := Rep.one te60
    refine o_gy 55 rfl rfl (y_idxL h (2 * (xs[x].unmerged[k]).toNat) hj underlying27 ti127 rfl rfl (by omega)) ?_
    refine o_gy 55 rfl rfl (y_fieldAddrP fd127_0 ti3 (by decide) (by assumption) rfl) ?_
    refine o_gy 55 rfl rfl (y_loadS1 ti3 rfl (by assumption) rfl) ?_
    refine o_gy 55 rfl rfl (y_eql rfl rfl) ?_
    refine o_y (y_pick rfl rfl) ?_
    refine o_y (y_move rfl) ?_
    refine o_split 65 rfl (fun hg11_65 => ?_) (fun hg11_65 => ?_)
    · try simp only [kk] at hg11_65
      refine o_gn 65 rfl rfl rfl ?_
      refine o_gn 65 rfl rfl rfl ?_
      refine o_gn 65 rfl rfl rfl ?_
      refine o_gu 68 rfl rfl ?_
      refine o_gu 68 rfl rfl ?_
      refine o_gu 68 rfl rfl ?_
      refine o_gu 68 rfl rfl ?_
      refine o_gu 68 rfl rfl ?_
      refine o_gu 68 rfl rfl ?_
      refine o_gu 68 rfl rfl ?_
      refine o_gu 68 rfl rfl ?_
      refine o_gn 65 rfl rfl rfl ?_
      refine o_y (y_pick rfl rfl) ?_
      refine o_nil ?_
      refine x_condT rfl ?_
      refine x_seq ?_
      refine x_region rfl ?_
      refine o_y (y_assign rfl) ?_
      refine o_nil ?_
      refine x_ret ?_
      refine x_fin 2 (ret1 rfl rfl) ?_
      refine ⟨?_, rfl, rfl⟩
      rw [parentB_2 en hng, ← i4, umOk_no hk (by first | omega | (rw [e2]; omega))]
    try simp only [kk] at hg11_65
    refine o_gy 65 rfl rfl (y_move rfl) ?_
    refine o_gy 65 rfl rfl (y_gtr rfl rfl) ?_
    refine o_gy 65 rfl rfl (y_move rfl) ?_
    refine o_split 68 rfl (fun hg11_68 => ?_) (fun hg11_68 => ?_)
    · try simp only [kk] at hg11_68
      refine o_gy 68 rfl rfl (y_move rfl) ?_
      refine o_gy 68 rfl rfl (y_fieldAddr fd127_3 ti24 (by decide) rfl) ?_
      refine o_gy 68 rfl rfl (y_loadO ti24 rfl inn rfl) ?_
      refine o_gy 68 rfl rfl (y_move rfl) ?_
      refine o_gy 68 rfl rfl (y_subN rfl rfl (by omega) (by omega)) ?_
      obtain ⟨ce74, ae74, re74⟩ := RdL.at hum _ (k - 1) (by omega)
      have se74 := AtS.isSl ae74
      obtain ⟨rfl, q74⟩ := re74
      refine o_gy 68 rfl rfl (y_idxL hum (k - 1) (by omega) underlying24 ti3 rfl rfl (by omega)) ?_
      refine o_gy 68 rfl rfl (y_loadS ti3 rfl (by assumption) rfl (fun _ => rfl)) ?_
      refine o_gy 68 rfl rfl (y_leq rfl rfl) ?_
      refine o_gy 65 rfl rfl (y_pick rfl rfl) ?_
      refine o_y (y_pick rfl rfl) ?_
      refine o_nil ?_
      refine x_cond rfl (fun hc3 => ?_) (fun hc3 => ?_)
      · try simp only [kk] at hc3
        refine x_seq ?_
        refine x_region rfl ?_
        refine o_y (y_assign rfl) ?_
        refine o_nil ?_
        refine x_ret ?_
        refine x_fin 2 (ret1 rfl rfl) ?_
        refine ⟨?_, rfl, rfl⟩
        rw [parentB_2 en hng, ← i4, umOk_no hk (by first | omega | (rw [e2]; omega))]
      try simp only [kk] at hc3
      refine x_skip ?_
      refine x_region rfl ?_
      refine o_y (y_move rfl) ?_
      refine o_y (y_addN rfl rfl (by omega) (by omega)) ?_
      refine o_y (y_assign rfl) ?_
      refine o_nil ?_
      exact ⟨(k + 1, xs[x].unmerged[k] + 1), 0, rfl, (.c rfl (.c rfl (.c rfl (.c rfl (.c rfl .n))))), rfl, ⟨by omega, by omega, by omega, by
        have z := umOk_yes (xs := xs) (hi := spanHi x) (f := f) hk (by rw [e2]; omega)
        rw [← z]; exact i4, by simp, fun _ _ => rfl⟩, by omega⟩
    try simp only [kk] at hg11_68
    refine o_gn 68 rfl rfl rfl ?_
    refine o_gn 68 rfl rfl rfl ?_
    refine o_gn 68 rfl rfl rfl ?_
    refine o_gn 68 rfl rfl rfl ?_
    refine o_gn 68 rfl rfl rfl ?_
    refine o_gn 68 rfl rfl rfl ?_
    refine o_gn 68 rfl rfl rfl ?_
    refine o_gn 68 rfl rfl rfl ?_
    refine o_gy 65 rfl rfl (y_pick rfl rfl) ?_
    refine o_y (y_pick rfl rfl) ?_
    refine o_nil ?_
    refine x_condF rfl ?_
    refine x_skip ?_
    refine x_region rfl ?_
    refine o_y (y_move rfl) ?_
    refine o_y (y_addN rfl rfl (by omega) (by omega)) ?_
    refine o_y (y_assign rfl) ?_
    refine o_nil ?_
    exact ⟨(k + 1, xs[x].unmerged[k] + 1), 0, rfl, (.c rfl (.c rfl (.c rfl (.c rfl (.c rfl .n))))), rfl, ⟨by omega, by omega, by omega, by
      have z := umOk_yes (xs := xs) (hi := spanHi x) (f := f) hk (by rw [e2]; omega)
      rw [← z]; exact i4, by simp, fun _ _ => rfl⟩, by omega⟩
  try simp only [kk] at hc2
  refine x_exit ?_
  refine x_seq ?_
  refine x_region rfl ?_
  refine o_y (y_assign rfl) ?_
  refine o_nil ?_
  refine x_ret ?_
  refine x_fin 2 (ret1 rfl rfl) ?_
  refine ⟨?_, rfl, rfl⟩
  obtain rfl : k = xs[x].unmerged.length := by omega
  rw [parentB_2 en hng, ← i4, List.drop_length]; rfl
open Classical in
noncomputable def twiceB (xs : List Node) : Bool := decide (∃ i k, i < xs.length ∧ k < i ∧ i % 2 = 0 ∧ k % 2 = 0 ∧ (nodeAt xs i).pub ≠ 0 ∧ (nodeAt xs k).pub ≠ 0 ∧ (nodeAt xs i).member = (nodeAt xs k).member)
open Classical in
noncomputable def someB (xs : List Node) (f : Nat) : Bool := decide (∃ i, i < xs.length ∧ i % 2 = 0 ∧ 2 * f ≤ i ∧ (nodeAt xs i).pub ≠ 0)
theorem twiceB_yes {xs : List Node} (h : ∃ i k, i < xs.length ∧ k < i ∧ i % 2 = 0 ∧ k % 2 = 0 ∧ (nodeAt xs i).pub ≠ 0 ∧ (nodeAt xs k).pub ≠ 0 ∧ (nodeAt xs i).member = (nodeAt xs k).member) : twiceB xs = true := by unfold twiceB; simpa using h
theorem twiceB_no {xs : List Node} (h : ¬ ∃ i k, i < xs.length ∧ k < i ∧ i % 2 = 0 ∧ k % 2 = 0 ∧ (nodeAt xs i).pub ≠ 0 ∧ (nodeAt xs k).pub ≠ 0 ∧ (nodeAt xs i).member = (nodeAt xs k).member) : twiceB xs = false := by unfold twiceB; rw [decide_eq_false_iff_not]; exact h
theorem rtwice_ok {B : World} {H : HM} {O : OL} {v : Value} {xs : List Node} (h : RdL H v xs) : CallsM prog 270 [.agg #[v]].toArray B H O (Same (.bool (twiceB xs)) H O) := by
  have hs := h.lenle
  refine enter func270 rfl ntmps270 (l := [(0, _)]) rfl rfl ?_
  refine x_seq ?_
  refine x_region rfl ?_
  refine o_box rfl (cs := [_]) rfl (fun b1 => ?_)
  refine o_y (y_assign rfl) ?_
  refine o_nil ?_
  refine x_seq ?_
  refine x_seq ?_
  refine x_region rfl ?_
  refine o_y (y_assign rfl) ?_
  refine o_nil ?_
  refine x_block ?_
  refine x_loopf (σ := Nat) (fun s => [(3, .int .i64 (s : Int)), (1, .pointer (some ⟨b1, 0, none⟩))]) (fun s => (b1, cl [v] 29) :: O) (fun s => s % 2 = 0 ∧ s ≤ xs.length + 1 ∧ ∀ i k, i < s → i < xs.length → k < i → i % 2 = 0 → k % 2 = 0 → (nodeAt xs i).pub ≠ 0 → (nodeAt xs k).pub ≠ 0 → (nodeAt xs i).member ≠ (nodeAt xs k).member) (fun s => xs.length + 1 - s) 0 ⟨rfl, by omega, fun i k hi => by omega⟩ (.c rfl (.c rfl .n)) rfl ?_
  rintro i ⟨i1, i2, i3⟩
  refine x_seq ?_
  refine x_seq ?_
  refine x_region rfl ?_
  refine o_y (y_move rfl) ?_
  refine o_y (y_fieldAddr fd29_0 ti27 (by decide) rfl) ?_
  refine o_y (y_loadO ti27 rfl inn rfl) ?_
  refine o_y (y_lenA underlying27 rfl) ?_
  refine o_y (y_lss rfl rfl) ?_
  refine o_nil ?_
  refine x_cond rfl (fun hc0 => ?_) (fun hc0 => ?_)
  · try simp only [kk] at hc0
    have hi : i < xs.length := by omega
    have ei := nodeAt_eq hi
    refine x_skip ?_
    refine x_seq ?_
    refine x_block ?_
    refine x_seq ?_
    refine x_region rfl ?_
    refine o_y (y_assign rfl) ?_
    refine o_nil ?_
    refine x_block ?_
    refine x_loopf (σ := Nat) (fun s => [(4, .int .i64 (s : Int)), (3, .int .i64 (i : Int)), (1, .pointer (some ⟨b1, 0, none⟩))]) (fun s => (b1, cl [v] 29) :: O) (fun s => s % 2 = 0 ∧ s ≤ i ∧ ∀ k, k < s → k < i → k % 2 = 0 → (nodeAt xs i).pub ≠ 0 → (nodeAt xs k).pub ≠ 0 → (nodeAt xs i).member ≠ (nodeAt xs k).member) (fun s => i - s) 0 ⟨rfl, by omega, fun k hk => by omega⟩ (.c rfl (.c rfl (.c rfl .n))) rfl ?_
    rintro k ⟨z1, z2, z3⟩
    refine x_seq ?_
    refine x_seq ?_
    refine x_region rfl ?_
    refine o_y (y_move rfl) ?_
    refine o_y (y_move rfl) ?_
    refine o_y (y_lss rfl rfl) ?_
    refine o_nil ?_
    refine x_cond rfl (fun hc1 => ?_) (fun hc1 => ?_)
    · try simp only [kk] at hc1
      have hk : k < i := by omega
      have hkl : k < xs.length := by omega
      have ek := nodeAt_eq hkl
      refine x_skip ?_
      refine x_seq ?_
      refine x_block ?_
      refine x_seq ?_
      refine x_regionQ mixed (by kernel_rfl) rfl ?_
      refine q_y (y_fieldAddr fd29_0 ti27 (by decide) rfl) ?_
      refine q_y (y_loadO ti27 rfl inn rfl) ?_
      refine q_y (y_move rfl) ?_
      obtain ⟨ce20, ae20, re20⟩ := RdL.at h _ i hi
      have se20 := AtS.isSl ae20
      have te20 := re20
      obtain ⟨u20_3, z20, q20_0, q20_1, q20_2, q20_3⟩ := re20
      subst z20
      have w20 := Rep.one te20
      refine q_y (y_idxL h i hi underlying27 ti127 rfl rfl (by omega)) ?_
      refine q_y (y_fieldAddrP fd127_0 ti3 (by decide) (by assumption) rfl) ?_
      refine q_y (y_loadS1 ti3 rfl (by assumption) rfl) ?_
      refine q_y (y_neq rfl rfl) ?_
      refine q_y (y_move rfl) ?_
      refine q_split 24 rfl (fun hg7_24 => ?_) (fun hg7_24 => ?_)
      · try simp only [kk] at hg7_24
        refine q_gy 24 rfl rfl (y_fieldAddr fd29_0 ti27 (by decide) rfl) ?_
        refine q_gy 24 rfl rfl (y_loadO ti27 rfl inn rfl) ?_
        refine q_gy 24 rfl rfl (y_move rfl) ?_
        obtain ⟨ce28, ae28, re28⟩ := RdL.at h _ k hkl
        have se28 := AtS.isSl ae28
        have te28 := re28
        obtain ⟨u28_3, z28, q28_0, q28_1, q28_2, q28_3⟩ := re28
        subst z28
        have w28 := Rep.one te28
        refine q_gy 24 rfl rfl (y_idxL h k hkl underlying27 ti127 rfl rfl (by omega)) ?_
        refine q_gy 24 rfl rfl (y_fieldAddrP fd127_0 ti3 (by decide) (by assumption) rfl) ?_
        refine q_gy 24 rfl rfl (y_loadS1 ti3 rfl (by assumption) rfl) ?_
        refine q_gy 24 rfl rfl (y_neq rfl rfl) ?_
        refine q_y (y_pick rfl rfl) ?_
        refine q_y (y_move rfl) ?_
        refine q_split 33 rfl (fun hg7_33 => ?_) (fun hg7_33 => ?_)
        · try simp only [kk] at hg7_33
          refine q_gy 33 rfl rfl (y_fieldAddr fd29_0 ti27 (by decide) rfl) ?_
          refine q_gy 33 rfl rfl (y_loadO ti27 rfl inn rfl) ?_
          refine q_gy 33 rfl rfl (y_move rfl) ?_
          obtain ⟨ce37, ae37, re37⟩ := RdL.at h _ i hi
          have se37 := AtS.isSl ae37
          have te37 := re37
          obtain ⟨u37_3, z37, q37_0, q37_1, q37_2, q37_3⟩ := re37
          subst z37
          have w37 := Rep.one te37
          refine q_gy 33 rfl rfl (y_idxL h i hi underlying27 ti127 rfl rfl (by omega)) ?_
          refine q_gy 33 rfl rfl (y_fieldAddrP fd127_1 ti3 (by decide) (by assumption) rfl) ?_
          refine q_gy 33 rfl rfl (y_loadS1 ti3 rfl (by assumption) rfl) ?_
          refine q_gy 33 rfl rfl (y_fieldAddr fd29_0 ti27 (by decide) rfl) ?_
          refine q_gy 33 rfl rfl (y_loadO ti27 rfl inn rfl) ?_
          refine q_gy 33 rfl rfl (y_move rfl) ?_
          obtain ⟨ce43, ae43, re43⟩ := RdL.at h _ k hkl
          have se43 := AtS.isSl ae43
          have te43 := re43
          obtain ⟨u43_3, z43, q43_0, q43_1, q43_2, q43_3⟩ := re43
          subst z43
          have w43 := Rep.one te43
          refine q_gy 33 rfl rfl (y_idxL h k hkl underlying27 ti127 rfl rfl (by omega)) ?_
          refine q_gy 33 rfl rfl (y_fieldAddrP fd127_1 ti3 (by decide) (by assumption) rfl) ?_
          refine q_gy 33 rfl rfl (y_loadS1 ti3 rfl (by assumption) rfl) ?_
          refine q_gy 33 rfl rfl (y_eql rfl rfl) ?_
          refine q_y (y_pick rfl rfl) ?_
          refine q_nil ?_
          refine x_cond rfl (fun hc2 => ?_) (fun hc2 => ?_)
          · try simp only [kk] at hc2
            refine x_seq ?_
            refine x_region rfl ?_
            refine o_y (y_assign rfl) ?_
            refine o_nil ?_
            refine x_ret ?_
            refine x_fin 1 (ret1 rfl rfl) ?_
            refine ⟨?_, rfl, rfl⟩
            have : twiceB xs = true := by
              exact twiceB_yes ⟨i, k, hi, hk, i1, z1, by rw [ei]; omega, by rw [ek]; omega, by rw [ei, ek]; omega⟩
            rw [this]
          try simp only [kk] at hc2
          refine x_skip ?_
          refine x_region rfl ?_
          refine o_y (y_move rfl) ?_
          refine o_y (y_addN rfl rfl (by omega) (by omega)) ?_
          refine o_y (y_assign rfl) ?_
          refine o_nil ?_
          refine ⟨k + 2, 0, rfl, (.c rfl (.c rfl (.c rfl .n))), rfl, ⟨by omega, by omega, fun j hj hji hj2 hp hq => ?_⟩, by omega⟩
          by_cases e : j = k
          · subst e
            rw [ei] at hp ⊢
            rw [ek] at hq ⊢
            intro hm
            first | exact absurd hm (by assumption) | (exfalso; omega)
          exact z3 j (by omega) hji hj2 hp hq
        try simp only [kk] at hg7_33
        refine q_gn 33 rfl rfl rfl ?_
        refine q_gn 33 rfl rfl rfl ?_
        refine q_gn 33 rfl rfl rfl ?_
        refine q_gn 33 rfl rfl rfl ?_
        refine q_gn 33 rfl rfl rfl ?_
        refine q_gn 33 rfl rfl rfl ?_
        refine q_gn 33 rfl rfl rfl ?_
        refine q_gn 33 rfl rfl rfl ?_
        refine q_gn 33 rfl rfl rfl ?_
        refine q_gn 33 rfl rfl rfl ?_
        refine q_gn 33 rfl rfl rfl ?_
        refine q_gn 33 rfl rfl rfl ?_
        refine q_gn 33 rfl rfl rfl ?_
        refine q_y (y_pick rfl rfl) ?_
        refine q_nil ?_
        refine x_condF rfl ?_
        refine x_skip ?_
        refine x_region rfl ?_
        refine o_y (y_move rfl) ?_
        refine o_y (y_addN rfl rfl (by omega) (by omega)) ?_
        refine o_y (y_assign rfl) ?_
        refine o_nil ?_
        refine ⟨k + 2, 0, rfl, (.c rfl (.c rfl (.c rfl .n))), rfl, ⟨by omega, by omega, fun j hj hji hj2 hp hq => ?_⟩, by omega⟩
        by_cases e : j = k
        · subst e
          rw [ei] at hp ⊢
          rw [ek] at hq ⊢
          intro hm
          first | exact absurd hm (by assumption) | (exfalso; omega)
        exact z3 j (by omega) hji hj2 hp hq
      try simp only [kk] at hg7_24
      refine q_gn 24 rfl rfl rfl ?_
      refine q_gn 24 rfl rfl rfl ?_
      refine q_gn 24 rfl rfl rfl ?_
      refine q_gn 24 rfl rfl rfl ?_
      refine q_gn 24 rfl rfl rfl ?_
      refine q_gn 24 rfl rfl rfl ?_
      refine q_gn 24 rfl rfl rfl ?_
      refine q_y (y_pick rfl rfl) ?_
      refine q_y (y_move rfl) ?_
      refine q_gn 33 rfl rfl rfl ?_
      refine q_gn 33 rfl rfl rfl ?_
      refine q_gn 33 rfl rfl rfl ?_
      refine q_gn 33 rfl rfl rfl ?_
      refine q_gn 33 rfl rfl rfl ?_
      refine q_gn 33 rfl rfl rfl ?_
      refine q_gn 33 rfl rfl rfl ?_
      refine q_gn 33 rfl rfl rfl ?_
      refine q_gn 33 rfl rfl rfl ?_
      refine q_gn 33 rfl rfl rfl ?_
      refine q_gn 33 rfl rfl rfl ?_
      refine q_gn 33 rfl rfl rfl ?_
      refine q_gn 33 rfl rfl rfl ?_
      refine q_y (y_pick rfl rfl) ?_
      refine q_nil ?_
      refine x_condF rfl ?_
      refine x_skip ?_
      refine x_region rfl ?_
      refine o_y (y_move rfl) ?_
      refine o_y (y_addN rfl rfl (by omega) (by omega)) ?_
      refine o_y (y_assign rfl) ?_
      refine o_nil ?_
      refine ⟨k + 2, 0, rfl, (.c rfl (.c rfl (.c rfl .n))), rfl, ⟨by omega, by omega, fun j hj hji hj2 hp hq => ?_⟩, by omega⟩
      by_cases e : j = k
      · subst e
        rw [ei] at hp ⊢
        rw [ek] at hq ⊢
        intro hm
        first | exact absurd hm (by assumption) | (exfalso; omega)
      exact z3 j (by omega) hji hj2 hp hq
    try simp only [kk] at hc1
    refine x_exit ?_
    refine x_region rfl ?_
    refine o_y (y_move rfl) ?_
    refine o_y (y_addN rfl rfl (by omega) (by omega)) ?_
    refine o_y (y_assign rfl) ?_
    refine o_nil ?_
    refine ⟨i + 2, 0, rfl, (.c rfl (.c rfl .n)), rfl, ⟨by omega, by omega, fun j q hj hjl hq hj2 hq2 hp hp2 => ?_⟩, by omega⟩
    by_cases e : j = i
    · subst e; exact z3 q (by omega) hq hq2 hp hp2
    exact i3 j q (by omega) hjl hq hj2 hq2 hp hp2
  try simp only [kk] at hc0
  refine x_exit ?_
  refine x_seq ?_
  refine x_region rfl ?_
  refine o_y (y_assign rfl) ?_
  refine o_nil ?_
  refine x_ret ?_
  refine x_fin 1 (ret1 rfl rfl) ?_
  refine ⟨?_, rfl, rfl⟩
  have : twiceB xs = false := by
    refine twiceB_no ?_
    rintro ⟨j, q, h1, h2, h3, h4, h5, h6, h7⟩
    exact i3 j q (by omega) h1 h2 h3 h4 h5 h6 h7
  rw [this]
theorem rsome_ok {B : World} {H : HM} {O : OL} {v : Value} {xs : List Node} (h : RdL H v xs) (f : Nat) (hf : f ≤ 8) : CallsM prog 271 [.agg #[v], .int .i64 f].toArray B H O (Same (.bool (someB xs f)) H O) := by
  have hs := h.lenle
  refine enter func271 rfl ntmps271 (l := [(0, _), (1, _)]) rfl rfl ?_
  refine x_seq ?_
  refine x_region rfl ?_
  refine o_box rfl (cs := [_]) rfl (fun b2 => ?_)
  refine o_y (y_assign rfl) ?_
  refine o_nil ?_
  refine x_seq ?_
  refine x_seq ?_
  refine x_region rfl ?_
  refine o_y (y_move rfl) ?_
  refine o_y (y_mulN rfl rfl (by omega) (by omega)) ?_
  refine o_y (y_assign rfl) ?_
  refine o_nil ?_
  refine x_block ?_
  refine x_loopf (σ := Nat) (fun s => [(5, .int .i64 (s : Int)), (2, .pointer (some ⟨b2, 0, none⟩))]) (fun s => (b2, cl [v] 29) :: O) (fun s => s % 2 = 0 ∧ 2 * f ≤ s ∧ s ≤ xs.length + 17 ∧ ∀ i, i < s → i < xs.length → i % 2 = 0 → 2 * f ≤ i → (nodeAt xs i).pub = 0) (fun s => xs.length + 17 - s) (2 * f) ⟨by omega, Nat.le_refl _, by omega, fun i h1 h2 h3 h4 => by omega⟩ (.c (by push_cast; rfl) (.c rfl .n)) rfl ?_
  rintro i ⟨i1, i2, i3, i4⟩
  refine x_seq ?_
  refine x_seq ?_
  refine x_region rfl ?_
  refine o_y (y_move rfl) ?_
  refine o_y (y_fieldAddr fd29_0 ti27 (by decide) rfl) ?_
  refine o_y (y_loadO ti27 rfl inn rfl) ?_
  refine o_y (y_lenA underlying27 rfl) ?_
  refine o_y (y_lss rfl rfl) ?_
  refine o_nil ?_
  refine x_cond rfl (fun hc0 => ?_) (fun hc0 => ?_)
  · try simp only [kk] at hc0
    have hi : i < xs.length := by omega
    have ei := nodeAt_eq hi
    refine x_skip ?_
    refine x_seq ?_
    refine x_block ?_
    refine x_seq ?_
    refine x_region rfl ?_
    refine o_y (y_fieldAddr fd29_0 ti27 (by decide) rfl) ?_
    refine o_y (y_loadO ti27 rfl inn rfl) ?_
    refine o_y (y_move rfl) ?_
    obtain ⟨ce18, ae18, re18⟩ := RdL.at h _ i hi
    have se18 := AtS.isSl ae18
    have te18 := re18
    obtain ⟨u18_3, z18, q18_0, q18_1, q18_2, q18_3⟩ := re18
    subst z18
    have w18 := Rep.one te18
    refine o_y (y_idxL h i hi underlying27 ti127 rfl rfl (by omega)) ?_
    refine o_y (y_fieldAddrP fd127_0 ti3 (by decide) (by assumption) rfl) ?_
    refine o_y (y_loadS1 ti3 rfl (by assumption) rfl) ?_
    refine o_y (y_neq rfl rfl) ?_
    refine o_nil ?_
    refine x_cond rfl (fun hc1 => ?_) (fun hc1 => ?_)
    · try simp only [kk] at hc1
      refine x_seq ?_
      refine x_region rfl ?_
      refine o_y (y_assign rfl) ?_
      refine o_nil ?_
      refine x_ret ?_
      refine x_fin 1 (ret1 rfl rfl) ?_
      refine ⟨?_, rfl, rfl⟩
      have : someB xs f = true := by
        unfold someB
        refine decide_eq_true ?_
        exact ⟨i, hi, i1, i2, by rw [ei]; omega⟩
      rw [this]
    try simp only [kk] at hc1
    refine x_skip ?_
    refine x_region rfl ?_
    refine o_y (y_move rfl) ?_
    refine o_y (y_addN rfl rfl (by omega) (by omega)) ?_
    refine o_y (y_assign rfl) ?_
    refine o_nil ?_
    refine ⟨i + 2, 0, rfl, (.c rfl (.c rfl .n)), rfl, ⟨by omega, by omega, by omega, fun j hj hjl hj2 hf => ?_⟩, by omega⟩
    by_cases e : j = i
    · subst e; rw [ei]; omega
    exact i4 j (by omega) hjl hj2 hf
  try simp only [kk] at hc0
  refine x_exit ?_
  refine x_seq ?_
  refine x_region rfl ?_
  refine o_y (y_assign rfl) ?_
  refine o_nil ?_
  refine x_ret ?_
  refine x_fin 1 (ret1 rfl rfl) ?_
  refine ⟨?_, rfl, rfl⟩
  have : someB xs f = false := by
    unfold someB
    refine decide_eq_false ?_
    rintro ⟨j, h1, h2, h3, h4⟩
    exact h4 (i4 j (by omega) h1 h2 h3)
  rw [this]
theorem goodAt_leafB {xs : List Node} {j : Nat} (h : ¬ j % 2 = 1) (hl : leafB (nodeAt xs j) = false) : goodAt xs j = false := by
  unfold leafB at hl
  cases hb : (nodeAt xs j).blankB with
  | true => rw [hb] at hl; cases hl
  | false =>
    rw [hb] at hl
    rw [goodAt_leaf h hb]
    simp only [Bool.false_or, Bool.and_eq_false_iff, decide_eq_false_iff_not] at hl
    have h5 : (nodeAt xs j).unmerged.length = 0 ↔ ((nodeAt xs j).unmerged.length : Int) = 0 := by omega
    rcases hl with h1 | h1 | h1 | h1
    · simp [show ¬ 1 ≤ (nodeAt xs j).pub by omega]
    · simp [h1]
    · simp [h1]
    have : ¬ (nodeAt xs j).unmerged.length = 0 := by omega
    have h6 : (nodeAt xs j).unmerged ≠ [] := fun e => this (by rw [e]; rfl)
    simp [h6]
theorem leafB_pub {n : Node} (h : leafB n = true) : n.blankB = decide (n.pub = 0) := by
  unfold leafB at h
  cases hb : n.blankB with
  | true => simp [Node.blankB] at hb; simp [hb]
  | false => rw [hb] at h; simp at h; simp; omega
theorem memsTo_mem {xs : List Node} {m : Int} : ∀ {k : Nat}, m ∈ memsTo xs k ↔ ∃ i, i < k ∧ isLeaf xs i = true ∧ (nodeAt xs i).member = m
  | 0 => by simp [memsTo]
  | k + 1 => by
    rw [memsTo, List.mem_append, memsTo_mem (k := k)]
    constructor
    · rintro (⟨i, h1, h2, h3⟩ | h)
      · exact ⟨i, by omega, h2, h3⟩
      split at h
      · rename_i hl
        exact ⟨k, by omega, hl, (List.mem_singleton.1 h).symm⟩
      simp at h
    rintro ⟨i, h1, h2, h3⟩
    by_cases e : i = k
    · subst e; right; rw [if_pos h2]; simp [h3]
    exact .inl ⟨i, by omega, h2, h3⟩
theorem lastTo_ge {xs : List Node} {f : Int} : ∀ {k : Nat}, 0 ≤ f → (f ≤ lastTo xs k ↔ ∃ i, i < k ∧ isLeaf xs i = true ∧ f ≤ ((i / 2 : Nat) : Int))
  | 0, hf => by simp [lastTo]; omega
  | k + 1, hf => by
    have ih := lastTo_ge (xs := xs) (k := k) hf
    by_cases hl : isLeaf xs k = true
    · rw [lastTo_yes hl]
      constructor
      · intro h; exact ⟨k, by omega, hl, h⟩
      rintro ⟨i, h1, h2, h3⟩; omega
    rw [Bool.not_eq_true] at hl
    rw [lastTo_no hl, ih]
    constructor
    · rintro ⟨i, h1, h2⟩; exact ⟨i, by omega, h2⟩
    rintro ⟨i, h1, h2, h3⟩
    refine ⟨i, ?_, h2, h3⟩
    by_cases e : i = k
    · subst e; rw [hl] at h2; cases h2
    omega
theorem isLeaf_pub {xs : List Node} (ha : ∀ j, j < xs.length → (j % 2 = 0 → leafB (nodeAt xs j) = true) ∧ (j % 2 = 1 → parentB xs j = true)) {i : Nat} (hi : i < xs.length) : isLeaf xs i = true ↔ i % 2 = 0 ∧ (nodeAt xs i).pub ≠ 0 := by
  unfold isLeaf
  by_cases h : i % 2 = 0
  · have := leafB_pub ((ha i hi).1 h)
    rw [this]; simp [h]
  simp [h]
theorem check_two {xs : List Node} (h0 : xs.length ≠ 0) (h1 : leavesN xs.length ≠ 0) (ha : ∀ j, j < xs.length → (j % 2 = 0 → leafB (nodeAt xs j) = true) ∧ (j % 2 = 1 → parentB xs j = true)) : checkB xs = (!twiceB xs && (someB xs 0 && (decide (leavesN xs.length ≤ 1) || someB xs (leavesN xs.length / 2)))) := by
  have hlast := fun f hf => lastTo_ge (xs := xs) (f := f) (k := xs.length) hf
  have hgood : (List.range xs.length).all (goodAt xs) = !twiceB xs := by
    rw [Bool.eq_iff_iff, List.all_eq_true]
    unfold twiceB
    simp only [Bool.not_eq_true', decide_eq_false_iff_not, List.mem_range]
    constructor
    · rintro h ⟨i, k, hi, hk, hi2, hk2, hp, hq, hm⟩
      have hg := h i hi
      have hb : (nodeAt xs i).blankB = false := by rw [leafB_pub ((ha i hi).1 hi2)]; simpa using hp
      rw [goodAt_leaf (by omega) hb] at hg
      have : (nodeAt xs i).member ∈ memsTo xs i := memsTo_mem.2 ⟨k, hk, (isLeaf_pub ha (by omega)).2 ⟨hk2, hq⟩, hm.symm⟩
      simp [this] at hg
    intro h i hi
    by_cases hi2 : i % 2 = 1
    · rw [goodAt_odd hi2]; exact (ha i hi).2 hi2
    have hl := (ha i hi).1 (by omega)
    by_cases hb : (nodeAt xs i).blankB = true
    · exact goodAt_blank hi2 hb
    rw [Bool.not_eq_true] at hb
    rw [goodAt_leaf hi2 hb]
    have hn : ¬ (nodeAt xs i).member ∈ memsTo xs i := fun hm => by
      obtain ⟨k, hk, hkl, hkm⟩ := memsTo_mem.1 hm
      obtain ⟨hk2, hkp⟩ := (isLeaf_pub ha (by omega)).1 hkl
      have hp : (nodeAt xs i).pub ≠ 0 := by have := leafB_pub hl; rw [hb] at this; simpa using this.symm
      exact h ⟨i, k, hi, hk, by omega, hk2, hp, hkp, hkm.symm⟩
    unfold leafB at hl
    rw [hb] at hl
    simp at hl
    have hu : (nodeAt xs i).unmerged = [] := hl.2.2.2
    simp [hn, hu, hl.2.1, hl.2.2.1, show 1 ≤ (nodeAt xs i).pub by omega]
  have hsome : ∀ f : Nat, (f : Int) ≤ lastTo xs xs.length ↔ someB xs f = true := fun f => by
    rw [hlast (f : Int) (by omega)]
    unfold someB
    rw [decide_eq_true_eq]
    constructor
    · rintro ⟨i, hi, hl, hf⟩
      obtain ⟨h2, hp⟩ := (isLeaf_pub ha hi).1 hl
      exact ⟨i, hi, h2, by omega, hp⟩
    rintro ⟨i, hi, h2, hf, hp⟩
    exact ⟨i, hi, (isLeaf_pub ha hi).2 ⟨h2, hp⟩, by omega⟩
  have e : (((leavesN xs.length : Nat) : Int) / 2 ≤ lastTo xs xs.length) ↔ someB xs (leavesN xs.length / 2) = true := by
    rw [← hsome]; simp
  have hmono : someB xs (leavesN xs.length / 2) = true → someB xs 0 = true := fun h => by
    rw [← hsome] at h ⊢; omega
  unfold checkB
  rw [hgood, decide_eq_false h0, Bool.false_or, decide_eq_true h1, Bool.true_and]
  congr 1
  rw [Bool.eq_iff_iff, decide_eq_true_eq, e, Bool.and_eq_true, Bool.or_eq_true, decide_eq_true_eq]
  constructor
  · intro h; exact ⟨hmono h, .inr h⟩
  rintro ⟨h2, h3 | h3⟩
  · have : leavesN xs.length / 2 = 0 := by omega
    rw [this]; exact h2
  exact h3
theorem rcheck_ok {B : World} {H : HM} {O : OL} {v : Value} {xs : List Node} (h : RdL H v xs) : CallsM prog 188 [.agg #[v]].toArray B H O (Same (.int .i64 (errI (checkB xs))) H O) := by
  have hs := h.lenle
  have h8 := leavesN_le xs.length
  refine enter func188 rfl ntmps188 (l := [(0, _)]) rfl rfl ?_
  refine x_seq ?_
  refine x_region rfl ?_
  refine o_box rfl (cs := [_]) rfl (fun b1 => ?_)
  refine o_y (y_assign rfl) ?_
  refine o_nil ?_
  refine x_seq ?_
  refine x_seq ?_
  refine x_region rfl ?_
  refine o_y (y_fieldAddr fd29_0 ti27 (by decide) rfl) ?_
  refine o_y (y_loadO ti27 rfl inn rfl) ?_
  refine o_y (y_lenA underlying27 rfl) ?_
  refine o_y (y_eql rfl rfl) ?_
  refine o_nil ?_
  refine x_cond rfl (fun hc0 => ?_) (fun hc0 => ?_)
  · try simp only [kk] at hc0
    refine x_seq ?_
    refine x_region rfl ?_
    refine o_y (y_assign rfl) ?_
    refine o_nil ?_
    refine x_ret ?_
    refine x_fin 1 (ret1 rfl rfl) ?_
    rw [checkB_nil (by omega)]; exact ⟨rfl, rfl, rfl⟩
  try simp only [kk] at hc0
  refine x_skip ?_
  refine x_seq ?_
  refine x_region rfl ?_
  refine o_y (y_loadA ti29 rfl inn rfl) ?_
  refine o_call fn267 rfl (rleaves_ok h) ?_
  rintro _ _ _ ⟨rfl, rfl, rfl⟩
  refine o_y (y_assign rfl) ?_
  refine o_nil ?_
  refine x_seq ?_
  refine x_seq ?_
  refine x_region rfl ?_
  refine o_y (y_move rfl) ?_
  refine o_y (y_eql rfl rfl) ?_
  refine o_nil ?_
  refine x_cond rfl (fun hc1 => ?_) (fun hc1 => ?_)
  · try simp only [kk] at hc1
    refine x_seq ?_
    refine x_region rfl ?_
    refine o_y (y_assign rfl) ?_
    refine o_nil ?_
    refine x_ret ?_
    refine x_fin 1 (ret1 rfl rfl) ?_
    rw [checkB_len (by omega) (by omega)]; exact ⟨rfl, rfl, rfl⟩
  try simp only [kk] at hc1
  have hl := leavesN_len (m := xs.length) (by omega)
  have h15 := hl.le
  refine x_skip ?_
  refine x_seq ?_
  refine x_seq ?_
  refine x_region rfl ?_
  refine o_y (y_assign rfl) ?_
  refine o_nil ?_
  refine x_block ?_
  refine x_loopf (σ := Nat) (fun s => [(4, .int .i64 (s : Int)), (3, .int .i64 (leavesN xs.length : Int)), (1, .pointer (some ⟨b1, 0, none⟩))]) (fun s => (b1, cl [v] 29) :: O) (fun s => s ≤ xs.length ∧ ∀ j, j < s → (j % 2 = 0 → leafB (nodeAt xs j) = true) ∧ (j % 2 = 1 → parentB xs j = true)) (fun s => xs.length - s) 0 ⟨by simp, fun j hj => by omega⟩ (.c rfl (.c rfl (.c rfl .n))) rfl ?_
  rintro k ⟨i1, i2⟩
  refine x_seq ?_
  refine x_seq ?_
  refine x_region rfl ?_
  refine o_y (y_move rfl) ?_
  refine o_y (y_fieldAddr fd29_0 ti27 (by decide) rfl) ?_
  refine o_y (y_loadO ti27 rfl inn rfl) ?_
  refine o_y (y_lenA underlying27 rfl) ?_
  refine o_y (y_lss rfl rfl) ?_
  refine o_nil ?_
  refine x_cond rfl (fun hc2 => ?_) (fun hc2 => ?_)
  · try simp only [kk] at hc2
    have hk : k < xs.length := by omega
    have en := nodeAt_eq hk
    refine x_skip ?_
    refine x_seq ?_
    refine x_block ?_
    refine x_seq ?_
    refine x_region rfl ?_
    refine o_y (y_move rfl) ?_
    refine o_y (y_remN rfl rfl (by omega) (by omega)) ?_
    refine o_y (y_eql rfl rfl) ?_
    refine o_y (y_move rfl) ?_
    refine o_split 23 rfl (fun hg9_23 => ?_) (fun hg9_23 => ?_)
    · try simp only [kk] at hg9_23
      refine o_gy 23 rfl rfl (y_fieldAddr fd29_0 ti27 (by decide) rfl) ?_
      refine o_gy 23 rfl rfl (y_loadO ti27 rfl inn rfl) ?_
      refine o_gy 23 rfl rfl (y_move rfl) ?_
      obtain ⟨ce27, ae27, re27⟩ := RdL.at h _ k hk
      have se27 := AtS.isSl ae27
      have te27 := re27
      obtain ⟨u27_3, z27, q27_0, q27_1, q27_2, q27_3⟩ := re27
      subst z27
      have w27 := Rep.one te27
      refine o_gy 23 rfl rfl (y_idxL h k hk underlying27 ti127 rfl rfl (by omega)) ?_
      refine o_gy 23 rfl rfl (y_loadS ti127 rfl (by assumption) rfl (fun e => by cases e)) ?_
      refine o_gcall 23 rfl rfl fn268 rfl (rleaf_ok te27) ?_
      rintro _ _ _ ⟨rfl, rfl, rfl⟩
      refine o_gy 23 rfl rfl (y_not rfl) ?_
      refine o_y (y_pick rfl rfl) ?_
      refine o_y (y_move rfl) ?_
      refine o_split 32 rfl (fun hg9_32 => ?_) (fun hg9_32 => ?_)
      · try simp only [kk] at hg9_32
        refine o_gn 32 rfl rfl rfl ?_
        refine o_gn 32 rfl rfl rfl ?_
        refine o_gn 32 rfl rfl rfl ?_
        refine o_gn 32 rfl rfl rfl ?_
        refine o_gu 36 rfl rfl ?_
        refine o_gu 36 rfl rfl ?_
        refine o_gu 36 rfl rfl ?_
        refine o_gu 36 rfl rfl ?_
        refine o_gn 32 rfl rfl rfl ?_
        refine o_y (y_pick rfl rfl) ?_
        refine o_nil ?_
        refine x_condT rfl ?_
        refine x_seq ?_
        refine x_region rfl ?_
        refine o_y (y_assign rfl) ?_
        refine o_nil ?_
        refine x_ret ?_
        refine x_fin 1 (ret1 rfl rfl) ?_
        refine ⟨?_, rfl, rfl⟩
        rw [checkB_bad hk]
        first
          | (rw [goodAt_odd (by omega)]; assumption)
          | exact goodAt_leafB (by omega) (by rw [en]; assumption)
          | (exfalso; omega)
      try simp only [kk] at hg9_32
      refine o_gy 32 rfl rfl (y_move rfl) ?_
      refine o_gy 32 rfl rfl (y_remN rfl rfl (by omega) (by omega)) ?_
      refine o_gy 32 rfl rfl (y_eql rfl rfl) ?_
      refine o_gy 32 rfl rfl (y_move rfl) ?_
      refine o_split 36 rfl (fun hg9_36 => ?_) (fun hg9_36 => ?_)
      · try simp only [kk] at hg9_36
        refine o_gy 36 rfl rfl (y_loadA ti29 rfl inn rfl) ?_
        refine o_gy 36 rfl rfl (y_move rfl) ?_
        refine o_gcall 36 rfl rfl fn269 rfl (rparent_ok h hl k hk) ?_
        rintro _ _ _ ⟨rfl, rfl, rfl⟩
        refine o_gy 36 rfl rfl (y_not rfl) ?_
        refine o_gy 32 rfl rfl (y_pick rfl rfl) ?_
        refine o_y (y_pick rfl rfl) ?_
        refine o_nil ?_
        refine x_cond rfl (fun hc3 => ?_) (fun hc3 => ?_)
        · try simp only [kk] at hc3
          refine x_seq ?_
          refine x_region rfl ?_
          refine o_y (y_assign rfl) ?_
          refine o_nil ?_
          refine x_ret ?_
          refine x_fin 1 (ret1 rfl rfl) ?_
          refine ⟨?_, rfl, rfl⟩
          rw [checkB_bad hk]
          first
            | (rw [goodAt_odd (by omega)]; assumption)
            | exact goodAt_leafB (by omega) (by rw [en]; assumption)
            | (exfalso; omega)
        try simp only [kk] at hc3
        refine x_skip ?_
        refine x_region rfl ?_
        refine o_y (y_move rfl) ?_
        refine o_y (y_addN rfl rfl (by omega) (by omega)) ?_
        refine o_y (y_assign rfl) ?_
        refine o_nil ?_
        refine ⟨k + 1, 0, rfl, (.c rfl (.c rfl (.c rfl .n))), rfl, ⟨by omega, fun j hj => ?_⟩, by omega⟩
        by_cases e : j = k
        · subst e
          refine ⟨fun h2 => ?_, fun h2 => ?_⟩
          · first | (rw [en]; assumption) | (exfalso; omega)
          first | assumption | (exfalso; omega)
        exact i2 j (by omega)
      try simp only [kk] at hg9_36
      refine o_gn 36 rfl rfl rfl ?_
      refine o_gn 36 rfl rfl rfl ?_
      refine o_gn 36 rfl rfl rfl ?_
      refine o_gn 36 rfl rfl rfl ?_
      refine o_gy 32 rfl rfl (y_pick rfl rfl) ?_
      refine o_y (y_pick rfl rfl) ?_
      refine o_nil ?_
      refine x_condF rfl ?_
      refine x_skip ?_
      refine x_region rfl ?_
      refine o_y (y_move rfl) ?_
      refine o_y (y_addN rfl rfl (by omega) (by omega)) ?_
      refine o_y (y_assign rfl) ?_
      refine o_nil ?_
      refine ⟨k + 1, 0, rfl, (.c rfl (.c rfl (.c rfl .n))), rfl, ⟨by omega, fun j hj => ?_⟩, by omega⟩
      by_cases e : j = k
      · subst e
        refine ⟨fun h2 => ?_, fun h2 => ?_⟩
        · first | (rw [en]; assumption) | (exfalso; omega)
        first | assumption | (exfalso; omega)
      exact i2 j (by omega)
    try simp only [kk] at hg9_23
    refine o_gn 23 rfl rfl rfl ?_
    refine o_gn 23 rfl rfl rfl ?_
    refine o_gn 23 rfl rfl rfl ?_
    refine o_gn 23 rfl rfl rfl ?_
    refine o_gn 23 rfl rfl rfl ?_
    refine o_gn 23 rfl rfl rfl ?_
    refine o_gn 23 rfl rfl rfl ?_
    refine o_y (y_pick rfl rfl) ?_
    refine o_y (y_move rfl) ?_
    refine o_gy 32 rfl rfl (y_move rfl) ?_
    refine o_gy 32 rfl rfl (y_remN rfl rfl (by omega) (by omega)) ?_
    refine o_gy 32 rfl rfl (y_eql rfl rfl) ?_
    refine o_gy 32 rfl rfl (y_move rfl) ?_
    refine o_split 36 rfl (fun hg9_36 => ?_) (fun hg9_36 => ?_)
    · try simp only [kk] at hg9_36
      refine o_gy 36 rfl rfl (y_loadA ti29 rfl inn rfl) ?_
      refine o_gy 36 rfl rfl (y_move rfl) ?_
      refine o_gcall 36 rfl rfl fn269 rfl (rparent_ok h hl k hk) ?_
      rintro _ _ _ ⟨rfl, rfl, rfl⟩
      refine o_gy 36 rfl rfl (y_not rfl) ?_
      refine o_gy 32 rfl rfl (y_pick rfl rfl) ?_
      refine o_y (y_pick rfl rfl) ?_
      refine o_nil ?_
      refine x_cond rfl (fun hc3 => ?_) (fun hc3 => ?_)
      · try simp only [kk] at hc3
        refine x_seq ?_
        refine x_region rfl ?_
        refine o_y (y_assign rfl) ?_
        refine o_nil ?_
        refine x_ret ?_
        refine x_fin 1 (ret1 rfl rfl) ?_
        refine ⟨?_, rfl, rfl⟩
        rw [checkB_bad hk]
        first
          | (rw [goodAt_odd (by omega)]; assumption)
          | exact goodAt_leafB (by omega) (by rw [en]; assumption)
          | (exfalso; omega)
      try simp only [kk] at hc3
      refine x_skip ?_
      refine x_region rfl ?_
      refine o_y (y_move rfl) ?_
      refine o_y (y_addN rfl rfl (by omega) (by omega)) ?_
      refine o_y (y_assign rfl) ?_
      refine o_nil ?_
      refine ⟨k + 1, 0, rfl, (.c rfl (.c rfl (.c rfl .n))), rfl, ⟨by omega, fun j hj => ?_⟩, by omega⟩
      by_cases e : j = k
      · subst e
        refine ⟨fun h2 => ?_, fun h2 => ?_⟩
        · first | (rw [en]; assumption) | (exfalso; omega)
        first | assumption | (exfalso; omega)
      exact i2 j (by omega)
    try simp only [kk] at hg9_36
    refine o_gn 36 rfl rfl rfl ?_
    refine o_gn 36 rfl rfl rfl ?_
    refine o_gn 36 rfl rfl rfl ?_
    refine o_gn 36 rfl rfl rfl ?_
    refine o_gy 32 rfl rfl (y_pick rfl rfl) ?_
    refine o_y (y_pick rfl rfl) ?_
    refine o_nil ?_
    refine x_condF rfl ?_
    refine x_skip ?_
    refine x_region rfl ?_
    refine o_y (y_move rfl) ?_
    refine o_y (y_addN rfl rfl (by omega) (by omega)) ?_
    refine o_y (y_assign rfl) ?_
    refine o_nil ?_
    refine ⟨k + 1, 0, rfl, (.c rfl (.c rfl (.c rfl .n))), rfl, ⟨by omega, fun j hj => ?_⟩, by omega⟩
    by_cases e : j = k
    · subst e
      refine ⟨fun h2 => ?_, fun h2 => ?_⟩
      · first | (rw [en]; assumption) | (exfalso; omega)
      first | assumption | (exfalso; omega)
    exact i2 j (by omega)
  try simp only [kk] at hc2
  refine x_exit ?_
  refine x_seq ?_
  refine x_seq ?_
  obtain rfl : k = xs.length := by omega
  have hct := check_two (by omega) (by omega) i2
  refine x_region rfl ?_
  refine o_y (y_loadA ti29 rfl inn rfl) ?_
  refine o_call fn270 rfl (rtwice_ok h) ?_
  rintro _ _ _ ⟨rfl, rfl, rfl⟩
  refine o_y (y_move rfl) ?_
  refine o_split 45 rfl (fun hg11_45 => ?_) (fun hg11_45 => ?_)
  · try simp only [kk] at hg11_45
    refine o_gn 45 rfl rfl rfl ?_
    refine o_gn 45 rfl rfl rfl ?_
    refine o_gn 45 rfl rfl rfl ?_
    refine o_y (y_pick rfl rfl) ?_
    refine o_y (y_move rfl) ?_
    refine o_gn 50 rfl rfl rfl ?_
    refine o_gn 50 rfl rfl rfl ?_
    refine o_gn 50 rfl rfl rfl ?_
    refine o_gu 53 rfl rfl ?_
    refine o_gu 53 rfl rfl ?_
    refine o_gu 53 rfl rfl ?_
    refine o_gu 53 rfl rfl ?_
    refine o_gu 53 rfl rfl ?_
    refine o_gn 50 rfl rfl rfl ?_
    refine o_y (y_pick rfl rfl) ?_
    refine o_nil ?_
    refine x_condT rfl ?_
    refine x_seq ?_
    refine x_region rfl ?_
    refine o_y (y_assign rfl) ?_
    refine o_nil ?_
    refine x_ret ?_
    refine x_fin 1 (ret1 rfl rfl) ?_
    have : checkB xs = false := by
      rw [hct]
      simp_all <;> omega
    rw [this]; exact ⟨rfl, rfl, rfl⟩
  try simp only [kk] at hg11_45
  refine o_gy 45 rfl rfl (y_loadA ti29 rfl inn rfl) ?_
  refine o_gcall 45 rfl rfl fn271 rfl (rsome_ok h 0 (by omega)) ?_
  rintro _ _ _ ⟨rfl, rfl, rfl⟩
  refine o_gy 45 rfl rfl (y_not rfl) ?_
  refine o_y (y_pick rfl rfl) ?_
  refine o_y (y_move rfl) ?_
  refine o_split 50 rfl (fun hg11_50 => ?_) (fun hg11_50 => ?_)
  · try simp only [kk] at hg11_50
    refine o_gn 50 rfl rfl rfl ?_
    refine o_gn 50 rfl rfl rfl ?_
    refine o_gn 50 rfl rfl rfl ?_
    refine o_gu 53 rfl rfl ?_
    refine o_gu 53 rfl rfl ?_
    refine o_gu 53 rfl rfl ?_
    refine o_gu 53 rfl rfl ?_
    refine o_gu 53 rfl rfl ?_
    refine o_gn 50 rfl rfl rfl ?_
    refine o_y (y_pick rfl rfl) ?_
    refine o_nil ?_
    refine x_condT rfl ?_
    refine x_seq ?_
    refine x_region rfl ?_
    refine o_y (y_assign rfl) ?_
    refine o_nil ?_
    refine x_ret ?_
    refine x_fin 1 (ret1 rfl rfl) ?_
    have : checkB xs = false := by
      rw [hct]
      simp_all <;> omega
    rw [this]; exact ⟨rfl, rfl, rfl⟩
  try simp only [kk] at hg11_50
  refine o_gy 50 rfl rfl (y_move rfl) ?_
  refine o_gy 50 rfl rfl (y_gtr rfl rfl) ?_
  refine o_gy 50 rfl rfl (y_move rfl) ?_
  refine o_split 53 rfl (fun hg11_53 => ?_) (fun hg11_53 => ?_)
  · try simp only [kk] at hg11_53
    refine o_gy 53 rfl rfl (y_loadA ti29 rfl inn rfl) ?_
    refine o_gy 53 rfl rfl (y_move rfl) ?_
    refine o_gy 53 rfl rfl (y_quoN rfl rfl (by omega) (by omega) (by omega)) ?_
    have e14 : ((leavesN xs.length : Nat) : Int) / 2 = ((leavesN xs.length / 2 : Nat) : Int) := by omega
    rw [e14]
    refine o_gcall 53 rfl rfl fn271 rfl (rsome_ok h (leavesN xs.length / 2) (by omega)) ?_
    rintro _ _ _ ⟨rfl, rfl, rfl⟩
    refine o_gy 53 rfl rfl (y_not rfl) ?_
    refine o_gy 50 rfl rfl (y_pick rfl rfl) ?_
    refine o_y (y_pick rfl rfl) ?_
    refine o_nil ?_
    refine x_cond rfl (fun hc4 => ?_) (fun hc4 => ?_)
    · try simp only [kk] at hc4
      refine x_seq ?_
      refine x_region rfl ?_
      refine o_y (y_assign rfl) ?_
      refine o_nil ?_
      refine x_ret ?_
      refine x_fin 1 (ret1 rfl rfl) ?_
      have : checkB xs = false := by
        rw [hct]
        simp_all <;> omega
      rw [this]; exact ⟨rfl, rfl, rfl⟩
    try simp only [kk] at hc4
    refine x_skip ?_
    refine x_seq ?_
    refine x_region rfl ?_
    refine o_y (y_assign rfl) ?_
    refine o_nil ?_
    refine x_ret ?_
    refine x_fin 1 (ret1 rfl rfl) ?_
    have : checkB xs = true := by
      rw [hct]
      simp_all
      try omega
    rw [this]; exact ⟨rfl, rfl, rfl⟩
  try simp only [kk] at hg11_53
  refine o_gn 53 rfl rfl rfl ?_
  refine o_gn 53 rfl rfl rfl ?_
  refine o_gn 53 rfl rfl rfl ?_
  refine o_gn 53 rfl rfl rfl ?_
  refine o_gn 53 rfl rfl rfl ?_
  refine o_gy 50 rfl rfl (y_pick rfl rfl) ?_
  refine o_y (y_pick rfl rfl) ?_
  refine o_nil ?_
  refine x_condF rfl ?_
  refine x_skip ?_
  refine x_seq ?_
  refine x_region rfl ?_
  refine o_y (y_assign rfl) ?_
  refine o_nil ?_
  refine x_ret ?_
  refine x_fin 1 (ret1 rfl rfl) ?_
  have : checkB xs = true := by
    rw [hct]
    simp_all
    try omega
  rw [this]; exact ⟨rfl, rfl, rfl⟩
end Go.Ph
set_option linter.unusedVariables false
set_option linter.unusedSimpArgs false
set_option maxRecDepth 100000
namespace Go.Ph
open Go Go.RowKit Go.Proofs.YtmgnagpgnoikfaaGreatDoor Go.Proofs.Tryz
theorem rmay_ok {B : World} {H : HM} {O : OL} {cs : List Value} {c : Commit} (h : Rep.rd H cs c) : CallsM prog 45 [.agg cs.toArray].toArray B H O (Same (.bool (takeB c)) H O) := by
  obtain ⟨u6, u7, u8, u9, u12, rfl, h0, h1, h2, h3, h4, h5, h6, h7, h8, h9, h10, h11, h12, h13⟩ := h
  have hc := errI_cases (checkB c.next_.nodes)
  refine enter func45 rfl ntmps45 (l := [(0, _)]) rfl rfl ?_
  refine x_seq ?_
  refine x_region rfl ?_
  refine o_box rfl (cs := [_, _, _, _, _, _, _, _, _, _, _, _, _, _, _]) rfl (fun b1 => ?_)
  refine o_y (y_assign rfl) ?_
  refine o_nil ?_
  refine x_seq ?_
  refine x_region rfl ?_
  refine o_y (y_fieldAddr fd31_1 ti3 (by decide) rfl) ?_
  refine o_y (y_loadO ti3 rfl inn rfl) ?_
  refine o_y (y_geq rfl rfl) ?_
  refine o_y (y_move rfl) ?_
  refine o_split 6 rfl (fun hg1_6 => ?_) (fun hg1_6 => ?_)
  · try simp only [kk] at hg1_6
    refine o_gy 6 rfl rfl (y_fieldAddr fd31_12 ti29 (by decide) rfl) ?_
    refine o_gy 6 rfl rfl (y_loadP ti29 rfl inn (cs := [_]) rfl rfl) ?_
    refine o_gcall 6 rfl rfl fn188 rfl (rcheck_ok h11) ?_
    rintro _ _ _ ⟨rfl, rfl, rfl⟩
    refine o_gy 6 rfl rfl (y_eql rfl rfl) ?_
    refine o_y (y_pick rfl rfl) ?_
    refine o_y (y_move rfl) ?_
    refine o_split 12 rfl (fun hg1_12 => ?_) (fun hg1_12 => ?_)
    · try simp only [kk] at hg1_12
      refine o_gy 12 rfl rfl (y_fieldAddr fd31_12 ti29 (by decide) rfl) ?_
      refine o_gy 12 rfl rfl (y_fieldAddr fd29_0 ti27 (by decide) rfl) ?_
      refine o_gy 12 rfl rfl (y_loadO ti27 rfl inn rfl) ?_
      first | refine o_gy 12 rfl rfl (y_lenL (by assumption) underlying27 rfl) ?_ | refine o_gy 12 rfl rfl (y_lenR (by assumption) underlying27 rfl) ?_ | refine o_gy 12 rfl rfl (y_len underlying27 rfl) ?_
      refine o_gy 12 rfl rfl (y_gtr rfl rfl) ?_
      refine o_y (y_pick rfl rfl) ?_
      refine o_y (y_assign rfl) ?_
      refine o_nil ?_
      refine x_ret ?_
      refine x_fin 1 (ret1 rfl rfl) ?_
      refine ⟨?_, rfl, rfl⟩
      unfold takeB
      rcases hc with ⟨e1, e2⟩ | ⟨e1, e2⟩ <;> rw [e1] <;> simp_all <;> omega
    try simp only [kk] at hg1_12
    refine o_gn 12 rfl rfl rfl ?_
    refine o_gn 12 rfl rfl rfl ?_
    refine o_gn 12 rfl rfl rfl ?_
    refine o_gn 12 rfl rfl rfl ?_
    refine o_gn 12 rfl rfl rfl ?_
    refine o_y (y_pick rfl rfl) ?_
    refine o_y (y_assign rfl) ?_
    refine o_nil ?_
    refine x_ret ?_
    refine x_fin 1 (ret1 rfl rfl) ?_
    refine ⟨?_, rfl, rfl⟩
    unfold takeB
    rcases hc with ⟨e1, e2⟩ | ⟨e1, e2⟩ <;> rw [e1] <;> simp_all <;> omega
  try simp only [kk] at hg1_6
  refine o_gn 6 rfl rfl rfl ?_
  refine o_gn 6 rfl rfl rfl ?_
  refine o_gn 6 rfl rfl rfl ?_
  refine o_gn 6 rfl rfl rfl ?_
  refine o_y (y_pick rfl rfl) ?_
  refine o_y (y_move rfl) ?_
  refine o_gn 12 rfl rfl rfl ?_
  refine o_gn 12 rfl rfl rfl ?_
  refine o_gn 12 rfl rfl rfl ?_
  refine o_gn 12 rfl rfl rfl ?_
  refine o_gn 12 rfl rfl rfl ?_
  refine o_y (y_pick rfl rfl) ?_
  refine o_y (y_assign rfl) ?_
  refine o_nil ?_
  refine x_ret ?_
  refine x_fin 1 (ret1 rfl rfl) ?_
  refine ⟨?_, rfl, rfl⟩
  unfold takeB
  rcases hc with ⟨e1, e2⟩ | ⟨e1, e2⟩ <;> rw [e1] <;> simp_all <;> omega
theorem rlcheck_ok {B : World} {H : HM} {O : OL} {v : Value} {xs : List Log} (h : RdL H v xs) : CallsM prog 26 [v].toArray B H O (Same (.int .i64 (errI (lcheckB xs))) H O) := by
  have hs := h.lenle
  refine enter func26 rfl ntmps26 (l := [(0, _)]) rfl rfl ?_
  refine x_seq ?_
  refine x_region rfl ?_
  refine o_y (y_assign rfl) ?_
  refine o_nil ?_
  refine x_seq ?_
  refine x_seq ?_
  refine x_region rfl ?_
  refine o_y (y_move rfl) ?_
  refine o_y (y_lenA underlying22 rfl) ?_
  refine o_y (y_gtr rfl rfl) ?_
  refine o_nil ?_
  refine x_cond rfl (fun hc0 => ?_) (fun hc0 => ?_)
  · try simp only [kk] at hc0
    refine x_seq ?_
    refine x_region rfl ?_
    refine o_y (y_assign rfl) ?_
    refine o_nil ?_
    refine x_ret ?_
    refine x_fin 0 (ret1 rfl rfl) ?_
    rw [lcheckB, decide_eq_false (by omega)]; exact ⟨rfl, rfl, rfl⟩
  try simp only [kk] at hc0
  refine x_skip ?_
  refine x_seq ?_
  refine x_seq ?_
  refine x_region rfl ?_
  refine o_y (y_assign rfl) ?_
  refine o_nil ?_
  refine x_block ?_
  refine x_loopf (σ := Nat) (fun s => [(3, .int .i64 (s : Int)), (0, v)]) (fun s => O) (fun s => s ≤ xs.length ∧ ∀ j, j < s → logOk xs j = true) (fun s => xs.length - s) 0 ⟨by simp, fun j hj => by omega⟩ (.c rfl (.c rfl .n)) rfl ?_
  rintro k ⟨i1, i2⟩
  refine x_seq ?_
  refine x_seq ?_
  refine x_region rfl ?_
  refine o_y (y_move rfl) ?_
  refine o_y (y_move rfl) ?_
  refine o_y (y_lenA underlying22 rfl) ?_
  refine o_y (y_lss rfl rfl) ?_
  refine o_nil ?_
  refine x_cond rfl (fun hc1 => ?_) (fun hc1 => ?_)
  · try simp only [kk] at hc1
    have hk : k < xs.length := by omega
    have el := logAt_eq hk
    have eg := grpAt_eq hk
    refine x_skip ?_
    refine x_seq ?_
    refine x_block ?_
    refine x_seq ?_
    refine x_seq ?_
    refine x_regionQ mixed (by kernel_rfl) rfl ?_
    refine q_y (y_move rfl) ?_
    refine q_y (y_move rfl) ?_
    obtain ⟨ce17, ae17, re17⟩ := RdL.at h _ k hk
    have se17 := AtS.isSl ae17
    have te17 := re17
    obtain ⟨u17_1, z17, q17_0, q17_1⟩ := re17
    subst z17
    have w17 := Rep.one te17
    refine q_y (y_idxL h k hk underlying22 ti95 rfl rfl (by omega)) ?_
    refine q_y (y_fieldAddrP fd95_1 ti93 (by decide) (by assumption) rfl) ?_
    refine q_y (y_loadS1 ti93 rfl (by assumption) rfl) ?_
    first | refine q_y (y_lenL (by assumption) underlying93 rfl) ?_ | refine q_y (y_lenR (by assumption) underlying93 rfl) ?_ | refine q_y (y_len underlying93 rfl) ?_
    refine q_y (y_eql rfl rfl) ?_
    refine q_y (y_move rfl) ?_
    refine q_split 22 rfl (fun hg6_22 => ?_) (fun hg6_22 => ?_)
    · try simp only [kk] at hg6_22
      refine q_gn 22 rfl rfl rfl ?_
      refine q_gn 22 rfl rfl rfl ?_
      refine q_gn 22 rfl rfl rfl ?_
      refine q_gu 25 rfl rfl ?_
      refine q_gu 25 rfl rfl ?_
      refine q_gu 25 rfl rfl ?_
      refine q_gu 25 rfl rfl ?_
      refine q_gu 25 rfl rfl ?_
      refine q_gu 25 rfl rfl ?_
      refine q_gu 25 rfl rfl ?_
      refine q_gu 25 rfl rfl ?_
      refine q_gu 25 rfl rfl ?_
      refine q_gu 25 rfl rfl ?_
      refine q_gu 25 rfl rfl ?_
      refine q_gu 25 rfl rfl ?_
      refine q_gn 22 rfl rfl rfl ?_
      refine q_y (y_pick rfl rfl) ?_
      refine q_nil ?_
      refine x_condT rfl ?_
      refine x_seq ?_
      refine x_region rfl ?_
      refine o_y (y_assign rfl) ?_
      refine o_nil ?_
      refine x_ret ?_
      refine x_fin 0 (ret1 rfl rfl) ?_
      have hb : logOk xs k = false := by
        unfold logOk
        rw [el]
        first
          | (rw [decide_eq_false (show ¬ 0 < xs[k].commits.length by omega)]; rfl)
          | (have e9 : ¬ grpAt xs (k - 1) < grpAt xs k := by rw [grpAt_eq hk, grpAt_eq (show k - 1 < xs.length by omega)]; omega
             rw [decide_eq_false (show ¬ k = 0 by omega), decide_eq_false e9]; cases decide (0 < xs[k].commits.length) <;> rfl)
      rw [lcheckB_no hk hb]; exact ⟨rfl, rfl, rfl⟩
    try simp only [kk] at hg6_22
    refine q_gy 22 rfl rfl (y_move rfl) ?_
    refine q_gy 22 rfl rfl (y_gtr rfl rfl) ?_
    refine q_gy 22 rfl rfl (y_move rfl) ?_
    refine q_split 25 rfl (fun hg6_25 => ?_) (fun hg6_25 => ?_)
    · try simp only [kk] at hg6_25
      refine q_gy 25 rfl rfl (y_move rfl) ?_
      refine q_gy 25 rfl rfl (y_move rfl) ?_
      obtain ⟨ce28, ae28, re28⟩ := RdL.at h _ k hk
      have se28 := AtS.isSl ae28
      have te28 := re28
      obtain ⟨u28_1, z28, q28_0, q28_1⟩ := re28
      subst z28
      have w28 := Rep.one te28
      refine q_gy 25 rfl rfl (y_idxL h k hk underlying22 ti95 rfl rfl (by omega)) ?_
      refine q_gy 25 rfl rfl (y_fieldAddrP fd95_0 ti3 (by decide) (by assumption) rfl) ?_
      refine q_gy 25 rfl rfl (y_loadS1 ti3 rfl (by assumption) rfl) ?_
      refine q_gy 25 rfl rfl (y_move rfl) ?_
      refine q_gy 25 rfl rfl (y_move rfl) ?_
      refine q_gy 25 rfl rfl (y_subN rfl rfl (by omega) (by omega)) ?_
      obtain ⟨ce34, ae34, re34⟩ := RdL.at h _ (k - 1) (by omega)
      have se34 := AtS.isSl ae34
      have te34 := re34
      obtain ⟨u34_1, z34, q34_0, q34_1⟩ := re34
      subst z34
      have w34 := Rep.one te34
      refine q_gy 25 rfl rfl (y_idxL h (k - 1) (by omega) underlying22 ti95 rfl rfl (by omega)) ?_
      refine q_gy 25 rfl rfl (y_fieldAddrP fd95_0 ti3 (by decide) (by assumption) rfl) ?_
      refine q_gy 25 rfl rfl (y_loadS1 ti3 rfl (by assumption) rfl) ?_
      refine q_gy 25 rfl rfl (y_leq rfl rfl) ?_
      refine q_gy 22 rfl rfl (y_pick rfl rfl) ?_
      refine q_y (y_pick rfl rfl) ?_
      refine q_nil ?_
      refine x_cond rfl (fun hc2 => ?_) (fun hc2 => ?_)
      · try simp only [kk] at hc2
        refine x_seq ?_
        refine x_region rfl ?_
        refine o_y (y_assign rfl) ?_
        refine o_nil ?_
        refine x_ret ?_
        refine x_fin 0 (ret1 rfl rfl) ?_
        have hb : logOk xs k = false := by
          unfold logOk
          rw [el]
          first
            | (rw [decide_eq_false (show ¬ 0 < xs[k].commits.length by omega)]; rfl)
            | (have e9 : ¬ grpAt xs (k - 1) < grpAt xs k := by rw [grpAt_eq hk, grpAt_eq (show k - 1 < xs.length by omega)]; omega
               rw [decide_eq_false (show ¬ k = 0 by omega), decide_eq_false e9]; cases decide (0 < xs[k].commits.length) <;> rfl)
        rw [lcheckB_no hk hb]; exact ⟨rfl, rfl, rfl⟩
      try simp only [kk] at hc2
      refine x_skip ?_
      refine x_seq ?_
      refine x_region rfl ?_
      refine o_y (y_assign rfl) ?_
      refine o_nil ?_
      refine x_block ?_
      refine x_loopf (σ := Nat) (fun s => [(4, .int .i64 (s : Int)), (3, .int .i64 (k : Int)), (0, v)]) (fun s => O) (fun s => s ≤ xs[k].commits.length ∧ ∀ j, j < s → comOk xs[k] j = true) (fun s => xs[k].commits.length - s) 0 ⟨by simp, fun j hj => by omega⟩ (.c rfl (.c rfl (.c rfl .n))) rfl ?_
      rintro m ⟨i3, i4⟩
      refine x_seq ?_
      refine x_seq ?_
      refine x_region rfl ?_
      refine o_y (y_move rfl) ?_
      refine o_y (y_move rfl) ?_
      refine o_y (y_move rfl) ?_
      obtain ⟨ce43, ae43, re43⟩ := RdL.at h _ k hk
      have se43 := AtS.isSl ae43
      have te43 := re43
      obtain ⟨u43_1, z43, q43_0, q43_1⟩ := re43
      subst z43
      have w43 := Rep.one te43
      refine o_y (y_idxL h k hk underlying22 ti95 rfl rfl (by omega)) ?_
      refine o_y (y_fieldAddrP fd95_1 ti93 (by decide) (by assumption) rfl) ?_
      refine o_y (y_loadS1 ti93 rfl (by assumption) rfl) ?_
      have hml := q43_1.lenle
      refine o_y (y_lenA underlying93 rfl) ?_
      refine o_y (y_lss rfl rfl) ?_
      refine o_nil ?_
      refine x_cond rfl (fun hc3 => ?_) (fun hc3 => ?_)
      · try simp only [kk] at hc3
        have hm : m < xs[k].commits.length := by omega
        have em := comOk_spec hm
        refine x_skip ?_
        refine x_seq ?_
        refine x_block ?_
        refine x_seq ?_
        refine x_region rfl ?_
        refine o_y (y_move rfl) ?_
        refine o_y (y_move rfl) ?_
        obtain ⟨ce52, ae52, re52⟩ := RdL.at h _ k hk
        have se52 := AtS.isSl ae52
        have te52 := re52
        obtain ⟨u52_1, z52, q52_0, q52_1⟩ := re52
        subst z52
        have w52 := Rep.one te52
        refine o_y (y_idxL h k hk underlying22 ti95 rfl rfl (by omega)) ?_
        refine o_y (y_fieldAddrP fd95_1 ti93 (by decide) (by assumption) rfl) ?_
        refine o_y (y_loadS1 ti93 rfl (by assumption) rfl) ?_
        refine o_y (y_move rfl) ?_
        obtain ⟨ce56, ae56, re56⟩ := RdL.at q52_1 _ m hm
        have se56 := AtS.isSl ae56
        have te56 := re56
        obtain ⟨u56_6, u56_7, u56_8, u56_9, u56_12, z56, q56_0, q56_1, q56_2, q56_3, q56_4, q56_5, q56_6, q56_7, q56_8, q56_9, q56_10, q56_11, q56_12, q56_13⟩ := re56
        subst z56
        have w56 := Rep.one te56
        refine o_y (y_idxL q52_1 m hm underlying93 ti31 rfl rfl (by omega)) ?_
        refine o_y (y_loadS ti31 rfl (by assumption) rfl (fun e => by cases e)) ?_
        refine o_alloc ti31 rfl (fun b5 => ?_)
        refine o_store (u := [_, _, _, _, _, _, _, _, _, _, _, _, _, _, _]) (C' := [_, _, _, _, _, _, _, _, _, _, _, _, _, _, _]) ti31 rfl rfl rfl rfl (by first | rfl | assumption | (simp only [ones, List.all_cons, List.all_nil, Bool.and_true, one_of (by assumption)]; done)) (by repeat (first | exact .z | apply Upd.s | apply Upd.a)) (by exact Nat.le_of_ble_eq_true rfl) (by rfl) ?_
        refine o_nil ?_
        refine x_seq ?_
        refine x_regionQ mixed (by kernel_rfl) rfl ?_
        refine q_y (y_fieldAddr fd31_0 ti3 (by decide) rfl) ?_
        refine q_y (y_loadO ti3 rfl inn rfl) ?_
        refine q_y (y_move rfl) ?_
        refine q_y (y_move rfl) ?_
        obtain ⟨ce62, ae62, re62⟩ := RdL.at h _ k hk
        have se62 := AtS.isSl ae62
        have te62 := re62
        obtain ⟨u62_1, z62, q62_0, q62_1⟩ := re62
        subst z62
        have w62 := Rep.one te62
        refine q_y (y_idxL h k hk underlying22 ti95 rfl rfl (by omega)) ?_
        refine q_y (y_fieldAddrP fd95_0 ti3 (by decide) (by assumption) rfl) ?_
        refine q_y (y_loadS1 ti3 rfl (by assumption) rfl) ?_
        refine q_y (y_neq rfl rfl) ?_
        refine q_y (y_move rfl) ?_
        refine q_split 66 rfl (fun hg12_66 => ?_) (fun hg12_66 => ?_)
        · try simp only [kk] at hg12_66
          refine q_gn 66 rfl rfl rfl ?_
          refine q_gn 66 rfl rfl rfl ?_
          refine q_gn 66 rfl rfl rfl ?_
          refine q_gn 66 rfl rfl rfl ?_
          refine q_y (y_pick rfl rfl) ?_
          refine q_y (y_move rfl) ?_
          refine q_gn 72 rfl rfl rfl ?_
          refine q_gn 72 rfl rfl rfl ?_
          refine q_gn 72 rfl rfl rfl ?_
          refine q_y (y_pick rfl rfl) ?_
          refine q_nil ?_
          refine x_condT rfl ?_
          refine x_seq ?_
          refine x_region rfl ?_
          refine o_y (y_assign rfl) ?_
          refine o_nil ?_
          refine x_ret ?_
          refine x_fin 1 (ret1 rfl rfl) ?_
          have hb : comOk xs[k] m = false := by
            rw [em]
            first
              | (rw [decide_eq_false (show ¬ xs[k].commits[m].group = xs[k].group by omega)]; rfl)
              | (rw [decide_eq_false (show ¬ xs[k].commits[m].epoch = m by omega)]; simp; done)
              | (rw [show takeB xs[k].commits[m] = false by assumption]; simp)
          have hb2 : logOk xs k = false := by
            unfold logOk
            rw [el, comsOk_no hm hb]; simp
          rw [lcheckB_no hk hb2]; exact ⟨rfl, rfl, rfl⟩
        try simp only [kk] at hg12_66
        refine q_gy 66 rfl rfl (y_fieldAddr fd31_1 ti3 (by decide) rfl) ?_
        refine q_gy 66 rfl rfl (y_loadO ti3 rfl inn rfl) ?_
        refine q_gy 66 rfl rfl (y_move rfl) ?_
        refine q_gy 66 rfl rfl (y_neq rfl rfl) ?_
        refine q_y (y_pick rfl rfl) ?_
        refine q_y (y_move rfl) ?_
        refine q_split 72 rfl (fun hg12_72 => ?_) (fun hg12_72 => ?_)
        · try simp only [kk] at hg12_72
          refine q_gn 72 rfl rfl rfl ?_
          refine q_gn 72 rfl rfl rfl ?_
          refine q_gn 72 rfl rfl rfl ?_
          refine q_y (y_pick rfl rfl) ?_
          refine q_nil ?_
          refine x_condT rfl ?_
          refine x_seq ?_
          refine x_region rfl ?_
          refine o_y (y_assign rfl) ?_
          refine o_nil ?_
          refine x_ret ?_
          refine x_fin 1 (ret1 rfl rfl) ?_
          have hb : comOk xs[k] m = false := by
            rw [em]
            first
              | (rw [decide_eq_false (show ¬ xs[k].commits[m].group = xs[k].group by omega)]; rfl)
              | (rw [decide_eq_false (show ¬ xs[k].commits[m].epoch = m by omega)]; simp; done)
              | (rw [show takeB xs[k].commits[m] = false by assumption]; simp)
          have hb2 : logOk xs k = false := by
            unfold logOk
            rw [el, comsOk_no hm hb]; simp
          rw [lcheckB_no hk hb2]; exact ⟨rfl, rfl, rfl⟩
        try simp only [kk] at hg12_72
        refine q_gy 72 rfl rfl (y_loadA ti31 rfl inn rfl) ?_
        refine q_gcall 72 rfl rfl fn45 rfl (rmay_ok te56) ?_
        refine q_gy 72 rfl rfl (y_not rfl) ?_
        refine q_y (y_pick rfl rfl) ?_
        refine q_nil ?_
        refine x_cond rfl (fun hc4 => ?_) (fun hc4 => ?_)
        · try simp only [kk] at hc4
          refine x_seq ?_
          refine x_region rfl ?_
          refine o_y (y_assign rfl) ?_
          refine o_nil ?_
          refine x_ret ?_
          refine x_fin 1 (ret1 rfl rfl) ?_
          have hb : comOk xs[k] m = false := by
            rw [em]
            first
              | (rw [decide_eq_false (show ¬ xs[k].commits[m].group = xs[k].group by omega)]; rfl)
              | (rw [decide_eq_false (show ¬ xs[k].commits[m].epoch = m by omega)]; simp; done)
              | (rw [show takeB xs[k].commits[m] = false by assumption]; simp)
          have hb2 : logOk xs k = false := by
            unfold logOk
            rw [el, comsOk_no hm hb]; simp
          rw [lcheckB_no hk hb2]; exact ⟨rfl, rfl, rfl⟩
        try simp only [kk] at hc4
        refine x_skip ?_
        refine x_region rfl ?_
        refine o_y (y_move rfl) ?_
        refine o_y (y_addN rfl rfl (by omega) (by omega)) ?_
        refine o_y (y_assign rfl) ?_
        refine o_nil ?_
        have hb : comOk xs[k] m = true := by
          rw [em, decide_eq_true (show xs[k].commits[m].group = xs[k].group by omega), decide_eq_true (show xs[k].commits[m].epoch = m by omega), show takeB xs[k].commits[m] = true by assumption]; rfl
        exact ⟨m + 1, 1, rfl, (.c rfl (.c rfl (.c rfl .n))), rfl, ⟨by omega, upto_succ i4 hb⟩, by omega⟩
      try simp only [kk] at hc3
      refine x_exit ?_
      refine x_region rfl ?_
      refine o_y (y_move rfl) ?_
      refine o_y (y_addN rfl rfl (by omega) (by omega)) ?_
      refine o_y (y_assign rfl) ?_
      refine o_nil ?_
      have hb : logOk xs k = true := by
        unfold logOk
        rw [el, comsOk_yes (fun j hj => i4 j (by omega)), decide_eq_true (show 0 < xs[k].commits.length by omega)]
        first
          | (rw [decide_eq_true (show k = 0 by omega)]; rfl)
          | (have e9 : grpAt xs (k - 1) < grpAt xs k := by rw [grpAt_eq hk, grpAt_eq (show k - 1 < xs.length by omega)]; omega
             rw [decide_eq_true e9]; cases decide (k = 0) <;> rfl)
      exact ⟨k + 1, 0, rfl, (.c rfl (.c rfl .n)), rfl, ⟨by omega, upto_succ i2 hb⟩, by omega⟩
    try simp only [kk] at hg6_25
    refine q_gn 25 rfl rfl rfl ?_
    refine q_gn 25 rfl rfl rfl ?_
    refine q_gn 25 rfl rfl rfl ?_
    refine q_gn 25 rfl rfl rfl ?_
    refine q_gn 25 rfl rfl rfl ?_
    refine q_gn 25 rfl rfl rfl ?_
    refine q_gn 25 rfl rfl rfl ?_
    refine q_gn 25 rfl rfl rfl ?_
    refine q_gn 25 rfl rfl rfl ?_
    refine q_gn 25 rfl rfl rfl ?_
    refine q_gn 25 rfl rfl rfl ?_
    refine q_gn 25 rfl rfl rfl ?_
    refine q_gy 22 rfl rfl (y_pick rfl rfl) ?_
    refine q_y (y_pick rfl rfl) ?_
    refine q_nil ?_
    refine x_condF rfl ?_
    refine x_skip ?_
    refine x_seq ?_
    refine x_region rfl ?_
    refine o_y (y_assign rfl) ?_
    refine o_nil ?_
    refine x_block ?_
    refine x_loopf (σ := Nat) (fun s => [(4, .int .i64 (s : Int)), (3, .int .i64 (k : Int)), (0, v)]) (fun s => O) (fun s => s ≤ xs[k].commits.length ∧ ∀ j, j < s → comOk xs[k] j = true) (fun s => xs[k].commits.length - s) 0 ⟨by simp, fun j hj => by omega⟩ (.c rfl (.c rfl (.c rfl .n))) rfl ?_
    rintro m ⟨i3, i4⟩
    refine x_seq ?_
    refine x_seq ?_
    refine x_region rfl ?_
    refine o_y (y_move rfl) ?_
    refine o_y (y_move rfl) ?_
    refine o_y (y_move rfl) ?_
    obtain ⟨ce43, ae43, re43⟩ := RdL.at h _ k hk
    have se43 := AtS.isSl ae43
    have te43 := re43
    obtain ⟨u43_1, z43, q43_0, q43_1⟩ := re43
    subst z43
    have w43 := Rep.one te43
    refine o_y (y_idxL h k hk underlying22 ti95 rfl rfl (by omega)) ?_
    refine o_y (y_fieldAddrP fd95_1 ti93 (by decide) (by assumption) rfl) ?_
    refine o_y (y_loadS1 ti93 rfl (by assumption) rfl) ?_
    have hml := q43_1.lenle
    refine o_y (y_lenA underlying93 rfl) ?_
    refine o_y (y_lss rfl rfl) ?_
    refine o_nil ?_
    refine x_cond rfl (fun hc3 => ?_) (fun hc3 => ?_)
    · try simp only [kk] at hc3
      have hm : m < xs[k].commits.length := by omega
      have em := comOk_spec hm
      refine x_skip ?_
      refine x_seq ?_
      refine x_block ?_
      refine x_seq ?_
      refine x_region rfl ?_
      refine o_y (y_move rfl) ?_
      refine o_y (y_move rfl) ?_
      obtain ⟨ce52, ae52, re52⟩ := RdL.at h _ k hk
      have se52 := AtS.isSl ae52
      have te52 := re52
      obtain ⟨u52_1, z52, q52_0, q52_1⟩ := re52
      subst z52
      have w52 := Rep.one te52
      refine o_y (y_idxL h k hk underlying22 ti95 rfl rfl (by omega)) ?_
      refine o_y (y_fieldAddrP fd95_1 ti93 (by decide) (by assumption) rfl) ?_
      refine o_y (y_loadS1 ti93 rfl (by assumption) rfl) ?_
      refine o_y (y_move rfl) ?_
      obtain ⟨ce56, ae56, re56⟩ := RdL.at q52_1 _ m hm
      have se56 := AtS.isSl ae56
      have te56 := re56
      obtain ⟨u56_6, u56_7, u56_8, u56_9, u56_12, z56, q56_0, q56_1, q56_2, q56_3, q56_4, q56_5, q56_6, q56_7, q56_8, q56_9, q56_10, q56_11, q56_12, q56_13⟩ := re56
      subst z56
      have w56 := Rep.one te56
      refine o_y (y_idxL q52_1 m hm underlying93 ti31 rfl rfl (by omega)) ?_
      refine o_y (y_loadS ti31 rfl (by assumption) rfl (fun e => by cases e)) ?_
      refine o_alloc ti31 rfl (fun b5 => ?_)
      refine o_store (u := [_, _, _, _, _, _, _, _, _, _, _, _, _, _, _]) (C' := [_, _, _, _, _, _, _, _, _, _, _, _, _, _, _]) ti31 rfl rfl rfl rfl (by first | rfl | assumption | (simp only [ones, List.all_cons, List.all_nil, Bool.and_true, one_of (by assumption)]; done)) (by repeat (first | exact .z | apply Upd.s | apply Upd.a)) (by exact Nat.le_of_ble_eq_true rfl) (by rfl) ?_
      refine o_nil ?_
      refine x_seq ?_
      refine x_regionQ mixed (by kernel_rfl) rfl ?_
      refine q_y (y_fieldAddr fd31_0 ti3 (by decide) rfl) ?_
      refine q_y (y_loadO ti3 rfl inn rfl) ?_
      refine q_y (y_move rfl) ?_
      refine q_y (y_move rfl) ?_
      obtain ⟨ce62, ae62, re62⟩ := RdL.at h _ k hk
      have se62 := AtS.isSl ae62
      have te62 := re62
      obtain ⟨u62_1, z62, q62_0, q62_1⟩ := re62
      subst z62
      have w62 := Rep.one te62
      refine q_y (y_idxL h k hk underlying22 ti95 rfl rfl (by omega)) ?_
      refine q_y (y_fieldAddrP fd95_0 ti3 (by decide) (by assumption) rfl) ?_
      refine q_y (y_loadS1 ti3 rfl (by assumption) rfl) ?_
      refine q_y (y_neq rfl rfl) ?_
      refine q_y (y_move rfl) ?_
      refine q_split 66 rfl (fun hg12_66 => ?_) (fun hg12_66 => ?_)
      · try simp only [kk] at hg12_66
        refine q_gn 66 rfl rfl rfl ?_
        refine q_gn 66 rfl rfl rfl ?_
        refine q_gn 66 rfl rfl rfl ?_
        refine q_gn 66 rfl rfl rfl ?_
        refine q_y (y_pick rfl rfl) ?_
        refine q_y (y_move rfl) ?_
        refine q_gn 72 rfl rfl rfl ?_
        refine q_gn 72 rfl rfl rfl ?_
        refine q_gn 72 rfl rfl rfl ?_
        refine q_y (y_pick rfl rfl) ?_
        refine q_nil ?_
        refine x_condT rfl ?_
        refine x_seq ?_
        refine x_region rfl ?_
        refine o_y (y_assign rfl) ?_
        refine o_nil ?_
        refine x_ret ?_
        refine x_fin 1 (ret1 rfl rfl) ?_
        have hb : comOk xs[k] m = false := by
          rw [em]
          first
            | (rw [decide_eq_false (show ¬ xs[k].commits[m].group = xs[k].group by omega)]; rfl)
            | (rw [decide_eq_false (show ¬ xs[k].commits[m].epoch = m by omega)]; simp; done)
            | (rw [show takeB xs[k].commits[m] = false by assumption]; simp)
        have hb2 : logOk xs k = false := by
          unfold logOk
          rw [el, comsOk_no hm hb]; simp
        rw [lcheckB_no hk hb2]; exact ⟨rfl, rfl, rfl⟩
      try simp only [kk] at hg12_66
      refine q_gy 66 rfl rfl (y_fieldAddr fd31_1 ti3 (by decide) rfl) ?_
      refine q_gy 66 rfl rfl (y_loadO ti3 rfl inn rfl) ?_
      refine q_gy 66 rfl rfl (y_move rfl) ?_
      refine q_gy 66 rfl rfl (y_neq rfl rfl) ?_
      refine q_y (y_pick rfl rfl) ?_
      refine q_y (y_move rfl) ?_
      refine q_split 72 rfl (fun hg12_72 => ?_) (fun hg12_72 => ?_)
      · try simp only [kk] at hg12_72
        refine q_gn 72 rfl rfl rfl ?_
        refine q_gn 72 rfl rfl rfl ?_
        refine q_gn 72 rfl rfl rfl ?_
        refine q_y (y_pick rfl rfl) ?_
        refine q_nil ?_
        refine x_condT rfl ?_
        refine x_seq ?_
        refine x_region rfl ?_
        refine o_y (y_assign rfl) ?_
        refine o_nil ?_
        refine x_ret ?_
        refine x_fin 1 (ret1 rfl rfl) ?_
        have hb : comOk xs[k] m = false := by
          rw [em]
          first
            | (rw [decide_eq_false (show ¬ xs[k].commits[m].group = xs[k].group by omega)]; rfl)
            | (rw [decide_eq_false (show ¬ xs[k].commits[m].epoch = m by omega)]; simp; done)
            | (rw [show takeB xs[k].commits[m] = false by assumption]; simp)
        have hb2 : logOk xs k = false := by
          unfold logOk
          rw [el, comsOk_no hm hb]; simp
        rw [lcheckB_no hk hb2]; exact ⟨rfl, rfl, rfl⟩
      try simp only [kk] at hg12_72
      refine q_gy 72 rfl rfl (y_loadA ti31 rfl inn rfl) ?_
      refine q_gcall 72 rfl rfl fn45 rfl (rmay_ok te56) ?_
      refine q_gy 72 rfl rfl (y_not rfl) ?_
      refine q_y (y_pick rfl rfl) ?_
      refine q_nil ?_
      refine x_cond rfl (fun hc4 => ?_) (fun hc4 => ?_)
      · try simp only [kk] at hc4
        refine x_seq ?_
        refine x_region rfl ?_
        refine o_y (y_assign rfl) ?_
        refine o_nil ?_
        refine x_ret ?_
        refine x_fin 1 (ret1 rfl rfl) ?_
        have hb : comOk xs[k] m = false := by
          rw [em]
          first
            | (rw [decide_eq_false (show ¬ xs[k].commits[m].group = xs[k].group by omega)]; rfl)
            | (rw [decide_eq_false (show ¬ xs[k].commits[m].epoch = m by omega)]; simp; done)
            | (rw [show takeB xs[k].commits[m] = false by assumption]; simp)
        have hb2 : logOk xs k = false := by
          unfold logOk
          rw [el, comsOk_no hm hb]; simp
        rw [lcheckB_no hk hb2]; exact ⟨rfl, rfl, rfl⟩
      try simp only [kk] at hc4
      refine x_skip ?_
      refine x_region rfl ?_
      refine o_y (y_move rfl) ?_
      refine o_y (y_addN rfl rfl (by omega) (by omega)) ?_
      refine o_y (y_assign rfl) ?_
      refine o_nil ?_
      have hb : comOk xs[k] m = true := by
        rw [em, decide_eq_true (show xs[k].commits[m].group = xs[k].group by omega), decide_eq_true (show xs[k].commits[m].epoch = m by omega), show takeB xs[k].commits[m] = true by assumption]; rfl
      exact ⟨m + 1, 1, rfl, (.c rfl (.c rfl (.c rfl .n))), rfl, ⟨by omega, upto_succ i4 hb⟩, by omega⟩
    try simp only [kk] at hc3
    refine x_exit ?_
    refine x_region rfl ?_
    refine o_y (y_move rfl) ?_
    refine o_y (y_addN rfl rfl (by omega) (by omega)) ?_
    refine o_y (y_assign rfl) ?_
    refine o_nil ?_
    have hb : logOk xs k = true := by
      unfold logOk
      rw [el, comsOk_yes (fun j hj => i4 j (by omega)), decide_eq_true (show 0 < xs[k].commits.length by omega)]
      first
        | (rw [decide_eq_true (show k = 0 by omega)]; rfl)
        | (have e9 : grpAt xs (k - 1) < grpAt xs k := by rw [grpAt_eq hk, grpAt_eq (show k - 1 < xs.length by omega)]; omega
           rw [decide_eq_true e9]; cases decide (k = 0) <;> rfl)
    exact ⟨k + 1, 0, rfl, (.c rfl (.c rfl .n)), rfl, ⟨by omega, upto_succ i2 hb⟩, by omega⟩
  try simp only [kk] at hc1
  refine x_exit ?_
  refine x_seq ?_
  refine x_region rfl ?_
  refine o_y (y_assign rfl) ?_
  refine o_nil ?_
  refine x_ret ?_
  refine x_fin 0 (ret1 rfl rfl) ?_
  rw [lcheckB_yes (by omega) (fun j hj => i2 j (by omega))]; exact ⟨rfl, rfl, rfl⟩
def rpl : List Log → Nat → Int → Int
  | [], _, _ => -1
  | x :: xs, k, g => if x.group = g then (k : Int) else rpl xs (k + 1) g
theorem rpl_spec (g : Int) : ∀ (xs : List Log) (k : Nat), (rpl xs k g = -1 ∧ ∀ x ∈ xs, x.group ≠ g) ∨ ∃ j, ∃ h : j < xs.length, rpl xs k g = ((k + j : Nat) : Int) ∧ xs[j].group = g
  | [], k => .inl ⟨rfl, by simp⟩
  | x :: xs, k => by
    unfold rpl
    by_cases e : x.group = g
    · exact .inr ⟨0, by simp, by rw [if_pos e]; rfl, e⟩
    rw [if_neg e]
    rcases rpl_spec g xs (k + 1) with ⟨h1, h2⟩ | ⟨j, hj, h1, h2⟩
    · exact .inl ⟨h1, fun y hy => by
        rcases List.mem_cons.1 hy with rfl | hy
        · exact e
        exact h2 y hy⟩
    exact .inr ⟨j + 1, by simpa using hj, by rw [h1]; congr 1; omega, h2⟩
theorem rplace_ok {B : World} {H : HM} {O : OL} {v : Value} {xs : List Log} {g : Int} (h : RdL H v xs) : CallsM prog 165 [v, .int .i64 g].toArray B H O (Same (.int .i64 (rpl xs 0 g)) H O) := by
  have hs := h.lenle
  refine enter func165 rfl ntmps165 (l := [(0, _), (1, _)]) rfl rfl ?_
  refine x_seq ?_
  refine x_region rfl ?_
  refine o_y (y_assign rfl) ?_
  refine o_nil ?_
  refine x_seq ?_
  refine x_seq ?_
  refine x_region rfl ?_
  refine o_y (y_assign rfl) ?_
  refine o_nil ?_
  refine x_block ?_
  refine x_loopf (σ := Nat) (fun s => [(5, .int .i64 (s : Int)), (0, v), (1, .int .i64 g)]) (fun s => O) (fun s => s ≤ xs.length ∧ rpl (xs.drop s) s g = rpl xs 0 g) (fun s => xs.length - s) 0 ⟨by simp, by simp⟩ (.c rfl (.c rfl (.c rfl .n))) rfl ?_
  rintro k ⟨i1, i2⟩
  refine x_seq ?_
  refine x_seq ?_
  refine x_region rfl ?_
  refine o_y (y_move rfl) ?_
  refine o_y (y_move rfl) ?_
  refine o_y (y_lenA underlying22 rfl) ?_
  refine o_y (y_lss rfl rfl) ?_
  refine o_nil ?_
  refine x_cond rfl (fun hc0 => ?_) (fun hc0 => ?_)
  · try simp only [kk] at hc0
    have hk : k < xs.length := by omega
    rw [List.drop_eq_getElem_cons hk, rpl] at i2
    refine x_skip ?_
    refine x_seq ?_
    refine x_block ?_
    refine x_seq ?_
    refine x_region rfl ?_
    refine o_y (y_move rfl) ?_
    refine o_y (y_move rfl) ?_
    obtain ⟨ce14, ae14, re14⟩ := RdL.at h _ k hk
    have se14 := AtS.isSl ae14
    have te14 := re14
    obtain ⟨u14_1, z14, q14_0, q14_1⟩ := re14
    subst z14
    have w14 := Rep.one te14
    refine o_y (y_idxL h k hk underlying22 ti95 rfl rfl (by omega)) ?_
    refine o_y (y_fieldAddrP fd95_0 ti3 (by decide) (by assumption) rfl) ?_
    refine o_y (y_loadS1 ti3 rfl (by assumption) rfl) ?_
    refine o_y (y_move rfl) ?_
    refine o_y (y_eql rfl rfl) ?_
    refine o_nil ?_
    refine x_cond rfl (fun hc1 => ?_) (fun hc1 => ?_)
    · try simp only [kk] at hc1
      refine x_seq ?_
      refine x_region rfl ?_
      refine o_y (y_move rfl) ?_
      refine o_y (y_assign rfl) ?_
      refine o_nil ?_
      refine x_ret ?_
      refine x_fin 0 (ret1 rfl rfl) ?_
      rw [if_pos (by omega)] at i2
      rw [← i2]; exact ⟨rfl, rfl, rfl⟩
    try simp only [kk] at hc1
    refine x_skip ?_
    refine x_region rfl ?_
    refine o_y (y_move rfl) ?_
    refine o_y (y_addN rfl rfl (by omega) (by omega)) ?_
    refine o_y (y_assign rfl) ?_
    refine o_nil ?_
    rw [if_neg (by omega)] at i2
    exact ⟨k + 1, 0, rfl, (.c rfl (.c rfl (.c rfl .n))), rfl, ⟨by omega, i2⟩, by omega⟩
  try simp only [kk] at hc0
  refine x_exit ?_
  refine x_seq ?_
  refine x_region rfl ?_
  refine o_y (y_assign rfl) ?_
  refine o_nil ?_
  refine x_ret ?_
  refine x_fin 0 (ret1 rfl rfl) ?_
  rw [List.drop_eq_nil_of_le (by omega), rpl] at i2
  rw [← i2]; exact ⟨rfl, rfl, rfl⟩
theorem rlen_ok {B : World} {H : HM} {O : OL} {v : Value} {xs : List Log} {g : Int} (h : RdL H v xs) : CallsM prog 28 [v, .int .i64 g].toArray B H O (Same (.int .i64 ((commitsOf xs g).length : Nat)) H O) := by
  have hs := h.lenle
  have hc := errI_cases (lcheckB xs)
  have hp := rpl_spec g xs 0
  refine enter func28 rfl ntmps28 (l := [(0, _), (1, _)]) rfl rfl ?_
  refine x_seq ?_
  refine x_region rfl ?_
  refine o_y (y_assign rfl) ?_
  refine o_nil ?_
  refine x_seq ?_
  refine x_region rfl ?_
  refine o_y (y_move rfl) ?_
  refine o_y (y_move rfl) ?_
  refine o_call fn165 rfl (rplace_ok h) ?_
  rintro _ _ _ ⟨rfl, rfl, rfl⟩
  refine o_y (y_assign rfl) ?_
  refine o_nil ?_
  refine x_seq ?_
  refine x_seq ?_
  refine x_region rfl ?_
  refine o_y (y_move rfl) ?_
  refine o_call fn26 rfl (rlcheck_ok h) ?_
  rintro _ _ _ ⟨rfl, rfl, rfl⟩
  refine o_y (y_neq rfl rfl) ?_
  refine o_y (y_move rfl) ?_
  refine o_split 12 rfl (fun hg2_12 => ?_) (fun hg2_12 => ?_)
  · try simp only [kk] at hg2_12
    refine o_gn 12 rfl rfl rfl ?_
    refine o_gn 12 rfl rfl rfl ?_
    refine o_y (y_pick rfl rfl) ?_
    refine o_nil ?_
    refine x_condT rfl ?_
    refine x_seq ?_
    refine x_region rfl ?_
    refine o_y (y_assign rfl) ?_
    refine o_nil ?_
    refine x_ret ?_
    refine x_fin 0 (ret1 rfl rfl) ?_
    have e : commitsOf xs g = [] := by
      rcases hc with ⟨e1, e2⟩ | ⟨e1, e2⟩
      · rcases hp with ⟨p1, p2⟩ | ⟨j, hj, p1, p2⟩
        · exact (commitsOf_spec e1 g).2.1 p2
        exfalso; omega
      rw [commitsOf, if_neg (by rw [e1]; simp)]
    rw [e]; exact ⟨rfl, rfl, rfl⟩
  try simp only [kk] at hg2_12
  refine o_gy 12 rfl rfl (y_move rfl) ?_
  refine o_gy 12 rfl rfl (y_lss rfl rfl) ?_
  refine o_y (y_pick rfl rfl) ?_
  refine o_nil ?_
  refine x_cond rfl (fun hc0 => ?_) (fun hc0 => ?_)
  · try simp only [kk] at hc0
    refine x_seq ?_
    refine x_region rfl ?_
    refine o_y (y_assign rfl) ?_
    refine o_nil ?_
    refine x_ret ?_
    refine x_fin 0 (ret1 rfl rfl) ?_
    have e : commitsOf xs g = [] := by
      rcases hc with ⟨e1, e2⟩ | ⟨e1, e2⟩
      · rcases hp with ⟨p1, p2⟩ | ⟨j, hj, p1, p2⟩
        · exact (commitsOf_spec e1 g).2.1 p2
        exfalso; omega
      rw [commitsOf, if_neg (by rw [e1]; simp)]
    rw [e]; exact ⟨rfl, rfl, rfl⟩
  try simp only [kk] at hc0
  obtain ⟨j, hj, p1, p2⟩ : ∃ j, ∃ h : j < xs.length, rpl xs 0 g = ((0 + j : Nat) : Int) ∧ xs[j].group = g := by
    rcases hp with ⟨p1, p2⟩ | hp
    · exfalso; omega
    exact hp
  have e1 : lcheckB xs = true := by
    rcases hc with ⟨e1, e2⟩ | ⟨e1, e2⟩
    · exact e1
    exfalso; omega
  have e := (commitsOf_spec e1 g).1 _ (List.getElem_mem hj) p2
  refine x_skip ?_
  refine x_seq ?_
  refine x_region rfl ?_
  refine o_y (y_move rfl) ?_
  refine o_y (y_move rfl) ?_
  obtain ⟨ce18, ae18, re18⟩ := RdL.at h _ j hj
  have se18 := AtS.isSl ae18
  have te18 := re18
  obtain ⟨u18_1, z18, q18_0, q18_1⟩ := re18
  subst z18
  have w18 := Rep.one te18
  refine o_y (y_idxL h j hj underlying22 ti95 rfl rfl (by omega)) ?_
  refine o_y (y_fieldAddrP fd95_1 ti93 (by decide) (by assumption) rfl) ?_
  refine o_y (y_loadS1 ti93 rfl (by assumption) rfl) ?_
  refine o_y (y_lenA underlying93 rfl) ?_
  refine o_y (y_assign rfl) ?_
  refine o_nil ?_
  refine x_ret ?_
  refine x_fin 0 (ret1 rfl rfl) ?_
  rw [e]; exact ⟨rfl, rfl, rfl⟩
def rapp (c : Commit) : Bool → List Log → List Log
  | true, [] => []
  | false, [] => [⟨c.group, [c]⟩]
  | d, x :: xs => (if d = false ∧ c.group < x.group then [⟨c.group, [c]⟩] else []) ++ ((if x.group = c.group then ⟨x.group, x.commits ++ [c]⟩ else x) :: rapp c (d || (decide (c.group < x.group) || decide (x.group = c.group))) xs)
theorem rapp_true (c : Commit) : ∀ xs : List Log, (∀ x ∈ xs, c.group < x.group) → rapp c true xs = xs
  | [], _ => rfl
  | x :: xs, h => by
    have h1 := h x (by simp)
    have e : (true || (decide (c.group < x.group) || decide (x.group = c.group))) = true := rfl
    rw [rapp, e, rapp_true c xs (fun y hy => h y (by simp [hy])), if_neg (by simp), if_neg (by omega)]
    rfl
theorem rapp_low (c : Commit) : ∀ (A X : List Log), (∀ x ∈ A, x.group < c.group) → rapp c false (A ++ X) = A ++ rapp c false X
  | [], X, _ => rfl
  | x :: A, X, h => by
    have h1 := h x (by simp)
    have e : (false || (decide (c.group < x.group) || decide (x.group = c.group))) = false := by simp; omega
    rw [List.cons_append, rapp, e, rapp_low c A X (fun y hy => h y (by simp [hy])), if_neg (by simp; omega), if_neg (by omega)]
    rfl
theorem rapp_eq {xs : List Log} {c : Commit} (h : appErr xs c = 0) : rapp c false xs = appLogs xs c := by
  obtain ⟨hv, ht, he, A, D, hA, hD, hl, hh⟩ := app_parts h
  rw [hl]
  rcases hh with ⟨hf, x, hx, hc, hxs⟩ | ⟨hf, hc, hxs, _⟩
  · rw [hxs, rapp_low c A _ hA]
    congr 1
    rw [rapp, if_neg (by simp; omega), if_pos hx]
    have e : (false || (decide (c.group < x.group) || decide (x.group = c.group))) = true := by simp [hx]
    rw [e, rapp_true c D hD, hx, ← hxs, hc]
    rfl
  rw [hxs, rapp_low c A _ hA]
  congr 1
  have hc' : commitsOf (A ++ D) c.group = [] := by rw [← hxs]; exact hc
  rw [hc']
  cases D with
  | nil => rfl
  | cons x D =>
    have h1 := hD x (by simp)
    have e : (false || (decide (c.group < x.group) || decide (x.group = c.group))) = true := by simp [h1]
    rw [rapp, e, rapp_true c D (fun y hy => hD y (by simp [hy])), if_pos ⟨rfl, h1⟩, if_neg (by omega)]
    rfl
theorem rapp_step (c : Commit) (d : Bool) {xs : List Log} {k : Nat} (hk : k < xs.length) : rapp c d (xs.drop k) = (if d = false ∧ c.group < xs[k].group then [⟨c.group, [c]⟩] else []) ++ ((if xs[k].group = c.group then ⟨xs[k].group, xs[k].commits ++ [c]⟩ else xs[k]) :: rapp c (d || (decide (c.group < xs[k].group) || decide (xs[k].group = c.group))) (xs.drop (k + 1))) := by
  rw [List.drop_eq_getElem_cons hk]
  cases d <;> rfl
theorem no_found {xs : List Log} {c : Commit} (hv : lcheckB xs = true) (he : c.epoch = (commitsOf xs c.group).length) : (c.epoch = 0 ↔ foundB xs c.group = false) := by
  have hs := commitsOf_spec hv c.group
  constructor
  · intro h0
    cases hf : foundB xs c.group with
    | false => rfl
    | true =>
      obtain ⟨x, hx, hg⟩ := hs.2.2.1 hf
      have := ((lcheck_spec.1 hv).2.2 x hx).1
      rw [← hs.1 x hx hg] at this
      omega
  intro hf
  have hn : ∀ x ∈ xs, x.group ≠ c.group := fun x hx hg => by
    have := hs.2.2.2 ⟨x, hx, hg⟩
    rw [hf] at this; cases this
  rw [hs.2.1 hn] at he
  simpa using he
theorem rapp_n1 {c : Commit} {d : Bool} {xs ls Y : List Log} {k : Nat} (hk : k < xs.length) (i4 : ls ++ rapp c d (xs.drop k) = Y) (hd : d = false) (hl : c.group < xs[k].group) : ls ++ [(⟨c.group, [c]⟩ : Log)] ++ [xs[k]] ++ rapp c true (xs.drop (k + 1)) = Y := by
  rw [rapp_step c d hk, if_pos ⟨hd, hl⟩, if_neg (by omega), hd, decide_eq_true hl] at i4
  rw [← i4]; simp
theorem rapp_n2 {c : Commit} {d : Bool} {xs ls Y : List Log} {k : Nat} (hk : k < xs.length) (i4 : ls ++ rapp c d (xs.drop k) = Y) (he : xs[k].group = c.group) : ls ++ [(⟨xs[k].group, xs[k].commits ++ [c]⟩ : Log)] ++ rapp c true (xs.drop (k + 1)) = Y := by
  rw [rapp_step c d hk, if_neg (by omega), if_pos he, decide_eq_true he] at i4
  rw [← i4]; simp
theorem rapp_n3 {c : Commit} {d : Bool} {xs ls Y : List Log} {k : Nat} (hk : k < xs.length) (i4 : ls ++ rapp c d (xs.drop k) = Y) (hl : ¬ (d = false ∧ c.group < xs[k].group)) (he : ¬ xs[k].group = c.group) : ls ++ [xs[k]] ++ rapp c d (xs.drop (k + 1)) = Y := by
  have e : (d || (decide (c.group < xs[k].group) || decide (xs[k].group = c.group))) = d := by
    cases d
    · have h1 : ¬ c.group < xs[k].group := fun h => hl ⟨rfl, h⟩
      simp [h1, he]
    rfl
  rw [rapp_step c d hk, if_neg hl, if_neg he, e] at i4
  rw [← i4]; simp
abbrev OwnLs.fp {H : HM} {cs : List Value} {ls : List Log} {Rs : OL} (_ : OwnLs H cs ls Rs) : OL := Rs
abbrev OwnLs.xs {H : HM} {cs : List Value} {ls : List Log} {Rs : OL} (_ : OwnLs H cs ls Rs) : List Log := ls
abbrev OwnLs.cs {H : HM} {cs : List Value} {ls : List Log} {Rs : OL} (_ : OwnLs H cs ls Rs) : List Value := cs
abbrev RApp (err : Int) (ys : List Log) (H : HM) (O : OL) : Value → HM → OL → Prop := fun v H' O' => Ext H H' ∧ O = O' ∧ ∃ u, v = .tuple #[u, .int .i64 err] ∧ RdL H' u ys
theorem one_row {H : HM} {b : Nat} {cs : List Value} {c : Commit} (h : Rep.rd H cs c) : Row (.slice (some ⟨b, 0, none⟩) 1 1) ([c] : List Commit).length cs 31 15 [(b, cl cs 31)] := ⟨by rw [Rep.len h]; rfl, .inr ⟨b, 1, [], rfl, Nat.le_refl _, by simp, by simp⟩⟩
theorem Row.cast {v : Value} {n m : Nat} {cs : List Value} {e sz : Nat} {R : OL} (h : Row v n cs e sz R) (hn : n = m) : Row v m cs e sz R := hn ▸ h
set_option maxHeartbeats 2000000 in
theorem rappend_ok {B : World} {H : HM} {O : OL} {v : Value} {xs : List Log} {cs : List Value} {c : Commit} (h : RdL H v xs) (hc : Rep.rd H cs c) (hsm : ∀ x ∈ xs, x.commits.length ≤ 1000000) :
    CallsM prog 11 [v, .agg cs.toArray].toArray B H O (RApp (appErr xs c) (appLogs xs c) H O) := by
  have hk := hc
  have wk := Rep.one hc
  obtain ⟨u6, u7, u8, u9, u12, rfl, h0, h1, h2, h3, h4, h5, h6, h7, h8, h9, h10, h11, h12, h13⟩ := hc
  have hlc := errI_cases (lcheckB xs)
  have hsv := h.lenle
  refine enter func11 rfl ntmps11 (l := [(0, _), (1, _)]) rfl rfl ?_
  refine x_seq ?_
  refine x_region rfl ?_
  refine o_box rfl (cs := [_, _, _, _, _, _, _, _, _, _, _, _, _, _, _]) rfl (fun b3 => ?_)
  refine o_y (y_assign rfl) ?_
  refine o_y (y_assign rfl) ?_
  refine o_nil ?_
  refine x_seq ?_
  refine x_seq ?_
  refine x_region rfl ?_
  refine o_y (y_move rfl) ?_
  refine o_call fn26 rfl (rlcheck_ok h) ?_
  rintro _ _ _ ⟨rfl, rfl, rfl⟩
  refine o_y (y_neq rfl rfl) ?_
  refine o_y (y_move rfl) ?_
  refine o_split 13 rfl (fun hg1_13 => ?_) (fun hg1_13 => ?_)
  · try simp only [kk] at hg1_13
    refine o_gn 13 rfl rfl rfl ?_
    refine o_gn 13 rfl rfl rfl ?_
    refine o_gn 13 rfl rfl rfl ?_
    refine o_y (y_pick rfl rfl) ?_
    refine o_nil ?_
    refine x_condT rfl ?_
    refine x_seq ?_
    refine x_region rfl ?_
    refine o_y (y_assign rfl) ?_
    refine o_y (y_assign rfl) ?_
    refine o_nil ?_
    refine x_ret ?_
    refine x_fin 1 (ret2 rfl rfl rfl) ?_
    have e : appErr xs c = 1 := by
      rw [appErr, if_neg]
      rintro ⟨e1, e2⟩
      first
        | (rw [e1] at hlc; simp [errI] at hlc; omega)
        | simp_all
    rw [e, appLogs, e]
    exact ⟨Ext.refl _, rfl, _, rfl, RdL.nil _⟩
  try simp only [kk] at hg1_13
  refine o_gy 13 rfl rfl (y_loadA ti31 rfl inn rfl) ?_
  refine o_gcall 13 rfl rfl fn45 rfl (rmay_ok hk) ?_
  rintro _ _ _ ⟨rfl, rfl, rfl⟩
  refine o_gy 13 rfl rfl (y_not rfl) ?_
  refine o_y (y_pick rfl rfl) ?_
  refine o_nil ?_
  refine x_cond rfl (fun hc0 => ?_) (fun hc0 => ?_)
  · try simp only [kk] at hc0
    refine x_seq ?_
    refine x_region rfl ?_
    refine o_y (y_assign rfl) ?_
    refine o_y (y_assign rfl) ?_
    refine o_nil ?_
    refine x_ret ?_
    refine x_fin 1 (ret2 rfl rfl rfl) ?_
    have e : appErr xs c = 1 := by
      rw [appErr, if_neg]
      rintro ⟨e1, e2⟩
      first
        | (rw [e1] at hlc; simp [errI] at hlc; omega)
        | simp_all
    rw [e, appLogs, e]
    exact ⟨Ext.refl _, rfl, _, rfl, RdL.nil _⟩
  try simp only [kk] at hc0
  refine x_skip ?_
  refine x_seq ?_
  refine x_seq ?_
  refine x_regionQ mixed (by kernel_rfl) rfl ?_
  refine q_y (y_fieldAddr fd31_1 ti3 (by decide) rfl) ?_
  refine q_y (y_loadO ti3 rfl inn rfl) ?_
  refine q_y (y_move rfl) ?_
  refine q_y (y_fieldAddr fd31_0 ti3 (by decide) rfl) ?_
  refine q_y (y_loadO ti3 rfl inn rfl) ?_
  refine q_call fn28 rfl (rlen_ok h) ?_
  refine q_y (y_neq rfl rfl) ?_
  refine q_nil ?_
  refine x_cond rfl (fun hc1 => ?_) (fun hc1 => ?_)
  · try simp only [kk] at hc1
    refine x_seq ?_
    refine x_region rfl ?_
    refine o_y (y_assign rfl) ?_
    refine o_y (y_assign rfl) ?_
    refine o_nil ?_
    refine x_ret ?_
    refine x_fin 1 (ret2 rfl rfl rfl) ?_
    have e : appErr xs c = 10 := by
      rw [appErr, if_pos ⟨by rcases hlc with ⟨e1, e2⟩ | ⟨e1, e2⟩ <;> first | exact e1 | (exfalso; omega), by simp_all⟩, if_neg (by omega)]
    rw [e, appLogs, e]
    exact ⟨Ext.refl _, rfl, _, rfl, RdL.nil _⟩
  try simp only [kk] at hc1
  refine x_skip ?_
  refine x_seq ?_
  refine x_seq ?_
  have hv : lcheckB xs = true := by rcases hlc with ⟨e1, e2⟩ | ⟨e1, e2⟩ <;> first | exact e1 | (exfalso; omega)
  have ht : takeB c = true := by first | assumption | simp_all
  have he : c.epoch = ((commitsOf xs c.group).length : Nat) := by omega
  have hnf := no_found hv he
  have hn16 : xs.length ≤ 16 := (lcheck_spec.1 hv).1
  refine x_region rfl ?_
  refine o_y (y_fieldAddr fd31_1 ti3 (by decide) rfl) ?_
  refine o_y (y_loadO ti3 rfl inn rfl) ?_
  refine o_y (y_eql rfl rfl) ?_
  refine o_y (y_move rfl) ?_
  refine o_split 28 rfl (fun hg5_28 => ?_) (fun hg5_28 => ?_)
  · try simp only [kk] at hg5_28
    refine o_gy 28 rfl rfl (y_move rfl) ?_
    first | refine o_gy 28 rfl rfl (y_lenL (by assumption) underlying22 rfl) ?_ | refine o_gy 28 rfl rfl (y_lenR (by assumption) underlying22 rfl) ?_ | refine o_gy 28 rfl rfl (y_len underlying22 rfl) ?_
    refine o_gy 28 rfl rfl (y_geq rfl rfl) ?_
    refine o_y (y_pick rfl rfl) ?_
    refine o_nil ?_
    refine x_cond rfl (fun hc2 => ?_) (fun hc2 => ?_)
    · try simp only [kk] at hc2
      refine x_seq ?_
      refine x_region rfl ?_
      refine o_y (y_assign rfl) ?_
      refine o_y (y_assign rfl) ?_
      refine o_nil ?_
      refine x_ret ?_
      refine x_fin 1 (ret2 rfl rfl rfl) ?_
      have e : appErr xs c = 3 := by
        rw [appErr, if_pos ⟨hv, ht⟩, if_pos he, if_pos ⟨hnf.1 (by omega), by omega⟩]
      rw [e, appLogs, e]
      exact ⟨Ext.refl _, rfl, _, rfl, RdL.nil _⟩
    try simp only [kk] at hc2
    refine x_skip ?_
    refine x_seq ?_
    have hae : appErr xs c = 0 := by
      rw [appErr, if_pos ⟨hv, ht⟩, if_pos he, if_neg]
      rintro ⟨e1, e2⟩
      have := hnf.2 e1
      omega
    refine x_region rfl ?_
    refine o_y (y_assign rfl) ?_
    refine o_nil ?_
    refine x_seq ?_
    refine x_region rfl ?_
    refine o_y (y_assign rfl) ?_
    refine o_nil ?_
    refine x_seq ?_
    refine x_seq ?_
    refine x_region rfl ?_
    refine o_y (y_assign rfl) ?_
    refine o_nil ?_
    refine x_block ?_
    refine x_loopf (σ := Nat × Bool × Value × List Value × List Log × OL × OL) (fun s => [(8, .int .i64 (s.1 : Int)), (7, .bool s.2.1), (6, s.2.2.1), (0, v), (3, .pointer (some ⟨b3, 0, none⟩))]) (fun s => s.2.2.2.2.2.2 ++ (s.2.2.2.2.2.1 ++ _)) (fun s => s.1 ≤ xs.length ∧ Row s.2.2.1 s.2.2.2.2.1.length s.2.2.2.1 95 2 s.2.2.2.2.2.1 ∧ OwnLs H s.2.2.2.1 s.2.2.2.2.1 s.2.2.2.2.2.2 ∧ s.2.2.2.2.1 ++ rapp c s.2.1 (xs.drop s.1) = rapp c false xs ∧ s.2.2.2.2.1.length ≤ 2 * s.1) (fun s => xs.length - s.1) (0, false, .slice none 0 0, [], [], [], []) ⟨by simp, Row.nil _ _, .n, rfl, by simp⟩ (.c rfl (.c rfl (.c rfl (.c rfl (.c rfl .n))))) rfl ?_
    rintro ⟨k, d, v9, cs9, ls, R9, Rs⟩ ⟨i1, i2, i3, i4, i5⟩
    simp only at i1 i2 i3 i4 i5
    refine x_seq ?_
    refine x_seq ?_
    refine x_region rfl ?_
    refine o_y (y_move rfl) ?_
    refine o_y (y_move rfl) ?_
    refine o_y (y_lenA underlying22 rfl) ?_
    refine o_y (y_lss rfl rfl) ?_
    refine o_nil ?_
    refine x_cond rfl (fun hc3 => ?_) (fun hc3 => ?_)
    · try simp only [kk] at hc3
      have hkk : k < xs.length := by omega
      have hsk := hsm _ (List.getElem_mem hkk)
      refine x_skip ?_
      refine x_seq ?_
      refine x_block ?_
      refine x_seq ?_
      refine x_seq ?_
      refine x_regionQ mixed (by kernel_rfl) rfl ?_
      refine q_y (y_move rfl) ?_
      refine q_y (y_not rfl) ?_
      refine q_y (y_move rfl) ?_
      refine q_split 41 rfl (fun hg12_41 => ?_) (fun hg12_41 => ?_)
      · try simp only [kk] at hg12_41
        refine q_gy 41 rfl rfl (y_move rfl) ?_
        refine q_gy 41 rfl rfl (y_move rfl) ?_
        obtain ⟨ce44, ae44, re44⟩ := RdL.at h _ k hkk
        have se44 := AtS.isSl ae44
        have te44 := re44
        obtain ⟨u44_1, z44, q44_0, q44_1⟩ := re44
        subst z44
        have w44 := Rep.one te44
        refine q_gy 41 rfl rfl (y_idxL h k hkk underlying22 ti95 rfl rfl (by omega)) ?_
        refine q_gy 41 rfl rfl (y_fieldAddrP fd95_0 ti3 (by decide) (by assumption) rfl) ?_
        refine q_gy 41 rfl rfl (y_loadS1 ti3 rfl (by assumption) rfl) ?_
        refine q_gy 41 rfl rfl (y_fieldAddr fd31_0 ti3 (by decide) rfl) ?_
        refine q_gy 41 rfl rfl (y_loadO ti3 rfl inn rfl) ?_
        refine q_gy 41 rfl rfl (y_gtr rfl rfl) ?_
        refine q_y (y_pick rfl rfl) ?_
        refine q_nil ?_
        refine x_cond rfl (fun hc4 => ?_) (fun hc4 => ?_)
        · try simp only [kk] at hc4
          refine x_seq ?_
          refine x_region rfl ?_
          refine o_y (y_move rfl) ?_
          refine o_y (y_fieldAddr fd31_0 ti3 (by decide) rfl) ?_
          refine o_y (y_loadO ti3 rfl inn rfl) ?_
          refine o_y (y_loadA ti31 rfl inn rfl) ?_
          refine o_slice1 underlying93 ti31 (by decide) (by decide) rfl rfl (C := [_, _, _, _, _, _, _, _, _, _, _, _, _, _, _]) rfl rfl (fun b55 => ?_)
          refine o_y (y_buildS bt95 rfl (C := [_, _]) rfl) ?_
          refine o_slice1 underlying22 ti95 (by decide) (by decide) rfl rfl (C := [_, _]) rfl rfl (fun b57 => ?_)
          refine o_append underlying22 ti95 rfl (by decide) rfl i2 rfl (At.all inn) rfl rfl (by omega) (by omega) hol (fun v58 R58 j58 => ?_)
          refine o_y (y_assign rfl) ?_
          refine o_nil ?_
          have j1 := j58.cast (m := (ls ++ [(⟨c.group, [c]⟩ : Log)]).length) (by rw [List.length_append]; rfl)
          have o1 := OwnLs.c i3 h0 (x := (⟨c.group, [c]⟩ : Log)) (one_row (b := b55) hk) (El.one1 hk) (by simp)
          have hl1 : (ls ++ [(⟨c.group, [c]⟩ : Log)]).length ≤ 2 * k + 1 := by rw [List.length_append]; simp; omega
          refine x_region rfl ?_
          refine o_y (y_assign rfl) ?_
          refine o_nil ?_
          refine x_seq ?_
          first | (have j1 := j1) | (have j1 := i2; have o1 := i3; have hl1 : ls.length ≤ 2 * k + 1 := by omega)
          have hc0 : 0 < xs[k].commits.length := ((lcheck_spec.1 hv).2.2 _ (List.getElem_mem hkk)).1
          refine x_regionG _ (fun _ h => h) [0, 1, 2, 3, 4, 6, 7, 8, 9, 10, 12] [14] mixed (by kernel_rfl) npa ?_
          have hE := Ext.refl H
          refine g_take 0 (by kernel_rfl) rfl rfl rfl (y_move rfl) ?_
          refine g_take 1 (by kernel_rfl) rfl rfl rfl (y_move rfl) ?_
          obtain ⟨ce61, ae61, re61⟩ := RdL.at h _ k hkk
          have se61 := AtS.isSl ae61
          have te61 := re61
          obtain ⟨u61_1, z61, q61_0, q61_1⟩ := re61
          subst z61
          have w61 := Rep.one te61
          refine g_take 2 (by kernel_rfl) rfl rfl rfl (y_idxL h k hkk underlying22 ti95 rfl rfl (by omega)) ?_
          refine g_take 3 (by kernel_rfl) rfl rfl rfl (y_fieldAddrP fd95_0 ti3 (by decide) (by assumption) rfl) ?_
          refine g_take 4 (by kernel_rfl) rfl rfl rfl (y_loadS1 ti3 rfl (by assumption) rfl) ?_
          refine g_take 6 (by kernel_rfl) rfl rfl rfl (y_move rfl) ?_
          refine g_take 7 (by kernel_rfl) rfl rfl rfl (y_move rfl) ?_
          obtain ⟨ce67, ae67, re67⟩ := RdL.at h _ k hkk
          have se67 := AtS.isSl ae67
          have te67 := re67
          obtain ⟨u67_1, z67, q67_0, q67_1⟩ := re67
          subst z67
          have w67 := Rep.one te67
          refine g_take 8 (by kernel_rfl) rfl rfl rfl (y_idxL h k hkk underlying22 ti95 rfl rfl (by omega)) ?_
          refine g_take 9 (by kernel_rfl) rfl rfl rfl (y_fieldAddrP fd95_1 ti93 (by decide) (by assumption) rfl) ?_
          refine g_take 10 (by kernel_rfl) rfl rfl rfl (y_loadS1 ti93 rfl (by assumption) rfl) ?_
          refine g_all2 (i := 5) (j := 13) (by kernel_rfl) ?g1a ?g1b
          case' g1a =>
            refine g_one rfl rfl rfl rfl ?_
            refine o_slice0 underlying93 ti31 (fun b64 => ?_)
            refine o_nil ?_
            refine ⟨.inr ⟨hE, hld⟩, ?_⟩
            refine g_all2 (i := 11) (j := 13) (by kernel_rfl) ?g2a ?g2b
            case' g2a =>
              refine g_one rfl rfl rfl rfl ?_
              have hs67 : ∃ a n c, u67_1 = .slice (some a) n c := by
                obtain ⟨p, c', rfl⟩ := q67_1.shape
                obtain ⟨q, h4, _⟩ := q67_1.at [] 0 hc0
                have h5 := AtS.isSl h4
                cases p with
                | none => simp [isSl] at h5
                | some a => exact ⟨a, _, c', rfl⟩
              refine o_appendL (α := Commit) underlying93 ti31 rfl (by decide) rfl rfl Row.made rfl q67_1 hs67 (by omega) (by omega) hol (fun v70 R70 nw70 n70 j70 => ?_)
              refine o_nil ?_
              obtain ⟨p70, c70, rfl⟩ := j70.shape
              refine ⟨.inr ⟨hE, hld⟩, ?_⟩
              refine g_take 12 (by kernel_rfl) rfl rfl rfl (y_buildS bt95 rfl (C := [_, _]) rfl) ?_
              refine g_all1 (i := 13) (by kernel_rfl) ?_
              refine g_one rfl rfl rfl rfl ?_
              refine o_alloc ti95 rfl (fun b9 => ?_)
              refine o_nil ?_
              refine ⟨.inr ⟨hE, hld⟩, ?_⟩
              refine g_all1 (i := 14) (by kernel_rfl) ?_
              refine g_one rfl rfl rfl rfl ?_
              refine o_store (u := [_, _]) (C' := [_, _]) ti95 rfl rfl rfl rfl (by first | rfl | assumption | (simp only [ones, List.all_cons, List.all_nil, Bool.and_true, one_of (by assumption)]; done)) (by repeat (first | exact .z | apply Upd.s | apply Upd.a)) (by exact Nat.le_of_ble_eq_true rfl) (by rfl) ?_
              refine o_nil ?_
              refine ⟨.inl rfl, ?_⟩
              refine g_nil (by kernel_rfl) ?_
            case' g2b =>
              refine g_one rfl rfl rfl rfl ?_
              refine o_alloc ti95 rfl (fun b9 => ?_)
              refine o_nil ?_
              refine ⟨.inr ⟨hE, hld⟩, ?_⟩
              refine g_all1 (i := 11) (by kernel_rfl) ?_
              refine g_one rfl rfl rfl rfl ?_
              have hs67 : ∃ a n c, u67_1 = .slice (some a) n c := by
                obtain ⟨p, c', rfl⟩ := q67_1.shape
                obtain ⟨q, h4, _⟩ := q67_1.at [] 0 hc0
                have h5 := AtS.isSl h4
                cases p with
                | none => simp [isSl] at h5
                | some a => exact ⟨a, _, c', rfl⟩
              refine o_appendL (α := Commit) underlying93 ti31 rfl (by decide) rfl rfl Row.made rfl q67_1 hs67 (by omega) (by omega) hol (fun v70 R70 nw70 n70 j70 => ?_)
              refine o_nil ?_
              obtain ⟨p70, c70, rfl⟩ := j70.shape
              refine ⟨.inr ⟨hE, hld⟩, ?_⟩
              refine g_take 12 (by kernel_rfl) rfl rfl rfl (y_buildS bt95 rfl (C := [_, _]) rfl) ?_
              refine g_all1 (i := 14) (by kernel_rfl) ?_
              refine g_one rfl rfl rfl rfl ?_
              refine o_store (u := [_, _]) (C' := [_, _]) ti95 rfl rfl rfl rfl (by first | rfl | assumption | (simp only [ones, List.all_cons, List.all_nil, Bool.and_true, one_of (by assumption)]; done)) (by repeat (first | exact .z | apply Upd.s | apply Upd.a)) (by exact Nat.le_of_ble_eq_true rfl) (by rfl) ?_
              refine o_nil ?_
              refine ⟨.inl rfl, ?_⟩
              refine g_nil (by kernel_rfl) ?_
          case' g1b =>
            refine g_one rfl rfl rfl rfl ?_
            refine o_alloc ti95 rfl (fun b9 => ?_)
            refine o_nil ?_
            refine ⟨.inr ⟨hE, hld⟩, ?_⟩
            refine g_all1 (i := 5) (by kernel_rfl) ?_
            refine g_one rfl rfl rfl rfl ?_
            refine o_slice0 underlying93 ti31 (fun b64 => ?_)
            refine o_nil ?_
            refine ⟨.inr ⟨hE, hld⟩, ?_⟩
            refine g_all1 (i := 11) (by kernel_rfl) ?_
            refine g_one rfl rfl rfl rfl ?_
            have hs67 : ∃ a n c, u67_1 = .slice (some a) n c := by
              obtain ⟨p, c', rfl⟩ := q67_1.shape
              obtain ⟨q, h4, _⟩ := q67_1.at [] 0 hc0
              have h5 := AtS.isSl h4
              cases p with
              | none => simp [isSl] at h5
              | some a => exact ⟨a, _, c', rfl⟩
            refine o_appendL (α := Commit) underlying93 ti31 rfl (by decide) rfl rfl Row.made rfl q67_1 hs67 (by omega) (by omega) hol (fun v70 R70 nw70 n70 j70 => ?_)
            refine o_nil ?_
            obtain ⟨p70, c70, rfl⟩ := j70.shape
            refine ⟨.inr ⟨hE, hld⟩, ?_⟩
            refine g_take 12 (by kernel_rfl) rfl rfl rfl (y_buildS bt95 rfl (C := [_, _]) rfl) ?_
            refine g_all1 (i := 14) (by kernel_rfl) ?_
            refine g_one rfl rfl rfl rfl ?_
            refine o_store (u := [_, _]) (C' := [_, _]) ti95 rfl rfl rfl rfl (by first | rfl | assumption | (simp only [ones, List.all_cons, List.all_nil, Bool.and_true, one_of (by assumption)]; done)) (by repeat (first | exact .z | apply Upd.s | apply Upd.a)) (by exact Nat.le_of_ble_eq_true rfl) (by rfl) ?_
            refine o_nil ?_
            refine ⟨.inl rfl, ?_⟩
            refine g_nil (by kernel_rfl) ?_
          all_goals
            refine x_seq ?_
            refine x_seq ?_
            refine x_region rfl ?_
            refine o_y (y_fieldAddr fd95_0 ti3 (by decide) rfl) ?_
            refine o_y (y_loadO ti3 rfl inn rfl) ?_
            refine o_y (y_fieldAddr fd31_0 ti3 (by decide) rfl) ?_
            refine o_y (y_loadO ti3 rfl inn rfl) ?_
            refine o_y (y_eql rfl rfl) ?_
            refine o_nil ?_
            refine x_cond rfl (fun hc5 => ?_) (fun hc5 => ?_)
            · try simp only [kk] at hc5
              refine x_seq ?_
              refine x_region rfl ?_
              refine o_y (y_fieldAddr fd95_1 ti93 (by decide) rfl) ?_
              refine o_y (y_loadO ti93 rfl inn rfl) ?_
              refine o_y (y_loadA ti31 rfl inn rfl) ?_
              refine o_slice1 underlying93 ti31 (by decide) (by decide) rfl rfl (C := [_, _, _, _, _, _, _, _, _, _, _, _, _, _, _]) rfl rfl (fun b80 => ?_)
              refine o_append underlying93 ti31 rfl (by decide) rfl j70 rfl (At.all inn) rfl wk (by omega) (by omega) hol (fun v81 R81 j81 => ?_)
              obtain ⟨p81, c81, rfl⟩ := j81.shape
              refine o_y (y_fieldAddr fd95_1 ti93 (by decide) rfl) ?_
              refine o_store (u := [_]) (C' := [_, _]) ti93 rfl rfl rfl rfl (by first | rfl | assumption | (simp only [ones, List.all_cons, List.all_nil, Bool.and_true, one_of (by assumption)]; done)) (by repeat (first | exact .z | apply Upd.s | apply Upd.a)) (by exact Nat.le_of_ble_eq_true rfl) (by rfl) ?_
              refine o_nil ?_
              have jo := j81.cast (m := (xs[k].commits ++ [c]).length) (by simp)
              have o2 := OwnLs.c o1 q61_0 (x := (⟨xs[k].group, xs[k].commits ++ [c]⟩ : Log)) jo (El.append n70 (El.one1 hk)) (by simp; omega)
              refine x_region rfl ?_
              refine o_y (y_assign rfl) ?_
              refine o_nil ?_
              first | (have o2 := o2) | (have o2 := OwnLs.c o1 q61_0 (x := xs[k]) (va := .slice p70 (0 + xs[k].commits.length) c70) (by rw [Nat.zero_add] at j70 ⊢; exact j70) (by rw [List.nil_append]; exact n70) (by omega))
              refine x_region rfl ?_
              refine o_y (y_move rfl) ?_
              refine o_y (y_loadA ti95 rfl inn rfl) ?_
              refine o_slice1 underlying22 ti95 (by decide) (by decide) rfl rfl (C := [_, _]) rfl rfl (fun b85 => ?_)
              refine o_append underlying22 ti95 rfl (by decide) rfl j1 rfl (At.all inn) rfl rfl (by omega) (by omega) hol (fun v86 R86 j86 => ?_)
              refine o_y (y_assign rfl) ?_
              refine o_nil ?_
              refine x_subO (o2.fp ++ (R86 ++ ((b3, (cl [.int .i64 c.group, .int .i64 c.epoch, .int .i64 c.by_, .int .i64 c.member, .int .i64 c.keyEpoch, .bool c.external, u6, u7, u8, u9, .int .i64 c.own, .int .i64 c.entry, u12, .int .i64 c.face, .int .i64 c.card] 31)) :: O))) (fun q s e0 e1 e2 => by simp only [OwnLs.fp, e0, e1, e2]; omega) ?_
              have jX := j86.cast (m := o2.xs.length) (by simp [OwnLs.xs])
              have hX5 : o2.xs.length ≤ 2 * (k + 1) := by rw [List.length_append]; simp only [List.length_singleton]; omega
              refine x_region rfl ?_
              refine o_y (y_move rfl) ?_
              refine o_y (y_addN rfl rfl (by omega) (by omega)) ?_
              refine o_y (y_assign rfl) ?_
              refine o_nil ?_
              have hk2 : k + 1 ≤ xs.length := hkk
              refine ⟨(k + 1, _, v86, o2.cs, o2.xs, R86, o2.fp), 0, rfl, (.c rfl (.c rfl (.c rfl (.c rfl (.c rfl .n))))), rfl, ⟨hk2, jX, o2, ?_, hX5⟩, by simp only; omega⟩
              first
                | (exfalso; omega)
                | exact rapp_n1 hkk i4 (by assumption) (by assumption)
                | exact rapp_n2 hkk i4 (by assumption)
                | exact rapp_n3 hkk i4 (by simp_all) (by assumption)
            try simp only [kk] at hc5
            refine x_skip ?_
            first | (have o2 := o2) | (have o2 := OwnLs.c o1 q61_0 (x := xs[k]) (va := .slice p70 (0 + xs[k].commits.length) c70) (by rw [Nat.zero_add] at j70 ⊢; exact j70) (by rw [List.nil_append]; exact n70) (by omega))
            refine x_region rfl ?_
            refine o_y (y_move rfl) ?_
            refine o_y (y_loadA ti95 rfl inn rfl) ?_
            refine o_slice1 underlying22 ti95 (by decide) (by decide) rfl rfl (C := [_, _]) rfl rfl (fun b85 => ?_)
            refine o_append underlying22 ti95 rfl (by decide) rfl j1 rfl (At.all inn) rfl rfl (by omega) (by omega) hol (fun v86 R86 j86 => ?_)
            refine o_y (y_assign rfl) ?_
            refine o_nil ?_
            refine x_subO (o2.fp ++ (R86 ++ ((b3, (cl [.int .i64 c.group, .int .i64 c.epoch, .int .i64 c.by_, .int .i64 c.member, .int .i64 c.keyEpoch, .bool c.external, u6, u7, u8, u9, .int .i64 c.own, .int .i64 c.entry, u12, .int .i64 c.face, .int .i64 c.card] 31)) :: O))) (fun q s e0 e1 e2 => by simp only [OwnLs.fp, e0, e1, e2]; omega) ?_
            have jX := j86.cast (m := o2.xs.length) (by simp [OwnLs.xs])
            have hX5 : o2.xs.length ≤ 2 * (k + 1) := by rw [List.length_append]; simp only [List.length_singleton]; omega
            refine x_region rfl ?_
            refine o_y (y_move rfl) ?_
            refine o_y (y_addN rfl rfl (by omega) (by omega)) ?_
            refine o_y (y_assign rfl) ?_
            refine o_nil ?_
            have hk2 : k + 1 ≤ xs.length := hkk
            refine ⟨(k + 1, _, v86, o2.cs, o2.xs, R86, o2.fp), 0, rfl, (.c rfl (.c rfl (.c rfl (.c rfl (.c rfl .n))))), rfl, ⟨hk2, jX, o2, ?_, hX5⟩, by simp only; omega⟩
            first
              | (exfalso; omega)
              | exact rapp_n1 hkk i4 (by assumption) (by assumption)
              | exact rapp_n2 hkk i4 (by assumption)
              | exact rapp_n3 hkk i4 (by simp_all) (by assumption)
        try simp only [kk] at hc4
        refine x_skip ?_
        refine x_seq ?_
        first | (have j1 := j1) | (have j1 := i2; have o1 := i3; have hl1 : ls.length ≤ 2 * k + 1 := by omega)
        have hc0 : 0 < xs[k].commits.length := ((lcheck_spec.1 hv).2.2 _ (List.getElem_mem hkk)).1
        refine x_regionG _ (fun _ h => h) [0, 1, 2, 3, 4, 6, 7, 8, 9, 10, 12] [14] mixed (by kernel_rfl) npa ?_
        have hE := Ext.refl H
        refine g_take 0 (by kernel_rfl) rfl rfl rfl (y_move rfl) ?_
        refine g_take 1 (by kernel_rfl) rfl rfl rfl (y_move rfl) ?_
        obtain ⟨ce61, ae61, re61⟩ := RdL.at h _ k hkk
        have se61 := AtS.isSl ae61
        have te61 := re61
        obtain ⟨u61_1, z61, q61_0, q61_1⟩ := re61
        subst z61
        have w61 := Rep.one te61
        refine g_take 2 (by kernel_rfl) rfl rfl rfl (y_idxL h k hkk underlying22 ti95 rfl rfl (by omega)) ?_
        refine g_take 3 (by kernel_rfl) rfl rfl rfl (y_fieldAddrP fd95_0 ti3 (by decide) (by assumption) rfl) ?_
        refine g_take 4 (by kernel_rfl) rfl rfl rfl (y_loadS1 ti3 rfl (by assumption) rfl) ?_
        refine g_take 6 (by kernel_rfl) rfl rfl rfl (y_move rfl) ?_
        refine g_take 7 (by kernel_rfl) rfl rfl rfl (y_move rfl) ?_
        obtain ⟨ce67, ae67, re67⟩ := RdL.at h _ k hkk
        have se67 := AtS.isSl ae67
        have te67 := re67
        obtain ⟨u67_1, z67, q67_0, q67_1⟩ := re67
        subst z67
        have w67 := Rep.one te67
        refine g_take 8 (by kernel_rfl) rfl rfl rfl (y_idxL h k hkk underlying22 ti95 rfl rfl (by omega)) ?_
        refine g_take 9 (by kernel_rfl) rfl rfl rfl (y_fieldAddrP fd95_1 ti93 (by decide) (by assumption) rfl) ?_
        refine g_take 10 (by kernel_rfl) rfl rfl rfl (y_loadS1 ti93 rfl (by assumption) rfl) ?_
        refine g_all2 (i := 5) (j := 13) (by kernel_rfl) ?g10a ?g10b
        case' g10a =>
          refine g_one rfl rfl rfl rfl ?_
          refine o_slice0 underlying93 ti31 (fun b64 => ?_)
          refine o_nil ?_
          refine ⟨.inr ⟨hE, hld⟩, ?_⟩
          refine g_all2 (i := 11) (j := 13) (by kernel_rfl) ?g11a ?g11b
          case' g11a =>
            refine g_one rfl rfl rfl rfl ?_
            have hs67 : ∃ a n c, u67_1 = .slice (some a) n c := by
              obtain ⟨p, c', rfl⟩ := q67_1.shape
              obtain ⟨q, h4, _⟩ := q67_1.at [] 0 hc0
              have h5 := AtS.isSl h4
              cases p with
              | none => simp [isSl] at h5
              | some a => exact ⟨a, _, c', rfl⟩
            refine o_appendL (α := Commit) underlying93 ti31 rfl (by decide) rfl rfl Row.made rfl q67_1 hs67 (by omega) (by omega) hol (fun v70 R70 nw70 n70 j70 => ?_)
            refine o_nil ?_
            obtain ⟨p70, c70, rfl⟩ := j70.shape
            refine ⟨.inr ⟨hE, hld⟩, ?_⟩
            refine g_take 12 (by kernel_rfl) rfl rfl rfl (y_buildS bt95 rfl (C := [_, _]) rfl) ?_
            refine g_all1 (i := 13) (by kernel_rfl) ?_
            refine g_one rfl rfl rfl rfl ?_
            refine o_alloc ti95 rfl (fun b9 => ?_)
            refine o_nil ?_
            refine ⟨.inr ⟨hE, hld⟩, ?_⟩
            refine g_all1 (i := 14) (by kernel_rfl) ?_
            refine g_one rfl rfl rfl rfl ?_
            refine o_store (u := [_, _]) (C' := [_, _]) ti95 rfl rfl rfl rfl (by first | rfl | assumption | (simp only [ones, List.all_cons, List.all_nil, Bool.and_true, one_of (by assumption)]; done)) (by repeat (first | exact .z | apply Upd.s | apply Upd.a)) (by exact Nat.le_of_ble_eq_true rfl) (by rfl) ?_
            refine o_nil ?_
            refine ⟨.inl rfl, ?_⟩
            refine g_nil (by kernel_rfl) ?_
          case' g11b =>
            refine g_one rfl rfl rfl rfl ?_
            refine o_alloc ti95 rfl (fun b9 => ?_)
            refine o_nil ?_
            refine ⟨.inr ⟨hE, hld⟩, ?_⟩
            refine g_all1 (i := 11) (by kernel_rfl) ?_
            refine g_one rfl rfl rfl rfl ?_
            have hs67 : ∃ a n c, u67_1 = .slice (some a) n c := by
              obtain ⟨p, c', rfl⟩ := q67_1.shape
              obtain ⟨q, h4, _⟩ := q67_1.at [] 0 hc0
              have h5 := AtS.isSl h4
              cases p with
              | none => simp [isSl] at h5
              | some a => exact ⟨a, _, c', rfl⟩
            refine o_appendL (α := Commit) underlying93 ti31 rfl (by decide) rfl rfl Row.made rfl q67_1 hs67 (by omega) (by omega) hol (fun v70 R70 nw70 n70 j70 => ?_)
            refine o_nil ?_
            obtain ⟨p70, c70, rfl⟩ := j70.shape
            refine ⟨.inr ⟨hE, hld⟩, ?_⟩
            refine g_take 12 (by kernel_rfl) rfl rfl rfl (y_buildS bt95 rfl (C := [_, _]) rfl) ?_
            refine g_all1 (i := 14) (by kernel_rfl) ?_
            refine g_one rfl rfl rfl rfl ?_
            refine o_store (u := [_, _]) (C' := [_, _]) ti95 rfl rfl rfl rfl (by first | rfl | assumption | (simp only [ones, List.all_cons, List.all_nil, Bool.and_true, one_of (by assumption)]; done)) (by repeat (first | exact .z | apply Upd.s | apply Upd.a)) (by exact Nat.le_of_ble_eq_true rfl) (by rfl) ?_
            refine o_nil ?_
            refine ⟨.inl rfl, ?_⟩
            refine g_nil (by kernel_rfl) ?_
        case' g10b =>
          refine g_one rfl rfl rfl rfl ?_
          refine o_alloc ti95 rfl (fun b9 => ?_)
          refine o_nil ?_
          refine ⟨.inr ⟨hE, hld⟩, ?_⟩
          refine g_all1 (i := 5) (by kernel_rfl) ?_
          refine g_one rfl rfl rfl rfl ?_
          refine o_slice0 underlying93 ti31 (fun b64 => ?_)
          refine o_nil ?_
          refine ⟨.inr ⟨hE, hld⟩, ?_⟩
          refine g_all1 (i := 11) (by kernel_rfl) ?_
          refine g_one rfl rfl rfl rfl ?_
          have hs67 : ∃ a n c, u67_1 = .slice (some a) n c := by
            obtain ⟨p, c', rfl⟩ := q67_1.shape
            obtain ⟨q, h4, _⟩ := q67_1.at [] 0 hc0
            have h5 := AtS.isSl h4
            cases p with
            | none => simp [isSl] at h5
            | some a => exact ⟨a, _, c', rfl⟩
          refine o_appendL (α := Commit) underlying93 ti31 rfl (by decide) rfl rfl Row.made rfl q67_1 hs67 (by omega) (by omega) hol (fun v70 R70 nw70 n70 j70 => ?_)
          refine o_nil ?_
          obtain ⟨p70, c70, rfl⟩ := j70.shape
          refine ⟨.inr ⟨hE, hld⟩, ?_⟩
          refine g_take 12 (by kernel_rfl) rfl rfl rfl (y_buildS bt95 rfl (C := [_, _]) rfl) ?_
          refine g_all1 (i := 14) (by kernel_rfl) ?_
          refine g_one rfl rfl rfl rfl ?_
          refine o_store (u := [_, _]) (C' := [_, _]) ti95 rfl rfl rfl rfl (by first | rfl | assumption | (simp only [ones, List.all_cons, List.all_nil, Bool.and_true, one_of (by assumption)]; done)) (by repeat (first | exact .z | apply Upd.s | apply Upd.a)) (by exact Nat.le_of_ble_eq_true rfl) (by rfl) ?_
          refine o_nil ?_
          refine ⟨.inl rfl, ?_⟩
          refine g_nil (by kernel_rfl) ?_
        all_goals
          refine x_seq ?_
          refine x_seq ?_
          refine x_region rfl ?_
          refine o_y (y_fieldAddr fd95_0 ti3 (by decide) rfl) ?_
          refine o_y (y_loadO ti3 rfl inn rfl) ?_
          refine o_y (y_fieldAddr fd31_0 ti3 (by decide) rfl) ?_
          refine o_y (y_loadO ti3 rfl inn rfl) ?_
          refine o_y (y_eql rfl rfl) ?_
          refine o_nil ?_
          refine x_cond rfl (fun hc5 => ?_) (fun hc5 => ?_)
          · try simp only [kk] at hc5
            refine x_seq ?_
            refine x_region rfl ?_
            refine o_y (y_fieldAddr fd95_1 ti93 (by decide) rfl) ?_
            refine o_y (y_loadO ti93 rfl inn rfl) ?_
            refine o_y (y_loadA ti31 rfl inn rfl) ?_
            refine o_slice1 underlying93 ti31 (by decide) (by decide) rfl rfl (C := [_, _, _, _, _, _, _, _, _, _, _, _, _, _, _]) rfl rfl (fun b80 => ?_)
            refine o_append underlying93 ti31 rfl (by decide) rfl j70 rfl (At.all inn) rfl wk (by omega) (by omega) hol (fun v81 R81 j81 => ?_)
            obtain ⟨p81, c81, rfl⟩ := j81.shape
            refine o_y (y_fieldAddr fd95_1 ti93 (by decide) rfl) ?_
            refine o_store (u := [_]) (C' := [_, _]) ti93 rfl rfl rfl rfl (by first | rfl | assumption | (simp only [ones, List.all_cons, List.all_nil, Bool.and_true, one_of (by assumption)]; done)) (by repeat (first | exact .z | apply Upd.s | apply Upd.a)) (by exact Nat.le_of_ble_eq_true rfl) (by rfl) ?_
            refine o_nil ?_
            have jo := j81.cast (m := (xs[k].commits ++ [c]).length) (by simp)
            have o2 := OwnLs.c o1 q61_0 (x := (⟨xs[k].group, xs[k].commits ++ [c]⟩ : Log)) jo (El.append n70 (El.one1 hk)) (by simp; omega)
            refine x_region rfl ?_
            refine o_y (y_assign rfl) ?_
            refine o_nil ?_
            first | (have o2 := o2) | (have o2 := OwnLs.c o1 q61_0 (x := xs[k]) (va := .slice p70 (0 + xs[k].commits.length) c70) (by rw [Nat.zero_add] at j70 ⊢; exact j70) (by rw [List.nil_append]; exact n70) (by omega))
            refine x_region rfl ?_
            refine o_y (y_move rfl) ?_
            refine o_y (y_loadA ti95 rfl inn rfl) ?_
            refine o_slice1 underlying22 ti95 (by decide) (by decide) rfl rfl (C := [_, _]) rfl rfl (fun b85 => ?_)
            refine o_append underlying22 ti95 rfl (by decide) rfl j1 rfl (At.all inn) rfl rfl (by omega) (by omega) hol (fun v86 R86 j86 => ?_)
            refine o_y (y_assign rfl) ?_
            refine o_nil ?_
            refine x_subO (o2.fp ++ (R86 ++ ((b3, (cl [.int .i64 c.group, .int .i64 c.epoch, .int .i64 c.by_, .int .i64 c.member, .int .i64 c.keyEpoch, .bool c.external, u6, u7, u8, u9, .int .i64 c.own, .int .i64 c.entry, u12, .int .i64 c.face, .int .i64 c.card] 31)) :: O))) (fun q s e0 e1 e2 => by simp only [OwnLs.fp, e0, e1, e2]; omega) ?_
            have jX := j86.cast (m := o2.xs.length) (by simp [OwnLs.xs])
            have hX5 : o2.xs.length ≤ 2 * (k + 1) := by rw [List.length_append]; simp only [List.length_singleton]; omega
            refine x_region rfl ?_
            refine o_y (y_move rfl) ?_
            refine o_y (y_addN rfl rfl (by omega) (by omega)) ?_
            refine o_y (y_assign rfl) ?_
            refine o_nil ?_
            have hk2 : k + 1 ≤ xs.length := hkk
            refine ⟨(k + 1, _, v86, o2.cs, o2.xs, R86, o2.fp), 0, rfl, (.c rfl (.c rfl (.c rfl (.c rfl (.c rfl .n))))), rfl, ⟨hk2, jX, o2, ?_, hX5⟩, by simp only; omega⟩
            first
              | (exfalso; omega)
              | exact rapp_n1 hkk i4 (by assumption) (by assumption)
              | exact rapp_n2 hkk i4 (by assumption)
              | exact rapp_n3 hkk i4 (by simp_all) (by assumption)
          try simp only [kk] at hc5
          refine x_skip ?_
          first | (have o2 := o2) | (have o2 := OwnLs.c o1 q61_0 (x := xs[k]) (va := .slice p70 (0 + xs[k].commits.length) c70) (by rw [Nat.zero_add] at j70 ⊢; exact j70) (by rw [List.nil_append]; exact n70) (by omega))
          refine x_region rfl ?_
          refine o_y (y_move rfl) ?_
          refine o_y (y_loadA ti95 rfl inn rfl) ?_
          refine o_slice1 underlying22 ti95 (by decide) (by decide) rfl rfl (C := [_, _]) rfl rfl (fun b85 => ?_)
          refine o_append underlying22 ti95 rfl (by decide) rfl j1 rfl (At.all inn) rfl rfl (by omega) (by omega) hol (fun v86 R86 j86 => ?_)
          refine o_y (y_assign rfl) ?_
          refine o_nil ?_
          refine x_subO (o2.fp ++ (R86 ++ ((b3, (cl [.int .i64 c.group, .int .i64 c.epoch, .int .i64 c.by_, .int .i64 c.member, .int .i64 c.keyEpoch, .bool c.external, u6, u7, u8, u9, .int .i64 c.own, .int .i64 c.entry, u12, .int .i64 c.face, .int .i64 c.card] 31)) :: O))) (fun q s e0 e1 e2 => by simp only [OwnLs.fp, e0, e1, e2]; omega) ?_
          have jX := j86.cast (m := o2.xs.length) (by simp [OwnLs.xs])
          have hX5 : o2.xs.length ≤ 2 * (k + 1) := by rw [List.length_append]; simp only [List.length_singleton]; omega
          refine x_region rfl ?_
          refine o_y (y_move rfl) ?_
          refine o_y (y_addN rfl rfl (by omega) (by omega)) ?_
          refine o_y (y_assign rfl) ?_
          refine o_nil ?_
          have hk2 : k + 1 ≤ xs.length := hkk
          refine ⟨(k + 1, _, v86, o2.cs, o2.xs, R86, o2.fp), 0, rfl, (.c rfl (.c rfl (.c rfl (.c rfl (.c rfl .n))))), rfl, ⟨hk2, jX, o2, ?_, hX5⟩, by simp only; omega⟩
          first
            | (exfalso; omega)
            | exact rapp_n1 hkk i4 (by assumption) (by assumption)
            | exact rapp_n2 hkk i4 (by assumption)
            | exact rapp_n3 hkk i4 (by simp_all) (by assumption)
      try simp only [kk] at hg12_41
      refine q_gn 41 rfl rfl rfl ?_
      refine q_gn 41 rfl rfl rfl ?_
      refine q_gn 41 rfl rfl rfl ?_
      refine q_gn 41 rfl rfl rfl ?_
      refine q_gn 41 rfl rfl rfl ?_
      refine q_gn 41 rfl rfl rfl ?_
      refine q_gn 41 rfl rfl rfl ?_
      refine q_gn 41 rfl rfl rfl ?_
      refine q_y (y_pick rfl rfl) ?_
      refine q_nil ?_
      refine x_condF rfl ?_
      refine x_skip ?_
      refine x_seq ?_
      first | (have j1 := j1) | (have j1 := i2; have o1 := i3; have hl1 : ls.length ≤ 2 * k + 1 := by omega)
      have hc0 : 0 < xs[k].commits.length := ((lcheck_spec.1 hv).2.2 _ (List.getElem_mem hkk)).1
      refine x_regionG _ (fun _ h => h) [0, 1, 2, 3, 4, 6, 7, 8, 9, 10, 12] [14] mixed (by kernel_rfl) npa ?_
      have hE := Ext.refl H
      refine g_take 0 (by kernel_rfl) rfl rfl rfl (y_move rfl) ?_
      refine g_take 1 (by kernel_rfl) rfl rfl rfl (y_move rfl) ?_
      obtain ⟨ce61, ae61, re61⟩ := RdL.at h _ k hkk
      have se61 := AtS.isSl ae61
      have te61 := re61
      obtain ⟨u61_1, z61, q61_0, q61_1⟩ := re61
      subst z61
      have w61 := Rep.one te61
      refine g_take 2 (by kernel_rfl) rfl rfl rfl (y_idxL h k hkk underlying22 ti95 rfl rfl (by omega)) ?_
      refine g_take 3 (by kernel_rfl) rfl rfl rfl (y_fieldAddrP fd95_0 ti3 (by decide) (by assumption) rfl) ?_
      refine g_take 4 (by kernel_rfl) rfl rfl rfl (y_loadS1 ti3 rfl (by assumption) rfl) ?_
      refine g_take 6 (by kernel_rfl) rfl rfl rfl (y_move rfl) ?_
      refine g_take 7 (by kernel_rfl) rfl rfl rfl (y_move rfl) ?_
      obtain ⟨ce67, ae67, re67⟩ := RdL.at h _ k hkk
      have se67 := AtS.isSl ae67
      have te67 := re67
      obtain ⟨u67_1, z67, q67_0, q67_1⟩ := re67
      subst z67
      have w67 := Rep.one te67
      refine g_take 8 (by kernel_rfl) rfl rfl rfl (y_idxL h k hkk underlying22 ti95 rfl rfl (by omega)) ?_
      refine g_take 9 (by kernel_rfl) rfl rfl rfl (y_fieldAddrP fd95_1 ti93 (by decide) (by assumption) rfl) ?_
      refine g_take 10 (by kernel_rfl) rfl rfl rfl (y_loadS1 ti93 rfl (by assumption) rfl) ?_
      refine g_all2 (i := 5) (j := 13) (by kernel_rfl) ?g19a ?g19b
      case' g19a =>
        refine g_one rfl rfl rfl rfl ?_
        refine o_slice0 underlying93 ti31 (fun b64 => ?_)
        refine o_nil ?_
        refine ⟨.inr ⟨hE, hld⟩, ?_⟩
        refine g_all2 (i := 11) (j := 13) (by kernel_rfl) ?g20a ?g20b
        case' g20a =>
          refine g_one rfl rfl rfl rfl ?_
          have hs67 : ∃ a n c, u67_1 = .slice (some a) n c := by
            obtain ⟨p, c', rfl⟩ := q67_1.shape
            obtain ⟨q, h4, _⟩ := q67_1.at [] 0 hc0
            have h5 := AtS.isSl h4
            cases p with
            | none => simp [isSl] at h5
            | some a => exact ⟨a, _, c', rfl⟩
          refine o_appendL (α := Commit) underlying93 ti31 rfl (by decide) rfl rfl Row.made rfl q67_1 hs67 (by omega) (by omega) hol (fun v70 R70 nw70 n70 j70 => ?_)
          refine o_nil ?_
          obtain ⟨p70, c70, rfl⟩ := j70.shape
          refine ⟨.inr ⟨hE, hld⟩, ?_⟩
          refine g_take 12 (by kernel_rfl) rfl rfl rfl (y_buildS bt95 rfl (C := [_, _]) rfl) ?_
          refine g_all1 (i := 13) (by kernel_rfl) ?_
          refine g_one rfl rfl rfl rfl ?_
          refine o_alloc ti95 rfl (fun b9 => ?_)
          refine o_nil ?_
          refine ⟨.inr ⟨hE, hld⟩, ?_⟩
          refine g_all1 (i := 14) (by kernel_rfl) ?_
          refine g_one rfl rfl rfl rfl ?_
          refine o_store (u := [_, _]) (C' := [_, _]) ti95 rfl rfl rfl rfl (by first | rfl | assumption | (simp only [ones, List.all_cons, List.all_nil, Bool.and_true, one_of (by assumption)]; done)) (by repeat (first | exact .z | apply Upd.s | apply Upd.a)) (by exact Nat.le_of_ble_eq_true rfl) (by rfl) ?_
          refine o_nil ?_
          refine ⟨.inl rfl, ?_⟩
          refine g_nil (by kernel_rfl) ?_
        case' g20b =>
          refine g_one rfl rfl rfl rfl ?_
          refine o_alloc ti95 rfl (fun b9 => ?_)
          refine o_nil ?_
          refine ⟨.inr ⟨hE, hld⟩, ?_⟩
          refine g_all1 (i := 11) (by kernel_rfl) ?_
          refine g_one rfl rfl rfl rfl ?_
          have hs67 : ∃ a n c, u67_1 = .slice (some a) n c := by
            obtain ⟨p, c', rfl⟩ := q67_1.shape
            obtain ⟨q, h4, _⟩ := q67_1.at [] 0 hc0
            have h5 := AtS.isSl h4
            cases p with
            | none => simp [isSl] at h5
            | some a => exact ⟨a, _, c', rfl⟩
          refine o_appendL (α := Commit) underlying93 ti31 rfl (by decide) rfl rfl Row.made rfl q67_1 hs67 (by omega) (by omega) hol (fun v70 R70 nw70 n70 j70 => ?_)
          refine o_nil ?_
          obtain ⟨p70, c70, rfl⟩ := j70.shape
          refine ⟨.inr ⟨hE, hld⟩, ?_⟩
          refine g_take 12 (by kernel_rfl) rfl rfl rfl (y_buildS bt95 rfl (C := [_, _]) rfl) ?_
          refine g_all1 (i := 14) (by kernel_rfl) ?_
          refine g_one rfl rfl rfl rfl ?_
          refine o_store (u := [_, _]) (C' := [_, _]) ti95 rfl rfl rfl rfl (by first | rfl | assumption | (simp only [ones, List.all_cons, List.all_nil, Bool.and_true, one_of (by assumption)]; done)) (by repeat (first | exact .z | apply Upd.s | apply Upd.a)) (by exact Nat.le_of_ble_eq_true rfl) (by rfl) ?_
          refine o_nil ?_
          refine ⟨.inl rfl, ?_⟩
          refine g_nil (by kernel_rfl) ?_
      case' g19b =>
        refine g_one rfl rfl rfl rfl ?_
        refine o_alloc ti95 rfl (fun b9 => ?_)
        refine o_nil ?_
        refine ⟨.inr ⟨hE, hld⟩, ?_⟩
        refine g_all1 (i := 5) (by kernel_rfl) ?_
        refine g_one rfl rfl rfl rfl ?_
        refine o_slice0 underlying93 ti31 (fun b64 => ?_)
        refine o_nil ?_
        refine ⟨.inr ⟨hE, hld⟩, ?_⟩
        refine g_all1 (i := 11) (by kernel_rfl) ?_
        refine g_one rfl rfl rfl rfl ?_
        have hs67 : ∃ a n c, u67_1 = .slice (some a) n c := by
          obtain ⟨p, c', rfl⟩ := q67_1.shape
          obtain ⟨q, h4, _⟩ := q67_1.at [] 0 hc0
          have h5 := AtS.isSl h4
          cases p with
          | none => simp [isSl] at h5
          | some a => exact ⟨a, _, c', rfl⟩
        refine o_appendL (α := Commit) underlying93 ti31 rfl (by decide) rfl rfl Row.made rfl q67_1 hs67 (by omega) (by omega) hol (fun v70 R70 nw70 n70 j70 => ?_)
        refine o_nil ?_
        obtain ⟨p70, c70, rfl⟩ := j70.shape
        refine ⟨.inr ⟨hE, hld⟩, ?_⟩
        refine g_take 12 (by kernel_rfl) rfl rfl rfl (y_buildS bt95 rfl (C := [_, _]) rfl) ?_
        refine g_all1 (i := 14) (by kernel_rfl) ?_
        refine g_one rfl rfl rfl rfl ?_
        refine o_store (u := [_, _]) (C' := [_, _]) ti95 rfl rfl rfl rfl (by first | rfl | assumption | (simp only [ones, List.all_cons, List.all_nil, Bool.and_true, one_of (by assumption)]; done)) (by repeat (first | exact .z | apply Upd.s | apply Upd.a)) (by exact Nat.le_of_ble_eq_true rfl) (by rfl) ?_
        refine o_nil ?_
        refine ⟨.inl rfl, ?_⟩
        refine g_nil (by kernel_rfl) ?_
      all_goals
        refine x_seq ?_
        refine x_seq ?_
        refine x_region rfl ?_
        refine o_y (y_fieldAddr fd95_0 ti3 (by decide) rfl) ?_
        refine o_y (y_loadO ti3 rfl inn rfl) ?_
        refine o_y (y_fieldAddr fd31_0 ti3 (by decide) rfl) ?_
        refine o_y (y_loadO ti3 rfl inn rfl) ?_
        refine o_y (y_eql rfl rfl) ?_
        refine o_nil ?_
        refine x_cond rfl (fun hc5 => ?_) (fun hc5 => ?_)
        · try simp only [kk] at hc5
          refine x_seq ?_
          refine x_region rfl ?_
          refine o_y (y_fieldAddr fd95_1 ti93 (by decide) rfl) ?_
          refine o_y (y_loadO ti93 rfl inn rfl) ?_
          refine o_y (y_loadA ti31 rfl inn rfl) ?_
          refine o_slice1 underlying93 ti31 (by decide) (by decide) rfl rfl (C := [_, _, _, _, _, _, _, _, _, _, _, _, _, _, _]) rfl rfl (fun b80 => ?_)
          refine o_append underlying93 ti31 rfl (by decide) rfl j70 rfl (At.all inn) rfl wk (by omega) (by omega) hol (fun v81 R81 j81 => ?_)
          obtain ⟨p81, c81, rfl⟩ := j81.shape
          refine o_y (y_fieldAddr fd95_1 ti93 (by decide) rfl) ?_
          refine o_store (u := [_]) (C' := [_, _]) ti93 rfl rfl rfl rfl (by first | rfl | assumption | (simp only [ones, List.all_cons, List.all_nil, Bool.and_true, one_of (by assumption)]; done)) (by repeat (first | exact .z | apply Upd.s | apply Upd.a)) (by exact Nat.le_of_ble_eq_true rfl) (by rfl) ?_
          refine o_nil ?_
          have jo := j81.cast (m := (xs[k].commits ++ [c]).length) (by simp)
          have o2 := OwnLs.c o1 q61_0 (x := (⟨xs[k].group, xs[k].commits ++ [c]⟩ : Log)) jo (El.append n70 (El.one1 hk)) (by simp; omega)
          refine x_region rfl ?_
          refine o_y (y_assign rfl) ?_
          refine o_nil ?_
          first | (have o2 := o2) | (have o2 := OwnLs.c o1 q61_0 (x := xs[k]) (va := .slice p70 (0 + xs[k].commits.length) c70) (by rw [Nat.zero_add] at j70 ⊢; exact j70) (by rw [List.nil_append]; exact n70) (by omega))
          refine x_region rfl ?_
          refine o_y (y_move rfl) ?_
          refine o_y (y_loadA ti95 rfl inn rfl) ?_
          refine o_slice1 underlying22 ti95 (by decide) (by decide) rfl rfl (C := [_, _]) rfl rfl (fun b85 => ?_)
          refine o_append underlying22 ti95 rfl (by decide) rfl j1 rfl (At.all inn) rfl rfl (by omega) (by omega) hol (fun v86 R86 j86 => ?_)
          refine o_y (y_assign rfl) ?_
          refine o_nil ?_
          refine x_subO (o2.fp ++ (R86 ++ ((b3, (cl [.int .i64 c.group, .int .i64 c.epoch, .int .i64 c.by_, .int .i64 c.member, .int .i64 c.keyEpoch, .bool c.external, u6, u7, u8, u9, .int .i64 c.own, .int .i64 c.entry, u12, .int .i64 c.face, .int .i64 c.card] 31)) :: O))) (fun q s e0 e1 e2 => by simp only [OwnLs.fp, e0, e1, e2]; omega) ?_
          have jX := j86.cast (m := o2.xs.length) (by simp [OwnLs.xs])
          have hX5 : o2.xs.length ≤ 2 * (k + 1) := by rw [List.length_append]; simp only [List.length_singleton]; omega
          refine x_region rfl ?_
          refine o_y (y_move rfl) ?_
          refine o_y (y_addN rfl rfl (by omega) (by omega)) ?_
          refine o_y (y_assign rfl) ?_
          refine o_nil ?_
          have hk2 : k + 1 ≤ xs.length := hkk
          refine ⟨(k + 1, _, v86, o2.cs, o2.xs, R86, o2.fp), 0, rfl, (.c rfl (.c rfl (.c rfl (.c rfl (.c rfl .n))))), rfl, ⟨hk2, jX, o2, ?_, hX5⟩, by simp only; omega⟩
          first
            | (exfalso; omega)
            | exact rapp_n1 hkk i4 (by assumption) (by assumption)
            | exact rapp_n2 hkk i4 (by assumption)
            | exact rapp_n3 hkk i4 (by simp_all) (by assumption)
        try simp only [kk] at hc5
        refine x_skip ?_
        first | (have o2 := o2) | (have o2 := OwnLs.c o1 q61_0 (x := xs[k]) (va := .slice p70 (0 + xs[k].commits.length) c70) (by rw [Nat.zero_add] at j70 ⊢; exact j70) (by rw [List.nil_append]; exact n70) (by omega))
        refine x_region rfl ?_
        refine o_y (y_move rfl) ?_
        refine o_y (y_loadA ti95 rfl inn rfl) ?_
        refine o_slice1 underlying22 ti95 (by decide) (by decide) rfl rfl (C := [_, _]) rfl rfl (fun b85 => ?_)
        refine o_append underlying22 ti95 rfl (by decide) rfl j1 rfl (At.all inn) rfl rfl (by omega) (by omega) hol (fun v86 R86 j86 => ?_)
        refine o_y (y_assign rfl) ?_
        refine o_nil ?_
        refine x_subO (o2.fp ++ (R86 ++ ((b3, (cl [.int .i64 c.group, .int .i64 c.epoch, .int .i64 c.by_, .int .i64 c.member, .int .i64 c.keyEpoch, .bool c.external, u6, u7, u8, u9, .int .i64 c.own, .int .i64 c.entry, u12, .int .i64 c.face, .int .i64 c.card] 31)) :: O))) (fun q s e0 e1 e2 => by simp only [OwnLs.fp, e0, e1, e2]; omega) ?_
        have jX := j86.cast (m := o2.xs.length) (by simp [OwnLs.xs])
        have hX5 : o2.xs.length ≤ 2 * (k + 1) := by rw [List.length_append]; simp only [List.length_singleton]; omega
        refine x_region rfl ?_
        refine o_y (y_move rfl) ?_
        refine o_y (y_addN rfl rfl (by omega) (by omega)) ?_
        refine o_y (y_assign rfl) ?_
        refine o_nil ?_
        have hk2 : k + 1 ≤ xs.length := hkk
        refine ⟨(k + 1, _, v86, o2.cs, o2.xs, R86, o2.fp), 0, rfl, (.c rfl (.c rfl (.c rfl (.c rfl (.c rfl .n))))), rfl, ⟨hk2, jX, o2, ?_, hX5⟩, by simp only; omega⟩
        first
          | (exfalso; omega)
          | exact rapp_n1 hkk i4 (by assumption) (by assumption)
          | exact rapp_n2 hkk i4 (by assumption)
          | exact rapp_n3 hkk i4 (by simp_all) (by assumption)
    try simp only [kk] at hc3
    refine x_exit ?_
    refine x_seq ?_
    refine x_seq ?_
    obtain rfl : k = xs.length := by omega
    rw [List.drop_length] at i4
    refine x_region rfl ?_
    refine o_y (y_move rfl) ?_
    refine o_y (y_not rfl) ?_
    refine o_nil ?_
    refine x_cond rfl (fun hc6 => ?_) (fun hc6 => ?_)
    · try simp only [kk] at hc6
      refine x_region rfl ?_
      refine o_y (y_move rfl) ?_
      refine o_y (y_fieldAddr fd31_0 ti3 (by decide) rfl) ?_
      refine o_y (y_loadO ti3 rfl inn rfl) ?_
      refine o_y (y_loadA ti31 rfl inn rfl) ?_
      refine o_slice1 underlying93 ti31 (by decide) (by decide) rfl rfl (C := [_, _, _, _, _, _, _, _, _, _, _, _, _, _, _]) rfl rfl (fun b93 => ?_)
      refine o_y (y_buildS bt95 rfl (C := [_, _]) rfl) ?_
      refine o_slice1 underlying22 ti95 (by decide) (by decide) rfl rfl (C := [_, _]) rfl rfl (fun b95 => ?_)
      refine o_append underlying22 ti95 rfl (by decide) rfl i2 rfl (At.all inn) rfl rfl (by omega) (by omega) hol (fun v96 R96 j96 => ?_)
      refine o_y (y_assign rfl) ?_
      refine o_nil ?_
      have jF := j96.cast (m := (ls ++ [(⟨c.group, [c]⟩ : Log)]).length) (by rw [List.length_append]; rfl)
      have oF := OwnLs.c i3 h0 (x := (⟨c.group, [c]⟩ : Log)) (one_row (b := b93) hk) (El.one1 hk) (by simp)
      have eF : ls ++ [(⟨c.group, [c]⟩ : Log)] = appLogs xs c := by
        rw [← rapp_eq hae, ← i4, show d = false by simp_all]; rfl
      have xF : (ls ++ [(⟨c.group, [c]⟩ : Log)]).length ≤ 33 := by rw [List.length_append]; simp only [List.length_singleton]; omega
      refine x_subO ((oF.fp ++ R96) ++ O) (fun q s e0 e1 e2 => by simp only [OwnLs.fp, e0, e1, e2]; omega) ?_
      refine x_freezeP (S := oF.fp ++ R96) (O' := O) (List.Perm.refl _) (fun H9 hX9 hI9 => ?_)
      have rF : RdL H9 v96 (appLogs xs c) := eF ▸ Row.inH jF rfl (oF.el hX9 (fun b o hm => hI9 b o (by simp only [List.mem_append] at hm ⊢; exact .inl hm))) (by have e : Rep.bytes Log = 32 := rfl; rw [e]; omega) (fun b o hm => hI9 b o (by simp [hm]))
      refine x_seq ?_
      refine x_region rfl ?_
      refine o_y (y_move rfl) ?_
      refine o_y (y_assign rfl) ?_
      refine o_y (y_assign rfl) ?_
      refine o_nil ?_
      refine x_ret ?_
      refine x_fin 0 (ret2 rfl rfl rfl) ?_
      rw [hae]; exact ⟨hX9, rfl, _, rfl, rF⟩
    try simp only [kk] at hc6
    have eF : ls = appLogs xs c := by
      rw [← rapp_eq hae, ← i4, show d = true by simp_all]; simp [rapp]
    refine x_subO ((Rs ++ R9) ++ O) (fun q s e0 e1 e2 => by simp only [e0, e1, e2]; omega) ?_
    refine x_freezeP (S := Rs ++ R9) (O' := O) (List.Perm.refl _) (fun H9 hX9 hI9 => ?_)
    have rF : RdL H9 v9 (appLogs xs c) := eF ▸ Row.inH i2 rfl (i3.el hX9 (fun b o hm => hI9 b o (by simp [hm]))) (by have e : Rep.bytes Log = 32 := rfl; rw [e]; omega) (fun b o hm => hI9 b o (by simp [hm]))
    refine x_skip ?_
    refine x_seq ?_
    refine x_region rfl ?_
    refine o_y (y_move rfl) ?_
    refine o_y (y_assign rfl) ?_
    refine o_y (y_assign rfl) ?_
    refine o_nil ?_
    refine x_ret ?_
    refine x_fin 0 (ret2 rfl rfl rfl) ?_
    rw [hae]; exact ⟨hX9, rfl, _, rfl, rF⟩
  try simp only [kk] at hg5_28
  refine o_gn 28 rfl rfl rfl ?_
  refine o_gn 28 rfl rfl rfl ?_
  refine o_gn 28 rfl rfl rfl ?_
  refine o_y (y_pick rfl rfl) ?_
  refine o_nil ?_
  refine x_condF rfl ?_
  refine x_skip ?_
  refine x_seq ?_
  have hae : appErr xs c = 0 := by
    rw [appErr, if_pos ⟨hv, ht⟩, if_pos he, if_neg]
    rintro ⟨e1, e2⟩
    have := hnf.2 e1
    omega
  refine x_region rfl ?_
  refine o_y (y_assign rfl) ?_
  refine o_nil ?_
  refine x_seq ?_
  refine x_region rfl ?_
  refine o_y (y_assign rfl) ?_
  refine o_nil ?_
  refine x_seq ?_
  refine x_seq ?_
  refine x_region rfl ?_
  refine o_y (y_assign rfl) ?_
  refine o_nil ?_
  refine x_block ?_
  refine x_loopf (σ := Nat × Bool × Value × List Value × List Log × OL × OL) (fun s => [(8, .int .i64 (s.1 : Int)), (7, .bool s.2.1), (6, s.2.2.1), (0, v), (3, .pointer (some ⟨b3, 0, none⟩))]) (fun s => s.2.2.2.2.2.2 ++ (s.2.2.2.2.2.1 ++ _)) (fun s => s.1 ≤ xs.length ∧ Row s.2.2.1 s.2.2.2.2.1.length s.2.2.2.1 95 2 s.2.2.2.2.2.1 ∧ OwnLs H s.2.2.2.1 s.2.2.2.2.1 s.2.2.2.2.2.2 ∧ s.2.2.2.2.1 ++ rapp c s.2.1 (xs.drop s.1) = rapp c false xs ∧ s.2.2.2.2.1.length ≤ 2 * s.1) (fun s => xs.length - s.1) (0, false, .slice none 0 0, [], [], [], []) ⟨by simp, Row.nil _ _, .n, rfl, by simp⟩ (.c rfl (.c rfl (.c rfl (.c rfl (.c rfl .n))))) rfl ?_
  rintro ⟨k, d, v9, cs9, ls, R9, Rs⟩ ⟨i1, i2, i3, i4, i5⟩
  simp only at i1 i2 i3 i4 i5
  refine x_seq ?_
  refine x_seq ?_
  refine x_region rfl ?_
  refine o_y (y_move rfl) ?_
  refine o_y (y_move rfl) ?_
  refine o_y (y_lenA underlying22 rfl) ?_
  refine o_y (y_lss rfl rfl) ?_
  refine o_nil ?_
  refine x_cond rfl (fun hc3 => ?_) (fun hc3 => ?_)
  · try simp only [kk] at hc3
    have hkk : k < xs.length := by omega
    have hsk := hsm _ (List.getElem_mem hkk)
    refine x_skip ?_
    refine x_seq ?_
    refine x_block ?_
    refine x_seq ?_
    refine x_seq ?_
    refine x_regionQ mixed (by kernel_rfl) rfl ?_
    refine q_y (y_move rfl) ?_
    refine q_y (y_not rfl) ?_
    refine q_y (y_move rfl) ?_
    refine q_split 41 rfl (fun hg12_41 => ?_) (fun hg12_41 => ?_)
    · try simp only [kk] at hg12_41
      refine q_gy 41 rfl rfl (y_move rfl) ?_
      refine q_gy 41 rfl rfl (y_move rfl) ?_
      obtain ⟨ce44, ae44, re44⟩ := RdL.at h _ k hkk
      have se44 := AtS.isSl ae44
      have te44 := re44
      obtain ⟨u44_1, z44, q44_0, q44_1⟩ := re44
      subst z44
      have w44 := Rep.one te44
      refine q_gy 41 rfl rfl (y_idxL h k hkk underlying22 ti95 rfl rfl (by omega)) ?_
      refine q_gy 41 rfl rfl (y_fieldAddrP fd95_0 ti3 (by decide) (by assumption) rfl) ?_
      refine q_gy 41 rfl rfl (y_loadS1 ti3 rfl (by assumption) rfl) ?_
      refine q_gy 41 rfl rfl (y_fieldAddr fd31_0 ti3 (by decide) rfl) ?_
      refine q_gy 41 rfl rfl (y_loadO ti3 rfl inn rfl) ?_
      refine q_gy 41 rfl rfl (y_gtr rfl rfl) ?_
      refine q_y (y_pick rfl rfl) ?_
      refine q_nil ?_
      refine x_cond rfl (fun hc4 => ?_) (fun hc4 => ?_)
      · try simp only [kk] at hc4
        refine x_seq ?_
        refine x_region rfl ?_
        refine o_y (y_move rfl) ?_
        refine o_y (y_fieldAddr fd31_0 ti3 (by decide) rfl) ?_
        refine o_y (y_loadO ti3 rfl inn rfl) ?_
        refine o_y (y_loadA ti31 rfl inn rfl) ?_
        refine o_slice1 underlying93 ti31 (by decide) (by decide) rfl rfl (C := [_, _, _, _, _, _, _, _, _, _, _, _, _, _, _]) rfl rfl (fun b55 => ?_)
        refine o_y (y_buildS bt95 rfl (C := [_, _]) rfl) ?_
        refine o_slice1 underlying22 ti95 (by decide) (by decide) rfl rfl (C := [_, _]) rfl rfl (fun b57 => ?_)
        refine o_append underlying22 ti95 rfl (by decide) rfl i2 rfl (At.all inn) rfl rfl (by omega) (by omega) hol (fun v58 R58 j58 => ?_)
        refine o_y (y_assign rfl) ?_
        refine o_nil ?_
        have j1 := j58.cast (m := (ls ++ [(⟨c.group, [c]⟩ : Log)]).length) (by rw [List.length_append]; rfl)
        have o1 := OwnLs.c i3 h0 (x := (⟨c.group, [c]⟩ : Log)) (one_row (b := b55) hk) (El.one1 hk) (by simp)
        have hl1 : (ls ++ [(⟨c.group, [c]⟩ : Log)]).length ≤ 2 * k + 1 := by rw [List.length_append]; simp; omega
        refine x_region rfl ?_
        refine o_y (y_assign rfl) ?_
        refine o_nil ?_
        refine x_seq ?_
        first | (have j1 := j1) | (have j1 := i2; have o1 := i3; have hl1 : ls.length ≤ 2 * k + 1 := by omega)
        have hc0 : 0 < xs[k].commits.length := ((lcheck_spec.1 hv).2.2 _ (List.getElem_mem hkk)).1
        refine x_regionG _ (fun _ h => h) [0, 1, 2, 3, 4, 6, 7, 8, 9, 10, 12] [14] mixed (by kernel_rfl) npa ?_
        have hE := Ext.refl H
        refine g_take 0 (by kernel_rfl) rfl rfl rfl (y_move rfl) ?_
        refine g_take 1 (by kernel_rfl) rfl rfl rfl (y_move rfl) ?_
        obtain ⟨ce61, ae61, re61⟩ := RdL.at h _ k hkk
        have se61 := AtS.isSl ae61
        have te61 := re61
        obtain ⟨u61_1, z61, q61_0, q61_1⟩ := re61
        subst z61
        have w61 := Rep.one te61
        refine g_take 2 (by kernel_rfl) rfl rfl rfl (y_idxL h k hkk underlying22 ti95 rfl rfl (by omega)) ?_
        refine g_take 3 (by kernel_rfl) rfl rfl rfl (y_fieldAddrP fd95_0 ti3 (by decide) (by assumption) rfl) ?_
        refine g_take 4 (by kernel_rfl) rfl rfl rfl (y_loadS1 ti3 rfl (by assumption) rfl) ?_
        refine g_take 6 (by kernel_rfl) rfl rfl rfl (y_move rfl) ?_
        refine g_take 7 (by kernel_rfl) rfl rfl rfl (y_move rfl) ?_
        obtain ⟨ce67, ae67, re67⟩ := RdL.at h _ k hkk
        have se67 := AtS.isSl ae67
        have te67 := re67
        obtain ⟨u67_1, z67, q67_0, q67_1⟩ := re67
        subst z67
        have w67 := Rep.one te67
        refine g_take 8 (by kernel_rfl) rfl rfl rfl (y_idxL h k hkk underlying22 ti95 rfl rfl (by omega)) ?_
        refine g_take 9 (by kernel_rfl) rfl rfl rfl (y_fieldAddrP fd95_1 ti93 (by decide) (by assumption) rfl) ?_
        refine g_take 10 (by kernel_rfl) rfl rfl rfl (y_loadS1 ti93 rfl (by assumption) rfl) ?_
        refine g_all2 (i := 5) (j := 13) (by kernel_rfl) ?g28a ?g28b
        case' g28a =>
          refine g_one rfl rfl rfl rfl ?_
          refine o_slice0 underlying93 ti31 (fun b64 => ?_)
          refine o_nil ?_
          refine ⟨.inr ⟨hE, hld⟩, ?_⟩
          refine g_all2 (i := 11) (j := 13) (by kernel_rfl) ?g29a ?g29b
          case' g29a =>
            refine g_one rfl rfl rfl rfl ?_
            have hs67 : ∃ a n c, u67_1 = .slice (some a) n c := by
              obtain ⟨p, c', rfl⟩ := q67_1.shape
              obtain ⟨q, h4, _⟩ := q67_1.at [] 0 hc0
              have h5 := AtS.isSl h4
              cases p with
              | none => simp [isSl] at h5
              | some a => exact ⟨a, _, c', rfl⟩
            refine o_appendL (α := Commit) underlying93 ti31 rfl (by decide) rfl rfl Row.made rfl q67_1 hs67 (by omega) (by omega) hol (fun v70 R70 nw70 n70 j70 => ?_)
            refine o_nil ?_
            obtain ⟨p70, c70, rfl⟩ := j70.shape
            refine ⟨.inr ⟨hE, hld⟩, ?_⟩
            refine g_take 12 (by kernel_rfl) rfl rfl rfl (y_buildS bt95 rfl (C := [_, _]) rfl) ?_
            refine g_all1 (i := 13) (by kernel_rfl) ?_
            refine g_one rfl rfl rfl rfl ?_
            refine o_alloc ti95 rfl (fun b9 => ?_)
            refine o_nil ?_
            refine ⟨.inr ⟨hE, hld⟩, ?_⟩
            refine g_all1 (i := 14) (by kernel_rfl) ?_
            refine g_one rfl rfl rfl rfl ?_
            refine o_store (u := [_, _]) (C' := [_, _]) ti95 rfl rfl rfl rfl (by first | rfl | assumption | (simp only [ones, List.all_cons, List.all_nil, Bool.and_true, one_of (by assumption)]; done)) (by repeat (first | exact .z | apply Upd.s | apply Upd.a)) (by exact Nat.le_of_ble_eq_true rfl) (by rfl) ?_
            refine o_nil ?_
            refine ⟨.inl rfl, ?_⟩
            refine g_nil (by kernel_rfl) ?_
          case' g29b =>
            refine g_one rfl rfl rfl rfl ?_
            refine o_alloc ti95 rfl (fun b9 => ?_)
            refine o_nil ?_
            refine ⟨.inr ⟨hE, hld⟩, ?_⟩
            refine g_all1 (i := 11) (by kernel_rfl) ?_
            refine g_one rfl rfl rfl rfl ?_
            have hs67 : ∃ a n c, u67_1 = .slice (some a) n c := by
              obtain ⟨p, c', rfl⟩ := q67_1.shape
              obtain ⟨q, h4, _⟩ := q67_1.at [] 0 hc0
              have h5 := AtS.isSl h4
              cases p with
              | none => simp [isSl] at h5
              | some a => exact ⟨a, _, c', rfl⟩
            refine o_appendL (α := Commit) underlying93 ti31 rfl (by decide) rfl rfl Row.made rfl q67_1 hs67 (by omega) (by omega) hol (fun v70 R70 nw70 n70 j70 => ?_)
            refine o_nil ?_
            obtain ⟨p70, c70, rfl⟩ := j70.shape
            refine ⟨.inr ⟨hE, hld⟩, ?_⟩
            refine g_take 12 (by kernel_rfl) rfl rfl rfl (y_buildS bt95 rfl (C := [_, _]) rfl) ?_
            refine g_all1 (i := 14) (by kernel_rfl) ?_
            refine g_one rfl rfl rfl rfl ?_
            refine o_store (u := [_, _]) (C' := [_, _]) ti95 rfl rfl rfl rfl (by first | rfl | assumption | (simp only [ones, List.all_cons, List.all_nil, Bool.and_true, one_of (by assumption)]; done)) (by repeat (first | exact .z | apply Upd.s | apply Upd.a)) (by exact Nat.le_of_ble_eq_true rfl) (by rfl) ?_
            refine o_nil ?_
            refine ⟨.inl rfl, ?_⟩
            refine g_nil (by kernel_rfl) ?_
        case' g28b =>
          refine g_one rfl rfl rfl rfl ?_
          refine o_alloc ti95 rfl (fun b9 => ?_)
          refine o_nil ?_
          refine ⟨.inr ⟨hE, hld⟩, ?_⟩
          refine g_all1 (i := 5) (by kernel_rfl) ?_
          refine g_one rfl rfl rfl rfl ?_
          refine o_slice0 underlying93 ti31 (fun b64 => ?_)
          refine o_nil ?_
          refine ⟨.inr ⟨hE, hld⟩, ?_⟩
          refine g_all1 (i := 11) (by kernel_rfl) ?_
          refine g_one rfl rfl rfl rfl ?_
          have hs67 : ∃ a n c, u67_1 = .slice (some a) n c := by
            obtain ⟨p, c', rfl⟩ := q67_1.shape
            obtain ⟨q, h4, _⟩ := q67_1.at [] 0 hc0
            have h5 := AtS.isSl h4
            cases p with
            | none => simp [isSl] at h5
            | some a => exact ⟨a, _, c', rfl⟩
          refine o_appendL (α := Commit) underlying93 ti31 rfl (by decide) rfl rfl Row.made rfl q67_1 hs67 (by omega) (by omega) hol (fun v70 R70 nw70 n70 j70 => ?_)
          refine o_nil ?_
          obtain ⟨p70, c70, rfl⟩ := j70.shape
          refine ⟨.inr ⟨hE, hld⟩, ?_⟩
          refine g_take 12 (by kernel_rfl) rfl rfl rfl (y_buildS bt95 rfl (C := [_, _]) rfl) ?_
          refine g_all1 (i := 14) (by kernel_rfl) ?_
          refine g_one rfl rfl rfl rfl ?_
          refine o_store (u := [_, _]) (C' := [_, _]) ti95 rfl rfl rfl rfl (by first | rfl | assumption | (simp only [ones, List.all_cons, List.all_nil, Bool.and_true, one_of (by assumption)]; done)) (by repeat (first | exact .z | apply Upd.s | apply Upd.a)) (by exact Nat.le_of_ble_eq_true rfl) (by rfl) ?_
          refine o_nil ?_
          refine ⟨.inl rfl, ?_⟩
          refine g_nil (by kernel_rfl) ?_
        all_goals
          refine x_seq ?_
          refine x_seq ?_
          refine x_region rfl ?_
          refine o_y (y_fieldAddr fd95_0 ti3 (by decide) rfl) ?_
          refine o_y (y_loadO ti3 rfl inn rfl) ?_
          refine o_y (y_fieldAddr fd31_0 ti3 (by decide) rfl) ?_
          refine o_y (y_loadO ti3 rfl inn rfl) ?_
          refine o_y (y_eql rfl rfl) ?_
          refine o_nil ?_
          refine x_cond rfl (fun hc5 => ?_) (fun hc5 => ?_)
          · try simp only [kk] at hc5
            refine x_seq ?_
            refine x_region rfl ?_
            refine o_y (y_fieldAddr fd95_1 ti93 (by decide) rfl) ?_
            refine o_y (y_loadO ti93 rfl inn rfl) ?_
            refine o_y (y_loadA ti31 rfl inn rfl) ?_
            refine o_slice1 underlying93 ti31 (by decide) (by decide) rfl rfl (C := [_, _, _, _, _, _, _, _, _, _, _, _, _, _, _]) rfl rfl (fun b80 => ?_)
            refine o_append underlying93 ti31 rfl (by decide) rfl j70 rfl (At.all inn) rfl wk (by omega) (by omega) hol (fun v81 R81 j81 => ?_)
            obtain ⟨p81, c81, rfl⟩ := j81.shape
            refine o_y (y_fieldAddr fd95_1 ti93 (by decide) rfl) ?_
            refine o_store (u := [_]) (C' := [_, _]) ti93 rfl rfl rfl rfl (by first | rfl | assumption | (simp only [ones, List.all_cons, List.all_nil, Bool.and_true, one_of (by assumption)]; done)) (by repeat (first | exact .z | apply Upd.s | apply Upd.a)) (by exact Nat.le_of_ble_eq_true rfl) (by rfl) ?_
            refine o_nil ?_
            have jo := j81.cast (m := (xs[k].commits ++ [c]).length) (by simp)
            have o2 := OwnLs.c o1 q61_0 (x := (⟨xs[k].group, xs[k].commits ++ [c]⟩ : Log)) jo (El.append n70 (El.one1 hk)) (by simp; omega)
            refine x_region rfl ?_
            refine o_y (y_assign rfl) ?_
            refine o_nil ?_
            first | (have o2 := o2) | (have o2 := OwnLs.c o1 q61_0 (x := xs[k]) (va := .slice p70 (0 + xs[k].commits.length) c70) (by rw [Nat.zero_add] at j70 ⊢; exact j70) (by rw [List.nil_append]; exact n70) (by omega))
            refine x_region rfl ?_
            refine o_y (y_move rfl) ?_
            refine o_y (y_loadA ti95 rfl inn rfl) ?_
            refine o_slice1 underlying22 ti95 (by decide) (by decide) rfl rfl (C := [_, _]) rfl rfl (fun b85 => ?_)
            refine o_append underlying22 ti95 rfl (by decide) rfl j1 rfl (At.all inn) rfl rfl (by omega) (by omega) hol (fun v86 R86 j86 => ?_)
            refine o_y (y_assign rfl) ?_
            refine o_nil ?_
            refine x_subO (o2.fp ++ (R86 ++ ((b3, (cl [.int .i64 c.group, .int .i64 c.epoch, .int .i64 c.by_, .int .i64 c.member, .int .i64 c.keyEpoch, .bool c.external, u6, u7, u8, u9, .int .i64 c.own, .int .i64 c.entry, u12, .int .i64 c.face, .int .i64 c.card] 31)) :: O))) (fun q s e0 e1 e2 => by simp only [OwnLs.fp, e0, e1, e2]; omega) ?_
            have jX := j86.cast (m := o2.xs.length) (by simp [OwnLs.xs])
            have hX5 : o2.xs.length ≤ 2 * (k + 1) := by rw [List.length_append]; simp only [List.length_singleton]; omega
            refine x_region rfl ?_
            refine o_y (y_move rfl) ?_
            refine o_y (y_addN rfl rfl (by omega) (by omega)) ?_
            refine o_y (y_assign rfl) ?_
            refine o_nil ?_
            have hk2 : k + 1 ≤ xs.length := hkk
            refine ⟨(k + 1, _, v86, o2.cs, o2.xs, R86, o2.fp), 0, rfl, (.c rfl (.c rfl (.c rfl (.c rfl (.c rfl .n))))), rfl, ⟨hk2, jX, o2, ?_, hX5⟩, by simp only; omega⟩
            first
              | (exfalso; omega)
              | exact rapp_n1 hkk i4 (by assumption) (by assumption)
              | exact rapp_n2 hkk i4 (by assumption)
              | exact rapp_n3 hkk i4 (by simp_all) (by assumption)
          try simp only [kk] at hc5
          refine x_skip ?_
          first | (have o2 := o2) | (have o2 := OwnLs.c o1 q61_0 (x := xs[k]) (va := .slice p70 (0 + xs[k].commits.length) c70) (by rw [Nat.zero_add] at j70 ⊢; exact j70) (by rw [List.nil_append]; exact n70) (by omega))
          refine x_region rfl ?_
          refine o_y (y_move rfl) ?_
          refine o_y (y_loadA ti95 rfl inn rfl) ?_
          refine o_slice1 underlying22 ti95 (by decide) (by decide) rfl rfl (C := [_, _]) rfl rfl (fun b85 => ?_)
          refine o_append underlying22 ti95 rfl (by decide) rfl j1 rfl (At.all inn) rfl rfl (by omega) (by omega) hol (fun v86 R86 j86 => ?_)
          refine o_y (y_assign rfl) ?_
          refine o_nil ?_
          refine x_subO (o2.fp ++ (R86 ++ ((b3, (cl [.int .i64 c.group, .int .i64 c.epoch, .int .i64 c.by_, .int .i64 c.member, .int .i64 c.keyEpoch, .bool c.external, u6, u7, u8, u9, .int .i64 c.own, .int .i64 c.entry, u12, .int .i64 c.face, .int .i64 c.card] 31)) :: O))) (fun q s e0 e1 e2 => by simp only [OwnLs.fp, e0, e1, e2]; omega) ?_
          have jX := j86.cast (m := o2.xs.length) (by simp [OwnLs.xs])
          have hX5 : o2.xs.length ≤ 2 * (k + 1) := by rw [List.length_append]; simp only [List.length_singleton]; omega
          refine x_region rfl ?_
          refine o_y (y_move rfl) ?_
          refine o_y (y_addN rfl rfl (by omega) (by omega)) ?_
          refine o_y (y_assign rfl) ?_
          refine o_nil ?_
          have hk2 : k + 1 ≤ xs.length := hkk
          refine ⟨(k + 1, _, v86, o2.cs, o2.xs, R86, o2.fp), 0, rfl, (.c rfl (.c rfl (.c rfl (.c rfl (.c rfl .n))))), rfl, ⟨hk2, jX, o2, ?_, hX5⟩, by simp only; omega⟩
          first
            | (exfalso; omega)
            | exact rapp_n1 hkk i4 (by assumption) (by assumption)
            | exact rapp_n2 hkk i4 (by assumption)
            | exact rapp_n3 hkk i4 (by simp_all) (by assumption)
      try simp only [kk] at hc4
      refine x_skip ?_
      refine x_seq ?_
      first | (have j1 := j1) | (have j1 := i2; have o1 := i3; have hl1 : ls.length ≤ 2 * k + 1 := by omega)
      have hc0 : 0 < xs[k].commits.length := ((lcheck_spec.1 hv).2.2 _ (List.getElem_mem hkk)).1
      refine x_regionG _ (fun _ h => h) [0, 1, 2, 3, 4, 6, 7, 8, 9, 10, 12] [14] mixed (by kernel_rfl) npa ?_
      have hE := Ext.refl H
      refine g_take 0 (by kernel_rfl) rfl rfl rfl (y_move rfl) ?_
      refine g_take 1 (by kernel_rfl) rfl rfl rfl (y_move rfl) ?_
      obtain ⟨ce61, ae61, re61⟩ := RdL.at h _ k hkk
      have se61 := AtS.isSl ae61
      have te61 := re61
      obtain ⟨u61_1, z61, q61_0, q61_1⟩ := re61
      subst z61
      have w61 := Rep.one te61
      refine g_take 2 (by kernel_rfl) rfl rfl rfl (y_idxL h k hkk underlying22 ti95 rfl rfl (by omega)) ?_
      refine g_take 3 (by kernel_rfl) rfl rfl rfl (y_fieldAddrP fd95_0 ti3 (by decide) (by assumption) rfl) ?_
      refine g_take 4 (by kernel_rfl) rfl rfl rfl (y_loadS1 ti3 rfl (by assumption) rfl) ?_
      refine g_take 6 (by kernel_rfl) rfl rfl rfl (y_move rfl) ?_
      refine g_take 7 (by kernel_rfl) rfl rfl rfl (y_move rfl) ?_
      obtain ⟨ce67, ae67, re67⟩ := RdL.at h _ k hkk
      have se67 := AtS.isSl ae67
      have te67 := re67
      obtain ⟨u67_1, z67, q67_0, q67_1⟩ := re67
      subst z67
      have w67 := Rep.one te67
      refine g_take 8 (by kernel_rfl) rfl rfl rfl (y_idxL h k hkk underlying22 ti95 rfl rfl (by omega)) ?_
      refine g_take 9 (by kernel_rfl) rfl rfl rfl (y_fieldAddrP fd95_1 ti93 (by decide) (by assumption) rfl) ?_
      refine g_take 10 (by kernel_rfl) rfl rfl rfl (y_loadS1 ti93 rfl (by assumption) rfl) ?_
      refine g_all2 (i := 5) (j := 13) (by kernel_rfl) ?g37a ?g37b
      case' g37a =>
        refine g_one rfl rfl rfl rfl ?_
        refine o_slice0 underlying93 ti31 (fun b64 => ?_)
        refine o_nil ?_
        refine ⟨.inr ⟨hE, hld⟩, ?_⟩
        refine g_all2 (i := 11) (j := 13) (by kernel_rfl) ?g38a ?g38b
        case' g38a =>
          refine g_one rfl rfl rfl rfl ?_
          have hs67 : ∃ a n c, u67_1 = .slice (some a) n c := by
            obtain ⟨p, c', rfl⟩ := q67_1.shape
            obtain ⟨q, h4, _⟩ := q67_1.at [] 0 hc0
            have h5 := AtS.isSl h4
            cases p with
            | none => simp [isSl] at h5
            | some a => exact ⟨a, _, c', rfl⟩
          refine o_appendL (α := Commit) underlying93 ti31 rfl (by decide) rfl rfl Row.made rfl q67_1 hs67 (by omega) (by omega) hol (fun v70 R70 nw70 n70 j70 => ?_)
          refine o_nil ?_
          obtain ⟨p70, c70, rfl⟩ := j70.shape
          refine ⟨.inr ⟨hE, hld⟩, ?_⟩
          refine g_take 12 (by kernel_rfl) rfl rfl rfl (y_buildS bt95 rfl (C := [_, _]) rfl) ?_
          refine g_all1 (i := 13) (by kernel_rfl) ?_
          refine g_one rfl rfl rfl rfl ?_
          refine o_alloc ti95 rfl (fun b9 => ?_)
          refine o_nil ?_
          refine ⟨.inr ⟨hE, hld⟩, ?_⟩
          refine g_all1 (i := 14) (by kernel_rfl) ?_
          refine g_one rfl rfl rfl rfl ?_
          refine o_store (u := [_, _]) (C' := [_, _]) ti95 rfl rfl rfl rfl (by first | rfl | assumption | (simp only [ones, List.all_cons, List.all_nil, Bool.and_true, one_of (by assumption)]; done)) (by repeat (first | exact .z | apply Upd.s | apply Upd.a)) (by exact Nat.le_of_ble_eq_true rfl) (by rfl) ?_
          refine o_nil ?_
          refine ⟨.inl rfl, ?_⟩
          refine g_nil (by kernel_rfl) ?_
        case' g38b =>
          refine g_one rfl rfl rfl rfl ?_
          refine o_alloc ti95 rfl (fun b9 => ?_)
          refine o_nil ?_
          refine ⟨.inr ⟨hE, hld⟩, ?_⟩
          refine g_all1 (i := 11) (by kernel_rfl) ?_
          refine g_one rfl rfl rfl rfl ?_
          have hs67 : ∃ a n c, u67_1 = .slice (some a) n c := by
            obtain ⟨p, c', rfl⟩ := q67_1.shape
            obtain ⟨q, h4, _⟩ := q67_1.at [] 0 hc0
            have h5 := AtS.isSl h4
            cases p with
            | none => simp [isSl] at h5
            | some a => exact ⟨a, _, c', rfl⟩
          refine o_appendL (α := Commit) underlying93 ti31 rfl (by decide) rfl rfl Row.made rfl q67_1 hs67 (by omega) (by omega) hol (fun v70 R70 nw70 n70 j70 => ?_)
          refine o_nil ?_
          obtain ⟨p70, c70, rfl⟩ := j70.shape
          refine ⟨.inr ⟨hE, hld⟩, ?_⟩
          refine g_take 12 (by kernel_rfl) rfl rfl rfl (y_buildS bt95 rfl (C := [_, _]) rfl) ?_
          refine g_all1 (i := 14) (by kernel_rfl) ?_
          refine g_one rfl rfl rfl rfl ?_
          refine o_store (u := [_, _]) (C' := [_, _]) ti95 rfl rfl rfl rfl (by first | rfl | assumption | (simp only [ones, List.all_cons, List.all_nil, Bool.and_true, one_of (by assumption)]; done)) (by repeat (first | exact .z | apply Upd.s | apply Upd.a)) (by exact Nat.le_of_ble_eq_true rfl) (by rfl) ?_
          refine o_nil ?_
          refine ⟨.inl rfl, ?_⟩
          refine g_nil (by kernel_rfl) ?_
      case' g37b =>
        refine g_one rfl rfl rfl rfl ?_
        refine o_alloc ti95 rfl (fun b9 => ?_)
        refine o_nil ?_
        refine ⟨.inr ⟨hE, hld⟩, ?_⟩
        refine g_all1 (i := 5) (by kernel_rfl) ?_
        refine g_one rfl rfl rfl rfl ?_
        refine o_slice0 underlying93 ti31 (fun b64 => ?_)
        refine o_nil ?_
        refine ⟨.inr ⟨hE, hld⟩, ?_⟩
        refine g_all1 (i := 11) (by kernel_rfl) ?_
        refine g_one rfl rfl rfl rfl ?_
        have hs67 : ∃ a n c, u67_1 = .slice (some a) n c := by
          obtain ⟨p, c', rfl⟩ := q67_1.shape
          obtain ⟨q, h4, _⟩ := q67_1.at [] 0 hc0
          have h5 := AtS.isSl h4
          cases p with
          | none => simp [isSl] at h5
          | some a => exact ⟨a, _, c', rfl⟩
        refine o_appendL (α := Commit) underlying93 ti31 rfl (by decide) rfl rfl Row.made rfl q67_1 hs67 (by omega) (by omega) hol (fun v70 R70 nw70 n70 j70 => ?_)
        refine o_nil ?_
        obtain ⟨p70, c70, rfl⟩ := j70.shape
        refine ⟨.inr ⟨hE, hld⟩, ?_⟩
        refine g_take 12 (by kernel_rfl) rfl rfl rfl (y_buildS bt95 rfl (C := [_, _]) rfl) ?_
        refine g_all1 (i := 14) (by kernel_rfl) ?_
        refine g_one rfl rfl rfl rfl ?_
        refine o_store (u := [_, _]) (C' := [_, _]) ti95 rfl rfl rfl rfl (by first | rfl | assumption | (simp only [ones, List.all_cons, List.all_nil, Bool.and_true, one_of (by assumption)]; done)) (by repeat (first | exact .z | apply Upd.s | apply Upd.a)) (by exact Nat.le_of_ble_eq_true rfl) (by rfl) ?_
        refine o_nil ?_
        refine ⟨.inl rfl, ?_⟩
        refine g_nil (by kernel_rfl) ?_
      all_goals
        refine x_seq ?_
        refine x_seq ?_
        refine x_region rfl ?_
        refine o_y (y_fieldAddr fd95_0 ti3 (by decide) rfl) ?_
        refine o_y (y_loadO ti3 rfl inn rfl) ?_
        refine o_y (y_fieldAddr fd31_0 ti3 (by decide) rfl) ?_
        refine o_y (y_loadO ti3 rfl inn rfl) ?_
        refine o_y (y_eql rfl rfl) ?_
        refine o_nil ?_
        refine x_cond rfl (fun hc5 => ?_) (fun hc5 => ?_)
        · try simp only [kk] at hc5
          refine x_seq ?_
          refine x_region rfl ?_
          refine o_y (y_fieldAddr fd95_1 ti93 (by decide) rfl) ?_
          refine o_y (y_loadO ti93 rfl inn rfl) ?_
          refine o_y (y_loadA ti31 rfl inn rfl) ?_
          refine o_slice1 underlying93 ti31 (by decide) (by decide) rfl rfl (C := [_, _, _, _, _, _, _, _, _, _, _, _, _, _, _]) rfl rfl (fun b80 => ?_)
          refine o_append underlying93 ti31 rfl (by decide) rfl j70 rfl (At.all inn) rfl wk (by omega) (by omega) hol (fun v81 R81 j81 => ?_)
          obtain ⟨p81, c81, rfl⟩ := j81.shape
          refine o_y (y_fieldAddr fd95_1 ti93 (by decide) rfl) ?_
          refine o_store (u := [_]) (C' := [_, _]) ti93 rfl rfl rfl rfl (by first | rfl | assumption | (simp only [ones, List.all_cons, List.all_nil, Bool.and_true, one_of (by assumption)]; done)) (by repeat (first | exact .z | apply Upd.s | apply Upd.a)) (by exact Nat.le_of_ble_eq_true rfl) (by rfl) ?_
          refine o_nil ?_
          have jo := j81.cast (m := (xs[k].commits ++ [c]).length) (by simp)
          have o2 := OwnLs.c o1 q61_0 (x := (⟨xs[k].group, xs[k].commits ++ [c]⟩ : Log)) jo (El.append n70 (El.one1 hk)) (by simp; omega)
          refine x_region rfl ?_
          refine o_y (y_assign rfl) ?_
          refine o_nil ?_
          first | (have o2 := o2) | (have o2 := OwnLs.c o1 q61_0 (x := xs[k]) (va := .slice p70 (0 + xs[k].commits.length) c70) (by rw [Nat.zero_add] at j70 ⊢; exact j70) (by rw [List.nil_append]; exact n70) (by omega))
          refine x_region rfl ?_
          refine o_y (y_move rfl) ?_
          refine o_y (y_loadA ti95 rfl inn rfl) ?_
          refine o_slice1 underlying22 ti95 (by decide) (by decide) rfl rfl (C := [_, _]) rfl rfl (fun b85 => ?_)
          refine o_append underlying22 ti95 rfl (by decide) rfl j1 rfl (At.all inn) rfl rfl (by omega) (by omega) hol (fun v86 R86 j86 => ?_)
          refine o_y (y_assign rfl) ?_
          refine o_nil ?_
          refine x_subO (o2.fp ++ (R86 ++ ((b3, (cl [.int .i64 c.group, .int .i64 c.epoch, .int .i64 c.by_, .int .i64 c.member, .int .i64 c.keyEpoch, .bool c.external, u6, u7, u8, u9, .int .i64 c.own, .int .i64 c.entry, u12, .int .i64 c.face, .int .i64 c.card] 31)) :: O))) (fun q s e0 e1 e2 => by simp only [OwnLs.fp, e0, e1, e2]; omega) ?_
          have jX := j86.cast (m := o2.xs.length) (by simp [OwnLs.xs])
          have hX5 : o2.xs.length ≤ 2 * (k + 1) := by rw [List.length_append]; simp only [List.length_singleton]; omega
          refine x_region rfl ?_
          refine o_y (y_move rfl) ?_
          refine o_y (y_addN rfl rfl (by omega) (by omega)) ?_
          refine o_y (y_assign rfl) ?_
          refine o_nil ?_
          have hk2 : k + 1 ≤ xs.length := hkk
          refine ⟨(k + 1, _, v86, o2.cs, o2.xs, R86, o2.fp), 0, rfl, (.c rfl (.c rfl (.c rfl (.c rfl (.c rfl .n))))), rfl, ⟨hk2, jX, o2, ?_, hX5⟩, by simp only; omega⟩
          first
            | (exfalso; omega)
            | exact rapp_n1 hkk i4 (by assumption) (by assumption)
            | exact rapp_n2 hkk i4 (by assumption)
            | exact rapp_n3 hkk i4 (by simp_all) (by assumption)
        try simp only [kk] at hc5
        refine x_skip ?_
        first | (have o2 := o2) | (have o2 := OwnLs.c o1 q61_0 (x := xs[k]) (va := .slice p70 (0 + xs[k].commits.length) c70) (by rw [Nat.zero_add] at j70 ⊢; exact j70) (by rw [List.nil_append]; exact n70) (by omega))
        refine x_region rfl ?_
        refine o_y (y_move rfl) ?_
        refine o_y (y_loadA ti95 rfl inn rfl) ?_
        refine o_slice1 underlying22 ti95 (by decide) (by decide) rfl rfl (C := [_, _]) rfl rfl (fun b85 => ?_)
        refine o_append underlying22 ti95 rfl (by decide) rfl j1 rfl (At.all inn) rfl rfl (by omega) (by omega) hol (fun v86 R86 j86 => ?_)
        refine o_y (y_assign rfl) ?_
        refine o_nil ?_
        refine x_subO (o2.fp ++ (R86 ++ ((b3, (cl [.int .i64 c.group, .int .i64 c.epoch, .int .i64 c.by_, .int .i64 c.member, .int .i64 c.keyEpoch, .bool c.external, u6, u7, u8, u9, .int .i64 c.own, .int .i64 c.entry, u12, .int .i64 c.face, .int .i64 c.card] 31)) :: O))) (fun q s e0 e1 e2 => by simp only [OwnLs.fp, e0, e1, e2]; omega) ?_
        have jX := j86.cast (m := o2.xs.length) (by simp [OwnLs.xs])
        have hX5 : o2.xs.length ≤ 2 * (k + 1) := by rw [List.length_append]; simp only [List.length_singleton]; omega
        refine x_region rfl ?_
        refine o_y (y_move rfl) ?_
        refine o_y (y_addN rfl rfl (by omega) (by omega)) ?_
        refine o_y (y_assign rfl) ?_
        refine o_nil ?_
        have hk2 : k + 1 ≤ xs.length := hkk
        refine ⟨(k + 1, _, v86, o2.cs, o2.xs, R86, o2.fp), 0, rfl, (.c rfl (.c rfl (.c rfl (.c rfl (.c rfl .n))))), rfl, ⟨hk2, jX, o2, ?_, hX5⟩, by simp only; omega⟩
        first
          | (exfalso; omega)
          | exact rapp_n1 hkk i4 (by assumption) (by assumption)
          | exact rapp_n2 hkk i4 (by assumption)
          | exact rapp_n3 hkk i4 (by simp_all) (by assumption)
    try simp only [kk] at hg12_41
    refine q_gn 41 rfl rfl rfl ?_
    refine q_gn 41 rfl rfl rfl ?_
    refine q_gn 41 rfl rfl rfl ?_
    refine q_gn 41 rfl rfl rfl ?_
    refine q_gn 41 rfl rfl rfl ?_
    refine q_gn 41 rfl rfl rfl ?_
    refine q_gn 41 rfl rfl rfl ?_
    refine q_gn 41 rfl rfl rfl ?_
    refine q_y (y_pick rfl rfl) ?_
    refine q_nil ?_
    refine x_condF rfl ?_
    refine x_skip ?_
    refine x_seq ?_
    first | (have j1 := j1) | (have j1 := i2; have o1 := i3; have hl1 : ls.length ≤ 2 * k + 1 := by omega)
    have hc0 : 0 < xs[k].commits.length := ((lcheck_spec.1 hv).2.2 _ (List.getElem_mem hkk)).1
    refine x_regionG _ (fun _ h => h) [0, 1, 2, 3, 4, 6, 7, 8, 9, 10, 12] [14] mixed (by kernel_rfl) npa ?_
    have hE := Ext.refl H
    refine g_take 0 (by kernel_rfl) rfl rfl rfl (y_move rfl) ?_
    refine g_take 1 (by kernel_rfl) rfl rfl rfl (y_move rfl) ?_
    obtain ⟨ce61, ae61, re61⟩ := RdL.at h _ k hkk
    have se61 := AtS.isSl ae61
    have te61 := re61
    obtain ⟨u61_1, z61, q61_0, q61_1⟩ := re61
    subst z61
    have w61 := Rep.one te61
    refine g_take 2 (by kernel_rfl) rfl rfl rfl (y_idxL h k hkk underlying22 ti95 rfl rfl (by omega)) ?_
    refine g_take 3 (by kernel_rfl) rfl rfl rfl (y_fieldAddrP fd95_0 ti3 (by decide) (by assumption) rfl) ?_
    refine g_take 4 (by kernel_rfl) rfl rfl rfl (y_loadS1 ti3 rfl (by assumption) rfl) ?_
    refine g_take 6 (by kernel_rfl) rfl rfl rfl (y_move rfl) ?_
    refine g_take 7 (by kernel_rfl) rfl rfl rfl (y_move rfl) ?_
    obtain ⟨ce67, ae67, re67⟩ := RdL.at h _ k hkk
    have se67 := AtS.isSl ae67
    have te67 := re67
    obtain ⟨u67_1, z67, q67_0, q67_1⟩ := re67
    subst z67
    have w67 := Rep.one te67
    refine g_take 8 (by kernel_rfl) rfl rfl rfl (y_idxL h k hkk underlying22 ti95 rfl rfl (by omega)) ?_
    refine g_take 9 (by kernel_rfl) rfl rfl rfl (y_fieldAddrP fd95_1 ti93 (by decide) (by assumption) rfl) ?_
    refine g_take 10 (by kernel_rfl) rfl rfl rfl (y_loadS1 ti93 rfl (by assumption) rfl) ?_
    refine g_all2 (i := 5) (j := 13) (by kernel_rfl) ?g46a ?g46b
    case' g46a =>
      refine g_one rfl rfl rfl rfl ?_
      refine o_slice0 underlying93 ti31 (fun b64 => ?_)
      refine o_nil ?_
      refine ⟨.inr ⟨hE, hld⟩, ?_⟩
      refine g_all2 (i := 11) (j := 13) (by kernel_rfl) ?g47a ?g47b
      case' g47a =>
        refine g_one rfl rfl rfl rfl ?_
        have hs67 : ∃ a n c, u67_1 = .slice (some a) n c := by
          obtain ⟨p, c', rfl⟩ := q67_1.shape
          obtain ⟨q, h4, _⟩ := q67_1.at [] 0 hc0
          have h5 := AtS.isSl h4
          cases p with
          | none => simp [isSl] at h5
          | some a => exact ⟨a, _, c', rfl⟩
        refine o_appendL (α := Commit) underlying93 ti31 rfl (by decide) rfl rfl Row.made rfl q67_1 hs67 (by omega) (by omega) hol (fun v70 R70 nw70 n70 j70 => ?_)
        refine o_nil ?_
        obtain ⟨p70, c70, rfl⟩ := j70.shape
        refine ⟨.inr ⟨hE, hld⟩, ?_⟩
        refine g_take 12 (by kernel_rfl) rfl rfl rfl (y_buildS bt95 rfl (C := [_, _]) rfl) ?_
        refine g_all1 (i := 13) (by kernel_rfl) ?_
        refine g_one rfl rfl rfl rfl ?_
        refine o_alloc ti95 rfl (fun b9 => ?_)
        refine o_nil ?_
        refine ⟨.inr ⟨hE, hld⟩, ?_⟩
        refine g_all1 (i := 14) (by kernel_rfl) ?_
        refine g_one rfl rfl rfl rfl ?_
        refine o_store (u := [_, _]) (C' := [_, _]) ti95 rfl rfl rfl rfl (by first | rfl | assumption | (simp only [ones, List.all_cons, List.all_nil, Bool.and_true, one_of (by assumption)]; done)) (by repeat (first | exact .z | apply Upd.s | apply Upd.a)) (by exact Nat.le_of_ble_eq_true rfl) (by rfl) ?_
        refine o_nil ?_
        refine ⟨.inl rfl, ?_⟩
        refine g_nil (by kernel_rfl) ?_
      case' g47b =>
        refine g_one rfl rfl rfl rfl ?_
        refine o_alloc ti95 rfl (fun b9 => ?_)
        refine o_nil ?_
        refine ⟨.inr ⟨hE, hld⟩, ?_⟩
        refine g_all1 (i := 11) (by kernel_rfl) ?_
        refine g_one rfl rfl rfl rfl ?_
        have hs67 : ∃ a n c, u67_1 = .slice (some a) n c := by
          obtain ⟨p, c', rfl⟩ := q67_1.shape
          obtain ⟨q, h4, _⟩ := q67_1.at [] 0 hc0
          have h5 := AtS.isSl h4
          cases p with
          | none => simp [isSl] at h5
          | some a => exact ⟨a, _, c', rfl⟩
        refine o_appendL (α := Commit) underlying93 ti31 rfl (by decide) rfl rfl Row.made rfl q67_1 hs67 (by omega) (by omega) hol (fun v70 R70 nw70 n70 j70 => ?_)
        refine o_nil ?_
        obtain ⟨p70, c70, rfl⟩ := j70.shape
        refine ⟨.inr ⟨hE, hld⟩, ?_⟩
        refine g_take 12 (by kernel_rfl) rfl rfl rfl (y_buildS bt95 rfl (C := [_, _]) rfl) ?_
        refine g_all1 (i := 14) (by kernel_rfl) ?_
        refine g_one rfl rfl rfl rfl ?_
        refine o_store (u := [_, _]) (C' := [_, _]) ti95 rfl rfl rfl rfl (by first | rfl | assumption | (simp only [ones, List.all_cons, List.all_nil, Bool.and_true, one_of (by assumption)]; done)) (by repeat (first | exact .z | apply Upd.s | apply Upd.a)) (by exact Nat.le_of_ble_eq_true rfl) (by rfl) ?_
        refine o_nil ?_
        refine ⟨.inl rfl, ?_⟩
        refine g_nil (by kernel_rfl) ?_
    case' g46b =>
      refine g_one rfl rfl rfl rfl ?_
      refine o_alloc ti95 rfl (fun b9 => ?_)
      refine o_nil ?_
      refine ⟨.inr ⟨hE, hld⟩, ?_⟩
      refine g_all1 (i := 5) (by kernel_rfl) ?_
      refine g_one rfl rfl rfl rfl ?_
      refine o_slice0 underlying93 ti31 (fun b64 => ?_)
      refine o_nil ?_
      refine ⟨.inr ⟨hE, hld⟩, ?_⟩
      refine g_all1 (i := 11) (by kernel_rfl) ?_
      refine g_one rfl rfl rfl rfl ?_
      have hs67 : ∃ a n c, u67_1 = .slice (some a) n c := by
        obtain ⟨p, c', rfl⟩ := q67_1.shape
        obtain ⟨q, h4, _⟩ := q67_1.at [] 0 hc0
        have h5 := AtS.isSl h4
        cases p with
        | none => simp [isSl] at h5
        | some a => exact ⟨a, _, c', rfl⟩
      refine o_appendL (α := Commit) underlying93 ti31 rfl (by decide) rfl rfl Row.made rfl q67_1 hs67 (by omega) (by omega) hol (fun v70 R70 nw70 n70 j70 => ?_)
      refine o_nil ?_
      obtain ⟨p70, c70, rfl⟩ := j70.shape
      refine ⟨.inr ⟨hE, hld⟩, ?_⟩
      refine g_take 12 (by kernel_rfl) rfl rfl rfl (y_buildS bt95 rfl (C := [_, _]) rfl) ?_
      refine g_all1 (i := 14) (by kernel_rfl) ?_
      refine g_one rfl rfl rfl rfl ?_
      refine o_store (u := [_, _]) (C' := [_, _]) ti95 rfl rfl rfl rfl (by first | rfl | assumption | (simp only [ones, List.all_cons, List.all_nil, Bool.and_true, one_of (by assumption)]; done)) (by repeat (first | exact .z | apply Upd.s | apply Upd.a)) (by exact Nat.le_of_ble_eq_true rfl) (by rfl) ?_
      refine o_nil ?_
      refine ⟨.inl rfl, ?_⟩
      refine g_nil (by kernel_rfl) ?_
    all_goals
      refine x_seq ?_
      refine x_seq ?_
      refine x_region rfl ?_
      refine o_y (y_fieldAddr fd95_0 ti3 (by decide) rfl) ?_
      refine o_y (y_loadO ti3 rfl inn rfl) ?_
      refine o_y (y_fieldAddr fd31_0 ti3 (by decide) rfl) ?_
      refine o_y (y_loadO ti3 rfl inn rfl) ?_
      refine o_y (y_eql rfl rfl) ?_
      refine o_nil ?_
      refine x_cond rfl (fun hc5 => ?_) (fun hc5 => ?_)
      · try simp only [kk] at hc5
        refine x_seq ?_
        refine x_region rfl ?_
        refine o_y (y_fieldAddr fd95_1 ti93 (by decide) rfl) ?_
        refine o_y (y_loadO ti93 rfl inn rfl) ?_
        refine o_y (y_loadA ti31 rfl inn rfl) ?_
        refine o_slice1 underlying93 ti31 (by decide) (by decide) rfl rfl (C := [_, _, _, _, _, _, _, _, _, _, _, _, _, _, _]) rfl rfl (fun b80 => ?_)
        refine o_append underlying93 ti31 rfl (by decide) rfl j70 rfl (At.all inn) rfl wk (by omega) (by omega) hol (fun v81 R81 j81 => ?_)
        obtain ⟨p81, c81, rfl⟩ := j81.shape
        refine o_y (y_fieldAddr fd95_1 ti93 (by decide) rfl) ?_
        refine o_store (u := [_]) (C' := [_, _]) ti93 rfl rfl rfl rfl (by first | rfl | assumption | (simp only [ones, List.all_cons, List.all_nil, Bool.and_true, one_of (by assumption)]; done)) (by repeat (first | exact .z | apply Upd.s | apply Upd.a)) (by exact Nat.le_of_ble_eq_true rfl) (by rfl) ?_
        refine o_nil ?_
        have jo := j81.cast (m := (xs[k].commits ++ [c]).length) (by simp)
        have o2 := OwnLs.c o1 q61_0 (x := (⟨xs[k].group, xs[k].commits ++ [c]⟩ : Log)) jo (El.append n70 (El.one1 hk)) (by simp; omega)
        refine x_region rfl ?_
        refine o_y (y_assign rfl) ?_
        refine o_nil ?_
        first | (have o2 := o2) | (have o2 := OwnLs.c o1 q61_0 (x := xs[k]) (va := .slice p70 (0 + xs[k].commits.length) c70) (by rw [Nat.zero_add] at j70 ⊢; exact j70) (by rw [List.nil_append]; exact n70) (by omega))
        refine x_region rfl ?_
        refine o_y (y_move rfl) ?_
        refine o_y (y_loadA ti95 rfl inn rfl) ?_
        refine o_slice1 underlying22 ti95 (by decide) (by decide) rfl rfl (C := [_, _]) rfl rfl (fun b85 => ?_)
        refine o_append underlying22 ti95 rfl (by decide) rfl j1 rfl (At.all inn) rfl rfl (by omega) (by omega) hol (fun v86 R86 j86 => ?_)
        refine o_y (y_assign rfl) ?_
        refine o_nil ?_
        refine x_subO (o2.fp ++ (R86 ++ ((b3, (cl [.int .i64 c.group, .int .i64 c.epoch, .int .i64 c.by_, .int .i64 c.member, .int .i64 c.keyEpoch, .bool c.external, u6, u7, u8, u9, .int .i64 c.own, .int .i64 c.entry, u12, .int .i64 c.face, .int .i64 c.card] 31)) :: O))) (fun q s e0 e1 e2 => by simp only [OwnLs.fp, e0, e1, e2]; omega) ?_
        have jX := j86.cast (m := o2.xs.length) (by simp [OwnLs.xs])
        have hX5 : o2.xs.length ≤ 2 * (k + 1) := by rw [List.length_append]; simp only [List.length_singleton]; omega
        refine x_region rfl ?_
        refine o_y (y_move rfl) ?_
        refine o_y (y_addN rfl rfl (by omega) (by omega)) ?_
        refine o_y (y_assign rfl) ?_
        refine o_nil ?_
        have hk2 : k + 1 ≤ xs.length := hkk
        refine ⟨(k + 1, _, v86, o2.cs, o2.xs, R86, o2.fp), 0, rfl, (.c rfl (.c rfl (.c rfl (.c rfl (.c rfl .n))))), rfl, ⟨hk2, jX, o2, ?_, hX5⟩, by simp only; omega⟩
        first
          | (exfalso; omega)
          | exact rapp_n1 hkk i4 (by assumption) (by assumption)
          | exact rapp_n2 hkk i4 (by assumption)
          | exact rapp_n3 hkk i4 (by simp_all) (by assumption)
      try simp only [kk] at hc5
      refine x_skip ?_
      first | (have o2 := o2) | (have o2 := OwnLs.c o1 q61_0 (x := xs[k]) (va := .slice p70 (0 + xs[k].commits.length) c70) (by rw [Nat.zero_add] at j70 ⊢; exact j70) (by rw [List.nil_append]; exact n70) (by omega))
      refine x_region rfl ?_
      refine o_y (y_move rfl) ?_
      refine o_y (y_loadA ti95 rfl inn rfl) ?_
      refine o_slice1 underlying22 ti95 (by decide) (by decide) rfl rfl (C := [_, _]) rfl rfl (fun b85 => ?_)
      refine o_append underlying22 ti95 rfl (by decide) rfl j1 rfl (At.all inn) rfl rfl (by omega) (by omega) hol (fun v86 R86 j86 => ?_)
      refine o_y (y_assign rfl) ?_
      refine o_nil ?_
      refine x_subO (o2.fp ++ (R86 ++ ((b3, (cl [.int .i64 c.group, .int .i64 c.epoch, .int .i64 c.by_, .int .i64 c.member, .int .i64 c.keyEpoch, .bool c.external, u6, u7, u8, u9, .int .i64 c.own, .int .i64 c.entry, u12, .int .i64 c.face, .int .i64 c.card] 31)) :: O))) (fun q s e0 e1 e2 => by simp only [OwnLs.fp, e0, e1, e2]; omega) ?_
      have jX := j86.cast (m := o2.xs.length) (by simp [OwnLs.xs])
      have hX5 : o2.xs.length ≤ 2 * (k + 1) := by rw [List.length_append]; simp only [List.length_singleton]; omega
      refine x_region rfl ?_
      refine o_y (y_move rfl) ?_
      refine o_y (y_addN rfl rfl (by omega) (by omega)) ?_
      refine o_y (y_assign rfl) ?_
      refine o_nil ?_
      have hk2 : k + 1 ≤ xs.length := hkk
      refine ⟨(k + 1, _, v86, o2.cs, o2.xs, R86, o2.fp), 0, rfl, (.c rfl (.c rfl (.c rfl (.c rfl (.c rfl .n))))), rfl, ⟨hk2, jX, o2, ?_, hX5⟩, by simp only; omega⟩
      first
        | (exfalso; omega)
        | exact rapp_n1 hkk i4 (by assumption) (by assumption)
        | exact rapp_n2 hkk i4 (by assumption)
        | exact rapp_n3 hkk i4 (by simp_all) (by assumption)
  try simp only [kk] at hc3
  refine x_exit ?_
  refine x_seq ?_
  refine x_seq ?_
  obtain rfl : k = xs.length := by omega
  rw [List.drop_length] at i4
  refine x_region rfl ?_
  refine o_y (y_move rfl) ?_
  refine o_y (y_not rfl) ?_
  refine o_nil ?_
  refine x_cond rfl (fun hc6 => ?_) (fun hc6 => ?_)
  · try simp only [kk] at hc6
    refine x_region rfl ?_
    refine o_y (y_move rfl) ?_
    refine o_y (y_fieldAddr fd31_0 ti3 (by decide) rfl) ?_
    refine o_y (y_loadO ti3 rfl inn rfl) ?_
    refine o_y (y_loadA ti31 rfl inn rfl) ?_
    refine o_slice1 underlying93 ti31 (by decide) (by decide) rfl rfl (C := [_, _, _, _, _, _, _, _, _, _, _, _, _, _, _]) rfl rfl (fun b93 => ?_)
    refine o_y (y_buildS bt95 rfl (C := [_, _]) rfl) ?_
    refine o_slice1 underlying22 ti95 (by decide) (by decide) rfl rfl (C := [_, _]) rfl rfl (fun b95 => ?_)
    refine o_append underlying22 ti95 rfl (by decide) rfl i2 rfl (At.all inn) rfl rfl (by omega) (by omega) hol (fun v96 R96 j96 => ?_)
    refine o_y (y_assign rfl) ?_
    refine o_nil ?_
    have jF := j96.cast (m := (ls ++ [(⟨c.group, [c]⟩ : Log)]).length) (by rw [List.length_append]; rfl)
    have oF := OwnLs.c i3 h0 (x := (⟨c.group, [c]⟩ : Log)) (one_row (b := b93) hk) (El.one1 hk) (by simp)
    have eF : ls ++ [(⟨c.group, [c]⟩ : Log)] = appLogs xs c := by
      rw [← rapp_eq hae, ← i4, show d = false by simp_all]; rfl
    have xF : (ls ++ [(⟨c.group, [c]⟩ : Log)]).length ≤ 33 := by rw [List.length_append]; simp only [List.length_singleton]; omega
    refine x_subO ((oF.fp ++ R96) ++ O) (fun q s e0 e1 e2 => by simp only [OwnLs.fp, e0, e1, e2]; omega) ?_
    refine x_freezeP (S := oF.fp ++ R96) (O' := O) (List.Perm.refl _) (fun H9 hX9 hI9 => ?_)
    have rF : RdL H9 v96 (appLogs xs c) := eF ▸ Row.inH jF rfl (oF.el hX9 (fun b o hm => hI9 b o (by simp only [List.mem_append] at hm ⊢; exact .inl hm))) (by have e : Rep.bytes Log = 32 := rfl; rw [e]; omega) (fun b o hm => hI9 b o (by simp [hm]))
    refine x_seq ?_
    refine x_region rfl ?_
    refine o_y (y_move rfl) ?_
    refine o_y (y_assign rfl) ?_
    refine o_y (y_assign rfl) ?_
    refine o_nil ?_
    refine x_ret ?_
    refine x_fin 0 (ret2 rfl rfl rfl) ?_
    rw [hae]; exact ⟨hX9, rfl, _, rfl, rF⟩
  try simp only [kk] at hc6
  have eF : ls = appLogs xs c := by
    rw [← rapp_eq hae, ← i4, show d = true by simp_all]; simp [rapp]
  refine x_subO ((Rs ++ R9) ++ O) (fun q s e0 e1 e2 => by simp only [e0, e1, e2]; omega) ?_
  refine x_freezeP (S := Rs ++ R9) (O' := O) (List.Perm.refl _) (fun H9 hX9 hI9 => ?_)
  have rF : RdL H9 v9 (appLogs xs c) := eF ▸ Row.inH i2 rfl (i3.el hX9 (fun b o hm => hI9 b o (by simp [hm]))) (by have e : Rep.bytes Log = 32 := rfl; rw [e]; omega) (fun b o hm => hI9 b o (by simp [hm]))
  refine x_skip ?_
  refine x_seq ?_
  refine x_region rfl ?_
  refine o_y (y_move rfl) ?_
  refine o_y (y_assign rfl) ?_
  refine o_y (y_assign rfl) ?_
  refine o_nil ?_
  refine x_ret ?_
  refine x_fin 0 (ret2 rfl rfl rfl) ?_
  rw [hae]; exact ⟨hX9, rfl, _, rfl, rF⟩
end Go.Ph
set_option linter.unusedVariables false
set_option linter.unusedSimpArgs false
set_option maxRecDepth 100000
namespace Go.Ph
open Go Go.RowKit Go.Proofs.YtmgnagpgnoikfaaGreatDoor Go.Proofs.Tryz
theorem CallsM.flatL {P : Program} {f : FuncId} {args : Array Value} {B : World} {H : HM} {O : OL} {α : Type} [Own α] {xs : List α} (hf : ∀ {H : HM} {cs : List Value} {x : α}, Rep.rd H cs x → Own.ow false H cs x []) (hs : xs.length * Rep.bytes α ≤ 140737488351232) (h : CallsM P f args B H O (MadeR xs (Own.ty α) H O)) : CallsM P f args B H O (MadeL xs H O) := by
  refine CallsM.freezeN hs fun w hw => (h w hw).mono ?_
  rintro e' w' ⟨v, H', O', h1, h2, rfl, R, cs, rfl, h3, h4⟩
  exact ⟨v, _, _, h1, h2, R, cs, [], rfl, Grew.refl _, h3, El.ownFlat hf h4⟩
theorem clone_addL {B : World} {H : HM} {O : OL} {v : Value} {xs : List AddE} (h : RdL H v xs) : CallsM prog 181 [v].toArray B H O (MadeL xs H O) := (clone_addR h).flatL (fun h => ⟨h, rfl⟩) h.small
theorem clone_intL {B : World} {H : HM} {O : OL} {v : Value} {xs : List Int} (h : RdL H v xs) : CallsM prog 182 [v].toArray B H O (MadeL xs H O) := (clone_intR h).flatL (fun h => ⟨h, rfl⟩) h.small
theorem clone_sealL {B : World} {H : HM} {O : OL} {v : Value} {xs : List Seal} (h : RdL H v xs) : CallsM prog 183 [v].toArray B H O (MadeL xs H O) := (clone_sealR h).flatL (fun h => ⟨h, rfl⟩) h.small
theorem clone_joinL {B : World} {H : HM} {O : OL} {v : Value} {xs : List Join} (h : RdL H v xs) : CallsM prog 184 [v].toArray B H O (MadeL xs H O) := (clone_joinR h).flatL (fun h => ⟨h, rfl⟩) h.small
theorem El.uncons {α : Type} [Rep α] {H : HM} {C : List Value} {x : α} {xs : List α} (h : El H C (x :: xs)) : ∃ ds C', C = ds ++ C' ∧ Rep.rd H ds x ∧ El H C' xs := by
  cases h with
  | c h t => exact ⟨_, _, rfl, h, t⟩
theorem copied_own {B : World} {H : HM} {O : OL} {cs : List Value} {c : Commit} (h : Rep.rd H cs c) : CallsM prog 43 [.agg cs.toArray].toArray B H O (MadeO c H O) := by
  obtain ⟨u6, u7, u8, u9, u12, rfl, h0, h1, h2, h3, h4, h5, h6, h7, h8, h9, h10, h11, h12, h13⟩ := h
  have hnl := h11.lenle
  refine enter func43 rfl ntmps43 (l := [(0, _)]) rfl rfl ?_
  refine x_seq ?_
  refine x_region rfl ?_
  refine o_box rfl (cs := [_, _, _, _, _, _, _, _, _, _, _, _, _, _, _]) rfl (fun b1 => ?_)
  refine o_alloc ti31 rfl (fun b2 => ?_)
  refine o_nil ?_
  refine x_seq ?_
  refine x_regionP [(0, true), (1, true), (3, true), (4, true), (6, true), (7, true), (9, true), (10, true), (2, false), (12, true), (5, false), (8, false), (11, false), (13, false), (14, false), (15, false), (16, false), (17, false), (18, false), (19, false)] [0, 1, 3, 4, 6, 7, 9, 10, 12] [13, 15, 17, 19, 14, 16, 18] mixed (by kernel_rfl) npa ?_
  have hE := Ext.refl H
  refine p_take rfl rfl (y_fieldAddr fd31_6 ti23 (by decide) rfl) ?_
  refine p_take rfl rfl (y_loadO ti23 rfl inn rfl) ?_
  refine p_take rfl rfl (y_fieldAddr fd31_7 ti24 (by decide) rfl) ?_
  refine p_take rfl rfl (y_loadO ti24 rfl inn rfl) ?_
  refine p_take rfl rfl (y_fieldAddr fd31_8 ti25 (by decide) rfl) ?_
  refine p_take rfl rfl (y_loadO ti25 rfl inn rfl) ?_
  refine p_take rfl rfl (y_fieldAddr fd31_9 ti26 (by decide) rfl) ?_
  refine p_take rfl rfl (y_loadO ti26 rfl inn rfl) ?_
  refine p_only rfl rfl ?_
  refine o_call fn181 rfl (clone_addL h5) ?_
  rintro v6 H1 _ ⟨rfl, F6, g6, r6⟩
  refine o_nil ?_
  replace hE := hE.trans g6.ext
  obtain ⟨p2, c2, rfl⟩ := r6.shape
  refine ⟨.inr ⟨hE, hld⟩, ?_⟩
  refine p_take rfl rfl (y_fieldAddr fd31_6 ti23 (by decide) rfl) ?_
  refine p_only rfl rfl ?_
  refine o_call fn182 rfl (clone_intL (h6.mono hE)) ?_
  rintro v7 H2 _ ⟨rfl, F7, g7, r7⟩
  refine o_nil ?_
  replace hE := hE.trans g7.ext
  obtain ⟨p5, c5, rfl⟩ := r7.shape
  refine ⟨.inr ⟨hE, hld⟩, ?_⟩
  refine p_only rfl rfl ?_
  refine o_call fn183 rfl (clone_sealL (h7.mono hE)) ?_
  rintro v8 H3 _ ⟨rfl, F8, g8, r8⟩
  refine o_nil ?_
  replace hE := hE.trans g8.ext
  obtain ⟨p8, c8, rfl⟩ := r8.shape
  refine ⟨.inr ⟨hE, hld⟩, ?_⟩
  refine p_only rfl rfl ?_
  refine o_call fn184 rfl (clone_joinL (h8.mono hE)) ?_
  rintro v9 H4 _ ⟨rfl, F9, g9, r9⟩
  refine o_nil ?_
  replace hE := hE.trans g9.ext
  obtain ⟨p11, c11, rfl⟩ := r9.shape
  refine ⟨.inr ⟨hE, hld⟩, ?_⟩
  refine p_only rfl rfl ?_
  refine o_store (u := [_]) (C' := [_, _, _, _, _, _, _, _, _, _, _, _, _, _, _]) ti23 rfl rfl rfl rfl (by first | rfl | assumption | (simp only [ones, List.all_cons, List.all_nil, Bool.and_true, one_of (by assumption)]; done)) (by repeat (first | exact .z | apply Upd.s | apply Upd.a)) (by exact Nat.le_of_ble_eq_true rfl) (by rfl) ?_
  refine o_nil ?_
  refine ⟨.inl rfl, ?_⟩
  refine p_only rfl rfl ?_
  refine o_y (y_fieldAddr fd31_7 ti24 (by decide) rfl) ?_
  refine o_nil ?_
  refine ⟨.inl rfl, ?_⟩
  refine p_only rfl rfl ?_
  refine o_store (u := [_]) (C' := [_, _, _, _, _, _, _, _, _, _, _, _, _, _, _]) ti24 rfl rfl rfl rfl (by first | rfl | assumption | (simp only [ones, List.all_cons, List.all_nil, Bool.and_true, one_of (by assumption)]; done)) (by repeat (first | exact .z | apply Upd.s | apply Upd.a)) (by exact Nat.le_of_ble_eq_true rfl) (by rfl) ?_
  refine o_nil ?_
  refine ⟨.inl rfl, ?_⟩
  refine p_only rfl rfl ?_
  refine o_y (y_fieldAddr fd31_8 ti25 (by decide) rfl) ?_
  refine o_nil ?_
  refine ⟨.inl rfl, ?_⟩
  refine p_only rfl rfl ?_
  refine o_store (u := [_]) (C' := [_, _, _, _, _, _, _, _, _, _, _, _, _, _, _]) ti25 rfl rfl rfl rfl (by first | rfl | assumption | (simp only [ones, List.all_cons, List.all_nil, Bool.and_true, one_of (by assumption)]; done)) (by repeat (first | exact .z | apply Upd.s | apply Upd.a)) (by exact Nat.le_of_ble_eq_true rfl) (by rfl) ?_
  refine o_nil ?_
  refine ⟨.inl rfl, ?_⟩
  refine p_only rfl rfl ?_
  refine o_y (y_fieldAddr fd31_9 ti26 (by decide) rfl) ?_
  refine o_nil ?_
  refine ⟨.inl rfl, ?_⟩
  refine p_only rfl rfl ?_
  refine o_store (u := [_]) (C' := [_, _, _, _, _, _, _, _, _, _, _, _, _, _, _]) ti26 rfl rfl rfl rfl (by first | rfl | assumption | (simp only [ones, List.all_cons, List.all_nil, Bool.and_true, one_of (by assumption)]; done)) (by repeat (first | exact .z | apply Upd.s | apply Upd.a)) (by exact Nat.le_of_ble_eq_true rfl) (by rfl) ?_
  refine o_nil ?_
  refine ⟨.inl rfl, ?_⟩
  refine p_nil ?_
  refine x_seq ?_
  refine x_region rfl ?_
  refine o_y (y_fieldAddr fd31_12 ti29 (by decide) rfl) ?_
  refine o_y (y_fieldAddr fd29_0 ti27 (by decide) rfl) ?_
  refine o_y (y_loadO ti27 rfl inn rfl) ?_
  refine o_call fn185 rfl (clone_nodeR (h11.mono hE)) ?_
  rintro v12 _ _ ⟨rfl, R, cs, rfl, j1, j2⟩
  obtain ⟨p12, c12, rfl⟩ := j1.shape
  refine o_y (y_fieldAddr fd31_12 ti29 (by decide) rfl) ?_
  refine o_y (y_fieldAddr fd29_0 ti27 (by decide) rfl) ?_
  refine o_store (u := [_]) (C' := [_, _, _, _, _, _, _, _, _, _, _, _, _, _, _]) ti27 rfl rfl rfl rfl (by first | rfl | assumption | (simp only [ones, List.all_cons, List.all_nil, Bool.and_true, one_of (by assumption)]; done)) (by repeat (first | exact .z | apply Upd.s | apply Upd.a)) (by exact Nat.le_of_ble_eq_true rfl) (by rfl) ?_
  refine o_nil ?_
  refine x_seq ?_
  refine x_seq ?_
  refine x_region rfl ?_
  refine o_y (y_fieldAddr fd31_12 ti29 (by decide) rfl) ?_
  refine o_y (y_fieldAddr fd29_0 ti27 (by decide) rfl) ?_
  refine o_y (y_loadO ti27 rfl inn rfl) ?_
  refine o_y (y_lenA underlying27 rfl) ?_
  refine o_y (y_move rfl) ?_
  refine o_nil ?_
  refine x_block ?_
  refine x_loopg (σ := Nat × HM × OL × List Value × List Value × List Nat) (fun s => [(31, .int .i64 (s.1 : Int)), (30, .int .i64 (c.next_.nodes.length : Int)), (1, .pointer (some ⟨b1, 0, none⟩)), (2, .pointer (some ⟨b2, 0, none⟩))]) (fun s => s.2.1) (fun s => s.2.2.1 ++ _) (fun s => s.1 ≤ c.next_.nodes.length ∧ Grew H4 s.2.1 s.2.2.2.2.2 ∧ Row (.slice p12 c.next_.nodes.length c12) c.next_.nodes.length (s.2.2.2.1 ++ s.2.2.2.2.1) 127 4 s.2.2.1 ∧ s.2.2.2.1.length = s.1 * 4 ∧ ElO false s.2.1 s.2.2.2.1 (c.next_.nodes.take s.1) s.2.2.2.2.2 ∧ El s.2.1 s.2.2.2.2.1 (c.next_.nodes.drop s.1)) (fun s => c.next_.nodes.length - s.1) (0, H4, R, [], cs, []) ⟨by simp, Grew.refl _, j1, rfl, .n, j2⟩ (.c rfl (.c rfl (.c rfl (.c rfl .n)))) rfl rfl ?_
  rintro ⟨k, H5, R, A, D, F⟩ ⟨i1, i2, i3, i4, i5, i6⟩
  simp only at i1 i2 i3 i4 i5 i6
  refine x_seq ?_
  refine x_region rfl ?_
  refine o_y (y_lss rfl rfl) ?_
  refine o_nil ?_
  refine x_seq ?_
  refine x_cond rfl (fun hc0 => ?_) (fun hc0 => ?_)
  · try simp only [kk] at hc0
    have hk : k < c.next_.nodes.length := by omega
    have iw : El H5 (A ++ D) c.next_.nodes := by
      have z := i5.el.append i6
      rwa [List.take_append_drop] at z
    rw [List.drop_eq_getElem_cons hk] at i6
    obtain ⟨ds, D', rfl, rd, i7⟩ := i6.uncons
    obtain ⟨ud, rfl, d0, d1, d2, d3⟩ := rd
    refine x_skip ?_
    refine x_seq ?_
    refine x_block ?_
    refine x_seq ?_
    refine x_region rfl ?_
    refine o_y (y_move rfl) ?_
    refine o_y (y_assign rfl) ?_
    refine o_nil ?_
    refine x_seq ?_
    refine x_region rfl ?_
    refine o_y (y_fieldAddr fd31_12 ti29 (by decide) rfl) ?_
    refine o_y (y_fieldAddr fd29_0 ti27 (by decide) rfl) ?_
    refine o_y (y_loadO ti27 rfl inn rfl) ?_
    refine o_y (y_move rfl) ?_
    obtain ⟨ce38, ae38, re38⟩ := Row.elAt i3 iw rfl k hk (by omega) (fun p hp => hp)
    have se38 := AtS.isSl ae38
    have te38 := re38
    obtain ⟨u38_3, z38, q38_0, q38_1, q38_2, q38_3⟩ := re38
    subst z38
    have w38 := Rep.one te38
    refine o_y (y_idxR i3 k (by omega) underlying27 ti127 rfl rfl (by omega)) ?_
    refine o_y (y_assign rfl) ?_
    refine o_nil ?_
    refine x_region rfl ?_
    refine o_y (y_move rfl) ?_
    refine o_y (y_move rfl) ?_
    refine o_y (y_nilCheckP (by assumption) rfl) ?_
    refine o_y (y_fieldAddrP fd127_3 ti24 (by decide) (by assumption) rfl) ?_
    refine o_y (y_loadS1 ti24 rfl (AtS.sub (by assumption) (fun p hp => by repeat (first | exact hp | exact List.mem_append_left _ hp | apply List.mem_cons_of_mem | apply List.mem_append_right))) rfl) ?_
    refine o_call fn182 rfl (clone_intL q38_3) ?_
    rintro v44 H6 _ ⟨rfl, F44, g44, r44⟩
    obtain ⟨p44, c44, rfl⟩ := r44.shape
    refine o_y (y_nilCheckP (by assumption) rfl) ?_
    refine o_y (y_fieldAddrP fd127_3 ti24 (by decide) (by assumption) rfl) ?_
    have hl4 : k * 4 + 4 ≤ (A ++ ([.int .i64 c.next_.nodes[k].pub, .int .i64 c.next_.nodes[k].member, .int .i64 c.next_.nodes[k].epoch, ud] ++ D')).length := El.len_le iw hk (j := 4) (Nat.le_refl _)
    refine o_storeS (u := [_]) ti24 rfl rfl i3 rfl rfl (by first | rfl | assumption | (simp only [ones, List.all_cons, List.all_nil, Bool.and_true, one_of (by assumption)]; done)) (by omega) (by omega) hol (fun R7_8 j7_8 => ?_)
    refine o_nil ?_
    refine x_region rfl ?_
    refine o_y (y_addN rfl rfl (by omega) (by omega)) ?_
    refine o_y (y_move rfl) ?_
    refine o_nil ?_
    rw [putC_at' (o := k * 4 + 3) (u := [.slice p44 c.next_.nodes[k].unmerged.length c44]) (A := A ++ [.int .i64 c.next_.nodes[k].pub, .int .i64 c.next_.nodes[k].member, .int .i64 c.next_.nodes[k].epoch]) (X := [ud]) (D := D') (by rw [List.length_append, i4]; rfl) rfl (by simp)] at j7_8
    refine ⟨(k + 1, H6, R7_8, A ++ [.int .i64 c.next_.nodes[k].pub, .int .i64 c.next_.nodes[k].member, .int .i64 c.next_.nodes[k].epoch, .slice p44 c.next_.nodes[k].unmerged.length c44], D', F ++ F44), 0, rfl, (.c rfl (.c rfl (.c rfl (.c rfl .n)))), rfl, ⟨by omega, i2.trans g44, by simpa using j7_8, by rw [List.length_append, i4]; simp; omega, ?_, i7.mono g44.ext⟩, by simp only; omega⟩
    rw [take_next hk]
    exact (i5.mono g44.ext).snoc ⟨_, _, rfl, d0, d1, d2, r44, rfl⟩
  try simp only [kk] at hc0
  refine x_exit ?_
  refine x_seq ?_
  refine x_region rfl ?_
  refine o_y (y_loadA ti31 rfl inn rfl) ?_
  refine o_store (u := [_, _, _, _, _, _, _, _, _, _, _, _, _, _, _]) (C' := [_, _, _, _, _, _, _, _, _, _, _, _, _, _, _]) ti31 rfl rfl rfl rfl (by first | rfl | assumption | (simp only [ones, List.all_cons, List.all_nil, Bool.and_true, one_of (by assumption)]; done)) (by repeat (first | exact .z | apply Upd.s | apply Upd.a)) (by exact Nat.le_of_ble_eq_true rfl) (by rfl) ?_
  refine o_nil ?_
  obtain rfl : k = c.next_.nodes.length := by omega
  rw [List.take_length] at i5
  rw [List.drop_length] at i6
  obtain rfl := i6.nil_of
  rw [List.append_nil] at i3
  refine x_freezeG (S := R) (O' := _) (List.Perm.refl _) (fun H9 g10 hN => ?_)
  refine x_ret ?_
  refine x_fin 2 (retC rfl rfl ti31 inn rfl) ?_
  have e3 := i2.ext.trans g10.ext
  have gg := (((g6.trans g7).trans g8).trans g9).trans (i2.trans g10)
  refine ⟨rfl, F6 ++ (F7 ++ (F8 ++ (F9 ++ (R.map (·.1) ++ F)))), _, gg.perm (perm_count fun a => by simp only [List.count_append]; omega), rfl, ?_⟩
  exact ⟨_, _, _, _, _, F6, F7, F8, F9, _, rfl, h0, h1, h2, h3, h4, r6.mono ((g7.ext.trans (g8.ext.trans g9.ext)).trans e3), r7.mono ((g8.ext.trans g9.ext).trans e3), r8.mono (g9.ext.trans e3), r9.mono e3, h9, h10, OwL.ofRow i3 rfl (i5.mono g10.ext) hN h11.small, h12, h13, rfl⟩
end Go.Ph
set_option linter.unusedVariables false
set_option linter.unusedSimpArgs false
set_option maxRecDepth 100000
namespace Go.Ph
open Go Go.RowKit Go.Proofs.YtmgnagpgnoikfaaGreatDoor Go.Proofs.Tryz
inductive OwnLF (H : HM) : List Value → List Log → OL → List Nat → Prop where
  | n : OwnLF H [] [] [] []
  | c {cs : List Value} {ls : List Log} {Rs : OL} {F Fa : List Nat} {va : Value} {csa : List Value} {Ra : OL} {x : Log} (h : OwnLF H cs ls Rs F) (hg : InR x.group) (hr : Row va x.commits.length csa 31 15 Ra) (he : ElO false H csa x.commits Fa) (hs : x.commits.length * 200 ≤ 140737488351232) : OwnLF H (cs ++ [.int .i64 x.group, va]) (ls ++ [x]) (Ra ++ Rs) (F ++ Fa)
theorem OwnLF.mono {H H' : HM} {cs : List Value} {ls : List Log} {Rs : OL} {F : List Nat} (e : Ext H H') (h : OwnLF H cs ls Rs F) : OwnLF H' cs ls Rs F := by
  induction h with
  | n => exact .n
  | c h hg hr he hs ih => exact .c ih hg hr (he.mono e) hs
theorem OwnLF.one {H' : HM} {va : Value} {csa : List Value} {Ra : OL} {x : Log} {Fa : List Nat} (hg : InR x.group) (hr : Row va x.commits.length csa 31 15 Ra) (he : ElO false H' csa x.commits Fa) (hs : x.commits.length * 200 ≤ 140737488351232) (hH : ∀ b o, (b, o) ∈ Ra → H' b = some o) : Own.ow false H' [.int .i64 x.group, va] x (Ra.map (·.1) ++ Fa) :=
  ⟨va, _, rfl, hg, OwL.ofRow hr rfl he hH hs, rfl⟩
theorem OwnLF.el {H H' : HM} {cs : List Value} {ls : List Log} {Rs : OL} {F : List Nat} (h : OwnLF H cs ls Rs F) (e : Ext H H') (hH : ∀ b o, (b, o) ∈ Rs → H' b = some o) : ∃ G, ElO false H' cs ls G ∧ G.Perm (Rs.map (·.1) ++ F) := by
  induction h with
  | n => exact ⟨[], .n, List.Perm.refl _⟩
  | c h hg hr he hs ih =>
    obtain ⟨G, h1, h2⟩ := ih (fun b o hm => hH b o (by simp [hm]))
    refine ⟨_, h1.snoc (OwnLF.one hg hr (he.mono e) hs (fun b o hm => hH b o (by simp [hm]))), perm_count fun a => ?_⟩
    have := h2.count_eq a
    simp only [List.count_append, List.map_append] at this ⊢
    omega
theorem OwnLF.len {H : HM} {cs : List Value} {ls : List Log} {Rs : OL} {F : List Nat} (h : OwnLF H cs ls Rs F) : cs.length = ls.length * 2 := by
  induction h with
  | n => rfl
  | c h hg hr he hs ih => simp only [List.length_append, List.length_cons, List.length_nil, ih]; omega
theorem OwnLF.split {H : HM} {cs : List Value} {ls : List Log} {Rs : OL} {F : List Nat} (h : OwnLF H cs ls Rs F) : ∀ q (hq : q < ls.length), ∃ A D vq csq Rq Rr Fq Fr, cs = A ++ [.int .i64 ls[q].group, vq] ++ D ∧ A.length = q * 2 ∧ Rs.Perm (Rr ++ Rq) ∧ F.Perm (Fr ++ Fq) ∧ InR ls[q].group ∧ Row vq ls[q].commits.length csq 31 15 Rq ∧ ElO false H csq ls[q].commits Fq ∧ ls[q].commits.length * 200 ≤ 140737488351232 ∧
    ∀ H', Ext H H' → (∀ b o, (b, o) ∈ Rr → H' b = some o) → ∃ FA FD, ElO false H' A (ls.take q) FA ∧ ElO false H' D (ls.drop (q + 1)) FD ∧ (FA ++ FD).Perm (Rr.map (·.1) ++ Fr) := by
  induction h with
  | n => intro q hq; simp at hq
  | @c cs ls Rs F Fa va csa Ra x h hg hr he hs ih =>
    intro q hq
    rw [List.length_append] at hq
    simp only [List.length_cons, List.length_nil] at hq
    by_cases hql : q < ls.length
    · obtain ⟨A, D, vq, csq, Rq, Rr, Fq, Fr, h1, h2, h3, h3', h4, h5, h6, h7, h8⟩ := ih q hql
      have e : (ls ++ [x])[q] = ls[q] := List.getElem_append_left hql
      rw [e]
      refine ⟨A, D ++ [.int .i64 x.group, va], vq, csq, Rq, Ra ++ Rr, Fq, Fr ++ Fa, by rw [h1, List.append_assoc], h2, ?_, ?_, h4, h5, h6, h7, fun H' e' hH => ?_⟩
      · rw [List.append_assoc]; exact List.Perm.append_left Ra h3
      · refine perm_count fun a => ?_
        have := h3'.count_eq a
        simp only [List.count_append] at this ⊢
        omega
      obtain ⟨FA, FD, h9, h10, h11⟩ := h8 H' e' (fun b o hm => hH b o (by simp [hm]))
      refine ⟨FA, FD ++ (Ra.map (·.1) ++ Fa), by rw [List.take_append_of_le_length (by omega)]; exact h9, ?_, ?_⟩
      · rw [List.drop_append_of_le_length (by omega)]
        exact h10.snoc (OwnLF.one hg hr (he.mono e') hs (fun b o hm => hH b o (by simp [hm])))
      refine perm_count fun a => ?_
      have := h11.count_eq a
      simp only [List.count_append, List.map_append] at this ⊢
      omega
    have hq' : q = ls.length := by omega
    subst hq'
    have e : (ls ++ [x])[ls.length] = x := by simp
    have hl := h.len
    rw [e]
    refine ⟨cs, [], va, csa, Ra, Rs, Fa, F, by simp, hl, List.perm_append_comm, List.Perm.refl _, hg, hr, he, hs, fun H' e' hH => ?_⟩
    obtain ⟨G, h9, h10⟩ := h.el e' hH
    refine ⟨G, [], by rw [List.take_left']; exact h9; rfl, by rw [List.drop_of_length_le (by simp)]; exact .n, by rw [List.append_nil]; exact h10⟩
abbrev AppO (err : Int) (ys : List Log) (H : HM) (O : OL) : Value → HM → OL → Prop := fun v H' O' => O = O' ∧ ∃ F u, Grew H H' F ∧ v = .tuple #[u, .int .i64 err] ∧ OwL false H' u ys F
end Go.Ph
