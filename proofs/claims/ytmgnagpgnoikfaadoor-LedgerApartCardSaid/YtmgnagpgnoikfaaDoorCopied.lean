/- A commit of its own memory. -/
import Derived.Test.YtmgnagpgnoikfaaDoorMembers
set_option linter.unusedVariables false
set_option linter.unusedSimpArgs false
set_option maxRecDepth 100000
namespace Go.Ph
open Go Go.RowKit Go.Proofs.YtmgnagpgnoikfaaDoor
theorem Node.unm {H : HM} {ds : List Value} {x : Node} {v : Value} (h : Rep.rd H ds x) (hv : RdL H v x.unmerged) : Rep.rd H (putC ds 3 [v]) x := by
  obtain ⟨u, rfl, h0, h1, h2, _⟩ := h
  exact ⟨v, rfl, h0, h1, h2, hv⟩
theorem El.same {α : Type} [Rep α] {H : HM} {cs u : List Value} {xs : List α} (h : El H cs xs) {k j : Nat} (hk : k < xs.length) (hj : j + u.length ≤ Rep.sz α) (hy : ∀ ds, Rep.rd H ds (xs[k]'hk) → Rep.rd H (putC ds j u) (xs[k]'hk)) : El H (putC cs (k * Rep.sz α + j) u) xs := by
  have := h.put hk hj (fun ds hd _ => hy ds hd)
  rwa [List.set_getElem_self] at this
theorem copied_ok {B : World} {H : HM} {O : OL} {cs : List Value} {c : Commit} (h : Rep.rd H cs c) : CallsM Go.Proofs.Tryd.prog 24 [.agg cs.toArray].toArray B H O (MadeS c H O) := by
  obtain ⟨u6, u7, u8, u9, u12, rfl, h0, h1, h2, h3, h4, h5, h6, h7, h8, h9, h10, h11, h12, h13⟩ := h
  have hnl := h11.lenle
  refine enter Go.Proofs.Tryd.func24 rfl Go.Proofs.Tryd.ntmps24 (l := [(0, _)]) rfl rfl ?_
  refine x_seq ?_
  refine x_region rfl ?_
  refine o_box rfl (cs := [_, _, _, _, _, _, _, _, _, _, _, _, _, _, _]) rfl (fun b1 => ?_)
  refine o_alloc ti31 rfl (fun b2 => ?_)
  refine o_nil ?_
  refine x_seq ?_
  refine x_regionP [(0, true), (1, true), (3, true), (4, true), (6, true), (7, true), (9, true), (10, true), (2, false), (12, true), (5, false), (8, false), (11, false), (13, false), (14, false), (15, false), (16, false), (17, false), (18, false), (19, false)] [0, 1, 3, 4, 6, 7, 9, 10, 12] [13, 15, 17, 19, 14, 16, 18] mixed (by kernel_rfl) (by repeat (first | exact np_fn | apply np_then | apply np_block)) ?_
  have hE := Ext.refl H
  refine p_take rfl rfl (y_fieldAddr fd31_6 ti23 (by decide) rfl) ?_
  refine p_take rfl rfl (y_loadO ti23 rfl (by repeat (first | assumption | exact .z | apply In.s | apply In.a)) rfl) ?_
  refine p_take rfl rfl (y_fieldAddr fd31_7 ti24 (by decide) rfl) ?_
  refine p_take rfl rfl (y_loadO ti24 rfl (by repeat (first | assumption | exact .z | apply In.s | apply In.a)) rfl) ?_
  refine p_take rfl rfl (y_fieldAddr fd31_8 ti25 (by decide) rfl) ?_
  refine p_take rfl rfl (y_loadO ti25 rfl (by repeat (first | assumption | exact .z | apply In.s | apply In.a)) rfl) ?_
  refine p_take rfl rfl (y_fieldAddr fd31_9 ti26 (by decide) rfl) ?_
  refine p_take rfl rfl (y_loadO ti26 rfl (by repeat (first | assumption | exact .z | apply In.s | apply In.a)) rfl) ?_
  refine p_only rfl rfl ?_
  refine o_call fn38 rfl (clone_add h5) ?_
  rintro v6 H1 _ ⟨x2, rfl, r2⟩
  refine o_nil ?_
  replace hE := hE.trans x2
  obtain ⟨p2, c2, rfl⟩ := r2.shape
  refine ⟨.inr ⟨hE, by first | exact fun _ h => h | exact fun _ h => .tail _ h | exact fun _ h => .tail _ (.tail _ h) | exact fun _ h => .tail _ (.tail _ (.tail _ h)) | exact held_0 | exact held_1 | exact held_2 | exact held_z0 | exact held_z1 | exact held_s | exact (fun _ h => by cases h)⟩, ?_⟩
  refine p_take rfl rfl (y_fieldAddr fd31_6 ti23 (by decide) rfl) ?_
  refine p_only rfl rfl ?_
  refine o_call fn39 rfl (clone_int (h6.mono hE)) ?_
  rintro v7 H2 _ ⟨x5, rfl, r5⟩
  refine o_nil ?_
  replace hE := hE.trans x5
  obtain ⟨p5, c5, rfl⟩ := r5.shape
  refine ⟨.inr ⟨hE, by first | exact fun _ h => h | exact fun _ h => .tail _ h | exact fun _ h => .tail _ (.tail _ h) | exact fun _ h => .tail _ (.tail _ (.tail _ h)) | exact held_0 | exact held_1 | exact held_2 | exact held_z0 | exact held_z1 | exact held_s | exact (fun _ h => by cases h)⟩, ?_⟩
  refine p_only rfl rfl ?_
  refine o_call fn40 rfl (clone_seal (h7.mono hE)) ?_
  rintro v8 H3 _ ⟨x8, rfl, r8⟩
  refine o_nil ?_
  replace hE := hE.trans x8
  obtain ⟨p8, c8, rfl⟩ := r8.shape
  refine ⟨.inr ⟨hE, by first | exact fun _ h => h | exact fun _ h => .tail _ h | exact fun _ h => .tail _ (.tail _ h) | exact fun _ h => .tail _ (.tail _ (.tail _ h)) | exact held_0 | exact held_1 | exact held_2 | exact held_z0 | exact held_z1 | exact held_s | exact (fun _ h => by cases h)⟩, ?_⟩
  refine p_only rfl rfl ?_
  refine o_call fn41 rfl (clone_join (h8.mono hE)) ?_
  rintro v9 H4 _ ⟨x11, rfl, r11⟩
  refine o_nil ?_
  replace hE := hE.trans x11
  obtain ⟨p11, c11, rfl⟩ := r11.shape
  refine ⟨.inr ⟨hE, by first | exact fun _ h => h | exact fun _ h => .tail _ h | exact fun _ h => .tail _ (.tail _ h) | exact fun _ h => .tail _ (.tail _ (.tail _ h)) | exact held_0 | exact held_1 | exact held_2 | exact held_z0 | exact held_z1 | exact held_s | exact (fun _ h => by cases h)⟩, ?_⟩
  refine p_only rfl rfl ?_
  refine o_store (u := [_]) (C' := [_, _, _, _, _, _, _, _, _, _, _, _, _, _, _]) ti23 rfl rfl rfl rfl (by first | rfl | assumption | (simp only [ones, List.all_cons, List.all_nil, Bool.and_true, one_of (by assumption)]; done)) (by repeat (first | exact .z | apply Upd.s | apply Upd.a)) (by exact Nat.le_of_ble_eq_true rfl) (by rfl) ?_
  refine o_nil ?_
  refine ⟨.inl rfl, ?_⟩
  refine p_only rfl rfl ?_
  refine o_y (y_fieldAddr fd31_7 ti24 (by decide) rfl) ?_
  refine o_nil ?_
  refine ⟨.inl rfl, ?_⟩
  refine p_only rfl rfl ?_
  refine o_store (u := [_]) (C' := [_, _, _, _, _, _, _, _, _, _, _, _, _, _, _]) ti24 rfl rfl rfl rfl (by first | rfl | assumption | (simp only [ones, List.all_cons, List.all_nil, Bool.and_true, one_of (by assumption)]; done)) (by repeat (first | exact .z | apply Upd.s | apply Upd.a)) (by exact Nat.le_of_ble_eq_true rfl) (by rfl) ?_
  refine o_nil ?_
  refine ⟨.inl rfl, ?_⟩
  refine p_only rfl rfl ?_
  refine o_y (y_fieldAddr fd31_8 ti25 (by decide) rfl) ?_
  refine o_nil ?_
  refine ⟨.inl rfl, ?_⟩
  refine p_only rfl rfl ?_
  refine o_store (u := [_]) (C' := [_, _, _, _, _, _, _, _, _, _, _, _, _, _, _]) ti25 rfl rfl rfl rfl (by first | rfl | assumption | (simp only [ones, List.all_cons, List.all_nil, Bool.and_true, one_of (by assumption)]; done)) (by repeat (first | exact .z | apply Upd.s | apply Upd.a)) (by exact Nat.le_of_ble_eq_true rfl) (by rfl) ?_
  refine o_nil ?_
  refine ⟨.inl rfl, ?_⟩
  refine p_only rfl rfl ?_
  refine o_y (y_fieldAddr fd31_9 ti26 (by decide) rfl) ?_
  refine o_nil ?_
  refine ⟨.inl rfl, ?_⟩
  refine p_only rfl rfl ?_
  refine o_store (u := [_]) (C' := [_, _, _, _, _, _, _, _, _, _, _, _, _, _, _]) ti26 rfl rfl rfl rfl (by first | rfl | assumption | (simp only [ones, List.all_cons, List.all_nil, Bool.and_true, one_of (by assumption)]; done)) (by repeat (first | exact .z | apply Upd.s | apply Upd.a)) (by exact Nat.le_of_ble_eq_true rfl) (by rfl) ?_
  refine o_nil ?_
  refine ⟨.inl rfl, ?_⟩
  refine p_nil ?_
  refine x_seq ?_
  refine x_region rfl ?_
  refine o_y (y_fieldAddr fd31_12 ti29 (by decide) rfl) ?_
  refine o_y (y_fieldAddr fd29_0 ti27 (by decide) rfl) ?_
  refine o_y (y_loadO ti27 rfl (by repeat (first | assumption | exact .z | apply In.s | apply In.a)) rfl) ?_
  refine o_call fn42 rfl (clone_nodeR (h11.mono hE)) ?_
  rintro v12 _ _ ⟨rfl, R, cs, rfl, j1, j2⟩
  obtain ⟨p12, c12, rfl⟩ := j1.shape
  refine o_y (y_fieldAddr fd31_12 ti29 (by decide) rfl) ?_
  refine o_y (y_fieldAddr fd29_0 ti27 (by decide) rfl) ?_
  refine o_store (u := [_]) (C' := [_, _, _, _, _, _, _, _, _, _, _, _, _, _, _]) ti27 rfl rfl rfl rfl (by first | rfl | assumption | (simp only [ones, List.all_cons, List.all_nil, Bool.and_true, one_of (by assumption)]; done)) (by repeat (first | exact .z | apply Upd.s | apply Upd.a)) (by exact Nat.le_of_ble_eq_true rfl) (by rfl) ?_
  refine o_nil ?_
  refine x_seq ?_
  refine x_seq ?_
  refine x_region rfl ?_
  refine o_y (y_fieldAddr fd31_12 ti29 (by decide) rfl) ?_
  refine o_y (y_fieldAddr fd29_0 ti27 (by decide) rfl) ?_
  refine o_y (y_loadO ti27 rfl (by repeat (first | assumption | exact .z | apply In.s | apply In.a)) rfl) ?_
  first | refine o_y (y_lenL (by assumption) Go.Proofs.Tryd.underlying27 rfl) ?_ | refine o_y (y_lenR (by assumption) Go.Proofs.Tryd.underlying27 rfl) ?_ | refine o_y (y_len Go.Proofs.Tryd.underlying27 rfl) ?_
  refine o_y (y_move rfl) ?_
  refine o_nil ?_
  refine x_block ?_
  refine x_loopg (σ := Nat × HM × OL × List Value) (fun s => [(31, .int .i64 (s.1 : Int)), (30, .int .i64 (c.next_.nodes.length : Int)), (1, .pointer (some ⟨b1, 0, none⟩)), (2, .pointer (some ⟨b2, 0, none⟩))]) (fun s => s.2.1) (fun s => s.2.2.1 ++ _) (fun s => s.1 ≤ c.next_.nodes.length ∧ Ext H4 s.2.1 ∧ Row (.slice p12 c.next_.nodes.length c12) c.next_.nodes.length s.2.2.2 72 4 s.2.2.1 ∧ El s.2.1 s.2.2.2 c.next_.nodes) (fun s => c.next_.nodes.length - s.1) (0, H4, R, cs) ⟨by simp, Ext.refl _, j1, j2⟩ (.c rfl (.c rfl (.c rfl (.c rfl .n)))) rfl rfl ?_
  rintro ⟨k, H5, R, cs⟩ ⟨i1, i2, i3, i4⟩
  simp only at i1 i2 i3 i4
  refine x_seq ?_
  refine x_region rfl ?_
  refine o_y (y_lss rfl rfl) ?_
  refine o_nil ?_
  refine x_seq ?_
  refine x_cond rfl (fun hc0 => ?_) (fun hc0 => ?_)
  · try simp only [k1, k2, k3, k4, k5, k6, k7, k8, k9] at hc0
    have hk : k < c.next_.nodes.length := by omega
    refine x_skip ?_
    refine x_seq ?_
    refine x_block ?_
    refine x_seq ?_
    refine x_region rfl ?_
    refine o_y (y_move rfl) ?_
    refine o_y (y_assign rfl) ?_
    refine o_nil ?_
    refine x_seq ?_
    refine x_region rfl ?_
    refine o_y (y_fieldAddr fd31_12 ti29 (by decide) rfl) ?_
    refine o_y (y_fieldAddr fd29_0 ti27 (by decide) rfl) ?_
    refine o_y (y_loadO ti27 rfl (by repeat (first | assumption | exact .z | apply In.s | apply In.a)) rfl) ?_
    refine o_y (y_move rfl) ?_
    obtain ⟨ce38, ae38, re38⟩ := Row.elAt i3 i4 rfl k hk (by omega) (fun p hp => hp)
    have se38 := AtS.isSl ae38
    have te38 := re38
    obtain ⟨u38_3, z38, q38_0, q38_1, q38_2, q38_3⟩ := re38
    subst z38
    have w38 := Rep.one te38
    refine o_y (y_idxR i3 k (by omega) Go.Proofs.Tryd.underlying27 ti72 rfl rfl (by omega)) ?_
    refine o_y (y_assign rfl) ?_
    refine o_nil ?_
    refine x_region rfl ?_
    refine o_y (y_move rfl) ?_
    refine o_y (y_move rfl) ?_
    refine o_y (y_nilCheckP (by assumption) rfl) ?_
    refine o_y (y_fieldAddrP fd72_3 ti24 (by decide) (by assumption) rfl) ?_
    refine o_y (y_loadS1 ti24 rfl (AtS.sub (by assumption) (fun p hp => by repeat (first | exact hp | exact List.mem_append_left _ hp | apply List.mem_cons_of_mem | apply List.mem_append_right))) rfl) ?_
    refine o_call fn39 rfl (clone_int q38_3) ?_
    rintro v44 H6 _ ⟨x44, rfl, r44⟩
    obtain ⟨p44, c44, rfl⟩ := r44.shape
    refine o_y (y_nilCheckP (by assumption) rfl) ?_
    refine o_y (y_fieldAddrP fd72_3 ti24 (by decide) (by assumption) rfl) ?_
    have hl4 : k * 4 + 4 ≤ cs.length := El.len_le i4 hk (j := 4) (Nat.le_refl _)
    refine o_storeS (u := [_]) ti24 rfl rfl i3 rfl rfl (by first | rfl | assumption | (simp only [ones, List.all_cons, List.all_nil, Bool.and_true, one_of (by assumption)]; done)) (by omega) (by omega) (by repeat (first | exact .o | exact .z | exact .e | apply Hole.s | apply Hole.g)) (fun R7_8 j7_8 => ?_)
    refine o_nil ?_
    refine x_region rfl ?_
    refine o_y (y_addN rfl rfl (by omega) (by omega)) ?_
    refine o_y (y_move rfl) ?_
    refine o_nil ?_
    exact ⟨(k + 1, H6, R7_8, putC cs (k * 4 + 3) [.slice p44 c.next_.nodes[k].unmerged.length c44]), 0, rfl, (.c rfl (.c rfl (.c rfl (.c rfl .n)))), rfl, ⟨by omega, i2.trans x44, j7_8, El.same (i4.mono x44) hk (Nat.le_of_ble_eq_true rfl) (fun ds hd => Node.unm hd r44)⟩, by simp only; omega⟩
  · try simp only [k1, k2, k3, k4, k5, k6, k7, k8, k9] at hc0
    refine x_exit ?_
    refine x_seq ?_
    refine x_region rfl ?_
    refine o_y (y_loadA ti31 rfl (by repeat (first | assumption | exact .z | apply In.s | apply In.a)) rfl) ?_
    refine o_store (u := [_, _, _, _, _, _, _, _, _, _, _, _, _, _, _]) (C' := [_, _, _, _, _, _, _, _, _, _, _, _, _, _, _]) ti31 rfl rfl rfl rfl (by first | rfl | assumption | (simp only [ones, List.all_cons, List.all_nil, Bool.and_true, one_of (by assumption)]; done)) (by repeat (first | exact .z | apply Upd.s | apply Upd.a)) (by exact Nat.le_of_ble_eq_true rfl) (by rfl) ?_
    refine o_nil ?_
    refine x_freeze (S := R) (O' := _) ⟨[], rfl⟩ (fun hN hX => ?_)
    refine x_ret ?_
    refine x_fin 2 (retC rfl rfl ti31 (by repeat (first | assumption | exact .z | apply In.s | apply In.a)) rfl) ?_
    have e5 := i2.trans hX
    exact ⟨hE.trans e5, rfl, _, rfl, _, _, _, _, _, rfl, h0, h1, h2, h3, h4, r2.mono ((x5.trans (x8.trans x11)).trans e5), r5.mono ((x8.trans x11).trans e5), r8.mono (x11.trans e5), r11.mono e5, h9, h10, i3.freeze rfl i4 h11.small hN, h12, h13⟩
end Go.Ph
