/- LedgerFirst, LedgerApart: the walks. -/
import Derived.Test.YtmgnagpgnoikfaaDoorLedger8
import Derived.Test.YtmgnagpgnoikfaaDoorLedgerP
import Derived.Test.YtmgnagpgnoikfaaDoorSame3
set_option linter.unusedVariables false
set_option linter.unusedSimpArgs false
set_option maxRecDepth 100000
namespace Go.Ph
open Go Go.RowKit Go.Proofs.YtmgnagpgnoikfaaDoor

theorem beyond_in {B : World} {H : HM} {O : OL} {v : Value} {xs : List Int} {b : Bool} (hb : beyondI xs 0 = b) (h : RdL H v xs) : CallsM Go.Proofs.Tryd.prog 6 [v].toArray B H O (Same (.bool b) H O) := by
  have := beyond_ok (B := B) (O := O) h
  rwa [hb] at this
theorem beyond3 {a b c : Nat} (h : beyondI [(a : Int), (b : Int), (c : Int)] 0 = false) : a ≤ 262144 ∧ b ≤ 262144 ∧ c ≤ 262144 := by
  simp only [beyondI] at h
  split at h
  · cases h
  · split at h
    · cases h
    · split at h
      · cases h
      · split at h
        · cases h
        · split at h
          · cases h
          · omega
theorem row3 {H : HM} {b : Nat} {x y z : Int} (hx : InR x) (hy : InR y) (hz : InR z) (hN : ∀ c o, (c, o) ∈ [(b, cl [.int .i64 x, .int .i64 y, .int .i64 z] 3)] → H c = none) : RdL (H.add [(b, cl [.int .i64 x, .int .i64 y, .int .i64 z] 3)]) (.slice (some ⟨b, 0, none⟩) 3 3) [x, y, z] :=
  Row.freeze (n := 3) (e := 3) (cs := [.int .i64 x, .int .i64 y, .int .i64 z]) ⟨rfl, .inr ⟨b, 3, [], rfl, Nat.le_refl _, rfl, rfl⟩⟩ rfl (El.c (cs := [.int .i64 x]) ⟨rfl, hx⟩ (El.c (cs := [.int .i64 y]) ⟨rfl, hy⟩ (El.c (cs := [.int .i64 z]) ⟨rfl, hz⟩ .n))) (by exact Nat.le_of_ble_eq_true rfl) hN
theorem first_true {B : World} {H : HM} {O : OL} {v : Value} {xs : List Log} {cs ds : List Value} {c d : Commit} (hT : TabAt H) (h : RdL H v xs) (hc : Rep.rd H cs c) (hd : Rep.rd H ds d) : CallsM Go.Proofs.Tryd.prog 4 [v, .agg cs.toArray, .agg ds.toArray].toArray B H O (Yes H O) := by
  have hls := logsSize_le h
  have hsl := h.lenle
  have hcz := commitSize_le hc
  have hdz := commitSize_le hd
  have hcl := commits_len (g := c.group) h
  have hk := hc
  have wk := Rep.one hc
  obtain ⟨u6, u7, u8, u9, u12, rfl, h0, h1, h2, h3, h4, h5, h6, h7, h8, h9, h10, h11, h12, h13⟩ := hc
  have hk2 := hd
  have wk2 := Rep.one hd
  obtain ⟨w6, w7, w8, w9, w12, rfl, g0, g1, g2, g3, g4, g5, g6, g7, g8, g9, g10, g11, g12, g13⟩ := hd
  refine enter Go.Proofs.Tryd.func4 rfl Go.Proofs.Tryd.ntmps4 (l := [(0, _), (1, _), (2, _)]) rfl rfl ?_
  refine x_seq ?_
  refine x_region rfl ?_
  refine o_box rfl (cs := [_, _, _, _, _, _, _, _, _, _, _, _, _, _, _]) rfl (fun b4 => ?_)
  refine o_box rfl (cs := [_, _, _, _, _, _, _, _, _, _, _, _, _, _, _]) rfl (fun b5 => ?_)
  refine o_y (y_assign rfl) ?_
  refine o_nil ?_
  refine x_seq ?_
  refine x_seq ?_
  refine x_regionP [(0, true), (2, true), (4, true), (1, false), (3, false), (5, false), (6, false), (7, false)] [0, 2, 4] [] mixed (by kernel_rfl) (by repeat (first | exact np_fn | apply np_then | apply np_block)) ?_
  have hE := Ext.refl H
  refine p_take rfl rfl (y_move rfl) ?_
  refine p_take rfl rfl (y_loadA ti31 rfl (by repeat (first | assumption | exact .z | apply In.s | apply In.a)) rfl) ?_
  refine p_take rfl rfl (y_loadA ti31 rfl (by repeat (first | assumption | exact .z | apply In.s | apply In.a)) rfl) ?_
  refine p_only rfl rfl ?_
  refine o_call fn7 rfl (logsSize_ok h) ?_
  rintro _ _ _ ⟨rfl, rfl, rfl⟩
  refine o_nil ?_
  refine ⟨.inr ⟨hE, by first | exact fun _ h => h | exact fun _ h => .tail _ h | exact fun _ h => .tail _ (.tail _ h) | exact fun _ h => .tail _ (.tail _ (.tail _ h)) | exact held_0 | exact held_1 | exact held_2 | exact held_z0 | exact held_z1 | exact held_s | exact (fun _ h => by cases h)⟩, ?_⟩
  refine p_only rfl rfl ?_
  refine o_call fn8 rfl (commitSize_ok hk) ?_
  rintro _ _ _ ⟨rfl, rfl, rfl⟩
  refine o_nil ?_
  refine ⟨.inr ⟨hE, by first | exact fun _ h => h | exact fun _ h => .tail _ h | exact fun _ h => .tail _ (.tail _ h) | exact fun _ h => .tail _ (.tail _ (.tail _ h)) | exact held_0 | exact held_1 | exact held_2 | exact held_z0 | exact held_z1 | exact held_s | exact (fun _ h => by cases h)⟩, ?_⟩
  refine p_only rfl rfl ?_
  refine o_call fn8 rfl (commitSize_ok hk2) ?_
  rintro _ _ _ ⟨rfl, rfl, rfl⟩
  refine o_nil ?_
  refine ⟨.inr ⟨hE, by first | exact fun _ h => h | exact fun _ h => .tail _ h | exact fun _ h => .tail _ (.tail _ h) | exact fun _ h => .tail _ (.tail _ (.tail _ h)) | exact held_0 | exact held_1 | exact held_2 | exact held_z0 | exact held_z1 | exact held_s | exact (fun _ h => by cases h)⟩, ?_⟩
  refine p_only rfl rfl ?_
  refine o_buildSlice (C := [_, _, _]) Go.Proofs.Tryd.underlying24 ti3 (by decide) (by decide) (evs_ok rfl) (fill_i3 _ _ _) (fun b23 => ?_)
  refine o_nil ?_
  refine ⟨.inr ⟨hE, by first | exact fun _ h => h | exact fun _ h => .tail _ h | exact fun _ h => .tail _ (.tail _ h) | exact fun _ h => .tail _ (.tail _ (.tail _ h)) | exact held_0 | exact held_1 | exact held_2 | exact held_z0 | exact held_z1 | exact held_s | exact (fun _ h => by cases h)⟩, ?_⟩
  refine p_only rfl rfl ?_
  refine o_call fn6 rfl (CallsM.lend (A := []) (O' := _) [(b23, _)] rfl (fun hN hX => beyond_ok (xs := [(logsSize xs : Int), (commitSize c : Int), (commitSize d : Int)]) (row3 (by show InR (logsSize xs : Int); unfold InR; omega) (by show InR (commitSize c : Int); unfold InR; omega) (by show InR (commitSize d : Int); unfold InR; omega) hN))) ?_
  rintro _ _ _ ⟨rfl, rfl, rfl⟩
  refine o_nil ?_
  refine ⟨.inr ⟨hE, by first | exact fun _ h => h | exact fun _ h => .tail _ h | exact fun _ h => .tail _ (.tail _ h) | exact fun _ h => .tail _ (.tail _ (.tail _ h)) | exact held_0 | exact held_1 | exact held_2 | exact held_z0 | exact held_z1 | exact held_s | exact (fun _ h => by cases h)⟩, ?_⟩
  refine p_nil ?_
  refine x_cond rfl (fun hc0 => ?_) (fun hc0 => ?_)
  · try simp only [k1, k2, k3, k4, k5, k6, k7, k8, k9] at hc0
    refine x_seq ?_
    refine x_region rfl ?_
    refine o_y (y_assign rfl) ?_
    refine o_nil ?_
    refine x_ret ?_
    refine x_fin 3 (ret1 rfl rfl) ?_
    exact ⟨rfl, Ext.refl _, rfl⟩
  · try simp only [k1, k2, k3, k4, k5, k6, k7, k8, k9] at hc0
    obtain ⟨hz1, hz2, hz3⟩ := beyond3 hc0
    have hsm := logs_small hz1
    refine x_skip ?_
    refine x_seq ?_
    refine x_region rfl ?_
    refine o_y (y_move rfl) ?_
    refine o_y (y_loadA ti31 rfl (by repeat (first | assumption | exact .z | apply In.s | apply In.a)) rfl) ?_
    refine o_call fn10 rfl (append_ok hT h hk (fun x hx => by have := hsm x hx; omega)) ?_
    rintro v28 H1 _ ⟨x28, rfl, u28, rfl, r28⟩
    refine o_y (y_move rfl) ?_
    refine o_y (y_extract rfl rfl) ?_
    refine o_y (y_extract rfl rfl) ?_
    refine o_y (y_assign rfl) ?_
    refine o_y (y_assign rfl) ?_
    refine o_nil ?_
    refine x_seq ?_
    refine x_seq ?_
    refine x_region rfl ?_
    refine o_y (y_move rfl) ?_
    refine o_y (y_neq rfl rfl) ?_
    refine o_nil ?_
    refine x_cond rfl (fun hc1 => ?_) (fun hc1 => ?_)
    · try simp only [k1, k2, k3, k4, k5, k6, k7, k8, k9] at hc1
      have he : appErr xs c ≠ 0 := hc1
      rw [app_nil he] at r28
      refine x_seq ?_
      refine x_region rfl ?_
      refine o_y (y_move rfl) ?_
      first | refine o_y (y_lenL (by assumption) Go.Proofs.Tryd.underlying22 rfl) ?_ | refine o_y (y_lenR (by assumption) Go.Proofs.Tryd.underlying22 rfl) ?_ | refine o_y (y_len Go.Proofs.Tryd.underlying22 rfl) ?_
      refine o_y (y_eql rfl rfl) ?_
      refine o_y (y_move rfl) ?_
      refine o_split 36 rfl (fun hg5_36 => ?_) (fun hg5_36 => ?_)
      · try simp only [k1, k2, k3, k4, k5, k6, k7, k8, k9] at hg5_36
        refine o_gcall 36 rfl rfl fn9 rfl (alive_ok (hT.ext x28)) ?_
        rintro v37 H2 _ ⟨rfl, x37, rfl⟩
        refine o_y (y_pick rfl rfl) ?_
        refine o_y (y_assign rfl) ?_
        refine o_nil ?_
        refine x_ret ?_
        refine x_fin 3 (ret1 rfl rfl) ?_
        exact ⟨rfl, x28.trans x37, rfl⟩
      · try simp only [k1, k2, k3, k4, k5, k6, k7, k8, k9] at hg5_36
        exfalso; simp at hg5_36
    · try simp only [k1, k2, k3, k4, k5, k6, k7, k8, k9] at hc1
      have he : appErr xs c = 0 := hc1
      obtain ⟨f1, f2, f3⟩ := first_last he
      have hT1 := hT.ext x28
      refine x_skip ?_
      refine x_seq ?_
      refine x_region rfl ?_
      refine o_y (y_move rfl) ?_
      refine o_y (y_fieldAddr fd31_0 ti3 (by decide) rfl) ?_
      refine o_y (y_loadO ti3 rfl (by repeat (first | assumption | exact .z | apply In.s | apply In.a)) rfl) ?_
      refine o_call fn12 rfl (last_ok hT1 r28 h0) ?_
      rintro v43 H2 _ ⟨x43, rfl, cs43, rfl, r43⟩
      have w43 := Rep.one r43
      have r43c := r43
      obtain ⟨a6, a7, a8, a9, a12, rfl, r43⟩ := r43
      refine o_y (y_move rfl) ?_
      refine o_y (y_extract rfl rfl) ?_
      refine o_y (y_extract rfl rfl) ?_
      refine o_alloc ti31 rfl (fun b9 => ?_)
      refine o_store (u := [_, _, _, _, _, _, _, _, _, _, _, _, _, _, _]) (C' := [_, _, _, _, _, _, _, _, _, _, _, _, _, _, _]) ti31 rfl rfl rfl rfl (by first | rfl | assumption | (simp only [ones, List.all_cons, List.all_nil, Bool.and_true, one_of (by assumption)]; done)) (by repeat (first | exact .z | apply Upd.s | apply Upd.a)) (by exact Nat.le_of_ble_eq_true rfl) (by rfl) ?_
      refine o_y (y_assign rfl) ?_
      refine o_nil ?_
      refine x_seq ?_
      refine x_seq ?_
      have hT2 := hT1.ext x43
      have hv2 := (h.mono x28).mono x43
      have r28b := r28.mono x43
      have hk3 := Rep.mono (x28.trans x43) hk
      refine x_regionQ mixed (by kernel_rfl) rfl ?_
      refine q_y (y_move rfl) ?_
      refine q_y (y_not rfl) ?_
      refine q_y (y_move rfl) ?_
      refine q_split 48 rfl (fun hg7_48 => ?_) (fun hg7_48 => ?_)
      · try simp only [k1, k2, k3, k4, k5, k6, k7, k8, k9] at hg7_48
        exfalso; rw [f1] at hg7_48; cases hg7_48
      · try simp only [k1, k2, k3, k4, k5, k6, k7, k8, k9] at hg7_48
        refine q_gy 48 rfl rfl (y_loadA ti31 rfl (by repeat (first | assumption | exact .z | apply In.s | apply In.a)) rfl) ?_
        refine q_gy 48 rfl rfl (y_loadA ti31 rfl (by repeat (first | assumption | exact .z | apply In.s | apply In.a)) rfl) ?_
        refine q_gcall 48 rfl rfl fn13 rfl (sameCommit_ok r43c hk3) ?_
        refine q_gy 48 rfl rfl (y_not rfl) ?_
        refine q_y (y_pick rfl rfl) ?_
        refine q_y (y_move rfl) ?_
        refine q_split 54 rfl (fun hg7_54 => ?_) (fun hg7_54 => ?_)
        · try simp only [k1, k2, k3, k4, k5, k6, k7, k8, k9] at hg7_54
          exfalso; exact hg7_54 f2
        · try simp only [k1, k2, k3, k4, k5, k6, k7, k8, k9] at hg7_54
          refine q_gy 54 rfl rfl (y_move rfl) ?_
          refine q_gcall 54 rfl rfl fn14 rfl (lcheck_ok hT2 r28b) ?_
          refine q_gy 54 rfl rfl (y_neq rfl rfl) ?_
          refine q_y (y_pick rfl rfl) ?_
          refine q_y (y_move rfl) ?_
          refine q_split 59 rfl (fun hg7_59 => ?_) (fun hg7_59 => ?_)
          · try simp only [k1, k2, k3, k4, k5, k6, k7, k8, k9] at hg7_59
            exfalso; exact hg7_59 (by rw [app_valid he]; rfl)
          · try simp only [k1, k2, k3, k4, k5, k6, k7, k8, k9] at hg7_59
            refine q_gy 59 rfl rfl (y_move rfl) ?_
            refine q_gy 59 rfl rfl (y_fieldAddr fd31_0 ti3 (by decide) rfl) ?_
            refine q_gy 59 rfl rfl (y_loadO ti3 rfl (by repeat (first | assumption | exact .z | apply In.s | apply In.a)) rfl) ?_
            refine q_gcall 59 rfl rfl fn15 rfl (len_ok hT2 r28b h0) ?_
            refine q_gy 59 rfl rfl (y_move rfl) ?_
            refine q_gy 59 rfl rfl (y_fieldAddr fd31_0 ti3 (by decide) rfl) ?_
            refine q_gy 59 rfl rfl (y_loadO ti3 rfl (by repeat (first | assumption | exact .z | apply In.s | apply In.a)) rfl) ?_
            refine q_gcall 59 rfl rfl fn15 rfl (len_ok hT2 hv2 h0) ?_
            refine q_gy 59 rfl rfl (y_addN rfl rfl (by omega) (by omega)) ?_
            refine q_gy 59 rfl rfl (y_neq rfl rfl) ?_
            refine q_y (y_pick rfl rfl) ?_
            refine q_nil ?_
            refine x_cond rfl (fun hc2 => ?_) (fun hc2 => ?_)
            · try simp only [k1, k2, k3, k4, k5, k6, k7, k8, k9] at hc2
              exfalso; omega
            · try simp only [k1, k2, k3, k4, k5, k6, k7, k8, k9] at hc2
              refine x_skip ?_
              refine x_seq ?_
              refine x_seq ?_
              refine x_pick (O' := (b5, _) :: (b4, _) :: O) (.cons _ (.cons _ (List.Sublist.refl _))) ?_
              refine x_region rfl ?_
              refine o_y (y_assign rfl) ?_
              refine o_nil ?_
              refine x_block ?_
              refine x_loopg (σ := Nat × HM) (fun s => [(11, .int .i64 (s.1 : Int)), (0, v), (7, u28), (4, .pointer (some ⟨b4, 0, none⟩)), (5, .pointer (some ⟨b5, 0, none⟩))]) (fun s => s.2) (fun s => _) (fun s => s.1 ≤ xs.length ∧ Ext H2 s.2) (fun s => xs.length - s.1) (0, H2) ⟨by simp, Ext.refl _⟩ (.c rfl (.c rfl (.c rfl (.c rfl (.c rfl .n))))) rfl rfl ?_
              rintro ⟨k, H5⟩ ⟨i1, i2⟩
              simp only at i1 i2
              have hv5 := hv2.mono i2
              refine x_seq ?_
              refine x_seq ?_
              refine x_region rfl ?_
              refine o_y (y_move rfl) ?_
              refine o_y (y_move rfl) ?_
              first | refine o_y (y_lenL (by assumption) Go.Proofs.Tryd.underlying22 rfl) ?_ | refine o_y (y_lenR (by assumption) Go.Proofs.Tryd.underlying22 rfl) ?_ | refine o_y (y_len Go.Proofs.Tryd.underlying22 rfl) ?_
              refine o_y (y_lss rfl rfl) ?_
              refine o_nil ?_
              refine x_cond rfl (fun hc3 => ?_) (fun hc3 => ?_)
              · try simp only [k1, k2, k3, k4, k5, k6, k7, k8, k9] at hc3
                have hk5 : k < xs.length := by omega
                refine x_skip ?_
                refine x_seq ?_
                refine x_block ?_
                refine x_seq ?_
                refine x_region rfl ?_
                refine o_y (y_assign rfl) ?_
                refine o_nil ?_
                refine x_block ?_
                refine x_loopg (σ := Nat × HM) (fun s => [(12, .int .i64 (s.1 : Int)), (11, .int .i64 (k : Int)), (0, v), (7, u28), (4, .pointer (some ⟨b4, 0, none⟩)), (5, .pointer (some ⟨b5, 0, none⟩))]) (fun s => s.2) (fun s => _) (fun s => s.1 ≤ xs[k].commits.length ∧ Ext H5 s.2) (fun s => xs[k].commits.length - s.1) (0, H5) ⟨by simp, Ext.refl _⟩ (.c rfl (.c rfl (.c rfl (.c rfl (.c rfl (.c rfl .n)))))) rfl rfl ?_
                rintro ⟨m, H6⟩ ⟨l1, l2⟩
                simp only at l1 l2
                have hv6 := hv5.mono l2
                have r6 := r28b.mono (i2.trans l2)
                refine x_seq ?_
                refine x_seq ?_
                refine x_region rfl ?_
                refine o_y (y_move rfl) ?_
                refine o_y (y_move rfl) ?_
                refine o_y (y_move rfl) ?_
                obtain ⟨ce80, ae80, re80⟩ := RdL.at hv6 _ k hk5
                have se80 := AtS.isSl ae80
                have te80 := re80
                obtain ⟨u80_1, z80, q80_0, q80_1⟩ := re80
                subst z80
                have w80 := Rep.one te80
                refine o_y (y_idxL hv6 k hk5 Go.Proofs.Tryd.underlying22 ti48 rfl rfl (by omega)) ?_
                refine o_y (y_fieldAddrP fd48_1 ti46 (by decide) (by assumption) rfl) ?_
                refine o_y (y_loadS1 ti46 rfl (by assumption) rfl) ?_
                have hcl6 := q80_1.lenle
                first | refine o_y (y_lenL (by assumption) Go.Proofs.Tryd.underlying46 rfl) ?_ | refine o_y (y_lenR (by assumption) Go.Proofs.Tryd.underlying46 rfl) ?_ | refine o_y (y_len Go.Proofs.Tryd.underlying46 rfl) ?_
                refine o_y (y_lss rfl rfl) ?_
                refine o_nil ?_
                refine x_cond rfl (fun hc4 => ?_) (fun hc4 => ?_)
                · try simp only [k1, k2, k3, k4, k5, k6, k7, k8, k9] at hc4
                  have hm : m < xs[k].commits.length := by omega
                  obtain ⟨fk1, fk2⟩ := first_kept he hk5 hm
                  refine x_skip ?_
                  refine x_seq ?_
                  refine x_block ?_
                  refine x_seq ?_
                  refine x_region rfl ?_
                  refine o_y (y_move rfl) ?_
                  refine o_y (y_move rfl) ?_
                  refine o_y (y_move rfl) ?_
                  obtain ⟨ce91, ae91, re91⟩ := RdL.at hv6 _ k hk5
                  have se91 := AtS.isSl ae91
                  have te91 := re91
                  obtain ⟨u91_1, z91, q91_0, q91_1⟩ := re91
                  subst z91
                  have w91 := Rep.one te91
                  refine o_y (y_idxL hv6 k hk5 Go.Proofs.Tryd.underlying22 ti48 rfl rfl (by omega)) ?_
                  refine o_y (y_fieldAddrP fd48_0 ti3 (by decide) (by assumption) rfl) ?_
                  refine o_y (y_loadS1 ti3 rfl (by assumption) rfl) ?_
                  refine o_y (y_move rfl) ?_
                  refine o_call fn16 rfl (get_in fk1 (hT2.ext (i2.trans l2)) r6 q91_0 (by unfold InR; omega)) ?_
                  rintro v95 H7 _ ⟨x95, rfl, cs95, rfl, r95⟩
                  have w95 := Rep.one r95
                  have r95c := r95
                  obtain ⟨c6, c7, c8, c9, c12, rfl, r95⟩ := r95
                  have hv7 := hv6.mono x95
                  refine o_y (y_move rfl) ?_
                  refine o_y (y_extract rfl rfl) ?_
                  refine o_y (y_extract rfl rfl) ?_
                  refine o_alloc ti31 rfl (fun b13 => ?_)
                  refine o_store (u := [_, _, _, _, _, _, _, _, _, _, _, _, _, _, _]) (C' := [_, _, _, _, _, _, _, _, _, _, _, _, _, _, _]) ti31 rfl rfl rfl rfl (by first | rfl | assumption | (simp only [ones, List.all_cons, List.all_nil, Bool.and_true, one_of (by assumption)]; done)) (by repeat (first | exact .z | apply Upd.s | apply Upd.a)) (by exact Nat.le_of_ble_eq_true rfl) (by rfl) ?_
                  refine o_y (y_assign rfl) ?_
                  refine o_nil ?_
                  refine x_seq ?_
                  refine x_regionQ mixed (by kernel_rfl) rfl ?_
                  refine q_y (y_move rfl) ?_
                  refine q_y (y_not rfl) ?_
                  refine q_y (y_move rfl) ?_
                  refine q_split 100 rfl (fun hg16_100 => ?_) (fun hg16_100 => ?_)
                  · try simp only [k1, k2, k3, k4, k5, k6, k7, k8, k9] at hg16_100
                    exfalso; simp at hg16_100
                  · try simp only [k1, k2, k3, k4, k5, k6, k7, k8, k9] at hg16_100
                    refine q_gy 100 rfl rfl (y_loadA ti31 rfl (by repeat (first | assumption | exact .z | apply In.s | apply In.a)) rfl) ?_
                    refine q_gy 100 rfl rfl (y_move rfl) ?_
                    refine q_gy 100 rfl rfl (y_move rfl) ?_
                    obtain ⟨ce104, ae104, re104⟩ := RdL.at hv7 _ k hk5
                    have se104 := AtS.isSl ae104
                    have te104 := re104
                    obtain ⟨u104_1, z104, q104_0, q104_1⟩ := re104
                    subst z104
                    have w104 := Rep.one te104
                    refine q_gy 100 rfl rfl (y_idxL hv7 k hk5 Go.Proofs.Tryd.underlying22 ti48 rfl rfl (by omega)) ?_
                    refine q_gy 100 rfl rfl (y_fieldAddrP fd48_1 ti46 (by decide) (by assumption) rfl) ?_
                    refine q_gy 100 rfl rfl (y_loadS1 ti46 rfl (by assumption) rfl) ?_
                    refine q_gy 100 rfl rfl (y_move rfl) ?_
                    obtain ⟨ce108, ae108, re108⟩ := RdL.at q104_1 _ m hm
                    have se108 := AtS.isSl ae108
                    have te108 := re108
                    obtain ⟨u108_6, u108_7, u108_8, u108_9, u108_12, z108, q108_0, q108_1, q108_2, q108_3, q108_4, q108_5, q108_6, q108_7, q108_8, q108_9, q108_10, q108_11, q108_12, q108_13⟩ := re108
                    subst z108
                    have w108 := Rep.one te108
                    refine q_gy 100 rfl rfl (y_idxL q104_1 m hm Go.Proofs.Tryd.underlying46 ti31 rfl rfl (by omega)) ?_
                    refine q_gy 100 rfl rfl (y_loadS ti31 rfl (by assumption) rfl (fun e => by cases e)) ?_
                    refine q_gcall 100 rfl rfl fn13 rfl (sameCommit_ok r95c te108) ?_
                    refine q_gy 100 rfl rfl (y_not rfl) ?_
                    refine q_y (y_pick rfl rfl) ?_
                    refine q_nil ?_
                    refine x_cond rfl (fun hc5 => ?_) (fun hc5 => ?_)
                    · try simp only [k1, k2, k3, k4, k5, k6, k7, k8, k9] at hc5
                      exfalso; exact hc5 fk2
                    · try simp only [k1, k2, k3, k4, k5, k6, k7, k8, k9] at hc5
                      refine x_skip ?_
                      refine x_region rfl ?_
                      refine o_y (y_move rfl) ?_
                      refine o_y (y_addN rfl rfl (by omega) (by omega)) ?_
                      refine o_y (y_assign rfl) ?_
                      refine o_nil ?_
                      exact ⟨(m + 1, H7), 1, rfl, (.c rfl (.c rfl (.c rfl (.c rfl (.c rfl (.c rfl .n)))))), rfl, ⟨by omega, l2.trans x95⟩, by simp only; omega⟩
                · try simp only [k1, k2, k3, k4, k5, k6, k7, k8, k9] at hc4
                  refine x_exit ?_
                  refine x_region rfl ?_
                  refine o_y (y_move rfl) ?_
                  refine o_y (y_addN rfl rfl (by omega) (by omega)) ?_
                  refine o_y (y_assign rfl) ?_
                  refine o_nil ?_
                  exact ⟨(k + 1, H6), 0, rfl, (.c rfl (.c rfl (.c rfl (.c rfl (.c rfl .n))))), rfl, ⟨by omega, i2.trans l2⟩, by simp only; omega⟩
              · try simp only [k1, k2, k3, k4, k5, k6, k7, k8, k9] at hc3
                refine x_exit ?_
                refine x_seq ?_
                have xA := (x28.trans x43).trans i2
                have hT5 := hT2.ext i2
                have hd5 : Rep.rd H5 [.int .i64 c.group, .int .i64 c.epoch, .int .i64 d.by_, .int .i64 d.member, .int .i64 d.keyEpoch, .bool d.external, w6, w7, w8, w9, .int .i64 d.own, .int .i64 d.entry, w12, .int .i64 d.face, .int .i64 d.card] ({ d with group := c.group, epoch := c.epoch } : Commit) := ⟨_, _, _, _, _, rfl, h0, h1, g2, g3, g4, g5.mono xA, g6.mono xA, g7.mono xA, g8.mono xA, g9, g10, g11.mono xA, g12, g13⟩
                have f4 := first_second (d := { d with group := c.group, epoch := c.epoch }) he rfl rfl
                refine x_regionPs _ held_s [(0, true), (1, true), (2, true), (3, true), (4, true), (5, false), (6, true), (7, false)] [0, 1, 2, 3, 4, 6] [7] mixed (by kernel_rfl) (by repeat (first | exact np_fn | apply np_then | apply np_block)) ?_
                have hE := Ext.refl H5
                refine p_take rfl rfl (y_fieldAddr fd31_0 ti3 (by decide) rfl) ?_
                refine p_take rfl rfl (y_loadO ti3 rfl (by repeat (first | assumption | exact .z | apply In.s | apply In.a)) rfl) ?_
                refine p_take rfl rfl (y_fieldAddr fd31_1 ti3 (by decide) rfl) ?_
                refine p_take rfl rfl (y_loadO ti3 rfl (by repeat (first | assumption | exact .z | apply In.s | apply In.a)) rfl) ?_
                refine p_take rfl rfl (y_fieldAddr fd31_0 ti3 (by decide) rfl) ?_
                refine p_only rfl rfl ?_
                refine o_store (u := [_]) (C' := [_, _, _, _, _, _, _, _, _, _, _, _, _, _, _]) ti3 rfl rfl rfl rfl (by first | rfl | assumption | (simp only [ones, List.all_cons, List.all_nil, Bool.and_true, one_of (by assumption)]; done)) (by repeat (first | exact .z | apply Upd.s | apply Upd.a)) (by exact Nat.le_of_ble_eq_true rfl) (by rfl) ?_
                refine o_nil ?_
                refine ⟨.inr ⟨hE, by first | exact fun _ h => h | exact fun _ h => .tail _ h | exact fun _ h => .tail _ (.tail _ h) | exact fun _ h => .tail _ (.tail _ (.tail _ h)) | exact held_0 | exact held_1 | exact held_2 | exact held_z0 | exact held_z1 | exact held_s | exact (fun _ h => by cases h)⟩, ?_⟩
                refine p_take rfl rfl (y_fieldAddr fd31_1 ti3 (by decide) rfl) ?_
                refine p_only rfl rfl ?_
                refine o_store (u := [_]) (C' := [_, _, _, _, _, _, _, _, _, _, _, _, _, _, _]) ti3 rfl rfl rfl rfl (by first | rfl | assumption | (simp only [ones, List.all_cons, List.all_nil, Bool.and_true, one_of (by assumption)]; done)) (by repeat (first | exact .z | apply Upd.s | apply Upd.a)) (by exact Nat.le_of_ble_eq_true rfl) (by rfl) ?_
                refine o_nil ?_
                refine ⟨.inl rfl, ?_⟩
                refine p_nil ?_
                refine x_seq ?_
                refine x_region rfl ?_
                refine o_y (y_move rfl) ?_
                refine o_y (y_loadA ti31 rfl (by repeat (first | assumption | exact .z | apply In.s | apply In.a)) rfl) ?_
                refine o_call fn10 rfl (append_ok hT5 (r28b.mono i2) hd5 (fun x hx => by have := app_small (m := 262144) hsm x hx; omega)) ?_
                rintro v122 H9 _ ⟨x122, rfl, u122, rfl, r122⟩
                refine o_y (y_move rfl) ?_
                refine o_y (y_extract rfl rfl) ?_
                refine o_y (y_extract rfl rfl) ?_
                refine o_y (y_assign rfl) ?_
                refine o_y (y_assign rfl) ?_
                refine o_nil ?_
                refine x_seq ?_
                refine x_region rfl ?_
                refine o_y (y_move rfl) ?_
                refine o_y (y_neq rfl rfl) ?_
                refine o_y (y_move rfl) ?_
                refine o_split 127 rfl (fun hg20_127 => ?_) (fun hg20_127 => ?_)
                · try simp only [k1, k2, k3, k4, k5, k6, k7, k8, k9] at hg20_127
                  have he9 := hg20_127
                  rw [app_nil he9] at r122
                  refine o_gy 127 rfl rfl (y_move rfl) ?_
                  first | refine o_gy 127 rfl rfl (y_lenL (by assumption) Go.Proofs.Tryd.underlying22 rfl) ?_ | refine o_gy 127 rfl rfl (y_lenR (by assumption) Go.Proofs.Tryd.underlying22 rfl) ?_ | refine o_gy 127 rfl rfl (y_len Go.Proofs.Tryd.underlying22 rfl) ?_
                  refine o_gy 127 rfl rfl (y_eql rfl rfl) ?_
                  refine o_y (y_pick rfl rfl) ?_
                  refine o_y (y_move rfl) ?_
                  refine o_split 132 rfl (fun hg20_132 => ?_) (fun hg20_132 => ?_)
                  · try simp only [k1, k2, k3, k4, k5, k6, k7, k8, k9] at hg20_132
                    refine o_gy 132 rfl rfl (y_move rfl) ?_
                    refine o_gy 132 rfl rfl (y_eql rfl rfl) ?_
                    refine o_gy 132 rfl rfl (y_move rfl) ?_
                    refine o_split 135 rfl (fun hg20_135 => ?_) (fun hg20_135 => ?_)
                    · try simp only [k1, k2, k3, k4, k5, k6, k7, k8, k9] at hg20_135
                      refine o_gn 135 rfl rfl rfl ?_
                      refine o_gn 135 rfl rfl rfl ?_
                      refine o_gy 132 rfl rfl (y_pick rfl rfl) ?_
                      refine o_y (y_pick rfl rfl) ?_
                      refine o_y (y_move rfl) ?_
                      refine o_gcall 140 rfl rfl fn9 rfl (alive_ok (hT5.ext x122)) ?_
                      rintro v141 H10 _ ⟨rfl, x141, rfl⟩
                      refine o_y (y_pick rfl rfl) ?_
                      refine o_y (y_assign rfl) ?_
                      refine o_nil ?_
                      refine x_ret ?_
                      refine x_fin 2 (ret1 rfl rfl) ?_
                      exact ⟨rfl, (xA.trans x122).trans x141, rfl⟩
                    · try simp only [k1, k2, k3, k4, k5, k6, k7, k8, k9] at hg20_135
                      refine o_gy 135 rfl rfl (y_move rfl) ?_
                      refine o_gy 135 rfl rfl (y_eql rfl rfl) ?_
                      refine o_gy 132 rfl rfl (y_pick rfl rfl) ?_
                      refine o_y (y_pick rfl rfl) ?_
                      refine o_y (y_move rfl) ?_
                      refine o_split 140 rfl (fun hg20_140 => ?_) (fun hg20_140 => ?_)
                      · try simp only [k1, k2, k3, k4, k5, k6, k7, k8, k9] at hg20_140
                        refine o_gcall 140 rfl rfl fn9 rfl (alive_ok (hT5.ext x122)) ?_
                        rintro v141 H10 _ ⟨rfl, x141, rfl⟩
                        refine o_y (y_pick rfl rfl) ?_
                        refine o_y (y_assign rfl) ?_
                        refine o_nil ?_
                        refine x_ret ?_
                        refine x_fin 2 (ret1 rfl rfl) ?_
                        exact ⟨rfl, (xA.trans x122).trans x141, rfl⟩
                      · try simp only [k1, k2, k3, k4, k5, k6, k7, k8, k9] at hg20_140
                        exfalso; omega
                  · try simp only [k1, k2, k3, k4, k5, k6, k7, k8, k9] at hg20_132
                    exfalso; simp at hg20_132
                · try simp only [k1, k2, k3, k4, k5, k6, k7, k8, k9] at hg20_127
                  exfalso; omega
theorem apart_yes {B : World} {H : HM} {O : OL} {v : Value} {xs : List Log} {cs ds : List Value} {c d : Commit} (hT : TabAt H) (h : RdL H v xs) (hc : Rep.rd H cs c) (hd : Rep.rd H ds d) (hb : beyondI [(logsSize xs : Int), (commitSize c : Int), (commitSize d : Int)] 0 = true) : CallsM Go.Proofs.Tryd.prog 3 [v, .agg cs.toArray, .agg ds.toArray].toArray B H O (Yes H O) := by
  have hls := logsSize_le h
  have hsl := h.lenle
  have hcz := commitSize_le hc
  have hdz := commitSize_le hd
  have hk := hc
  have wk := Rep.one hc
  obtain ⟨u6, u7, u8, u9, u12, rfl, h0, h1, h2, h3, h4, h5, h6, h7, h8, h9, h10, h11, h12, h13⟩ := hc
  have hk2 := hd
  have wk2 := Rep.one hd
  obtain ⟨w6, w7, w8, w9, w12, rfl, g0, g1, g2, g3, g4, g5, g6, g7, g8, g9, g10, g11, g12, g13⟩ := hd
  refine enter Go.Proofs.Tryd.func3 rfl Go.Proofs.Tryd.ntmps3 (l := [(0, _), (1, _), (2, _)]) rfl rfl ?_
  refine x_seq ?_
  refine x_region rfl ?_
  refine o_box rfl (cs := [_, _, _, _, _, _, _, _, _, _, _, _, _, _, _]) rfl (fun b4 => ?_)
  refine o_box rfl (cs := [_, _, _, _, _, _, _, _, _, _, _, _, _, _, _]) rfl (fun b5 => ?_)
  refine o_y (y_assign rfl) ?_
  refine o_nil ?_
  refine x_seq ?_
  refine x_seq ?_
  refine x_regionP [(0, true), (2, true), (4, true), (1, false), (3, false), (5, false), (6, false), (7, false), (8, true), (9, true), (10, true), (11, true), (12, true), (13, true), (14, true)] [0, 2, 4, 8, 9, 10, 11, 12, 13, 14] [] mixed (by kernel_rfl) (by repeat (first | exact np_fn | apply np_then | apply np_block)) ?_
  have hE := Ext.refl H
  refine p_take rfl rfl (y_move rfl) ?_
  refine p_take rfl rfl (y_loadA ti31 rfl (by repeat (first | assumption | exact .z | apply In.s | apply In.a)) rfl) ?_
  refine p_take rfl rfl (y_loadA ti31 rfl (by repeat (first | assumption | exact .z | apply In.s | apply In.a)) rfl) ?_
  refine p_only rfl rfl ?_
  refine o_call fn7 rfl (logsSize_ok h) ?_
  rintro _ _ _ ⟨rfl, rfl, rfl⟩
  refine o_nil ?_
  refine ⟨.inr ⟨hE, by first | exact fun _ h => h | exact fun _ h => .tail _ h | exact fun _ h => .tail _ (.tail _ h) | exact fun _ h => .tail _ (.tail _ (.tail _ h)) | exact held_0 | exact held_1 | exact held_2 | exact held_z0 | exact held_z1 | exact held_s | exact (fun _ h => by cases h)⟩, ?_⟩
  refine p_only rfl rfl ?_
  refine o_call fn8 rfl (commitSize_ok hk) ?_
  rintro _ _ _ ⟨rfl, rfl, rfl⟩
  refine o_nil ?_
  refine ⟨.inr ⟨hE, by first | exact fun _ h => h | exact fun _ h => .tail _ h | exact fun _ h => .tail _ (.tail _ h) | exact fun _ h => .tail _ (.tail _ (.tail _ h)) | exact held_0 | exact held_1 | exact held_2 | exact held_z0 | exact held_z1 | exact held_s | exact (fun _ h => by cases h)⟩, ?_⟩
  refine p_only rfl rfl ?_
  refine o_call fn8 rfl (commitSize_ok hk2) ?_
  rintro _ _ _ ⟨rfl, rfl, rfl⟩
  refine o_nil ?_
  refine ⟨.inr ⟨hE, by first | exact fun _ h => h | exact fun _ h => .tail _ h | exact fun _ h => .tail _ (.tail _ h) | exact fun _ h => .tail _ (.tail _ (.tail _ h)) | exact held_0 | exact held_1 | exact held_2 | exact held_z0 | exact held_z1 | exact held_s | exact (fun _ h => by cases h)⟩, ?_⟩
  refine p_only rfl rfl ?_
  refine o_buildSlice (C := [_, _, _]) Go.Proofs.Tryd.underlying24 ti3 (by decide) (by decide) (evs_ok rfl) (fill_i3 _ _ _) (fun b21 => ?_)
  refine o_nil ?_
  refine ⟨.inr ⟨hE, by first | exact fun _ h => h | exact fun _ h => .tail _ h | exact fun _ h => .tail _ (.tail _ h) | exact fun _ h => .tail _ (.tail _ (.tail _ h)) | exact held_0 | exact held_1 | exact held_2 | exact held_z0 | exact held_z1 | exact held_s | exact (fun _ h => by cases h)⟩, ?_⟩
  refine p_only rfl rfl ?_
  refine o_call fn6 rfl (CallsM.lend (A := []) (O' := _) [(b21, _)] rfl (fun hN hX => beyond_in hb (row3 (by show InR (logsSize xs : Int); unfold InR; omega) (by show InR (commitSize c : Int); unfold InR; omega) (by show InR (commitSize d : Int); unfold InR; omega) hN))) ?_
  rintro _ _ _ ⟨rfl, rfl, rfl⟩
  refine o_nil ?_
  refine ⟨.inr ⟨hE, by first | exact fun _ h => h | exact fun _ h => .tail _ h | exact fun _ h => .tail _ (.tail _ h) | exact fun _ h => .tail _ (.tail _ (.tail _ h)) | exact held_0 | exact held_1 | exact held_2 | exact held_z0 | exact held_z1 | exact held_s | exact (fun _ h => by cases h)⟩, ?_⟩
  refine p_take rfl rfl (y_move rfl) ?_
  refine p_takeN rfl rfl rfl rfl rfl ?_
  refine p_takeN rfl rfl rfl rfl rfl ?_
  refine p_takeN rfl rfl rfl rfl rfl ?_
  refine p_takeN rfl rfl rfl rfl rfl ?_
  refine p_takeN rfl rfl rfl rfl rfl ?_
  refine p_take rfl rfl (y_pick rfl rfl) ?_
  refine p_nil ?_
  refine x_condT rfl ?_
  refine x_seq ?_
  refine x_region rfl ?_
  refine o_call fn9 rfl (alive_ok hT) ?_
  rintro v30 H1 _ ⟨rfl, x30, rfl⟩
  refine o_y (y_assign rfl) ?_
  refine o_nil ?_
  refine x_ret ?_
  refine x_fin 3 (ret1 rfl rfl) ?_
  exact ⟨rfl, x30, rfl⟩
theorem apart_no {B : World} {H : HM} {O : OL} {v : Value} {xs : List Log} {cs ds : List Value} {c d : Commit} (hT : TabAt H) (h : RdL H v xs) (hc : Rep.rd H cs c) (hd : Rep.rd H ds d) (hb : beyondI [(logsSize xs : Int), (commitSize c : Int), (commitSize d : Int)] 0 = false) : CallsM Go.Proofs.Tryd.prog 3 [v, .agg cs.toArray, .agg ds.toArray].toArray B H O (Yes H O) := by
  have hls := logsSize_le h
  have hsl := h.lenle
  have hcz := commitSize_le hc
  have hdz := commitSize_le hd
  have hk := hc
  have wk := Rep.one hc
  obtain ⟨u6, u7, u8, u9, u12, rfl, h0, h1, h2, h3, h4, h5, h6, h7, h8, h9, h10, h11, h12, h13⟩ := hc
  have hk2 := hd
  have wk2 := Rep.one hd
  obtain ⟨w6, w7, w8, w9, w12, rfl, g0, g1, g2, g3, g4, g5, g6, g7, g8, g9, g10, g11, g12, g13⟩ := hd
  obtain ⟨hz1, hz2, hz3⟩ := beyond3 hb
  have hsm := logs_small hz1
  have hs2 : ∀ c : Commit, ∀ x ∈ appLogs xs c, x.commits.length ≤ 1000000 := fun c x hx => by have := app_small (m := 262144) hsm x hx; omega
  refine enter Go.Proofs.Tryd.func3 rfl Go.Proofs.Tryd.ntmps3 (l := [(0, _), (1, _), (2, _)]) rfl rfl ?_
  refine x_seq ?_
  refine x_region rfl ?_
  refine o_box rfl (cs := [_, _, _, _, _, _, _, _, _, _, _, _, _, _, _]) rfl (fun b4 => ?_)
  refine o_box rfl (cs := [_, _, _, _, _, _, _, _, _, _, _, _, _, _, _]) rfl (fun b5 => ?_)
  refine o_y (y_assign rfl) ?_
  refine o_nil ?_
  refine x_seq ?_
  refine x_seq ?_
  refine x_regionP [(0, true), (2, true), (4, true), (1, false), (3, false), (5, false), (6, false), (7, false), (8, true), (9, true), (10, true), (11, true), (12, true), (13, true), (14, true)] [0, 2, 4, 8, 9, 10, 11, 12, 13, 14] [] mixed (by kernel_rfl) (by repeat (first | exact np_fn | apply np_then | apply np_block)) ?_
  have hE := Ext.refl H
  refine p_take rfl rfl (y_move rfl) ?_
  refine p_take rfl rfl (y_loadA ti31 rfl (by repeat (first | assumption | exact .z | apply In.s | apply In.a)) rfl) ?_
  refine p_take rfl rfl (y_loadA ti31 rfl (by repeat (first | assumption | exact .z | apply In.s | apply In.a)) rfl) ?_
  refine p_only rfl rfl ?_
  refine o_call fn7 rfl (logsSize_ok h) ?_
  rintro _ _ _ ⟨rfl, rfl, rfl⟩
  refine o_nil ?_
  refine ⟨.inr ⟨hE, by first | exact fun _ h => h | exact fun _ h => .tail _ h | exact fun _ h => .tail _ (.tail _ h) | exact fun _ h => .tail _ (.tail _ (.tail _ h)) | exact held_0 | exact held_1 | exact held_2 | exact held_z0 | exact held_z1 | exact held_s | exact (fun _ h => by cases h)⟩, ?_⟩
  refine p_only rfl rfl ?_
  refine o_call fn8 rfl (commitSize_ok hk) ?_
  rintro _ _ _ ⟨rfl, rfl, rfl⟩
  refine o_nil ?_
  refine ⟨.inr ⟨hE, by first | exact fun _ h => h | exact fun _ h => .tail _ h | exact fun _ h => .tail _ (.tail _ h) | exact fun _ h => .tail _ (.tail _ (.tail _ h)) | exact held_0 | exact held_1 | exact held_2 | exact held_z0 | exact held_z1 | exact held_s | exact (fun _ h => by cases h)⟩, ?_⟩
  refine p_only rfl rfl ?_
  refine o_call fn8 rfl (commitSize_ok hk2) ?_
  rintro _ _ _ ⟨rfl, rfl, rfl⟩
  refine o_nil ?_
  refine ⟨.inr ⟨hE, by first | exact fun _ h => h | exact fun _ h => .tail _ h | exact fun _ h => .tail _ (.tail _ h) | exact fun _ h => .tail _ (.tail _ (.tail _ h)) | exact held_0 | exact held_1 | exact held_2 | exact held_z0 | exact held_z1 | exact held_s | exact (fun _ h => by cases h)⟩, ?_⟩
  refine p_only rfl rfl ?_
  refine o_buildSlice (C := [_, _, _]) Go.Proofs.Tryd.underlying24 ti3 (by decide) (by decide) (evs_ok rfl) (fill_i3 _ _ _) (fun b21 => ?_)
  refine o_nil ?_
  refine ⟨.inr ⟨hE, by first | exact fun _ h => h | exact fun _ h => .tail _ h | exact fun _ h => .tail _ (.tail _ h) | exact fun _ h => .tail _ (.tail _ (.tail _ h)) | exact held_0 | exact held_1 | exact held_2 | exact held_z0 | exact held_z1 | exact held_s | exact (fun _ h => by cases h)⟩, ?_⟩
  refine p_only rfl rfl ?_
  refine o_call fn6 rfl (CallsM.lend (A := []) (O' := _) [(b21, _)] rfl (fun hN hX => beyond_in hb (row3 (by show InR (logsSize xs : Int); unfold InR; omega) (by show InR (commitSize c : Int); unfold InR; omega) (by show InR (commitSize d : Int); unfold InR; omega) hN))) ?_
  rintro _ _ _ ⟨rfl, rfl, rfl⟩
  refine o_nil ?_
  refine ⟨.inr ⟨hE, by first | exact fun _ h => h | exact fun _ h => .tail _ h | exact fun _ h => .tail _ (.tail _ h) | exact fun _ h => .tail _ (.tail _ (.tail _ h)) | exact held_0 | exact held_1 | exact held_2 | exact held_z0 | exact held_z1 | exact held_s | exact (fun _ h => by cases h)⟩, ?_⟩
  refine p_take rfl rfl (y_move rfl) ?_
  refine p_takeG rfl rfl rfl rfl (y_fieldAddr fd31_0 ti3 (by decide) rfl) ?_
  refine p_takeG rfl rfl rfl rfl (y_loadO ti3 rfl (by repeat (first | assumption | exact .z | apply In.s | apply In.a)) rfl) ?_
  refine p_takeG rfl rfl rfl rfl (y_fieldAddr fd31_0 ti3 (by decide) rfl) ?_
  refine p_takeG rfl rfl rfl rfl (y_loadO ti3 rfl (by repeat (first | assumption | exact .z | apply In.s | apply In.a)) rfl) ?_
  refine p_takeG rfl rfl rfl rfl (y_eql rfl rfl) ?_
  refine p_take rfl rfl (y_pick rfl rfl) ?_
  refine p_nil ?_
  refine x_cond rfl (fun hc0 => ?_) (fun hc0 => ?_)
  · try simp only [k1, k2, k3, k4, k5, k6, k7, k8, k9] at hc0
    refine x_seq ?_
    refine x_region rfl ?_
    refine o_call fn9 rfl (alive_ok hT) ?_
    rintro v30 H1 _ ⟨rfl, x30, rfl⟩
    refine o_y (y_assign rfl) ?_
    refine o_nil ?_
    refine x_ret ?_
    refine x_fin 3 (ret1 rfl rfl) ?_
    exact ⟨rfl, x30, rfl⟩
  · try simp only [k1, k2, k3, k4, k5, k6, k7, k8, k9] at hc0
    have hne : c.group ≠ d.group := hc0
    refine x_skip ?_
    refine x_seq ?_
    refine x_region rfl ?_
    refine o_y (y_move rfl) ?_
    refine o_y (y_loadA ti31 rfl (by repeat (first | assumption | exact .z | apply In.s | apply In.a)) rfl) ?_
    refine o_call fn10 rfl (append_ok hT h hk (fun x hx => by have := hsm x hx; omega)) ?_
    rintro v34 H1 _ ⟨x34, rfl, u34, rfl, r34⟩
    refine o_y (y_move rfl) ?_
    refine o_y (y_extract rfl rfl) ?_
    refine o_y (y_extract rfl rfl) ?_
    refine o_y (y_assign rfl) ?_
    refine o_y (y_assign rfl) ?_
    refine o_nil ?_
    refine x_seq ?_
    refine x_region rfl ?_
    refine o_y (y_move rfl) ?_
    refine o_y (y_loadA ti31 rfl (by repeat (first | assumption | exact .z | apply In.s | apply In.a)) rfl) ?_
    refine o_call fn10 rfl (append_ok (hT.ext x34) r34 (Rep.mono x34 hk2) (hs2 c)) ?_
    rintro v40 H2 _ ⟨x40, rfl, u40, rfl, r40⟩
    refine o_y (y_move rfl) ?_
    refine o_y (y_extract rfl rfl) ?_
    refine o_y (y_extract rfl rfl) ?_
    refine o_y (y_assign rfl) ?_
    refine o_y (y_assign rfl) ?_
    refine o_nil ?_
    refine x_seq ?_
    refine x_seq ?_
    refine x_region rfl ?_
    have hT2 := (hT.ext x34).ext x40
    have xB := x34.trans x40
    refine o_y (y_move rfl) ?_
    refine o_y (y_neq rfl rfl) ?_
    refine o_y (y_move rfl) ?_
    refine o_split 45 rfl (fun hg5_45 => ?_) (fun hg5_45 => ?_)
    · try simp only [k1, k2, k3, k4, k5, k6, k7, k8, k9] at hg5_45
      refine o_gn 45 rfl rfl rfl ?_
      refine o_gn 45 rfl rfl rfl ?_
      refine o_y (y_pick rfl rfl) ?_
      refine o_nil ?_
      refine x_condT rfl ?_
      refine x_seq ?_
      refine x_region rfl ?_
      refine o_call fn9 rfl (alive_ok hT2) ?_
      rintro v49 H3 _ ⟨rfl, x49, rfl⟩
      refine o_y (y_assign rfl) ?_
      refine o_nil ?_
      refine x_ret ?_
      refine x_fin 3 (ret1 rfl rfl) ?_
      exact ⟨rfl, xB.trans x49, rfl⟩
    · try simp only [k1, k2, k3, k4, k5, k6, k7, k8, k9] at hg5_45
      have he1 : appErr xs c = 0 := hg5_45
      refine o_gy 45 rfl rfl (y_move rfl) ?_
      refine o_gy 45 rfl rfl (y_neq rfl rfl) ?_
      refine o_y (y_pick rfl rfl) ?_
      refine o_nil ?_
      refine x_cond rfl (fun hc1 => ?_) (fun hc1 => ?_)
      · try simp only [k1, k2, k3, k4, k5, k6, k7, k8, k9] at hc1
        refine x_seq ?_
        refine x_region rfl ?_
        refine o_call fn9 rfl (alive_ok hT2) ?_
        rintro v49 H3 _ ⟨rfl, x49, rfl⟩
        refine o_y (y_assign rfl) ?_
        refine o_nil ?_
        refine x_ret ?_
        refine x_fin 3 (ret1 rfl rfl) ?_
        exact ⟨rfl, xB.trans x49, rfl⟩
      · try simp only [k1, k2, k3, k4, k5, k6, k7, k8, k9] at hc1
        obtain ⟨q1, q2, q3⟩ := apart_law hne he1 hc1
        refine x_skip ?_
        refine x_seq ?_
        refine x_region rfl ?_
        refine o_y (y_move rfl) ?_
        refine o_y (y_loadA ti31 rfl (by repeat (first | assumption | exact .z | apply In.s | apply In.a)) rfl) ?_
        refine o_call fn10 rfl (append_ok hT2 (h.mono xB) (Rep.mono xB hk2) (fun x hx => by have := hsm x hx; omega)) ?_
        rintro v53 H3 _ ⟨x53, rfl, u53, rfl, r53⟩
        refine o_y (y_move rfl) ?_
        refine o_y (y_extract rfl rfl) ?_
        refine o_y (y_extract rfl rfl) ?_
        refine o_y (y_assign rfl) ?_
        refine o_y (y_assign rfl) ?_
        refine o_nil ?_
        refine x_seq ?_
        refine x_region rfl ?_
        refine o_y (y_move rfl) ?_
        refine o_y (y_loadA ti31 rfl (by repeat (first | assumption | exact .z | apply In.s | apply In.a)) rfl) ?_
        refine o_call fn10 rfl (append_ok (hT2.ext x53) r53 (Rep.mono (xB.trans x53) hk) (hs2 d)) ?_
        rintro v59 H4 _ ⟨x59, rfl, u59, rfl, r59⟩
        refine o_y (y_move rfl) ?_
        refine o_y (y_extract rfl rfl) ?_
        refine o_y (y_extract rfl rfl) ?_
        refine o_y (y_assign rfl) ?_
        refine o_y (y_assign rfl) ?_
        refine o_nil ?_
        refine x_seq ?_
        refine x_region rfl ?_
        have hT4 := (hT2.ext x53).ext x59
        have r40b := r40.mono (x53.trans x59)
        refine o_y (y_move rfl) ?_
        refine o_y (y_eql rfl rfl) ?_
        refine o_y (y_move rfl) ?_
        refine o_split 64 rfl (fun hg9_64 => ?_) (fun hg9_64 => ?_)
        · try simp only [k1, k2, k3, k4, k5, k6, k7, k8, k9] at hg9_64
          refine o_gy 64 rfl rfl (y_move rfl) ?_
          refine o_gy 64 rfl rfl (y_eql rfl rfl) ?_
          refine o_y (y_pick rfl rfl) ?_
          refine o_y (y_move rfl) ?_
          refine o_split 68 rfl (fun hg9_68 => ?_) (fun hg9_68 => ?_)
          · try simp only [k1, k2, k3, k4, k5, k6, k7, k8, k9] at hg9_68
            refine o_gy 68 rfl rfl (y_move rfl) ?_
            refine o_gy 68 rfl rfl (y_move rfl) ?_
            refine o_gcall 68 rfl rfl fn11 rfl (sameLogs_ok r40b r59) ?_
            rintro _ _ _ ⟨rfl, rfl, rfl⟩
            refine o_y (y_pick rfl rfl) ?_
            refine o_y (y_move rfl) ?_
            refine o_split 73 rfl (fun hg9_73 => ?_) (fun hg9_73 => ?_)
            · try simp only [k1, k2, k3, k4, k5, k6, k7, k8, k9] at hg9_73
              refine o_gcall 73 rfl rfl fn9 rfl (alive_ok hT4) ?_
              rintro v74 H5 _ ⟨rfl, x74, rfl⟩
              refine o_y (y_pick rfl rfl) ?_
              refine o_y (y_assign rfl) ?_
              refine o_nil ?_
              refine x_ret ?_
              refine x_fin 3 (ret1 rfl rfl) ?_
              exact ⟨rfl, ((xB.trans x53).trans x59).trans x74, rfl⟩
            · try simp only [k1, k2, k3, k4, k5, k6, k7, k8, k9] at hg9_73
              exfalso; exact hg9_73 q3
          · try simp only [k1, k2, k3, k4, k5, k6, k7, k8, k9] at hg9_68
            exfalso; exact hg9_68 q2
        · try simp only [k1, k2, k3, k4, k5, k6, k7, k8, k9] at hg9_64
          exfalso; exact hg9_64 q1
theorem apart_true {B : World} {H : HM} {O : OL} {v : Value} {xs : List Log} {cs ds : List Value} {c d : Commit} (hT : TabAt H) (h : RdL H v xs) (hc : Rep.rd H cs c) (hd : Rep.rd H ds d) : CallsM Go.Proofs.Tryd.prog 3 [v, .agg cs.toArray, .agg ds.toArray].toArray B H O (Yes H O) := by
  cases hb : beyondI [(logsSize xs : Int), (commitSize c : Int), (commitSize d : Int)] 0 with
  | true => exact apart_yes hT h hc hd hb
  | false => exact apart_no hT h hc hd hb
end Go.Ph
