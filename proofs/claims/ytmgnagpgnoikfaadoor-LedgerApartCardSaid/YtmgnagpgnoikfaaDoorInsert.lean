/- One put in before others: the library's Insert. -/
import Derived.Test.YtmgnagpgnoikfaaDoorBase18
import Derived.Test.YtmgnagpgnoikfaaDoorTys
import Derived.Laws.Externs
set_option linter.unusedVariables false
set_option linter.unusedSimpArgs false
set_option maxRecDepth 100000
namespace Go.Ph
open Go Go.RowKit Go.Proofs.YtmgnagpgnoikfaaDoor

theorem insert_log {B : World} {H : HM} {O R : OL} {F : OL → OL} {v : Value} {n i b : Nat} {cs new : List Value} (hr : Row v n cs 48 2 R) (hi : i ≤ n) (hn : n ≤ 1000000) (hl : new.length = 2) (h1 : ones new = true) (h2 : ones cs = true) (hF : Hole O R F) :
    CallsM Go.Proofs.Tryd.prog 25 [v, .int .i64 (i : Int), .slice (some ⟨b, 0, none⟩) 1 1].toArray B H ((b, cl new 48) :: O) (InsR (n + 1) (cs.take (i * 2) ++ new ++ cs.drop (i * 2)) 48 2 (fun R' => (b, cl new 48) :: F R') H) := by
  obtain ⟨p, c, rfl⟩ := hr.shape
  have hcl := hr.len
  have hnew : ∀ {O' : OL} w, Has H O' w → (b, cl new 48) ∈ O' → ∀ j u, new[j]? = some u → w.cell? ((⟨b, 0, none⟩ : Addr).add j) = some u := fun w hw hm j u hu => by rw [add_pl]; exact At.all (In.ofMem hm) w hw j u hu
  have hex : ∀ args w, (callFunc 43 args).run Go.Proofs.Tryd.prog w = ((Extern.SlicesOverlaps.overlaps #[22, 22] #[4] args).run Go.Proofs.Tryd.prog w).andThen fun v w' => .ok (.value v) w' := fun args w => run_callFunc_extern Go.Proofs.Tryd.func43 (by kernel_rfl) (by kernel_rfl) (by kernel_rfl) (e := Extern.SlicesOverlaps.overlaps #[22, 22] #[4]) (by kernel_rfl) args w
  refine enter Go.Proofs.Tryd.func25 rfl Go.Proofs.Tryd.ntmps25 (l := [(0, _), (1, _), (2, _)]) rfl rfl ?_
  refine x_seq ?_
  refine x_region rfl ?_
  refine o_y (y_assign rfl) ?_
  refine o_nil ?_
  refine x_seq ?_
  refine x_region rfl ?_
  refine o_y (y_move rfl) ?_
  refine o_y (y_move rfl) ?_
  refine o_y (y_sliceL Go.Proofs.Tryd.underlying22 ti48 rfl rfl (i) (by first | rfl | omega) (by omega)) ?_
  refine o_nil ?_
  refine x_seq ?_
  refine x_region rfl ?_
  refine o_y (y_move rfl) ?_
  first | refine o_y (y_lenL (by assumption) Go.Proofs.Tryd.underlying22 rfl) ?_ | refine o_y (y_lenR (by assumption) Go.Proofs.Tryd.underlying22 rfl) ?_ | refine o_y (y_len Go.Proofs.Tryd.underlying22 rfl) ?_
  refine o_y (y_assign rfl) ?_
  refine o_nil ?_
  refine x_seq ?_
  refine x_seq ?_
  refine x_region rfl ?_
  refine o_y (y_move rfl) ?_
  refine o_y (y_eql rfl rfl) ?_
  refine o_nil ?_
  refine x_cond rfl (fun hc0 => ?_) (fun hc0 => ?_)
  · try simp only [k1, k2, k3, k4, k5, k6, k7, k8, k9] at hc0
    exfalso; omega
  · try simp only [k1, k2, k3, k4, k5, k6, k7, k8, k9] at hc0
    refine x_skip ?_
    refine x_seq ?_
    refine x_region rfl ?_
    refine o_y (y_move rfl) ?_
    first | refine o_y (y_lenL (by assumption) Go.Proofs.Tryd.underlying22 rfl) ?_ | refine o_y (y_lenR (by assumption) Go.Proofs.Tryd.underlying22 rfl) ?_ | refine o_y (y_len Go.Proofs.Tryd.underlying22 rfl) ?_
    refine o_y (y_assign rfl) ?_
    refine o_nil ?_
    refine x_seq ?_
    refine x_seq ?_
    refine x_region rfl ?_
    refine o_y (y_move rfl) ?_
    refine o_y (y_move rfl) ?_
    refine o_y (y_eql rfl rfl) ?_
    refine o_nil ?_
    refine x_cond rfl (fun hc1 => ?_) (fun hc1 => ?_)
    · try simp only [k1, k2, k3, k4, k5, k6, k7, k8, k9] at hc1
      refine x_seq ?_
      refine x_region rfl ?_
      refine o_y (y_move rfl) ?_
      refine o_y (y_move rfl) ?_
      refine o_append Go.Proofs.Tryd.underlying22 ti48 rfl (by decide) rfl hr rfl (At.all .z) (by omega) h1 (by omega) (by omega) (.s hF) (fun v' R' j1 => ?_)
      refine o_y (y_assign rfl) ?_
      refine o_nil ?_
      refine x_ret ?_
      refine x_fin 0 (ret1 rfl rfl) ?_
      have e : i * 2 = cs.length := by omega
      rw [e, List.take_length, List.drop_length, List.append_nil]; exact ⟨rfl, R', rfl, j1⟩
    · try simp only [k1, k2, k3, k4, k5, k6, k7, k8, k9] at hc1
      obtain ⟨b0, rfl, hb0⟩ := hr.some_of (by omega)
      have hcap := hr.capLe
      have hin : i < n := by omega
      refine x_ne hF hb0 (fun hne => ?_)
      refine x_skip ?_
      refine x_seq ?_
      refine x_seq ?_
      refine x_region rfl ?_
      refine o_y (y_move rfl) ?_
      refine o_y (y_move rfl) ?_
      refine o_y (y_addN rfl rfl (by omega) (by omega)) ?_
      refine o_y (y_move rfl) ?_
      refine o_y (y_cap Go.Proofs.Tryd.underlying22 rfl) ?_
      refine o_y (y_gtr rfl rfl) ?_
      refine o_nil ?_
      refine x_cond rfl (fun hc2 => ?_) (fun hc2 => ?_)
      · try simp only [k1, k2, k3, k4, k5, k6, k7, k8, k9] at hc2
        refine x_seq ?_
        refine x_region rfl ?_
        refine o_y (y_move rfl) ?_
        refine o_y (y_move rfl) ?_
        refine o_y (y_sliceH Go.Proofs.Tryd.underlying22 ti48 rfl rfl (i) (by first | rfl | omega) (by omega)) ?_
        refine o_y (y_move rfl) ?_
        refine o_y (y_move rfl) ?_
        refine o_y (y_addN rfl rfl (by omega) (by omega)) ?_
        refine o_y (y_move rfl) ?_
        refine o_y (y_subN rfl rfl (by omega) (by omega)) ?_
        refine o_appendZ (m := n + 1 - i) Go.Proofs.Tryd.underlying22 Go.Proofs.Tryd.underlying3 ti48 rfl (by decide) rfl rfl (by omega) (by omega) (by omega) (olds := cs.take (i * 2)) (by rw [List.length_take]; omega) (At.rowPart hr (fun p hp => .tail _ (hF.mem p hp)) (fun q u hu => by rw [Nat.zero_add]; rw [List.getElem?_take] at hu; split at hu; exact hu; cases hu)) (by omega) (by omega) (by omega) (fun bN cN spN zs hzl jN => ?_)
        have e9 : i + (n + 1 - i) = n + 1 := by omega
        rw [e9] at jN ⊢
        have hcN := jN.capLe
        have htl : (cs.take (i * 2)).length = i * 2 := by rw [List.length_take]; omega
        refine o_y (y_assign rfl) ?_
        refine o_nil ?_
        refine x_seq ?_
        refine x_region rfl ?_
        refine o_y (y_move rfl) ?_
        refine o_y (y_move rfl) ?_
        refine o_y (y_sliceX Go.Proofs.Tryd.underlying22 ti48 rfl rfl i rfl (by omega) (by omega)) ?_
        refine o_y (y_move rfl) ?_
        refine o_copyR (m := 1) (news := new) Go.Proofs.Tryd.underlying22 ti48 jN rfl rfl (by show min 1 (n + 1 - i) = 1; omega) (by omega) (by rw [List.length_append, htl, hzl]; omega) h1 (fun w hw => hnew w hw (.tail _ (.head _))) .o (fun RN jN2 => ?_)
        refine o_nil ?_
        refine x_seq ?_
        have hz1 : (zs.take 2).length = new.length := by rw [List.length_take, hzl, hl]; omega
        rw [putC_at' (A := cs.take (i * 2)) (X := zs.take 2) (D := zs.drop 2) (by rw [htl, Nat.zero_add]) hz1 (by rw [List.take_append_drop])] at jN2
        have hdl : (cs.drop (i * 2)).length = (n - i) * 2 := by rw [List.length_drop, hcl]; omega
        refine x_regionPs [] (fun p hp => by cases hp) [(0, true), (1, true), (2, true), (3, true), (4, true), (5, true), (6, true), (7, true), (8, false)] [0, 1, 2, 3, 4, 5, 6, 7] [] mixed (by kernel_rfl) (by repeat (first | exact np_fn | apply np_then | apply np_block)) ?_
        have hE := Ext.refl H
        refine p_take rfl rfl (y_move rfl) ?_
        refine p_take rfl rfl (y_move rfl) ?_
        refine p_take rfl rfl (y_move rfl) ?_
        refine p_take rfl rfl (y_addN rfl rfl (by omega) (by omega)) ?_
        refine p_take rfl rfl (y_sliceX Go.Proofs.Tryd.underlying22 ti48 rfl rfl (i + 1) (by omega) (by omega) (by omega)) ?_
        refine p_take rfl rfl (y_move rfl) ?_
        refine p_take rfl rfl (y_move rfl) ?_
        refine p_take rfl rfl (y_sliceX Go.Proofs.Tryd.underlying22 ti48 rfl rfl i rfl (by omega) (by omega)) ?_
        refine p_only rfl rfl ?_
        refine o_copyR (m := n - i) (news := cs.drop (i * 2)) Go.Proofs.Tryd.underlying22 ti48 jN2 rfl rfl (by show min (n - i) (n + 1 - (i + 1)) = n - i; omega) hdl (by rw [List.length_append, List.length_append, htl, List.length_drop, hzl, hl]; omega) (ones_drop h2 _) (At.rowPart hr (fun p hp => List.mem_append_right _ (.tail _ (hF.mem p hp))) (fun q u hu => by rw [List.getElem?_drop] at hu; rw [Nat.zero_add]; exact hu)) .z (fun RN3 jN3 => ?_)
        rw [putC_at' (A := cs.take (i * 2) ++ new) (X := zs.drop 2) (D := []) (by rw [List.length_append, htl, hl]; omega) (by rw [List.length_drop, hzl, hdl]; omega) (by simp)] at jN3
        rw [List.append_nil] at jN3
        refine o_nil ?_
        refine ⟨.inr ⟨hE, by first | exact fun _ h => h | exact fun _ h => .tail _ h | exact fun _ h => .tail _ (.tail _ h) | exact fun _ h => .tail _ (.tail _ (.tail _ h)) | exact held_0 | exact held_1 | exact held_2 | exact held_z0 | exact held_z1 | exact held_s | exact (fun _ h => by cases h)⟩, ?_⟩
        refine p_nil ?_
        refine x_seq ?_
        refine x_region rfl ?_
        refine o_y (y_move rfl) ?_
        refine o_y (y_assign rfl) ?_
        refine o_nil ?_
        obtain ⟨O2, hs2, hp2⟩ := hole_new' hF RN3
        refine x_perm List.perm_middle ?_
        refine x_pickP (O'' := (b, cl new 48) :: O2) (hs2.cons_cons _) (hp2.cons _) ?_
        refine x_ret ?_
        refine x_fin 0 (ret1 rfl rfl) ?_
        exact ⟨rfl, RN3, rfl, jN3⟩
      · try simp only [k1, k2, k3, k4, k5, k6, k7, k8, k9] at hc2
        refine x_skip ?_
        refine x_seq ?_
        refine x_region rfl ?_
        refine o_y (y_move rfl) ?_
        refine o_y (y_move rfl) ?_
        refine o_y (y_move rfl) ?_
        refine o_y (y_addN rfl rfl (by omega) (by omega)) ?_
        refine o_y (y_sliceH Go.Proofs.Tryd.underlying22 ti48 rfl rfl (n + 1) (by first | rfl | omega) (by omega)) ?_
        refine o_y (y_assign rfl) ?_
        refine o_nil ?_
        refine x_seq ?_
        refine x_seq ?_
        obtain ⟨ds, hds, hr2⟩ := hr.up (by omega)
        refine x_region rfl ?_
        refine o_y (y_move rfl) ?_
        refine o_y (y_move rfl) ?_
        refine o_y (y_move rfl) ?_
        refine o_y (y_move rfl) ?_
        refine o_y (y_addN rfl rfl (by omega) (by omega)) ?_
        refine o_y (y_sliceX Go.Proofs.Tryd.underlying22 ti48 rfl rfl (i + 1) (by omega) (by omega) (by omega)) ?_
        obtain ⟨sp0, hsp0⟩ : ∃ sp0, (b0, cl (cs ++ sp0) 48) ∈ O := by
          rcases hr.form with ⟨h5, _⟩ | ⟨g, cap, sp, h5, _, _, h6⟩
          · cases h5
          · injection h5 with h7 _ _
            injection h7 with h7
            injection h7 with h7
            subst h7
            exact ⟨sp, hF.mem _ (by rw [h6]; exact List.mem_singleton.2 rfl)⟩
        refine o_overlaps hex Go.Proofs.Tryd.underlying22 ti48 rfl rfl hne .z (.s (In.ofMem hsp0)) (by rw [List.length_append]; omega) ?_
        refine o_y (y_not rfl) ?_
        refine o_nil ?_
        refine x_cond rfl (fun hc3 => ?_) (fun hc3 => ?_)
        · try simp only [k1, k2, k3, k4, k5, k6, k7, k8, k9] at hc3
          refine x_seq ?_
          have hdl : (cs.drop (i * 2)).length = (n - i) * 2 := by rw [List.length_drop, hcl]; omega
          have htl : (cs.take (i * 2)).length = i * 2 := by rw [List.length_take]; omega
          refine x_regionPs [] (fun p hp => by cases hp) [(0, true), (1, true), (2, true), (3, true), (4, true), (5, true), (6, true), (7, true), (8, false)] [0, 1, 2, 3, 4, 5, 6, 7] [] mixed (by kernel_rfl) (by repeat (first | exact np_fn | apply np_then | apply np_block)) ?_
          have hE := Ext.refl H
          refine p_take rfl rfl (y_move rfl) ?_
          refine p_take rfl rfl (y_move rfl) ?_
          refine p_take rfl rfl (y_move rfl) ?_
          refine p_take rfl rfl (y_addN rfl rfl (by omega) (by omega)) ?_
          refine p_take rfl rfl (y_sliceX Go.Proofs.Tryd.underlying22 ti48 rfl rfl (i + 1) (by omega) (by omega) (by omega)) ?_
          refine p_take rfl rfl (y_move rfl) ?_
          refine p_take rfl rfl (y_move rfl) ?_
          refine p_take rfl rfl (y_sliceX Go.Proofs.Tryd.underlying22 ti48 rfl rfl i rfl (by omega) (by omega)) ?_
          refine p_only rfl rfl ?_
          refine o_copyR (m := n - i) (news := cs.drop (i * 2)) Go.Proofs.Tryd.underlying22 ti48 hr2 rfl rfl (by show min (n + 1 - i) (n + 1 - (i + 1)) = n - i; omega) hdl (by rw [List.length_append, hds]; omega) (ones_drop h2 _) (At.rowPart hr2 (fun p hp => .tail _ (hF.mem p hp)) (fun q u hu => by rw [List.getElem?_drop] at hu; rw [Nat.zero_add, List.getElem?_append_left (List.getElem?_eq_some_iff.1 hu).1]; exact hu)) (.s hF) (fun R3 hr3 => ?_)
          have hx1 : ((cs.drop (i * 2) ++ ds).take 2).length = new.length := by rw [List.length_take, List.length_append, hdl, hds, hl]; omega
          have hx2 : ((cs.drop (i * 2) ++ ds).drop 2).length = (cs.drop (i * 2)).length := by rw [List.length_drop, List.length_append, hds]; omega
          rw [putC_at' (A := cs.take (i * 2) ++ (cs.drop (i * 2) ++ ds).take 2) (X := (cs.drop (i * 2) ++ ds).drop 2) (D := []) (by rw [List.length_append, htl, hx1, hl]; omega) hx2 (by rw [List.append_nil, List.append_assoc, List.take_append_drop, ← List.append_assoc, List.take_append_drop])] at hr3
          rw [List.append_nil] at hr3
          refine o_nil ?_
          refine ⟨.inr ⟨hE, by first | exact fun _ h => h | exact fun _ h => .tail _ h | exact fun _ h => .tail _ (.tail _ h) | exact fun _ h => .tail _ (.tail _ (.tail _ h)) | exact held_0 | exact held_1 | exact held_2 | exact held_z0 | exact held_z1 | exact held_s | exact (fun _ h => by cases h)⟩, ?_⟩
          refine p_nil ?_
          refine x_seq ?_
          refine x_region rfl ?_
          refine o_y (y_move rfl) ?_
          refine o_y (y_move rfl) ?_
          refine o_y (y_sliceX Go.Proofs.Tryd.underlying22 ti48 rfl rfl i rfl (by omega) (by omega)) ?_
          refine o_y (y_move rfl) ?_
          refine o_copyR (m := 1) (news := new) Go.Proofs.Tryd.underlying22 ti48 hr3 rfl rfl (by show min 1 (n + 1 - i) = 1; omega) (by omega) (by have := hr3.len; omega) h1 (fun w hw => hnew w hw (.head _)) (.s (hF.again R3)) (fun R4 hr4 => ?_)
          rw [putC_at' (A := cs.take (i * 2)) (X := (cs.drop (i * 2) ++ ds).take 2) (D := cs.drop (i * 2)) (by rw [htl, Nat.zero_add]) hx1 (by rw [List.append_assoc]), ← List.append_assoc] at hr4
          refine o_nil ?_
          refine x_seq ?_
          refine x_region rfl ?_
          refine o_y (y_move rfl) ?_
          refine o_y (y_assign rfl) ?_
          refine o_nil ?_
          refine x_ret ?_
          refine x_fin 0 (ret1 rfl rfl) ?_
          exact ⟨rfl, R4, rfl, hr4⟩
        · try simp only [k1, k2, k3, k4, k5, k6, k7, k8, k9] at hc3
          exfalso; simp at hc3
end Go.Ph
