/- The law's own witness that the ledger lives. -/
import Derived.Test.YtmgnagpgnoikfaaDoorLedger6
set_option linter.unusedVariables false
set_option linter.unusedSimpArgs false
set_option maxRecDepth 100000
namespace Go.Ph
open Go Go.RowKit Go.Proofs.YtmgnagpgnoikfaaDoor

theorem sameNumbers_ok {B : World} {H : HM} {O : OL} {v u : Value} {xs ys : List Int} (h : RdL H v xs) (hu : RdL H u ys) : CallsM Go.Proofs.Tryd.prog 21 [v, u].toArray B H O (Same (.bool (decide (xs = ys))) H O) := by
  have hs := h.lenle
  have hs2 := hu.lenle
  refine enter Go.Proofs.Tryd.func21 rfl Go.Proofs.Tryd.ntmps21 (l := [(0, _), (1, _)]) rfl rfl ?_
  refine x_seq ?_
  refine x_region rfl ?_
  refine o_y (y_assign rfl) ?_
  refine o_nil ?_
  refine x_seq ?_
  refine x_seq ?_
  refine x_region rfl ?_
  refine o_y (y_move rfl) ?_
  first | refine o_y (y_lenL (by assumption) Go.Proofs.Tryd.underlying24 rfl) ?_ | refine o_y (y_lenR (by assumption) Go.Proofs.Tryd.underlying24 rfl) ?_ | refine o_y (y_len Go.Proofs.Tryd.underlying24 rfl) ?_
  refine o_y (y_move rfl) ?_
  first | refine o_y (y_lenL (by assumption) Go.Proofs.Tryd.underlying24 rfl) ?_ | refine o_y (y_lenR (by assumption) Go.Proofs.Tryd.underlying24 rfl) ?_ | refine o_y (y_len Go.Proofs.Tryd.underlying24 rfl) ?_
  refine o_y (y_neq rfl rfl) ?_
  refine o_nil ?_
  refine x_cond rfl (fun hc0 => ?_) (fun hc0 => ?_)
  · try simp only [k1, k2, k3, k4, k5, k6, k7, k8, k9] at hc0
    refine x_seq ?_
    refine x_region rfl ?_
    refine o_y (y_assign rfl) ?_
    refine o_nil ?_
    refine x_ret ?_
    refine x_fin 0 (ret1 rfl rfl) ?_
    have hne : ¬ xs = ys := fun e => by subst e; omega
    rw [decide_eq_false hne]; exact ⟨rfl, rfl, rfl⟩
  · try simp only [k1, k2, k3, k4, k5, k6, k7, k8, k9] at hc0
    refine x_skip ?_
    refine x_seq ?_
    refine x_seq ?_
    refine x_region rfl ?_
    refine o_y (y_move rfl) ?_
    first | refine o_y (y_lenL (by assumption) Go.Proofs.Tryd.underlying24 rfl) ?_ | refine o_y (y_lenR (by assumption) Go.Proofs.Tryd.underlying24 rfl) ?_ | refine o_y (y_len Go.Proofs.Tryd.underlying24 rfl) ?_
    refine o_y (y_move rfl) ?_
    refine o_nil ?_
    refine x_block ?_
    refine x_loopf (σ := Nat) (fun s => [(13, .int .i64 (s : Int)), (12, .int .i64 (xs.length : Int)), (0, v), (1, u)]) (fun s => O) (fun s => s ≤ xs.length ∧ xs.take s = ys.take s) (fun s => xs.length - s) 0 ⟨by simp, by simp⟩ (.c rfl (.c rfl (.c rfl (.c rfl .n)))) rfl ?_
    rintro k ⟨i1, i2⟩
    refine x_seq ?_
    refine x_region rfl ?_
    refine o_y (y_lss rfl rfl) ?_
    refine o_nil ?_
    refine x_seq ?_
    refine x_cond rfl (fun hc1 => ?_) (fun hc1 => ?_)
    · try simp only [k1, k2, k3, k4, k5, k6, k7, k8, k9] at hc1
      have hk : k < xs.length := by omega
      have hk2 : k < ys.length := by omega
      refine x_skip ?_
      refine x_seq ?_
      refine x_block ?_
      refine x_seq ?_
      refine x_region rfl ?_
      refine o_y (y_move rfl) ?_
      refine o_y (y_assign rfl) ?_
      refine o_nil ?_
      refine x_seq ?_
      refine x_regionQ mixed (by kernel_rfl) rfl ?_
      refine q_y (y_move rfl) ?_
      refine q_y (y_move rfl) ?_
      obtain ⟨ce18, ae18, re18⟩ := RdL.at h _ k hk
      have se18 := AtS.isSl ae18
      obtain ⟨rfl, q18⟩ := re18
      refine q_y (y_idxL h k hk Go.Proofs.Tryd.underlying24 ti3 rfl rfl (by omega)) ?_
      refine q_y (y_loadS ti3 rfl (by assumption) rfl (fun _ => rfl)) ?_
      refine q_y (y_move rfl) ?_
      refine q_y (y_move rfl) ?_
      obtain ⟨ce22, ae22, re22⟩ := RdL.at hu _ k hk2
      have se22 := AtS.isSl ae22
      obtain ⟨rfl, q22⟩ := re22
      refine q_y (y_idxL hu k hk2 Go.Proofs.Tryd.underlying24 ti3 rfl rfl (by omega)) ?_
      refine q_y (y_loadS ti3 rfl (by assumption) rfl (fun _ => rfl)) ?_
      refine q_y (y_neq rfl rfl) ?_
      refine q_nil ?_
      refine x_cond rfl (fun hc2 => ?_) (fun hc2 => ?_)
      · try simp only [k1, k2, k3, k4, k5, k6, k7, k8, k9] at hc2
        refine x_seq ?_
        refine x_region rfl ?_
        refine o_y (y_assign rfl) ?_
        refine o_nil ?_
        refine x_ret ?_
        refine x_fin 0 (ret1 rfl rfl) ?_
        have hne : ¬ xs = ys := fun e => by subst e; omega
        rw [decide_eq_false hne]; exact ⟨rfl, rfl, rfl⟩
      · try simp only [k1, k2, k3, k4, k5, k6, k7, k8, k9] at hc2
        refine x_skip ?_
        refine x_region rfl ?_
        refine o_y (y_addN rfl rfl (by omega) (by omega)) ?_
        refine o_y (y_move rfl) ?_
        refine o_nil ?_
        exact ⟨k + 1, 0, rfl, (.c rfl (.c rfl (.c rfl (.c rfl .n)))), rfl, ⟨by omega, by rw [take_next hk, take_next hk2, i2, show xs[k] = ys[k] by omega]⟩, by omega⟩
    · try simp only [k1, k2, k3, k4, k5, k6, k7, k8, k9] at hc1
      refine x_exit ?_
      refine x_seq ?_
      refine x_region rfl ?_
      refine o_y (y_assign rfl) ?_
      refine o_nil ?_
      refine x_ret ?_
      refine x_fin 0 (ret1 rfl rfl) ?_
      obtain rfl : k = xs.length := by omega
      rw [List.take_length, List.take_of_length_le (by omega)] at i2
      rw [decide_eq_true i2]; exact ⟨rfl, rfl, rfl⟩
def ac1 : Commit := { (default : Commit) with group := 3, next_ := ⟨[leafN 1]⟩ }
def ac2 : Commit := { (default : Commit) with group := 3, epoch := 1, next_ := ⟨[leafN 2]⟩ }
def aL1 : List Log := [⟨3, [ac1]⟩]
def aL2 : List Log := [⟨3, [ac1, ac2]⟩]
theorem placeN_nil (g : Int) : placeN [] g = 0 := by unfold placeN; rw [searchN, dif_neg (by simp)]
theorem placeN_one {x : Log} {g : Int} (h : g = x.group) : placeN [x] g = 0 := by
  unfold placeN
  rw [searchN, dif_pos (by simp), if_pos (by subst h; simp [placeP, grpAt]), searchN, dif_neg (by simp)]
theorem foundB_nil (g : Int) : foundB [] g = false := by rw [foundB, placeN_nil]; rfl
theorem foundB_one {x : Log} {g : Int} (h : g = x.group) : foundB [x] g = true := by rw [foundB, placeN_one h]; subst h; simp [grpAt]
theorem aE1 : appErr [] ac1 = 0 ∧ appLogs [] ac1 = aL1 := by
  have e : appErr [] ac1 = 0 := by
    rw [appErr, if_pos ⟨rfl, by decide +kernel⟩, if_pos (by rw [commitsOf, if_neg (by rw [foundB_nil]; simp)]; rfl), if_neg (by simp)]
  refine ⟨e, ?_⟩
  rw [appLogs, if_pos e, if_neg (by rw [foundB_nil]; simp), placeN_nil]; rfl
theorem aC1 : commitsOf aL1 3 = [ac1] := by rw [commitsOf, if_pos ⟨foundB_one rfl, by decide +kernel⟩, aL1, placeN_one rfl]; rfl
theorem aC2 : commitsOf aL2 3 = [ac1, ac2] := by rw [commitsOf, if_pos ⟨foundB_one rfl, by decide +kernel⟩, aL2, placeN_one rfl]; rfl
theorem aE2 : appErr aL1 ac2 = 0 ∧ appLogs aL1 ac2 = aL2 := by
  have e : appErr aL1 ac2 = 0 := by
    rw [appErr, if_pos ⟨by decide +kernel, by decide +kernel⟩, show ac2.group = 3 from rfl, aC1, if_pos (show ac2.epoch = (([ac1].length : Nat) : Int) from rfl), if_neg (by simp [aL1])]
  refine ⟨e, ?_⟩
  rw [appLogs, if_pos e, show ac2.group = 3 from rfl, aL1, if_pos (foundB_one rfl), placeN_one rfl]; rfl
theorem aE3 : appErr aL2 ac2 = 10 := by
  rw [appErr, if_pos ⟨by decide +kernel, by decide +kernel⟩, show ac2.group = 3 from rfl, aC2, if_neg (by decide)]
theorem aT : touchedL aL2 3 1 = [1, 2] ∧ getB aL2 3 1 = true := by
  have h1 : getB aL2 3 1 = true := by rw [getB, aC2]; decide
  have h2 : getC aL2 3 1 = ac2 := by rw [getC, aC2]; rfl
  have h3 : getC aL2 3 (1 - 1) = ac1 := by rw [getC, aC2]; rfl
  have h4 : getB aL2 3 (1 - 1) = true := by rw [getB, aC2]; decide
  refine ⟨?_, h1⟩
  rw [touchedL, touch0, h2, h3, if_pos h4, show membersL ac2.next_.nodes = [2] by decide +kernel, show membersL ac1.next_.nodes = [1] by decide +kernel]
  have h5 : sortL ([2] ++ [1]) = [1, 2] := by
    unfold sortL
    simp [List.mergeSort, List.MergeSort.Internal.splitInTwo, List.merge]
  rw [h5]
  decide +kernel
abbrev Yes (H : HM) (O : OL) : Value → HM → OL → Prop := fun v H' O' => v = .bool true ∧ Ext H H' ∧ O = O'
theorem ac1_rd {H : HM} {u : Value} (h : RdL H u [leafN 1]) : Rep.rd H [.int .i64 3, .int .i64 0, .int .i64 0, .int .i64 0, .int .i64 0, .bool false, .slice none 0 0, .slice none 0 0, .slice none 0 0, .slice none 0 0, .int .i64 0, .int .i64 0, u, .int .i64 0, .int .i64 0] ac1 := by
  have z : InR 0 := by unfold InR; omega
  have z3 : InR 3 := by unfold InR; omega
  exact ⟨_, _, _, _, _, rfl, z3, z, z, z, z, RdL.nil H, RdL.nil H, RdL.nil H, RdL.nil H, z, z, h, z, z⟩
theorem ac2_rd {H : HM} {u : Value} (h : RdL H u [leafN 2]) : Rep.rd H [.int .i64 3, .int .i64 1, .int .i64 0, .int .i64 0, .int .i64 0, .bool false, .slice none 0 0, .slice none 0 0, .slice none 0 0, .slice none 0 0, .int .i64 0, .int .i64 0, u, .int .i64 0, .int .i64 0] ac2 := by
  have z : InR 0 := by unfold InR; omega
  have z1 : InR 1 := by unfold InR; omega
  have z3 : InR 3 := by unfold InR; omega
  exact ⟨_, _, _, _, _, rfl, z3, z1, z, z, z, RdL.nil H, RdL.nil H, RdL.nil H, RdL.nil H, z, z, h, z, z⟩
theorem app1 {B : World} {H : HM} {O : OL} {u : Value} (hT : TabAt H) (h : RdL H u [leafN 1]) : CallsM Go.Proofs.Tryd.prog 10 [.slice none 0 0, .agg #[.int .i64 3, .int .i64 0, .int .i64 0, .int .i64 0, .int .i64 0, .bool false, .slice none 0 0, .slice none 0 0, .slice none 0 0, .slice none 0 0, .int .i64 0, .int .i64 0, u, .int .i64 0, .int .i64 0]].toArray B H O (App 0 aL1 H O) := by
  have := append_ok (B := B) (O := O) hT (RdL.nil H) (ac1_rd h) (by simp)
  rw [aE1.1, aE1.2] at this
  exact this
theorem app2 {B : World} {H : HM} {O : OL} {v u : Value} (hT : TabAt H) (hv : RdL H v aL1) (h : RdL H u [leafN 2]) : CallsM Go.Proofs.Tryd.prog 10 [v, .agg #[.int .i64 3, .int .i64 1, .int .i64 0, .int .i64 0, .int .i64 0, .bool false, .slice none 0 0, .slice none 0 0, .slice none 0 0, .slice none 0 0, .int .i64 0, .int .i64 0, u, .int .i64 0, .int .i64 0]].toArray B H O (App 0 aL2 H O) := by
  have := append_ok (B := B) (O := O) hT hv (ac2_rd h) (by simp [aL1])
  rw [aE2.1, aE2.2] at this
  exact this
theorem app3 {B : World} {H : HM} {O : OL} {v u : Value} (hT : TabAt H) (hv : RdL H v aL2) (h : RdL H u [leafN 2]) : CallsM Go.Proofs.Tryd.prog 10 [v, .agg #[.int .i64 3, .int .i64 1, .int .i64 0, .int .i64 0, .int .i64 0, .bool false, .slice none 0 0, .slice none 0 0, .slice none 0 0, .slice none 0 0, .int .i64 0, .int .i64 0, u, .int .i64 0, .int .i64 0]].toArray B H O (App 10 (appLogs aL2 ac2) H O) := by
  have := append_ok (B := B) (O := O) hT hv (ac2_rd h) (by simp [aL2])
  rw [aE3] at this
  exact this
theorem el12 (H : HM) : El H [.int .i64 1, .int .i64 2] ([1, 2] : List Int) := by
  have r1 : InR 1 := by unfold InR; omega
  have r2 : InR 2 := by unfold InR; omega
  exact El.c (cs := [.int .i64 1]) ⟨rfl, r1⟩ (El.c (cs := [.int .i64 2]) ⟨rfl, r2⟩ .n)
theorem alive_ok {B : World} {H : HM} {O : OL} (hT : TabAt H) : CallsM Go.Proofs.Tryd.prog 9 ([] : List Value).toArray B H O (Yes H O) := by
  have r1 : InR 1 := by unfold InR; omega
  have r2 : InR 2 := by unfold InR; omega
  have r3 : InR 3 := by unfold InR; omega
  refine enter Go.Proofs.Tryd.func9 rfl Go.Proofs.Tryd.ntmps9 (l := []) rfl rfl ?_
  refine x_seq ?_
  refine x_region rfl ?_
  refine o_y (y_assign rfl) ?_
  refine o_nil ?_
  refine x_seq ?_
  refine x_region rfl ?_
  refine o_call fn20 rfl (leaf_ok r1) ?_
  rintro v10 H1 _ ⟨x10, rfl, cs10, rfl, u10, rfl, r10⟩
  obtain ⟨p10, c10, rfl⟩ := r10.shape
  refine o_y (y_buildS bt31 rfl (C := [_, _, _, _, _, _, _, _, _, _, _, _, _, _, _]) rfl) ?_
  refine o_call fn10 rfl (app1 (hT.ext x10) r10) ?_
  rintro v12 H2 _ ⟨x12, rfl, u12, rfl, r12⟩
  refine o_y (y_move rfl) ?_
  refine o_y (y_extract rfl rfl) ?_
  refine o_y (y_extract rfl rfl) ?_
  refine o_y (y_assign rfl) ?_
  refine o_y (y_assign rfl) ?_
  refine o_nil ?_
  refine x_seq ?_
  refine x_region rfl ?_
  refine o_y (y_move rfl) ?_
  refine o_call fn20 rfl (leaf_ok r2) ?_
  rintro v17 H3 _ ⟨x17, rfl, cs17, rfl, u17, rfl, r17⟩
  obtain ⟨p17, c17, rfl⟩ := r17.shape
  have hT3 := ((hT.ext x10).ext x12).ext x17
  refine o_y (y_buildS bt31 rfl (C := [_, _, _, _, _, _, _, _, _, _, _, _, _, _, _]) rfl) ?_
  refine o_call fn10 rfl (app2 hT3 (r12.mono x17) r17) ?_
  rintro v19 H4 _ ⟨x19, rfl, u19, rfl, r19⟩
  refine o_y (y_move rfl) ?_
  refine o_y (y_extract rfl rfl) ?_
  refine o_y (y_extract rfl rfl) ?_
  refine o_y (y_assign rfl) ?_
  refine o_y (y_assign rfl) ?_
  refine o_nil ?_
  refine x_seq ?_
  refine x_region rfl ?_
  refine o_y (y_move rfl) ?_
  refine o_call fn20 rfl (leaf_ok r2) ?_
  rintro v24 H5 _ ⟨x24, rfl, cs24, rfl, u24, rfl, r24⟩
  obtain ⟨p24, c24, rfl⟩ := r24.shape
  have hT5 := (hT3.ext x19).ext x24
  refine o_y (y_buildS bt31 rfl (C := [_, _, _, _, _, _, _, _, _, _, _, _, _, _, _]) rfl) ?_
  refine o_call fn10 rfl (app3 hT5 (r19.mono x24) r24) ?_
  rintro v26 H6 _ ⟨x26, rfl, u26, rfl, r26⟩
  refine o_y (y_move rfl) ?_
  refine o_y (y_extract rfl rfl) ?_
  refine o_y (y_extract rfl rfl) ?_
  refine o_y (y_assign rfl) ?_
  refine o_y (y_assign rfl) ?_
  refine o_nil ?_
  refine x_seq ?_
  refine x_region rfl ?_
  have hT6 := hT5.ext x26
  have r19' := r19.mono (x24.trans x26)
  refine o_y (y_move rfl) ?_
  refine o_call fn17 rfl (touched_ok (i := 1) hT6 r19' r3 r1) ?_
  rintro v31 H7 _ ⟨x31, rfl, u31, rfl, r31⟩
  refine o_y (y_move rfl) ?_
  refine o_y (y_extract rfl rfl) ?_
  refine o_y (y_extract rfl rfl) ?_
  refine o_y (y_assign rfl) ?_
  refine o_y (y_assign rfl) ?_
  refine o_nil ?_
  refine x_seq ?_
  refine x_region rfl ?_
  have hT7 := hT6.ext x31
  have r19'' := r19'.mono x31
  have r31' := r31 aT.2
  rw [aT.1] at r31'
  have xa := ((((x10.trans x12).trans x17).trans x19).trans x24).trans (x26.trans x31)
  refine o_y (y_move rfl) ?_
  refine o_y (y_eql rfl rfl) ?_
  refine o_y (y_move rfl) ?_
  refine o_split 36 rfl (fun hg5_36 => ?_) (fun hg5_36 => ?_)
  · try simp only [k1, k2, k3, k4, k5, k6, k7, k8, k9] at hg5_36
    refine o_gy 36 rfl rfl (y_move rfl) ?_
    refine o_gy 36 rfl rfl (y_eql rfl rfl) ?_
    refine o_y (y_pick rfl rfl) ?_
    refine o_y (y_move rfl) ?_
    refine o_split 40 rfl (fun hg5_40 => ?_) (fun hg5_40 => ?_)
    · try simp only [k1, k2, k3, k4, k5, k6, k7, k8, k9] at hg5_40
      refine o_gy 40 rfl rfl (y_move rfl) ?_
      refine o_gy 40 rfl rfl (y_eql rfl rfl) ?_
      refine o_y (y_pick rfl rfl) ?_
      refine o_y (y_move rfl) ?_
      refine o_split 44 rfl (fun hg5_44 => ?_) (fun hg5_44 => ?_)
      · try simp only [k1, k2, k3, k4, k5, k6, k7, k8, k9] at hg5_44
        refine o_gy 44 rfl rfl (y_move rfl) ?_
        refine o_gcall 44 rfl rfl fn15 rfl (len_ok hT7 r19'' r3) ?_
        rintro _ _ _ ⟨rfl, rfl, rfl⟩
        refine o_gy 44 rfl rfl (y_eql rfl rfl) ?_
        refine o_y (y_pick rfl rfl) ?_
        refine o_y (y_move rfl) ?_
        refine o_split 49 rfl (fun hg5_49 => ?_) (fun hg5_49 => ?_)
        · try simp only [k1, k2, k3, k4, k5, k6, k7, k8, k9] at hg5_49
          refine o_gy 49 rfl rfl (y_move rfl) ?_
          refine o_y (y_pick rfl rfl) ?_
          refine o_y (y_move rfl) ?_
          refine o_split 52 rfl (fun hg5_52 => ?_) (fun hg5_52 => ?_)
          · try simp only [k1, k2, k3, k4, k5, k6, k7, k8, k9] at hg5_52
            refine o_gy 52 rfl rfl (y_move rfl) ?_
            refine o_gg 52 rfl rfl ?_
            refine o_buildSlice (C := [.int .i64 1, .int .i64 2]) Go.Proofs.Tryd.underlying24 ti3 (by decide) (by decide) (evs_ok rfl) (by kernel_rfl) (fun b54 => ?_)
            refine o_gcall 52 rfl rfl fn21 rfl (CallsM.lend (A := []) (O' := O) [(b54, _)] rfl (fun hN hX => sameNumbers_ok (ys := [1, 2]) (r31'.mono hX) (Row.freeze (n := 2) (e := 3) (cs := [.int .i64 1, .int .i64 2]) ⟨rfl, .inr ⟨b54, 2, [], rfl, Nat.le_refl _, rfl, rfl⟩⟩ rfl (el12 _) (by exact Nat.le_of_ble_eq_true rfl) hN))) ?_
            rintro _ _ _ ⟨rfl, rfl, rfl⟩
            refine o_y (y_pick rfl rfl) ?_
            refine o_y (y_move rfl) ?_
            refine o_split 57 rfl (fun hg5_57 => ?_) (fun hg5_57 => ?_)
            · try simp only [k1, k2, k3, k4, k5, k6, k7, k8, k9] at hg5_57
              refine o_gy 57 rfl rfl (y_buildS bt48 rfl (C := [_, _]) rfl) ?_
              refine o_gg 57 rfl rfl ?_
              refine o_slice1 Go.Proofs.Tryd.underlying22 ti48 (by decide) (by decide) rfl rfl (C := [_, _]) rfl rfl (fun b59 => ?_)
              refine o_gcall 57 rfl rfl fn14 rfl (CallsM.lend (A := []) (O' := (b54, _) :: O) [(b59, _)] rfl (fun hN hX => lcheck_ok (xs := [default]) (hT7.ext hX) (Row.freeze (n := 1) (e := 48) (cs := [.int .i64 0, .slice none 0 0]) ⟨rfl, .inr ⟨b59, 1, [], rfl, Nat.le_refl _, rfl, rfl⟩⟩ rfl (El.one1 ⟨_, rfl, (by show InR 0; unfold InR; omega), RdL.nil _⟩) (by exact Nat.le_of_ble_eq_true rfl) hN))) ?_
              rintro _ _ _ ⟨rfl, rfl, rfl⟩
              refine o_gy 57 rfl rfl (y_eql rfl rfl) ?_
              refine o_y (y_pick rfl rfl) ?_
              refine o_y (y_assign rfl) ?_
              refine o_nil ?_
              refine x_ret ?_
              refine x_fin 2 (ret1 rfl rfl) ?_
              refine ⟨?_, xa, rfl⟩
              rw [show errI (lcheckB [default]) = 1 by decide +kernel]; rfl
            · try simp only [k1, k2, k3, k4, k5, k6, k7, k8, k9] at hg5_57
              exfalso; simp at hg5_57
          · try simp only [k1, k2, k3, k4, k5, k6, k7, k8, k9] at hg5_52
            exfalso; rw [aT.2] at hg5_52; simp at hg5_52
        · try simp only [k1, k2, k3, k4, k5, k6, k7, k8, k9] at hg5_49
          exfalso; rw [aC2] at hg5_49; simp at hg5_49
      · try simp only [k1, k2, k3, k4, k5, k6, k7, k8, k9] at hg5_44
        exfalso; simp at hg5_44
    · try simp only [k1, k2, k3, k4, k5, k6, k7, k8, k9] at hg5_40
      exfalso; simp at hg5_40
  · try simp only [k1, k2, k3, k4, k5, k6, k7, k8, k9] at hg5_36
    exfalso; simp at hg5_36
end Go.Ph
