/- LedgerRow: the walk. -/
import Derived.Test.YtmgnagpgnoikfaaDoorLedger7
set_option linter.unusedVariables false
set_option linter.unusedSimpArgs false
set_option maxRecDepth 100000
namespace Go.Ph
open Go Go.RowKit Go.Proofs.YtmgnagpgnoikfaaDoor

theorem cu_asc {d : Array Int} (hs : ∀ i, 0 < i → i < d.size → d[i - 1]! ≤ d[i]!) : ∀ m, m ≤ d.size → (Lib.compactUpTo d m).Pairwise (· < ·) ∧ (0 < m → ∀ x ∈ Lib.compactUpTo d m, x ≤ d[m - 1]!) ∧ (0 < m → 0 < (Lib.compactUpTo d m).length)
  | 0, _ => ⟨by simp [Lib.compactUpTo], by omega, by omega⟩
  | m + 1, hm => by
    obtain ⟨h1, h2, h3⟩ := cu_asc hs m (by omega)
    rw [Lib.compactUpTo_succ]
    by_cases h0 : m = 0
    · subst h0
      have : Lib.keeps d 0 = true := by simp [Lib.keeps]
      rw [if_pos this]
      have e : Lib.compactUpTo d 0 = [] := by simp [Lib.compactUpTo]
      rw [e]; simp
    · have hle := hs m (by omega) (by omega)
      by_cases hk : d[m]! = d[m - 1]!
      · rw [if_neg (by rw [Lib.keeps_neg (by omega) hk]; simp), List.append_nil]
        refine ⟨h1, fun _ x hx => ?_, fun _ => h3 (by omega)⟩
        have := h2 (by omega) x hx
        rw [Nat.add_sub_cancel]; omega
      · rw [if_pos (Lib.keeps_pos hk)]
        refine ⟨List.pairwise_append.2 ⟨h1, List.pairwise_singleton _ _, fun a ha b hb => ?_⟩, fun _ x hx => ?_, fun _ => by simp⟩
        · have := h2 (by omega) a ha
          rw [List.mem_singleton.1 hb]; omega
        · rw [Nat.add_sub_cancel]
          rcases List.mem_append.1 hx with hx | hx
          · have := h2 (by omega) x hx; omega
          · rw [List.mem_singleton.1 hx]; exact Int.le_refl _
theorem sortL_asc (xs : List Int) : ∀ i, 0 < i → i < (sortL xs).toArray.size → (sortL xs).toArray[i - 1]! ≤ (sortL xs).toArray[i]! := by
  intro i h0 hi
  have h := List.pairwise_mergeSort (le := fun (x y : Int) => decide (x ≤ y)) (fun a b c h1 h2 => by simp at *; omega) (fun a b => by simp; omega) xs
  simp only [List.size_toArray] at hi
  have := List.pairwise_iff_getElem.1 h (i - 1) i (by have : (sortL xs).length = (xs.mergeSort fun x y => decide (x ≤ y)).length := rfl; omega) hi (by omega)
  simp only [decide_eq_true_eq] at this
  rw [getElem!_pos _ _ (by simpa using (by omega : i - 1 < (sortL xs).length)), getElem!_pos _ _ (by simpa using hi)]
  simp only [List.getElem_toArray]
  exact this
theorem touched_asc (xs : List Log) (g i : Int) : (touchedL xs g i).Pairwise (· < ·) := by
  have := (cu_asc (sortL_asc (touch0 xs g i)) _ (Nat.le_refl _)).1
  unfold touchedL compL Lib.compact
  simpa using this
theorem touched_pos {xs : List Log} {g i : Int} (h : getB xs g i = true) : 0 < (touchedL xs g i).length := by
  have h0 : 0 < (sortL (touch0 xs g i)).length := by
    rw [sortL_len, touch0, List.length_append]
    have := take_pos (get_take h).1
    omega
  have := (cu_asc (sortL_asc (touch0 xs g i)) _ (Nat.le_refl _)).2.2 (by simpa using h0)
  unfold touchedL compL Lib.compact
  simpa using this
theorem touched_lt {xs : List Log} {g i : Int} {j : Nat} (h0 : 0 < j) (hj : j < (touchedL xs g i).length) : (touchedL xs g i)[j - 1] < (touchedL xs g i)[j] :=
  List.pairwise_iff_getElem.1 (touched_asc xs g i) (j - 1) j (by omega) hj (by omega)
theorem commits_len {H : HM} {v : Value} {xs : List Log} {g : Int} (h : RdL H v xs) : (commitsOf xs g).length ≤ 140737488351232 := by
  unfold commitsOf
  split
  · rename_i hf
    have hk : placeN xs g < xs.length := (of_decide_eq_true hf.1).1
    obtain ⟨cs, _, u, _, _, h1⟩ := h.at [] _ hk
    rw [logAt_eq hk]; exact h1.lenle
  · simp
theorem get_in {B : World} {H : HM} {O : OL} {v : Value} {xs : List Log} {g i : Int} {b : Bool} (hb : getB xs g i = b) (hT : TabAt H) (h : RdL H v xs) (hg : InR g) (hi : InR i) : CallsM Go.Proofs.Tryd.prog 16 [v, .int .i64 g, .int .i64 i].toArray B H O (Got (getC xs g i) b H O) := by
  have := get_ok (B := B) (O := O) hT h hg hi
  rwa [hb] at this
theorem touched_in {B : World} {H : HM} {O : OL} {v : Value} {xs : List Log} {g i : Int} (hb : getB xs g i = true) (hT : TabAt H) (h : RdL H v xs) (hg : InR g) (hi : InR i) : CallsM Go.Proofs.Tryd.prog 17 [v, .int .i64 g, .int .i64 i].toArray B H O (Touch true (touchedL xs g i) H O) := by
  have := touched_ok (B := B) (O := O) hT h hg hi
  rwa [hb] at this
theorem row_true {B : World} {H : HM} {O : OL} {v : Value} {xs : List Log} {g : Int} (hT : TabAt H) (h : RdL H v xs) (hg : InR g) : CallsM Go.Proofs.Tryd.prog 5 [v, .int .i64 g].toArray B H O (Yes H O) := by
  have hls := logsSize_le h
  have hcl := commits_len (g := g) h
  have hgR := hg
  unfold InR at hgR
  have hend : getB xs g ((commitsOf xs g).length : Int) = false := by rw [getB, decide_eq_false (by omega)]
  have hneg : getB xs g (-1) = false := by rw [getB, decide_eq_false (by omega)]
  have hlast : getB xs g (((commitsOf xs g).length : Int) - 1) = decide (0 < ((commitsOf xs g).length : Int)) := by rw [getB]; congr 1; apply propext; omega
  refine enter Go.Proofs.Tryd.func5 rfl Go.Proofs.Tryd.ntmps5 (l := [(0, _), (1, _)]) rfl rfl ?_
  refine x_seq ?_
  refine x_region rfl ?_
  refine o_y (y_assign rfl) ?_
  refine o_nil ?_
  refine x_seq ?_
  refine x_seq ?_
  refine x_region rfl ?_
  refine o_y (y_move rfl) ?_
  refine o_call fn7 rfl (logsSize_ok h) ?_
  rintro _ _ _ ⟨rfl, rfl, rfl⟩
  refine o_slice1 Go.Proofs.Tryd.underlying24 ti3 (by decide) (by decide) rfl rfl (C := [_]) rfl rfl (fun b20 => ?_)
  refine o_call fn6 rfl (CallsM.lend (A := []) (O' := O) [(b20, _)] rfl (fun hN hX => beyond_ok (xs := [(logsSize xs : Int)]) (Row.freeze (n := 1) (e := 3) (cs := [.int .i64 (logsSize xs : Int)]) ⟨rfl, .inr ⟨b20, 1, [], rfl, Nat.le_refl _, rfl, rfl⟩⟩ rfl (El.one1 ⟨rfl, (by show InR (logsSize xs : Int); unfold InR; omega)⟩) (by exact Nat.le_of_ble_eq_true rfl) hN))) ?_
  rintro _ _ _ ⟨rfl, rfl, rfl⟩
  refine o_nil ?_
  refine x_cond rfl (fun hc0 => ?_) (fun hc0 => ?_)
  · try simp only [k1, k2, k3, k4, k5, k6, k7, k8, k9] at hc0
    refine x_seq ?_
    refine x_region rfl ?_
    refine o_y (y_assign rfl) ?_
    refine o_nil ?_
    refine x_ret ?_
    refine x_fin 1 (ret1 rfl rfl) ?_
    exact ⟨rfl, Ext.refl _, rfl⟩
  · try simp only [k1, k2, k3, k4, k5, k6, k7, k8, k9] at hc0
    refine x_skip ?_
    refine x_seq ?_
    refine x_region rfl ?_
    refine o_y (y_move rfl) ?_
    refine o_y (y_move rfl) ?_
    refine o_call fn15 rfl (len_ok hT h hg) ?_
    rintro _ _ _ ⟨rfl, rfl, rfl⟩
    refine o_y (y_assign rfl) ?_
    refine o_nil ?_
    refine x_seq ?_
    refine x_seq ?_
    refine x_pick (O' := O) (.cons _ (List.Sublist.refl _)) ?_
    refine x_region rfl ?_
    refine o_y (y_assign rfl) ?_
    refine o_nil ?_
    refine x_block ?_
    refine x_loopg (σ := Nat × HM) (fun s => [(6, .int .i64 (s.1 : Int)), (5, .int .i64 ((commitsOf xs g).length : Int)), (0, v), (1, .int .i64 g)]) (fun s => s.2) (fun s => O) (fun s => s.1 ≤ (commitsOf xs g).length ∧ Ext H s.2) (fun s => (commitsOf xs g).length - s.1) (0, H) ⟨by simp, Ext.refl _⟩ (.c rfl (.c rfl (.c rfl (.c rfl .n)))) rfl rfl ?_
    rintro ⟨k, H5⟩ ⟨i1, i2⟩
    simp only at i1 i2
    refine x_seq ?_
    refine x_seq ?_
    refine x_region rfl ?_
    refine o_y (y_move rfl) ?_
    refine o_y (y_move rfl) ?_
    refine o_y (y_lss rfl rfl) ?_
    refine o_nil ?_
    refine x_cond rfl (fun hc1 => ?_) (fun hc1 => ?_)
    · try simp only [k1, k2, k3, k4, k5, k6, k7, k8, k9] at hc1
      have hk : k < (commitsOf xs g).length := by omega
      have hgb : getB xs g (k : Int) = true := by rw [getB, decide_eq_true (by omega)]
      obtain ⟨hta, htg, hte⟩ := get_take hgb
      refine x_skip ?_
      refine x_seq ?_
      refine x_block ?_
      refine x_seq ?_
      refine x_region rfl ?_
      refine o_y (y_move rfl) ?_
      refine o_y (y_move rfl) ?_
      refine o_y (y_move rfl) ?_
      refine o_call fn16 rfl (get_in hgb (hT.ext i2) (h.mono i2) hg (by unfold InR; omega)) ?_
      rintro v34 H6 _ ⟨x34, rfl, cs34, rfl, r34⟩
      have w34 := Rep.one r34
      obtain ⟨u6, u7, u8, u9, u12, rfl, r34⟩ := r34
      refine o_y (y_move rfl) ?_
      refine o_y (y_extract rfl rfl) ?_
      refine o_y (y_extract rfl rfl) ?_
      refine o_alloc ti31 rfl (fun b7 => ?_)
      refine o_store (u := [_, _, _, _, _, _, _, _, _, _, _, _, _, _, _]) (C' := [_, _, _, _, _, _, _, _, _, _, _, _, _, _, _]) ti31 rfl rfl rfl rfl (by first | rfl | assumption | (simp only [ones, List.all_cons, List.all_nil, Bool.and_true, one_of (by assumption)]; done)) (by repeat (first | exact .z | apply Upd.s | apply Upd.a)) (by exact Nat.le_of_ble_eq_true rfl) (by rfl) ?_
      refine o_y (y_assign rfl) ?_
      refine o_nil ?_
      refine x_seq ?_
      refine x_region rfl ?_
      refine o_y (y_move rfl) ?_
      refine o_y (y_move rfl) ?_
      refine o_y (y_move rfl) ?_
      refine o_call fn17 rfl (touched_in hgb ((hT.ext i2).ext x34) ((h.mono i2).mono x34) hg (by unfold InR; omega)) ?_
      rintro v41 H7 _ ⟨x41, rfl, u41, rfl, r41⟩
      refine o_y (y_move rfl) ?_
      refine o_y (y_extract rfl rfl) ?_
      refine o_y (y_extract rfl rfl) ?_
      refine o_y (y_assign rfl) ?_
      refine o_y (y_assign rfl) ?_
      refine o_nil ?_
      refine x_seq ?_
      refine x_seq ?_
      refine x_region rfl ?_
      have r41' : RdL H7 u41 (touchedL xs g (k : Int)) := r41 rfl
      have htp := touched_pos hgb
      refine o_y (y_move rfl) ?_
      refine o_y (y_not rfl) ?_
      refine o_y (y_move rfl) ?_
      refine o_split 46 rfl (fun hg9_46 => ?_) (fun hg9_46 => ?_)
      · try simp only [k1, k2, k3, k4, k5, k6, k7, k8, k9] at hg9_46
        exfalso; simp at hg9_46
      · try simp only [k1, k2, k3, k4, k5, k6, k7, k8, k9] at hg9_46
        refine o_gy 46 rfl rfl (y_move rfl) ?_
        refine o_gy 46 rfl rfl (y_not rfl) ?_
        refine o_y (y_pick rfl rfl) ?_
        refine o_y (y_move rfl) ?_
        refine o_split 50 rfl (fun hg9_50 => ?_) (fun hg9_50 => ?_)
        · try simp only [k1, k2, k3, k4, k5, k6, k7, k8, k9] at hg9_50
          exfalso; simp at hg9_50
        · try simp only [k1, k2, k3, k4, k5, k6, k7, k8, k9] at hg9_50
          refine o_gy 50 rfl rfl (y_fieldAddr fd31_1 ti3 (by decide) rfl) ?_
          refine o_gy 50 rfl rfl (y_loadO ti3 rfl (by repeat (first | assumption | exact .z | apply In.s | apply In.a)) rfl) ?_
          refine o_gy 50 rfl rfl (y_move rfl) ?_
          refine o_gy 50 rfl rfl (y_neq rfl rfl) ?_
          refine o_y (y_pick rfl rfl) ?_
          refine o_y (y_move rfl) ?_
          refine o_split 56 rfl (fun hg9_56 => ?_) (fun hg9_56 => ?_)
          · try simp only [k1, k2, k3, k4, k5, k6, k7, k8, k9] at hg9_56
            exfalso; omega
          · try simp only [k1, k2, k3, k4, k5, k6, k7, k8, k9] at hg9_56
            refine o_gy 56 rfl rfl (y_fieldAddr fd31_0 ti3 (by decide) rfl) ?_
            refine o_gy 56 rfl rfl (y_loadO ti3 rfl (by repeat (first | assumption | exact .z | apply In.s | apply In.a)) rfl) ?_
            refine o_gy 56 rfl rfl (y_move rfl) ?_
            refine o_gy 56 rfl rfl (y_neq rfl rfl) ?_
            refine o_y (y_pick rfl rfl) ?_
            refine o_y (y_move rfl) ?_
            refine o_split 62 rfl (fun hg9_62 => ?_) (fun hg9_62 => ?_)
            · try simp only [k1, k2, k3, k4, k5, k6, k7, k8, k9] at hg9_62
              exfalso; omega
            · try simp only [k1, k2, k3, k4, k5, k6, k7, k8, k9] at hg9_62
              refine o_gy 62 rfl rfl (y_move rfl) ?_
              first | refine o_gy 62 rfl rfl (y_lenL (by assumption) Go.Proofs.Tryd.underlying24 rfl) ?_ | refine o_gy 62 rfl rfl (y_lenR (by assumption) Go.Proofs.Tryd.underlying24 rfl) ?_ | refine o_gy 62 rfl rfl (y_len Go.Proofs.Tryd.underlying24 rfl) ?_
              refine o_gy 62 rfl rfl (y_eql rfl rfl) ?_
              refine o_y (y_pick rfl rfl) ?_
              refine o_nil ?_
              refine x_cond rfl (fun hc2 => ?_) (fun hc2 => ?_)
              · try simp only [k1, k2, k3, k4, k5, k6, k7, k8, k9] at hc2
                exfalso; omega
              · try simp only [k1, k2, k3, k4, k5, k6, k7, k8, k9] at hc2
                refine x_skip ?_
                refine x_seq ?_
                refine x_region rfl ?_
                refine o_y (y_assign rfl) ?_
                refine o_nil ?_
                refine x_block ?_
                refine x_loopf (σ := Nat) (fun s => [(11, .int .i64 (s : Int)), (9, u41), (6, .int .i64 (k : Int)), (5, .int .i64 ((commitsOf xs g).length : Int)), (0, v), (1, .int .i64 g)]) (fun s => _) (fun s => 0 < s ∧ s ≤ (touchedL xs g k).length) (fun s => (touchedL xs g k).length - s) 1 ⟨by omega, by omega⟩ (.c rfl (.c rfl (.c rfl (.c rfl (.c rfl (.c rfl .n)))))) rfl ?_
                rintro j ⟨j1, j2⟩
                refine x_seq ?_
                refine x_seq ?_
                refine x_region rfl ?_
                refine o_y (y_move rfl) ?_
                refine o_y (y_move rfl) ?_
                first | refine o_y (y_lenL (by assumption) Go.Proofs.Tryd.underlying24 rfl) ?_ | refine o_y (y_lenR (by assumption) Go.Proofs.Tryd.underlying24 rfl) ?_ | refine o_y (y_len Go.Proofs.Tryd.underlying24 rfl) ?_
                refine o_y (y_lss rfl rfl) ?_
                refine o_nil ?_
                refine x_cond rfl (fun hc3 => ?_) (fun hc3 => ?_)
                · try simp only [k1, k2, k3, k4, k5, k6, k7, k8, k9] at hc3
                  have hj : j < (touchedL xs g k).length := by omega
                  have hjl := r41'.lenle
                  have hlt := touched_lt j1 hj
                  refine x_skip ?_
                  refine x_seq ?_
                  refine x_block ?_
                  refine x_seq ?_
                  refine x_regionQ mixed (by kernel_rfl) rfl ?_
                  refine q_y (y_move rfl) ?_
                  refine q_y (y_move rfl) ?_
                  obtain ⟨ce75, ae75, re75⟩ := RdL.at r41' _ j hj
                  have se75 := AtS.isSl ae75
                  obtain ⟨rfl, q75⟩ := re75
                  refine q_y (y_idxL r41' j hj Go.Proofs.Tryd.underlying24 ti3 rfl rfl (by omega)) ?_
                  refine q_y (y_loadS ti3 rfl (by assumption) rfl (fun _ => rfl)) ?_
                  refine q_y (y_move rfl) ?_
                  refine q_y (y_move rfl) ?_
                  refine q_y (y_subN rfl rfl (by omega) (by omega)) ?_
                  obtain ⟨ce80, ae80, re80⟩ := RdL.at r41' _ (j - 1) (by omega)
                  have se80 := AtS.isSl ae80
                  obtain ⟨rfl, q80⟩ := re80
                  refine q_y (y_idxL r41' (j - 1) (by omega) Go.Proofs.Tryd.underlying24 ti3 rfl rfl (by omega)) ?_
                  refine q_y (y_loadS ti3 rfl (by assumption) rfl (fun _ => rfl)) ?_
                  refine q_y (y_leq rfl rfl) ?_
                  refine q_nil ?_
                  refine x_cond rfl (fun hc4 => ?_) (fun hc4 => ?_)
                  · try simp only [k1, k2, k3, k4, k5, k6, k7, k8, k9] at hc4
                    exfalso; omega
                  · try simp only [k1, k2, k3, k4, k5, k6, k7, k8, k9] at hc4
                    refine x_skip ?_
                    refine x_region rfl ?_
                    refine o_y (y_move rfl) ?_
                    refine o_y (y_addN rfl rfl (by omega) (by omega)) ?_
                    refine o_y (y_assign rfl) ?_
                    refine o_nil ?_
                    exact ⟨j + 1, 0, rfl, (.c rfl (.c rfl (.c rfl (.c rfl (.c rfl (.c rfl .n)))))), rfl, ⟨by omega, by omega⟩, by omega⟩
                · try simp only [k1, k2, k3, k4, k5, k6, k7, k8, k9] at hc3
                  refine x_exit ?_
                  refine x_region rfl ?_
                  refine o_y (y_move rfl) ?_
                  refine o_y (y_addN rfl rfl (by omega) (by omega)) ?_
                  refine o_y (y_assign rfl) ?_
                  refine o_nil ?_
                  exact ⟨(k + 1, H7), 1, rfl, (.c rfl (.c rfl (.c rfl (.c rfl .n)))), rfl, ⟨by omega, (i2.trans x34).trans x41⟩, by simp only; omega⟩
    · try simp only [k1, k2, k3, k4, k5, k6, k7, k8, k9] at hc1
      refine x_exit ?_
      refine x_seq ?_
      refine x_region rfl ?_
      refine o_y (y_move rfl) ?_
      refine o_y (y_move rfl) ?_
      refine o_call fn16 rfl (get_in hneg (hT.ext i2) (h.mono i2) hg (by unfold InR; omega)) ?_
      rintro v86 H8 _ ⟨x86, rfl, cs86, rfl, r86⟩
      have w86 := Rep.one r86
      obtain ⟨a6, a7, a8, a9, a12, rfl, r86⟩ := r86
      refine o_y (y_move rfl) ?_
      refine o_y (y_extract rfl rfl) ?_
      refine o_y (y_extract rfl rfl) ?_
      refine o_alloc ti31 rfl (fun b12 => ?_)
      refine o_store (u := [_, _, _, _, _, _, _, _, _, _, _, _, _, _, _]) (C' := [_, _, _, _, _, _, _, _, _, _, _, _, _, _, _]) ti31 rfl rfl rfl rfl (by first | rfl | assumption | (simp only [ones, List.all_cons, List.all_nil, Bool.and_true, one_of (by assumption)]; done)) (by repeat (first | exact .z | apply Upd.s | apply Upd.a)) (by exact Nat.le_of_ble_eq_true rfl) (by rfl) ?_
      refine o_y (y_assign rfl) ?_
      refine o_nil ?_
      refine x_seq ?_
      refine x_region rfl ?_
      refine o_y (y_move rfl) ?_
      refine o_y (y_move rfl) ?_
      refine o_y (y_move rfl) ?_
      refine o_call fn16 rfl (get_in hend ((hT.ext i2).ext x86) ((h.mono i2).mono x86) hg (by unfold InR; omega)) ?_
      rintro v93 H9 _ ⟨x93, rfl, cs93, rfl, r93⟩
      have w93 := Rep.one r93
      obtain ⟨c6, c7, c8, c9, c12, rfl, r93⟩ := r93
      refine o_y (y_move rfl) ?_
      refine o_y (y_extract rfl rfl) ?_
      refine o_y (y_extract rfl rfl) ?_
      refine o_alloc ti31 rfl (fun b14 => ?_)
      refine o_store (u := [_, _, _, _, _, _, _, _, _, _, _, _, _, _, _]) (C' := [_, _, _, _, _, _, _, _, _, _, _, _, _, _, _]) ti31 rfl rfl rfl rfl (by first | rfl | assumption | (simp only [ones, List.all_cons, List.all_nil, Bool.and_true, one_of (by assumption)]; done)) (by repeat (first | exact .z | apply Upd.s | apply Upd.a)) (by exact Nat.le_of_ble_eq_true rfl) (by rfl) ?_
      refine o_y (y_assign rfl) ?_
      refine o_nil ?_
      refine x_seq ?_
      refine x_region rfl ?_
      refine o_y (y_move rfl) ?_
      refine o_y (y_move rfl) ?_
      refine o_call fn12 rfl (last_ok (((hT.ext i2).ext x86).ext x93) (((h.mono i2).mono x86).mono x93) hg) ?_
      rintro v99 H10 _ ⟨x99, rfl, cs99, rfl, r99⟩
      have w99 := Rep.one r99
      obtain ⟨d6, d7, d8, d9, d12, rfl, r99⟩ := r99
      refine o_y (y_move rfl) ?_
      refine o_y (y_extract rfl rfl) ?_
      refine o_y (y_extract rfl rfl) ?_
      refine o_alloc ti31 rfl (fun b16 => ?_)
      refine o_store (u := [_, _, _, _, _, _, _, _, _, _, _, _, _, _, _]) (C' := [_, _, _, _, _, _, _, _, _, _, _, _, _, _, _]) ti31 rfl rfl rfl rfl (by first | rfl | assumption | (simp only [ones, List.all_cons, List.all_nil, Bool.and_true, one_of (by assumption)]; done)) (by repeat (first | exact .z | apply Upd.s | apply Upd.a)) (by exact Nat.le_of_ble_eq_true rfl) (by rfl) ?_
      refine o_y (y_assign rfl) ?_
      refine o_nil ?_
      refine x_seq ?_
      refine x_region rfl ?_
      have hT10 := (((hT.ext i2).ext x86).ext x93).ext x99
      have xa := ((i2.trans x86).trans x93).trans x99
      refine o_y (y_move rfl) ?_
      refine o_y (y_not rfl) ?_
      refine o_y (y_move rfl) ?_
      refine o_split 104 rfl (fun hg19_104 => ?_) (fun hg19_104 => ?_)
      · try simp only [k1, k2, k3, k4, k5, k6, k7, k8, k9] at hg19_104
        refine o_gy 104 rfl rfl (y_move rfl) ?_
        refine o_gy 104 rfl rfl (y_not rfl) ?_
        refine o_y (y_pick rfl rfl) ?_
        refine o_y (y_move rfl) ?_
        refine o_split 108 rfl (fun hg19_108 => ?_) (fun hg19_108 => ?_)
        · try simp only [k1, k2, k3, k4, k5, k6, k7, k8, k9] at hg19_108
          refine o_gy 108 rfl rfl (y_move rfl) ?_
          refine o_gy 108 rfl rfl (y_move rfl) ?_
          refine o_gy 108 rfl rfl (y_gtr rfl rfl) ?_
          refine o_gy 108 rfl rfl (y_beql Go.Proofs.Tryd.underlying4 rfl rfl) ?_
          refine o_y (y_pick rfl rfl) ?_
          refine o_y (y_move rfl) ?_
          refine o_split 114 rfl (fun hg19_114 => ?_) (fun hg19_114 => ?_)
          · try simp only [k1, k2, k3, k4, k5, k6, k7, k8, k9] at hg19_114
            refine o_gcall 114 rfl rfl fn9 rfl (alive_ok hT10) ?_
            rintro v115 H11 _ ⟨rfl, x115, rfl⟩
            refine o_y (y_pick rfl rfl) ?_
            refine o_y (y_assign rfl) ?_
            refine o_nil ?_
            refine x_ret ?_
            refine x_fin 3 (ret1 rfl rfl) ?_
            exact ⟨rfl, xa.trans x115, rfl⟩
          · try simp only [k1, k2, k3, k4, k5, k6, k7, k8, k9] at hg19_114
            exfalso; rw [hlast] at hg19_114; simp at hg19_114
        · try simp only [k1, k2, k3, k4, k5, k6, k7, k8, k9] at hg19_108
          exfalso; simp at hg19_108
      · try simp only [k1, k2, k3, k4, k5, k6, k7, k8, k9] at hg19_104
        exfalso; simp at hg19_104
end Go.Ph
