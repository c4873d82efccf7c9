/- What the claim stands on, part 4. -/
import Derived.Test.YtmgnagpgnoikfaaGreatDoorP3
set_option linter.unusedVariables false
set_option linter.unusedSimpArgs false
set_option maxRecDepth 100000
namespace Go.Ph
open Go Go.RowKit Go.Proofs.YtmgnagpgnoikfaaGreatDoor Go.Proofs.Tryz
theorem fillCard_no {B : World} {H : HM} {O : OL} {bk : Nat} {C : List Value} (hC : C[11]? = some (.slice none 0 0)) (hi : In O bk (cl C 77)) : CallsM prog 69 [.pointer (some ⟨bk, 0, none⟩)].toArray B H O (Same (.tuple #[]) H O) := by
  refine enter func69 rfl ntmps69 (l := [(0, _)]) rfl rfl ?_
  refine x_seq ?_
  refine x_region rfl ?_
  refine o_y (y_move rfl) ?_
  refine o_y (y_nilCheck rfl) ?_
  refine o_y (y_fieldAddr fd77_11 ti52 (by decide) rfl) ?_
  refine o_y (y_loadO ti52 rfl hi hC) ?_
  refine o_y (y_lenA underlying52 rfl) ?_
  refine o_y (y_move rfl) ?_
  refine o_nil ?_
  refine x_block ?_
  refine x_loopf (σ := Unit) (fun s => [(10, .int .i64 0), (9, .int .i64 0)]) (fun s => O) (fun s => True) (fun s => 0) () trivial (.c rfl (.c rfl .n)) rfl ?_
  rintro ⟨⟩ _
  refine x_seq ?_
  refine x_region rfl ?_
  refine o_y (y_lss rfl rfl) ?_
  refine o_nil ?_
  refine x_seq ?_
  refine x_cond rfl (fun hc0 => ?_) (fun hc0 => ?_)
  · try simp only [kk] at hc0
    exfalso; omega
  try simp only [kk] at hc0
  refine x_exit ?_
  with_reducible repeat (first | refine q_exit_then ?_ | refine q_exit_block ?_ | refine q_exit_pass rfl ?_)
  refine x_finN (fn := Go.Proofs.Tryz.f69) 0 (ret0 rfl ) ?_
  exact ⟨rfl, rfl, rfl⟩
theorem growCard_no {B : World} {H : HM} {O : OL} {bk : Nat} {C : List Value} (hC : C[11]? = some (.slice none 0 0)) (hi : In O bk (cl C 77)) : CallsM prog 102 [.pointer (some ⟨bk, 0, none⟩)].toArray B H O (Same (.tuple #[]) H O) := by
  refine enter func102 rfl ntmps102 (l := [(0, _)]) rfl rfl ?_
  refine x_seq ?_
  refine x_region rfl ?_
  refine o_y (y_move rfl) ?_
  refine o_y (y_nilCheck rfl) ?_
  refine o_y (y_fieldAddr fd77_11 ti52 (by decide) rfl) ?_
  refine o_y (y_loadO ti52 rfl hi hC) ?_
  refine o_y (y_lenA underlying52 rfl) ?_
  refine o_y (y_move rfl) ?_
  refine o_nil ?_
  refine x_block ?_
  refine x_loopf (σ := Unit) (fun s => [(10, .int .i64 0), (9, .int .i64 0)]) (fun s => O) (fun s => True) (fun s => 0) () trivial (.c rfl (.c rfl .n)) rfl ?_
  rintro ⟨⟩ _
  refine x_seq ?_
  refine x_region rfl ?_
  refine o_y (y_lss rfl rfl) ?_
  refine o_nil ?_
  refine x_seq ?_
  refine x_cond rfl (fun hc0 => ?_) (fun hc0 => ?_)
  · try simp only [kk] at hc0
    exfalso; omega
  try simp only [kk] at hc0
  refine x_exit ?_
  with_reducible repeat (first | refine q_exit_then ?_ | refine q_exit_block ?_ | refine q_exit_pass rfl ?_)
  refine x_finN (fn := Go.Proofs.Tryz.f102) 0 (ret0 rfl ) ?_
  exact ⟨rfl, rfl, rfl⟩
theorem lookCard_no {B : World} {H : HM} {O : OL} {bk : Nat} {C : List Value} (hC : C[11]? = some (.slice none 0 0)) (hi : In O bk (cl C 77)) : CallsM prog 136 [.pointer (some ⟨bk, 0, none⟩)].toArray B H O (Same (.bool true) H O) := by
  refine enter func136 rfl ntmps136 (l := [(0, _)]) rfl rfl ?_
  refine x_seq ?_
  refine x_region rfl ?_
  refine o_y (y_assign rfl) ?_
  refine o_nil ?_
  refine x_seq ?_
  refine x_seq ?_
  refine x_region rfl ?_
  refine o_y (y_move rfl) ?_
  refine o_y (y_nilCheck rfl) ?_
  refine o_y (y_fieldAddr fd77_11 ti52 (by decide) rfl) ?_
  refine o_y (y_loadO ti52 rfl hi hC) ?_
  refine o_y (y_lenA underlying52 rfl) ?_
  refine o_y (y_move rfl) ?_
  refine o_nil ?_
  refine x_block ?_
  refine x_loopf (σ := Unit) (fun s => [(12, .int .i64 0), (11, .int .i64 0)]) (fun s => O) (fun s => True) (fun s => 0) () trivial (.c rfl (.c rfl .n)) rfl ?_
  rintro ⟨⟩ _
  refine x_seq ?_
  refine x_region rfl ?_
  refine o_y (y_lss rfl rfl) ?_
  refine o_nil ?_
  refine x_seq ?_
  refine x_cond rfl (fun hc0 => ?_) (fun hc0 => ?_)
  · try simp only [kk] at hc0
    exfalso; omega
  try simp only [kk] at hc0
  refine x_exit ?_
  refine x_seq ?_
  refine x_region rfl ?_
  refine o_y (y_assign rfl) ?_
  refine o_nil ?_
  refine x_ret ?_
  refine x_fin 0 (ret1 rfl rfl) ?_
  exact ⟨rfl, rfl, rfl⟩
theorem fillGot_no {B : World} {H : HM} {O : OL} {bk : Nat} {C : List Value} (hC : C[12]? = some (.slice none 0 0)) (hi : In O bk (cl C 77)) : CallsM prog 70 [.pointer (some ⟨bk, 0, none⟩)].toArray B H O (Same (.tuple #[]) H O) := by
  refine enter func70 rfl ntmps70 (l := [(0, _)]) rfl rfl ?_
  refine x_seq ?_
  refine x_region rfl ?_
  refine o_y (y_move rfl) ?_
  refine o_y (y_nilCheck rfl) ?_
  refine o_y (y_fieldAddr fd77_12 ti53 (by decide) rfl) ?_
  refine o_y (y_loadO ti53 rfl hi hC) ?_
  refine o_y (y_lenA underlying53 rfl) ?_
  refine o_y (y_move rfl) ?_
  refine o_nil ?_
  refine x_block ?_
  refine x_loopf (σ := Unit) (fun s => [(10, .int .i64 0), (9, .int .i64 0)]) (fun s => O) (fun s => True) (fun s => 0) () trivial (.c rfl (.c rfl .n)) rfl ?_
  rintro ⟨⟩ _
  refine x_seq ?_
  refine x_region rfl ?_
  refine o_y (y_lss rfl rfl) ?_
  refine o_nil ?_
  refine x_seq ?_
  refine x_cond rfl (fun hc0 => ?_) (fun hc0 => ?_)
  · try simp only [kk] at hc0
    exfalso; omega
  try simp only [kk] at hc0
  refine x_exit ?_
  with_reducible repeat (first | refine q_exit_then ?_ | refine q_exit_block ?_ | refine q_exit_pass rfl ?_)
  refine x_finN (fn := Go.Proofs.Tryz.f70) 0 (ret0 rfl ) ?_
  exact ⟨rfl, rfl, rfl⟩
theorem growGot_no {B : World} {H : HM} {O : OL} {bk : Nat} {C : List Value} (hC : C[12]? = some (.slice none 0 0)) (hi : In O bk (cl C 77)) : CallsM prog 103 [.pointer (some ⟨bk, 0, none⟩)].toArray B H O (Same (.tuple #[]) H O) := by
  refine enter func103 rfl ntmps103 (l := [(0, _)]) rfl rfl ?_
  refine x_seq ?_
  refine x_region rfl ?_
  refine o_y (y_move rfl) ?_
  refine o_y (y_nilCheck rfl) ?_
  refine o_y (y_fieldAddr fd77_12 ti53 (by decide) rfl) ?_
  refine o_y (y_loadO ti53 rfl hi hC) ?_
  refine o_y (y_lenA underlying53 rfl) ?_
  refine o_y (y_move rfl) ?_
  refine o_nil ?_
  refine x_block ?_
  refine x_loopf (σ := Unit) (fun s => [(10, .int .i64 0), (9, .int .i64 0)]) (fun s => O) (fun s => True) (fun s => 0) () trivial (.c rfl (.c rfl .n)) rfl ?_
  rintro ⟨⟩ _
  refine x_seq ?_
  refine x_region rfl ?_
  refine o_y (y_lss rfl rfl) ?_
  refine o_nil ?_
  refine x_seq ?_
  refine x_cond rfl (fun hc0 => ?_) (fun hc0 => ?_)
  · try simp only [kk] at hc0
    exfalso; omega
  try simp only [kk] at hc0
  refine x_exit ?_
  with_reducible repeat (first | refine q_exit_then ?_ | refine q_exit_block ?_ | refine q_exit_pass rfl ?_)
  refine x_finN (fn := Go.Proofs.Tryz.f103) 0 (ret0 rfl ) ?_
  exact ⟨rfl, rfl, rfl⟩
theorem lookGot_no {B : World} {H : HM} {O : OL} {bk : Nat} {C : List Value} (hC : C[12]? = some (.slice none 0 0)) (hi : In O bk (cl C 77)) : CallsM prog 137 [.pointer (some ⟨bk, 0, none⟩)].toArray B H O (Same (.bool true) H O) := by
  refine enter func137 rfl ntmps137 (l := [(0, _)]) rfl rfl ?_
  refine x_seq ?_
  refine x_region rfl ?_
  refine o_y (y_assign rfl) ?_
  refine o_nil ?_
  refine x_seq ?_
  refine x_seq ?_
  refine x_region rfl ?_
  refine o_y (y_move rfl) ?_
  refine o_y (y_nilCheck rfl) ?_
  refine o_y (y_fieldAddr fd77_12 ti53 (by decide) rfl) ?_
  refine o_y (y_loadO ti53 rfl hi hC) ?_
  refine o_y (y_lenA underlying53 rfl) ?_
  refine o_y (y_move rfl) ?_
  refine o_nil ?_
  refine x_block ?_
  refine x_loopf (σ := Unit) (fun s => [(12, .int .i64 0), (11, .int .i64 0)]) (fun s => O) (fun s => True) (fun s => 0) () trivial (.c rfl (.c rfl .n)) rfl ?_
  rintro ⟨⟩ _
  refine x_seq ?_
  refine x_region rfl ?_
  refine o_y (y_lss rfl rfl) ?_
  refine o_nil ?_
  refine x_seq ?_
  refine x_cond rfl (fun hc0 => ?_) (fun hc0 => ?_)
  · try simp only [kk] at hc0
    exfalso; omega
  try simp only [kk] at hc0
  refine x_exit ?_
  refine x_seq ?_
  refine x_region rfl ?_
  refine o_y (y_assign rfl) ?_
  refine o_nil ?_
  refine x_ret ?_
  refine x_fin 0 (ret1 rfl rfl) ?_
  exact ⟨rfl, rfl, rfl⟩
theorem fillNote_no {B : World} {H : HM} {O : OL} {bk : Nat} {C : List Value} (hC : C[13]? = some (.slice none 0 0)) (hi : In O bk (cl C 77)) : CallsM prog 71 [.pointer (some ⟨bk, 0, none⟩)].toArray B H O (Same (.tuple #[]) H O) := by
  refine enter func71 rfl ntmps71 (l := [(0, _)]) rfl rfl ?_
  refine x_seq ?_
  refine x_region rfl ?_
  refine o_y (y_move rfl) ?_
  refine o_y (y_nilCheck rfl) ?_
  refine o_y (y_fieldAddr fd77_13 ti54 (by decide) rfl) ?_
  refine o_y (y_loadO ti54 rfl hi hC) ?_
  refine o_y (y_lenA underlying54 rfl) ?_
  refine o_y (y_move rfl) ?_
  refine o_nil ?_
  refine x_block ?_
  refine x_loopf (σ := Unit) (fun s => [(10, .int .i64 0), (9, .int .i64 0)]) (fun s => O) (fun s => True) (fun s => 0) () trivial (.c rfl (.c rfl .n)) rfl ?_
  rintro ⟨⟩ _
  refine x_seq ?_
  refine x_region rfl ?_
  refine o_y (y_lss rfl rfl) ?_
  refine o_nil ?_
  refine x_seq ?_
  refine x_cond rfl (fun hc0 => ?_) (fun hc0 => ?_)
  · try simp only [kk] at hc0
    exfalso; omega
  try simp only [kk] at hc0
  refine x_exit ?_
  with_reducible repeat (first | refine q_exit_then ?_ | refine q_exit_block ?_ | refine q_exit_pass rfl ?_)
  refine x_finN (fn := Go.Proofs.Tryz.f71) 0 (ret0 rfl ) ?_
  exact ⟨rfl, rfl, rfl⟩
theorem growNote_no {B : World} {H : HM} {O : OL} {bk : Nat} {C : List Value} (hC : C[13]? = some (.slice none 0 0)) (hi : In O bk (cl C 77)) : CallsM prog 104 [.pointer (some ⟨bk, 0, none⟩)].toArray B H O (Same (.tuple #[]) H O) := by
  refine enter func104 rfl ntmps104 (l := [(0, _)]) rfl rfl ?_
  refine x_seq ?_
  refine x_region rfl ?_
  refine o_y (y_move rfl) ?_
  refine o_y (y_nilCheck rfl) ?_
  refine o_y (y_fieldAddr fd77_13 ti54 (by decide) rfl) ?_
  refine o_y (y_loadO ti54 rfl hi hC) ?_
  refine o_y (y_lenA underlying54 rfl) ?_
  refine o_y (y_move rfl) ?_
  refine o_nil ?_
  refine x_block ?_
  refine x_loopf (σ := Unit) (fun s => [(10, .int .i64 0), (9, .int .i64 0)]) (fun s => O) (fun s => True) (fun s => 0) () trivial (.c rfl (.c rfl .n)) rfl ?_
  rintro ⟨⟩ _
  refine x_seq ?_
  refine x_region rfl ?_
  refine o_y (y_lss rfl rfl) ?_
  refine o_nil ?_
  refine x_seq ?_
  refine x_cond rfl (fun hc0 => ?_) (fun hc0 => ?_)
  · try simp only [kk] at hc0
    exfalso; omega
  try simp only [kk] at hc0
  refine x_exit ?_
  with_reducible repeat (first | refine q_exit_then ?_ | refine q_exit_block ?_ | refine q_exit_pass rfl ?_)
  refine x_finN (fn := Go.Proofs.Tryz.f104) 0 (ret0 rfl ) ?_
  exact ⟨rfl, rfl, rfl⟩
theorem lookNote_no {B : World} {H : HM} {O : OL} {bk : Nat} {C : List Value} (hC : C[13]? = some (.slice none 0 0)) (hi : In O bk (cl C 77)) : CallsM prog 138 [.pointer (some ⟨bk, 0, none⟩)].toArray B H O (Same (.bool true) H O) := by
  refine enter func138 rfl ntmps138 (l := [(0, _)]) rfl rfl ?_
  refine x_seq ?_
  refine x_region rfl ?_
  refine o_y (y_assign rfl) ?_
  refine o_nil ?_
  refine x_seq ?_
  refine x_seq ?_
  refine x_region rfl ?_
  refine o_y (y_move rfl) ?_
  refine o_y (y_nilCheck rfl) ?_
  refine o_y (y_fieldAddr fd77_13 ti54 (by decide) rfl) ?_
  refine o_y (y_loadO ti54 rfl hi hC) ?_
  refine o_y (y_lenA underlying54 rfl) ?_
  refine o_y (y_move rfl) ?_
  refine o_nil ?_
  refine x_block ?_
  refine x_loopf (σ := Unit) (fun s => [(12, .int .i64 0), (11, .int .i64 0)]) (fun s => O) (fun s => True) (fun s => 0) () trivial (.c rfl (.c rfl .n)) rfl ?_
  rintro ⟨⟩ _
  refine x_seq ?_
  refine x_region rfl ?_
  refine o_y (y_lss rfl rfl) ?_
  refine o_nil ?_
  refine x_seq ?_
  refine x_cond rfl (fun hc0 => ?_) (fun hc0 => ?_)
  · try simp only [kk] at hc0
    exfalso; omega
  try simp only [kk] at hc0
  refine x_exit ?_
  refine x_seq ?_
  refine x_region rfl ?_
  refine o_y (y_assign rfl) ?_
  refine o_nil ?_
  refine x_ret ?_
  refine x_fin 0 (ret1 rfl rfl) ?_
  exact ⟨rfl, rfl, rfl⟩
theorem fillAnswer_no {B : World} {H : HM} {O : OL} {bk : Nat} {C : List Value} (hC : C[14]? = some (.slice none 0 0)) (hi : In O bk (cl C 77)) : CallsM prog 72 [.pointer (some ⟨bk, 0, none⟩)].toArray B H O (Same (.tuple #[]) H O) := by
  refine enter func72 rfl ntmps72 (l := [(0, _)]) rfl rfl ?_
  refine x_seq ?_
  refine x_region rfl ?_
  refine o_y (y_move rfl) ?_
  refine o_y (y_nilCheck rfl) ?_
  refine o_y (y_fieldAddr fd77_14 ti55 (by decide) rfl) ?_
  refine o_y (y_loadO ti55 rfl hi hC) ?_
  refine o_y (y_lenA underlying55 rfl) ?_
  refine o_y (y_move rfl) ?_
  refine o_nil ?_
  refine x_block ?_
  refine x_loopf (σ := Unit) (fun s => [(10, .int .i64 0), (9, .int .i64 0)]) (fun s => O) (fun s => True) (fun s => 0) () trivial (.c rfl (.c rfl .n)) rfl ?_
  rintro ⟨⟩ _
  refine x_seq ?_
  refine x_region rfl ?_
  refine o_y (y_lss rfl rfl) ?_
  refine o_nil ?_
  refine x_seq ?_
  refine x_cond rfl (fun hc0 => ?_) (fun hc0 => ?_)
  · try simp only [kk] at hc0
    exfalso; omega
  try simp only [kk] at hc0
  refine x_exit ?_
  with_reducible repeat (first | refine q_exit_then ?_ | refine q_exit_block ?_ | refine q_exit_pass rfl ?_)
  refine x_finN (fn := Go.Proofs.Tryz.f72) 0 (ret0 rfl ) ?_
  exact ⟨rfl, rfl, rfl⟩
theorem growAnswer_no {B : World} {H : HM} {O : OL} {bk : Nat} {C : List Value} (hC : C[14]? = some (.slice none 0 0)) (hi : In O bk (cl C 77)) : CallsM prog 105 [.pointer (some ⟨bk, 0, none⟩)].toArray B H O (Same (.tuple #[]) H O) := by
  refine enter func105 rfl ntmps105 (l := [(0, _)]) rfl rfl ?_
  refine x_seq ?_
  refine x_region rfl ?_
  refine o_y (y_move rfl) ?_
  refine o_y (y_nilCheck rfl) ?_
  refine o_y (y_fieldAddr fd77_14 ti55 (by decide) rfl) ?_
  refine o_y (y_loadO ti55 rfl hi hC) ?_
  refine o_y (y_lenA underlying55 rfl) ?_
  refine o_y (y_move rfl) ?_
  refine o_nil ?_
  refine x_block ?_
  refine x_loopf (σ := Unit) (fun s => [(10, .int .i64 0), (9, .int .i64 0)]) (fun s => O) (fun s => True) (fun s => 0) () trivial (.c rfl (.c rfl .n)) rfl ?_
  rintro ⟨⟩ _
  refine x_seq ?_
  refine x_region rfl ?_
  refine o_y (y_lss rfl rfl) ?_
  refine o_nil ?_
  refine x_seq ?_
  refine x_cond rfl (fun hc0 => ?_) (fun hc0 => ?_)
  · try simp only [kk] at hc0
    exfalso; omega
  try simp only [kk] at hc0
  refine x_exit ?_
  with_reducible repeat (first | refine q_exit_then ?_ | refine q_exit_block ?_ | refine q_exit_pass rfl ?_)
  refine x_finN (fn := Go.Proofs.Tryz.f105) 0 (ret0 rfl ) ?_
  exact ⟨rfl, rfl, rfl⟩
theorem lookAnswer_no {B : World} {H : HM} {O : OL} {bk : Nat} {C : List Value} (hC : C[14]? = some (.slice none 0 0)) (hi : In O bk (cl C 77)) : CallsM prog 139 [.pointer (some ⟨bk, 0, none⟩)].toArray B H O (Same (.bool true) H O) := by
  refine enter func139 rfl ntmps139 (l := [(0, _)]) rfl rfl ?_
  refine x_seq ?_
  refine x_region rfl ?_
  refine o_y (y_assign rfl) ?_
  refine o_nil ?_
  refine x_seq ?_
  refine x_seq ?_
  refine x_region rfl ?_
  refine o_y (y_move rfl) ?_
  refine o_y (y_nilCheck rfl) ?_
  refine o_y (y_fieldAddr fd77_14 ti55 (by decide) rfl) ?_
  refine o_y (y_loadO ti55 rfl hi hC) ?_
  refine o_y (y_lenA underlying55 rfl) ?_
  refine o_y (y_move rfl) ?_
  refine o_nil ?_
  refine x_block ?_
  refine x_loopf (σ := Unit) (fun s => [(12, .int .i64 0), (11, .int .i64 0)]) (fun s => O) (fun s => True) (fun s => 0) () trivial (.c rfl (.c rfl .n)) rfl ?_
  rintro ⟨⟩ _
  refine x_seq ?_
  refine x_region rfl ?_
  refine o_y (y_lss rfl rfl) ?_
  refine o_nil ?_
  refine x_seq ?_
  refine x_cond rfl (fun hc0 => ?_) (fun hc0 => ?_)
  · try simp only [kk] at hc0
    exfalso; omega
  try simp only [kk] at hc0
  refine x_exit ?_
  refine x_seq ?_
  refine x_region rfl ?_
  refine o_y (y_assign rfl) ?_
  refine o_nil ?_
  refine x_ret ?_
  refine x_fin 0 (ret1 rfl rfl) ?_
  exact ⟨rfl, rfl, rfl⟩
theorem fillOutcome_no {B : World} {H : HM} {O : OL} {bk : Nat} {C : List Value} (hC : C[15]? = some (.slice none 0 0)) (hi : In O bk (cl C 77)) : CallsM prog 73 [.pointer (some ⟨bk, 0, none⟩)].toArray B H O (Same (.tuple #[]) H O) := by
  refine enter func73 rfl ntmps73 (l := [(0, _)]) rfl rfl ?_
  refine x_seq ?_
  refine x_region rfl ?_
  refine o_y (y_move rfl) ?_
  refine o_y (y_nilCheck rfl) ?_
  refine o_y (y_fieldAddr fd77_15 ti56 (by decide) rfl) ?_
  refine o_y (y_loadO ti56 rfl hi hC) ?_
  refine o_y (y_lenA underlying56 rfl) ?_
  refine o_y (y_move rfl) ?_
  refine o_nil ?_
  refine x_block ?_
  refine x_loopf (σ := Unit) (fun s => [(10, .int .i64 0), (9, .int .i64 0)]) (fun s => O) (fun s => True) (fun s => 0) () trivial (.c rfl (.c rfl .n)) rfl ?_
  rintro ⟨⟩ _
  refine x_seq ?_
  refine x_region rfl ?_
  refine o_y (y_lss rfl rfl) ?_
  refine o_nil ?_
  refine x_seq ?_
  refine x_cond rfl (fun hc0 => ?_) (fun hc0 => ?_)
  · try simp only [kk] at hc0
    exfalso; omega
  try simp only [kk] at hc0
  refine x_exit ?_
  with_reducible repeat (first | refine q_exit_then ?_ | refine q_exit_block ?_ | refine q_exit_pass rfl ?_)
  refine x_finN (fn := Go.Proofs.Tryz.f73) 0 (ret0 rfl ) ?_
  exact ⟨rfl, rfl, rfl⟩
theorem growOutcome_no {B : World} {H : HM} {O : OL} {bk : Nat} {C : List Value} (hC : C[15]? = some (.slice none 0 0)) (hi : In O bk (cl C 77)) : CallsM prog 106 [.pointer (some ⟨bk, 0, none⟩)].toArray B H O (Same (.tuple #[]) H O) := by
  refine enter func106 rfl ntmps106 (l := [(0, _)]) rfl rfl ?_
  refine x_seq ?_
  refine x_region rfl ?_
  refine o_y (y_move rfl) ?_
  refine o_y (y_nilCheck rfl) ?_
  refine o_y (y_fieldAddr fd77_15 ti56 (by decide) rfl) ?_
  refine o_y (y_loadO ti56 rfl hi hC) ?_
  refine o_y (y_lenA underlying56 rfl) ?_
  refine o_y (y_move rfl) ?_
  refine o_nil ?_
  refine x_block ?_
  refine x_loopf (σ := Unit) (fun s => [(10, .int .i64 0), (9, .int .i64 0)]) (fun s => O) (fun s => True) (fun s => 0) () trivial (.c rfl (.c rfl .n)) rfl ?_
  rintro ⟨⟩ _
  refine x_seq ?_
  refine x_region rfl ?_
  refine o_y (y_lss rfl rfl) ?_
  refine o_nil ?_
  refine x_seq ?_
  refine x_cond rfl (fun hc0 => ?_) (fun hc0 => ?_)
  · try simp only [kk] at hc0
    exfalso; omega
  try simp only [kk] at hc0
  refine x_exit ?_
  with_reducible repeat (first | refine q_exit_then ?_ | refine q_exit_block ?_ | refine q_exit_pass rfl ?_)
  refine x_finN (fn := Go.Proofs.Tryz.f106) 0 (ret0 rfl ) ?_
  exact ⟨rfl, rfl, rfl⟩
theorem lookOutcome_no {B : World} {H : HM} {O : OL} {bk : Nat} {C : List Value} (hC : C[15]? = some (.slice none 0 0)) (hi : In O bk (cl C 77)) : CallsM prog 140 [.pointer (some ⟨bk, 0, none⟩)].toArray B H O (Same (.bool true) H O) := by
  refine enter func140 rfl ntmps140 (l := [(0, _)]) rfl rfl ?_
  refine x_seq ?_
  refine x_region rfl ?_
  refine o_y (y_assign rfl) ?_
  refine o_nil ?_
  refine x_seq ?_
  refine x_seq ?_
  refine x_region rfl ?_
  refine o_y (y_move rfl) ?_
  refine o_y (y_nilCheck rfl) ?_
  refine o_y (y_fieldAddr fd77_15 ti56 (by decide) rfl) ?_
  refine o_y (y_loadO ti56 rfl hi hC) ?_
  refine o_y (y_lenA underlying56 rfl) ?_
  refine o_y (y_move rfl) ?_
  refine o_nil ?_
  refine x_block ?_
  refine x_loopf (σ := Unit) (fun s => [(12, .int .i64 0), (11, .int .i64 0)]) (fun s => O) (fun s => True) (fun s => 0) () trivial (.c rfl (.c rfl .n)) rfl ?_
  rintro ⟨⟩ _
  refine x_seq ?_
  refine x_region rfl ?_
  refine o_y (y_lss rfl rfl) ?_
  refine o_nil ?_
  refine x_seq ?_
  refine x_cond rfl (fun hc0 => ?_) (fun hc0 => ?_)
  · try simp only [kk] at hc0
    exfalso; omega
  try simp only [kk] at hc0
  refine x_exit ?_
  refine x_seq ?_
  refine x_region rfl ?_
  refine o_y (y_assign rfl) ?_
  refine o_nil ?_
  refine x_ret ?_
  refine x_fin 0 (ret1 rfl rfl) ?_
  exact ⟨rfl, rfl, rfl⟩
theorem fillFinding_no {B : World} {H : HM} {O : OL} {bk : Nat} {C : List Value} (hC : C[16]? = some (.slice none 0 0)) (hi : In O bk (cl C 77)) : CallsM prog 74 [.pointer (some ⟨bk, 0, none⟩)].toArray B H O (Same (.tuple #[]) H O) := by
  refine enter func74 rfl ntmps74 (l := [(0, _)]) rfl rfl ?_
  refine x_seq ?_
  refine x_region rfl ?_
  refine o_y (y_move rfl) ?_
  refine o_y (y_nilCheck rfl) ?_
  refine o_y (y_fieldAddr fd77_16 ti57 (by decide) rfl) ?_
  refine o_y (y_loadO ti57 rfl hi hC) ?_
  refine o_y (y_lenA underlying57 rfl) ?_
  refine o_y (y_move rfl) ?_
  refine o_nil ?_
  refine x_block ?_
  refine x_loopf (σ := Unit) (fun s => [(10, .int .i64 0), (9, .int .i64 0)]) (fun s => O) (fun s => True) (fun s => 0) () trivial (.c rfl (.c rfl .n)) rfl ?_
  rintro ⟨⟩ _
  refine x_seq ?_
  refine x_region rfl ?_
  refine o_y (y_lss rfl rfl) ?_
  refine o_nil ?_
  refine x_seq ?_
  refine x_cond rfl (fun hc0 => ?_) (fun hc0 => ?_)
  · try simp only [kk] at hc0
    exfalso; omega
  try simp only [kk] at hc0
  refine x_exit ?_
  with_reducible repeat (first | refine q_exit_then ?_ | refine q_exit_block ?_ | refine q_exit_pass rfl ?_)
  refine x_finN (fn := Go.Proofs.Tryz.f74) 0 (ret0 rfl ) ?_
  exact ⟨rfl, rfl, rfl⟩
theorem growFinding_no {B : World} {H : HM} {O : OL} {bk : Nat} {C : List Value} (hC : C[16]? = some (.slice none 0 0)) (hi : In O bk (cl C 77)) : CallsM prog 107 [.pointer (some ⟨bk, 0, none⟩)].toArray B H O (Same (.tuple #[]) H O) := by
  refine enter func107 rfl ntmps107 (l := [(0, _)]) rfl rfl ?_
  refine x_seq ?_
  refine x_region rfl ?_
  refine o_y (y_move rfl) ?_
  refine o_y (y_nilCheck rfl) ?_
  refine o_y (y_fieldAddr fd77_16 ti57 (by decide) rfl) ?_
  refine o_y (y_loadO ti57 rfl hi hC) ?_
  refine o_y (y_lenA underlying57 rfl) ?_
  refine o_y (y_move rfl) ?_
  refine o_nil ?_
  refine x_block ?_
  refine x_loopf (σ := Unit) (fun s => [(10, .int .i64 0), (9, .int .i64 0)]) (fun s => O) (fun s => True) (fun s => 0) () trivial (.c rfl (.c rfl .n)) rfl ?_
  rintro ⟨⟩ _
  refine x_seq ?_
  refine x_region rfl ?_
  refine o_y (y_lss rfl rfl) ?_
  refine o_nil ?_
  refine x_seq ?_
  refine x_cond rfl (fun hc0 => ?_) (fun hc0 => ?_)
  · try simp only [kk] at hc0
    exfalso; omega
  try simp only [kk] at hc0
  refine x_exit ?_
  with_reducible repeat (first | refine q_exit_then ?_ | refine q_exit_block ?_ | refine q_exit_pass rfl ?_)
  refine x_finN (fn := Go.Proofs.Tryz.f107) 0 (ret0 rfl ) ?_
  exact ⟨rfl, rfl, rfl⟩
theorem lookFinding_no {B : World} {H : HM} {O : OL} {bk : Nat} {C : List Value} (hC : C[16]? = some (.slice none 0 0)) (hi : In O bk (cl C 77)) : CallsM prog 141 [.pointer (some ⟨bk, 0, none⟩)].toArray B H O (Same (.bool true) H O) := by
  refine enter func141 rfl ntmps141 (l := [(0, _)]) rfl rfl ?_
  refine x_seq ?_
  refine x_region rfl ?_
  refine o_y (y_assign rfl) ?_
  refine o_nil ?_
  refine x_seq ?_
  refine x_seq ?_
  refine x_region rfl ?_
  refine o_y (y_move rfl) ?_
  refine o_y (y_nilCheck rfl) ?_
  refine o_y (y_fieldAddr fd77_16 ti57 (by decide) rfl) ?_
  refine o_y (y_loadO ti57 rfl hi hC) ?_
  refine o_y (y_lenA underlying57 rfl) ?_
  refine o_y (y_move rfl) ?_
  refine o_nil ?_
  refine x_block ?_
  refine x_loopf (σ := Unit) (fun s => [(12, .int .i64 0), (11, .int .i64 0)]) (fun s => O) (fun s => True) (fun s => 0) () trivial (.c rfl (.c rfl .n)) rfl ?_
  rintro ⟨⟩ _
  refine x_seq ?_
  refine x_region rfl ?_
  refine o_y (y_lss rfl rfl) ?_
  refine o_nil ?_
  refine x_seq ?_
  refine x_cond rfl (fun hc0 => ?_) (fun hc0 => ?_)
  · try simp only [kk] at hc0
    exfalso; omega
  try simp only [kk] at hc0
  refine x_exit ?_
  refine x_seq ?_
  refine x_region rfl ?_
  refine o_y (y_assign rfl) ?_
  refine o_nil ?_
  refine x_ret ?_
  refine x_fin 0 (ret1 rfl rfl) ?_
  exact ⟨rfl, rfl, rfl⟩
theorem fillStep_no {B : World} {H : HM} {O : OL} {bk : Nat} {C : List Value} (hC : C[17]? = some (.slice none 0 0)) (hi : In O bk (cl C 77)) : CallsM prog 75 [.pointer (some ⟨bk, 0, none⟩)].toArray B H O (Same (.tuple #[]) H O) := by
  refine enter func75 rfl ntmps75 (l := [(0, _)]) rfl rfl ?_
  refine x_seq ?_
  refine x_region rfl ?_
  refine o_y (y_move rfl) ?_
  refine o_y (y_nilCheck rfl) ?_
  refine o_y (y_fieldAddr fd77_17 ti58 (by decide) rfl) ?_
  refine o_y (y_loadO ti58 rfl hi hC) ?_
  refine o_y (y_lenA underlying58 rfl) ?_
  refine o_y (y_move rfl) ?_
  refine o_nil ?_
  refine x_block ?_
  refine x_loopf (σ := Unit) (fun s => [(10, .int .i64 0), (9, .int .i64 0)]) (fun s => O) (fun s => True) (fun s => 0) () trivial (.c rfl (.c rfl .n)) rfl ?_
  rintro ⟨⟩ _
  refine x_seq ?_
  refine x_region rfl ?_
  refine o_y (y_lss rfl rfl) ?_
  refine o_nil ?_
  refine x_seq ?_
  refine x_cond rfl (fun hc0 => ?_) (fun hc0 => ?_)
  · try simp only [kk] at hc0
    exfalso; omega
  try simp only [kk] at hc0
  refine x_exit ?_
  with_reducible repeat (first | refine q_exit_then ?_ | refine q_exit_block ?_ | refine q_exit_pass rfl ?_)
  refine x_finN (fn := Go.Proofs.Tryz.f75) 0 (ret0 rfl ) ?_
  exact ⟨rfl, rfl, rfl⟩
theorem growStep_no {B : World} {H : HM} {O : OL} {bk : Nat} {C : List Value} (hC : C[17]? = some (.slice none 0 0)) (hi : In O bk (cl C 77)) : CallsM prog 108 [.pointer (some ⟨bk, 0, none⟩)].toArray B H O (Same (.tuple #[]) H O) := by
  refine enter func108 rfl ntmps108 (l := [(0, _)]) rfl rfl ?_
  refine x_seq ?_
  refine x_region rfl ?_
  refine o_y (y_move rfl) ?_
  refine o_y (y_nilCheck rfl) ?_
  refine o_y (y_fieldAddr fd77_17 ti58 (by decide) rfl) ?_
  refine o_y (y_loadO ti58 rfl hi hC) ?_
  refine o_y (y_lenA underlying58 rfl) ?_
  refine o_y (y_move rfl) ?_
  refine o_nil ?_
  refine x_block ?_
  refine x_loopf (σ := Unit) (fun s => [(10, .int .i64 0), (9, .int .i64 0)]) (fun s => O) (fun s => True) (fun s => 0) () trivial (.c rfl (.c rfl .n)) rfl ?_
  rintro ⟨⟩ _
  refine x_seq ?_
  refine x_region rfl ?_
  refine o_y (y_lss rfl rfl) ?_
  refine o_nil ?_
  refine x_seq ?_
  refine x_cond rfl (fun hc0 => ?_) (fun hc0 => ?_)
  · try simp only [kk] at hc0
    exfalso; omega
  try simp only [kk] at hc0
  refine x_exit ?_
  with_reducible repeat (first | refine q_exit_then ?_ | refine q_exit_block ?_ | refine q_exit_pass rfl ?_)
  refine x_finN (fn := Go.Proofs.Tryz.f108) 0 (ret0 rfl ) ?_
  exact ⟨rfl, rfl, rfl⟩
theorem lookStep_no {B : World} {H : HM} {O : OL} {bk : Nat} {C : List Value} (hC : C[17]? = some (.slice none 0 0)) (hi : In O bk (cl C 77)) : CallsM prog 142 [.pointer (some ⟨bk, 0, none⟩)].toArray B H O (Same (.bool true) H O) := by
  refine enter func142 rfl ntmps142 (l := [(0, _)]) rfl rfl ?_
  refine x_seq ?_
  refine x_region rfl ?_
  refine o_y (y_assign rfl) ?_
  refine o_nil ?_
  refine x_seq ?_
  refine x_seq ?_
  refine x_region rfl ?_
  refine o_y (y_move rfl) ?_
  refine o_y (y_nilCheck rfl) ?_
  refine o_y (y_fieldAddr fd77_17 ti58 (by decide) rfl) ?_
  refine o_y (y_loadO ti58 rfl hi hC) ?_
  refine o_y (y_lenA underlying58 rfl) ?_
  refine o_y (y_move rfl) ?_
  refine o_nil ?_
  refine x_block ?_
  refine x_loopf (σ := Unit) (fun s => [(12, .int .i64 0), (11, .int .i64 0)]) (fun s => O) (fun s => True) (fun s => 0) () trivial (.c rfl (.c rfl .n)) rfl ?_
  rintro ⟨⟩ _
  refine x_seq ?_
  refine x_region rfl ?_
  refine o_y (y_lss rfl rfl) ?_
  refine o_nil ?_
  refine x_seq ?_
  refine x_cond rfl (fun hc0 => ?_) (fun hc0 => ?_)
  · try simp only [kk] at hc0
    exfalso; omega
  try simp only [kk] at hc0
  refine x_exit ?_
  refine x_seq ?_
  refine x_region rfl ?_
  refine o_y (y_assign rfl) ?_
  refine o_nil ?_
  refine x_ret ?_
  refine x_fin 0 (ret1 rfl rfl) ?_
  exact ⟨rfl, rfl, rfl⟩
theorem fillWrite_no {B : World} {H : HM} {O : OL} {bk : Nat} {C : List Value} (hC : C[18]? = some (.slice none 0 0)) (hi : In O bk (cl C 77)) : CallsM prog 76 [.pointer (some ⟨bk, 0, none⟩)].toArray B H O (Same (.tuple #[]) H O) := by
  refine enter func76 rfl ntmps76 (l := [(0, _)]) rfl rfl ?_
  refine x_seq ?_
  refine x_region rfl ?_
  refine o_y (y_move rfl) ?_
  refine o_y (y_nilCheck rfl) ?_
  refine o_y (y_fieldAddr fd77_18 ti59 (by decide) rfl) ?_
  refine o_y (y_loadO ti59 rfl hi hC) ?_
  refine o_y (y_lenA underlying59 rfl) ?_
  refine o_y (y_move rfl) ?_
  refine o_nil ?_
  refine x_block ?_
  refine x_loopf (σ := Unit) (fun s => [(10, .int .i64 0), (9, .int .i64 0)]) (fun s => O) (fun s => True) (fun s => 0) () trivial (.c rfl (.c rfl .n)) rfl ?_
  rintro ⟨⟩ _
  refine x_seq ?_
  refine x_region rfl ?_
  refine o_y (y_lss rfl rfl) ?_
  refine o_nil ?_
  refine x_seq ?_
  refine x_cond rfl (fun hc0 => ?_) (fun hc0 => ?_)
  · try simp only [kk] at hc0
    exfalso; omega
  try simp only [kk] at hc0
  refine x_exit ?_
  with_reducible repeat (first | refine q_exit_then ?_ | refine q_exit_block ?_ | refine q_exit_pass rfl ?_)
  refine x_finN (fn := Go.Proofs.Tryz.f76) 0 (ret0 rfl ) ?_
  exact ⟨rfl, rfl, rfl⟩
theorem growWrite_no {B : World} {H : HM} {O : OL} {bk : Nat} {C : List Value} (hC : C[18]? = some (.slice none 0 0)) (hi : In O bk (cl C 77)) : CallsM prog 109 [.pointer (some ⟨bk, 0, none⟩)].toArray B H O (Same (.tuple #[]) H O) := by
  refine enter func109 rfl ntmps109 (l := [(0, _)]) rfl rfl ?_
  refine x_seq ?_
  refine x_region rfl ?_
  refine o_y (y_move rfl) ?_
  refine o_y (y_nilCheck rfl) ?_
  refine o_y (y_fieldAddr fd77_18 ti59 (by decide) rfl) ?_
  refine o_y (y_loadO ti59 rfl hi hC) ?_
  refine o_y (y_lenA underlying59 rfl) ?_
  refine o_y (y_move rfl) ?_
  refine o_nil ?_
  refine x_block ?_
  refine x_loopf (σ := Unit) (fun s => [(10, .int .i64 0), (9, .int .i64 0)]) (fun s => O) (fun s => True) (fun s => 0) () trivial (.c rfl (.c rfl .n)) rfl ?_
  rintro ⟨⟩ _
  refine x_seq ?_
  refine x_region rfl ?_
  refine o_y (y_lss rfl rfl) ?_
  refine o_nil ?_
  refine x_seq ?_
  refine x_cond rfl (fun hc0 => ?_) (fun hc0 => ?_)
  · try simp only [kk] at hc0
    exfalso; omega
  try simp only [kk] at hc0
  refine x_exit ?_
  with_reducible repeat (first | refine q_exit_then ?_ | refine q_exit_block ?_ | refine q_exit_pass rfl ?_)
  refine x_finN (fn := Go.Proofs.Tryz.f109) 0 (ret0 rfl ) ?_
  exact ⟨rfl, rfl, rfl⟩
theorem lookWrite_no {B : World} {H : HM} {O : OL} {bk : Nat} {C : List Value} (hC : C[18]? = some (.slice none 0 0)) (hi : In O bk (cl C 77)) : CallsM prog 143 [.pointer (some ⟨bk, 0, none⟩)].toArray B H O (Same (.bool true) H O) := by
  refine enter func143 rfl ntmps143 (l := [(0, _)]) rfl rfl ?_
  refine x_seq ?_
  refine x_region rfl ?_
  refine o_y (y_assign rfl) ?_
  refine o_nil ?_
  refine x_seq ?_
  refine x_seq ?_
  refine x_region rfl ?_
  refine o_y (y_move rfl) ?_
  refine o_y (y_nilCheck rfl) ?_
  refine o_y (y_fieldAddr fd77_18 ti59 (by decide) rfl) ?_
  refine o_y (y_loadO ti59 rfl hi hC) ?_
  refine o_y (y_lenA underlying59 rfl) ?_
  refine o_y (y_move rfl) ?_
  refine o_nil ?_
  refine x_block ?_
  refine x_loopf (σ := Unit) (fun s => [(12, .int .i64 0), (11, .int .i64 0)]) (fun s => O) (fun s => True) (fun s => 0) () trivial (.c rfl (.c rfl .n)) rfl ?_
  rintro ⟨⟩ _
  refine x_seq ?_
  refine x_region rfl ?_
  refine o_y (y_lss rfl rfl) ?_
  refine o_nil ?_
  refine x_seq ?_
  refine x_cond rfl (fun hc0 => ?_) (fun hc0 => ?_)
  · try simp only [kk] at hc0
    exfalso; omega
  try simp only [kk] at hc0
  refine x_exit ?_
  refine x_seq ?_
  refine x_region rfl ?_
  refine o_y (y_assign rfl) ?_
  refine o_nil ?_
  refine x_ret ?_
  refine x_fin 0 (ret1 rfl rfl) ?_
  exact ⟨rfl, rfl, rfl⟩
theorem fillTree_no {B : World} {H : HM} {O : OL} {bk : Nat} {C : List Value} (hC : C[20]? = some (.slice none 0 0)) (hi : In O bk (cl C 77)) : CallsM prog 78 [.pointer (some ⟨bk, 0, none⟩)].toArray B H O (Same (.tuple #[]) H O) := by
  refine enter func78 rfl ntmps78 (l := [(0, _)]) rfl rfl ?_
  refine x_seq ?_
  refine x_region rfl ?_
  refine o_y (y_move rfl) ?_
  refine o_y (y_nilCheck rfl) ?_
  refine o_y (y_fieldAddr fd77_20 ti61 (by decide) rfl) ?_
  refine o_y (y_loadO ti61 rfl hi hC) ?_
  refine o_y (y_lenA underlying61 rfl) ?_
  refine o_y (y_move rfl) ?_
  refine o_nil ?_
  refine x_block ?_
  refine x_loopf (σ := Unit) (fun s => [(10, .int .i64 0), (9, .int .i64 0)]) (fun s => O) (fun s => True) (fun s => 0) () trivial (.c rfl (.c rfl .n)) rfl ?_
  rintro ⟨⟩ _
  refine x_seq ?_
  refine x_region rfl ?_
  refine o_y (y_lss rfl rfl) ?_
  refine o_nil ?_
  refine x_seq ?_
  refine x_cond rfl (fun hc0 => ?_) (fun hc0 => ?_)
  · try simp only [kk] at hc0
    exfalso; omega
  try simp only [kk] at hc0
  refine x_exit ?_
  with_reducible repeat (first | refine q_exit_then ?_ | refine q_exit_block ?_ | refine q_exit_pass rfl ?_)
  refine x_finN (fn := Go.Proofs.Tryz.f78) 0 (ret0 rfl ) ?_
  exact ⟨rfl, rfl, rfl⟩
theorem growTree_no {B : World} {H : HM} {O : OL} {bk : Nat} {C : List Value} (hC : C[20]? = some (.slice none 0 0)) (hi : In O bk (cl C 77)) : CallsM prog 111 [.pointer (some ⟨bk, 0, none⟩)].toArray B H O (Same (.tuple #[]) H O) := by
  refine enter func111 rfl ntmps111 (l := [(0, _)]) rfl rfl ?_
  refine x_seq ?_
  refine x_region rfl ?_
  refine o_y (y_move rfl) ?_
  refine o_y (y_nilCheck rfl) ?_
  refine o_y (y_fieldAddr fd77_20 ti61 (by decide) rfl) ?_
  refine o_y (y_loadO ti61 rfl hi hC) ?_
  refine o_y (y_lenA underlying61 rfl) ?_
  refine o_y (y_move rfl) ?_
  refine o_nil ?_
  refine x_block ?_
  refine x_loopf (σ := Unit) (fun s => [(10, .int .i64 0), (9, .int .i64 0)]) (fun s => O) (fun s => True) (fun s => 0) () trivial (.c rfl (.c rfl .n)) rfl ?_
  rintro ⟨⟩ _
  refine x_seq ?_
  refine x_region rfl ?_
  refine o_y (y_lss rfl rfl) ?_
  refine o_nil ?_
  refine x_seq ?_
  refine x_cond rfl (fun hc0 => ?_) (fun hc0 => ?_)
  · try simp only [kk] at hc0
    exfalso; omega
  try simp only [kk] at hc0
  refine x_exit ?_
  with_reducible repeat (first | refine q_exit_then ?_ | refine q_exit_block ?_ | refine q_exit_pass rfl ?_)
  refine x_finN (fn := Go.Proofs.Tryz.f111) 0 (ret0 rfl ) ?_
  exact ⟨rfl, rfl, rfl⟩
theorem lookTree_no {B : World} {H : HM} {O : OL} {bk : Nat} {C : List Value} (hC : C[20]? = some (.slice none 0 0)) (hi : In O bk (cl C 77)) : CallsM prog 145 [.pointer (some ⟨bk, 0, none⟩)].toArray B H O (Same (.bool true) H O) := by
  refine enter func145 rfl ntmps145 (l := [(0, _)]) rfl rfl ?_
  refine x_seq ?_
  refine x_region rfl ?_
  refine o_y (y_assign rfl) ?_
  refine o_nil ?_
  refine x_seq ?_
  refine x_seq ?_
  refine x_region rfl ?_
  refine o_y (y_move rfl) ?_
  refine o_y (y_nilCheck rfl) ?_
  refine o_y (y_fieldAddr fd77_20 ti61 (by decide) rfl) ?_
  refine o_y (y_loadO ti61 rfl hi hC) ?_
  refine o_y (y_lenA underlying61 rfl) ?_
  refine o_y (y_move rfl) ?_
  refine o_nil ?_
  refine x_block ?_
  refine x_loopf (σ := Unit) (fun s => [(12, .int .i64 0), (11, .int .i64 0)]) (fun s => O) (fun s => True) (fun s => 0) () trivial (.c rfl (.c rfl .n)) rfl ?_
  rintro ⟨⟩ _
  refine x_seq ?_
  refine x_region rfl ?_
  refine o_y (y_lss rfl rfl) ?_
  refine o_nil ?_
  refine x_seq ?_
  refine x_cond rfl (fun hc0 => ?_) (fun hc0 => ?_)
  · try simp only [kk] at hc0
    exfalso; omega
  try simp only [kk] at hc0
  refine x_exit ?_
  refine x_seq ?_
  refine x_region rfl ?_
  refine o_y (y_assign rfl) ?_
  refine o_nil ?_
  refine x_ret ?_
  refine x_fin 0 (ret1 rfl rfl) ?_
  exact ⟨rfl, rfl, rfl⟩
theorem fillState_no {B : World} {H : HM} {O : OL} {bk : Nat} {C : List Value} (hC : C[22]? = some (.slice none 0 0)) (hi : In O bk (cl C 77)) : CallsM prog 80 [.pointer (some ⟨bk, 0, none⟩)].toArray B H O (Same (.tuple #[]) H O) := by
  refine enter func80 rfl ntmps80 (l := [(0, _)]) rfl rfl ?_
  refine x_seq ?_
  refine x_region rfl ?_
  refine o_y (y_move rfl) ?_
  refine o_y (y_nilCheck rfl) ?_
  refine o_y (y_fieldAddr fd77_22 ti63 (by decide) rfl) ?_
  refine o_y (y_loadO ti63 rfl hi hC) ?_
  refine o_y (y_lenA underlying63 rfl) ?_
  refine o_y (y_move rfl) ?_
  refine o_nil ?_
  refine x_block ?_
  refine x_loopf (σ := Unit) (fun s => [(10, .int .i64 0), (9, .int .i64 0)]) (fun s => O) (fun s => True) (fun s => 0) () trivial (.c rfl (.c rfl .n)) rfl ?_
  rintro ⟨⟩ _
  refine x_seq ?_
  refine x_region rfl ?_
  refine o_y (y_lss rfl rfl) ?_
  refine o_nil ?_
  refine x_seq ?_
  refine x_cond rfl (fun hc0 => ?_) (fun hc0 => ?_)
  · try simp only [kk] at hc0
    exfalso; omega
  try simp only [kk] at hc0
  refine x_exit ?_
  with_reducible repeat (first | refine q_exit_then ?_ | refine q_exit_block ?_ | refine q_exit_pass rfl ?_)
  refine x_finN (fn := Go.Proofs.Tryz.f80) 0 (ret0 rfl ) ?_
  exact ⟨rfl, rfl, rfl⟩
theorem growState_no {B : World} {H : HM} {O : OL} {bk : Nat} {C : List Value} (hC : C[22]? = some (.slice none 0 0)) (hi : In O bk (cl C 77)) : CallsM prog 113 [.pointer (some ⟨bk, 0, none⟩)].toArray B H O (Same (.tuple #[]) H O) := by
  refine enter func113 rfl ntmps113 (l := [(0, _)]) rfl rfl ?_
  refine x_seq ?_
  refine x_region rfl ?_
  refine o_y (y_move rfl) ?_
  refine o_y (y_nilCheck rfl) ?_
  refine o_y (y_fieldAddr fd77_22 ti63 (by decide) rfl) ?_
  refine o_y (y_loadO ti63 rfl hi hC) ?_
  refine o_y (y_lenA underlying63 rfl) ?_
  refine o_y (y_move rfl) ?_
  refine o_nil ?_
  refine x_block ?_
  refine x_loopf (σ := Unit) (fun s => [(10, .int .i64 0), (9, .int .i64 0)]) (fun s => O) (fun s => True) (fun s => 0) () trivial (.c rfl (.c rfl .n)) rfl ?_
  rintro ⟨⟩ _
  refine x_seq ?_
  refine x_region rfl ?_
  refine o_y (y_lss rfl rfl) ?_
  refine o_nil ?_
  refine x_seq ?_
  refine x_cond rfl (fun hc0 => ?_) (fun hc0 => ?_)
  · try simp only [kk] at hc0
    exfalso; omega
  try simp only [kk] at hc0
  refine x_exit ?_
  with_reducible repeat (first | refine q_exit_then ?_ | refine q_exit_block ?_ | refine q_exit_pass rfl ?_)
  refine x_finN (fn := Go.Proofs.Tryz.f113) 0 (ret0 rfl ) ?_
  exact ⟨rfl, rfl, rfl⟩
theorem lookState_no {B : World} {H : HM} {O : OL} {bk : Nat} {C : List Value} (hC : C[22]? = some (.slice none 0 0)) (hi : In O bk (cl C 77)) : CallsM prog 147 [.pointer (some ⟨bk, 0, none⟩)].toArray B H O (Same (.bool true) H O) := by
  refine enter func147 rfl ntmps147 (l := [(0, _)]) rfl rfl ?_
  refine x_seq ?_
  refine x_region rfl ?_
  refine o_y (y_assign rfl) ?_
  refine o_nil ?_
  refine x_seq ?_
  refine x_seq ?_
  refine x_region rfl ?_
  refine o_y (y_move rfl) ?_
  refine o_y (y_nilCheck rfl) ?_
  refine o_y (y_fieldAddr fd77_22 ti63 (by decide) rfl) ?_
  refine o_y (y_loadO ti63 rfl hi hC) ?_
  refine o_y (y_lenA underlying63 rfl) ?_
  refine o_y (y_move rfl) ?_
  refine o_nil ?_
  refine x_block ?_
  refine x_loopf (σ := Unit) (fun s => [(12, .int .i64 0), (11, .int .i64 0)]) (fun s => O) (fun s => True) (fun s => 0) () trivial (.c rfl (.c rfl .n)) rfl ?_
  rintro ⟨⟩ _
  refine x_seq ?_
  refine x_region rfl ?_
  refine o_y (y_lss rfl rfl) ?_
  refine o_nil ?_
  refine x_seq ?_
  refine x_cond rfl (fun hc0 => ?_) (fun hc0 => ?_)
  · try simp only [kk] at hc0
    exfalso; omega
  try simp only [kk] at hc0
  refine x_exit ?_
  refine x_seq ?_
  refine x_region rfl ?_
  refine o_y (y_assign rfl) ?_
  refine o_nil ?_
  refine x_ret ?_
  refine x_fin 0 (ret1 rfl rfl) ?_
  exact ⟨rfl, rfl, rfl⟩
theorem fillFace_no {B : World} {H : HM} {O : OL} {bk : Nat} {C : List Value} (hC : C[23]? = some (.slice none 0 0)) (hi : In O bk (cl C 77)) : CallsM prog 81 [.pointer (some ⟨bk, 0, none⟩)].toArray B H O (Same (.tuple #[]) H O) := by
  refine enter func81 rfl ntmps81 (l := [(0, _)]) rfl rfl ?_
  refine x_seq ?_
  refine x_region rfl ?_
  refine o_y (y_move rfl) ?_
  refine o_y (y_nilCheck rfl) ?_
  refine o_y (y_fieldAddr fd77_23 ti64 (by decide) rfl) ?_
  refine o_y (y_loadO ti64 rfl hi hC) ?_
  refine o_y (y_lenA underlying64 rfl) ?_
  refine o_y (y_move rfl) ?_
  refine o_nil ?_
  refine x_block ?_
  refine x_loopf (σ := Unit) (fun s => [(10, .int .i64 0), (9, .int .i64 0)]) (fun s => O) (fun s => True) (fun s => 0) () trivial (.c rfl (.c rfl .n)) rfl ?_
  rintro ⟨⟩ _
  refine x_seq ?_
  refine x_region rfl ?_
  refine o_y (y_lss rfl rfl) ?_
  refine o_nil ?_
  refine x_seq ?_
  refine x_cond rfl (fun hc0 => ?_) (fun hc0 => ?_)
  · try simp only [kk] at hc0
    exfalso; omega
  try simp only [kk] at hc0
  refine x_exit ?_
  with_reducible repeat (first | refine q_exit_then ?_ | refine q_exit_block ?_ | refine q_exit_pass rfl ?_)
  refine x_finN (fn := Go.Proofs.Tryz.f81) 0 (ret0 rfl ) ?_
  exact ⟨rfl, rfl, rfl⟩
theorem growFace_no {B : World} {H : HM} {O : OL} {bk : Nat} {C : List Value} (hC : C[23]? = some (.slice none 0 0)) (hi : In O bk (cl C 77)) : CallsM prog 114 [.pointer (some ⟨bk, 0, none⟩)].toArray B H O (Same (.tuple #[]) H O) := by
  refine enter func114 rfl ntmps114 (l := [(0, _)]) rfl rfl ?_
  refine x_seq ?_
  refine x_region rfl ?_
  refine o_y (y_move rfl) ?_
  refine o_y (y_nilCheck rfl) ?_
  refine o_y (y_fieldAddr fd77_23 ti64 (by decide) rfl) ?_
  refine o_y (y_loadO ti64 rfl hi hC) ?_
  refine o_y (y_lenA underlying64 rfl) ?_
  refine o_y (y_move rfl) ?_
  refine o_nil ?_
  refine x_block ?_
  refine x_loopf (σ := Unit) (fun s => [(10, .int .i64 0), (9, .int .i64 0)]) (fun s => O) (fun s => True) (fun s => 0) () trivial (.c rfl (.c rfl .n)) rfl ?_
  rintro ⟨⟩ _
  refine x_seq ?_
  refine x_region rfl ?_
  refine o_y (y_lss rfl rfl) ?_
  refine o_nil ?_
  refine x_seq ?_
  refine x_cond rfl (fun hc0 => ?_) (fun hc0 => ?_)
  · try simp only [kk] at hc0
    exfalso; omega
  try simp only [kk] at hc0
  refine x_exit ?_
  with_reducible repeat (first | refine q_exit_then ?_ | refine q_exit_block ?_ | refine q_exit_pass rfl ?_)
  refine x_finN (fn := Go.Proofs.Tryz.f114) 0 (ret0 rfl ) ?_
  exact ⟨rfl, rfl, rfl⟩
theorem lookFace_no {B : World} {H : HM} {O : OL} {bk : Nat} {C : List Value} (hC : C[23]? = some (.slice none 0 0)) (hi : In O bk (cl C 77)) : CallsM prog 148 [.pointer (some ⟨bk, 0, none⟩)].toArray B H O (Same (.bool true) H O) := by
  refine enter func148 rfl ntmps148 (l := [(0, _)]) rfl rfl ?_
  refine x_seq ?_
  refine x_region rfl ?_
  refine o_y (y_assign rfl) ?_
  refine o_nil ?_
  refine x_seq ?_
  refine x_seq ?_
  refine x_region rfl ?_
  refine o_y (y_move rfl) ?_
  refine o_y (y_nilCheck rfl) ?_
  refine o_y (y_fieldAddr fd77_23 ti64 (by decide) rfl) ?_
  refine o_y (y_loadO ti64 rfl hi hC) ?_
  refine o_y (y_lenA underlying64 rfl) ?_
  refine o_y (y_move rfl) ?_
  refine o_nil ?_
  refine x_block ?_
  refine x_loopf (σ := Unit) (fun s => [(12, .int .i64 0), (11, .int .i64 0)]) (fun s => O) (fun s => True) (fun s => 0) () trivial (.c rfl (.c rfl .n)) rfl ?_
  rintro ⟨⟩ _
  refine x_seq ?_
  refine x_region rfl ?_
  refine o_y (y_lss rfl rfl) ?_
  refine o_nil ?_
  refine x_seq ?_
  refine x_cond rfl (fun hc0 => ?_) (fun hc0 => ?_)
  · try simp only [kk] at hc0
    exfalso; omega
  try simp only [kk] at hc0
  refine x_exit ?_
  refine x_seq ?_
  refine x_region rfl ?_
  refine o_y (y_assign rfl) ?_
  refine o_nil ?_
  refine x_ret ?_
  refine x_fin 0 (ret1 rfl rfl) ?_
  exact ⟨rfl, rfl, rfl⟩
theorem fillRequest_no {B : World} {H : HM} {O : OL} {bk : Nat} {C : List Value} (hC : C[24]? = some (.slice none 0 0)) (hi : In O bk (cl C 77)) : CallsM prog 82 [.pointer (some ⟨bk, 0, none⟩)].toArray B H O (Same (.tuple #[]) H O) := by
  refine enter func82 rfl ntmps82 (l := [(0, _)]) rfl rfl ?_
  refine x_seq ?_
  refine x_region rfl ?_
  refine o_y (y_move rfl) ?_
  refine o_y (y_nilCheck rfl) ?_
  refine o_y (y_fieldAddr fd77_24 ti65 (by decide) rfl) ?_
  refine o_y (y_loadO ti65 rfl hi hC) ?_
  refine o_y (y_lenA underlying65 rfl) ?_
  refine o_y (y_move rfl) ?_
  refine o_nil ?_
  refine x_block ?_
  refine x_loopf (σ := Unit) (fun s => [(10, .int .i64 0), (9, .int .i64 0)]) (fun s => O) (fun s => True) (fun s => 0) () trivial (.c rfl (.c rfl .n)) rfl ?_
  rintro ⟨⟩ _
  refine x_seq ?_
  refine x_region rfl ?_
  refine o_y (y_lss rfl rfl) ?_
  refine o_nil ?_
  refine x_seq ?_
  refine x_cond rfl (fun hc0 => ?_) (fun hc0 => ?_)
  · try simp only [kk] at hc0
    exfalso; omega
  try simp only [kk] at hc0
  refine x_exit ?_
  with_reducible repeat (first | refine q_exit_then ?_ | refine q_exit_block ?_ | refine q_exit_pass rfl ?_)
  refine x_finN (fn := Go.Proofs.Tryz.f82) 0 (ret0 rfl ) ?_
  exact ⟨rfl, rfl, rfl⟩
theorem growRequest_no {B : World} {H : HM} {O : OL} {bk : Nat} {C : List Value} (hC : C[24]? = some (.slice none 0 0)) (hi : In O bk (cl C 77)) : CallsM prog 115 [.pointer (some ⟨bk, 0, none⟩)].toArray B H O (Same (.tuple #[]) H O) := by
  refine enter func115 rfl ntmps115 (l := [(0, _)]) rfl rfl ?_
  refine x_seq ?_
  refine x_region rfl ?_
  refine o_y (y_move rfl) ?_
  refine o_y (y_nilCheck rfl) ?_
  refine o_y (y_fieldAddr fd77_24 ti65 (by decide) rfl) ?_
  refine o_y (y_loadO ti65 rfl hi hC) ?_
  refine o_y (y_lenA underlying65 rfl) ?_
  refine o_y (y_move rfl) ?_
  refine o_nil ?_
  refine x_block ?_
  refine x_loopf (σ := Unit) (fun s => [(10, .int .i64 0), (9, .int .i64 0)]) (fun s => O) (fun s => True) (fun s => 0) () trivial (.c rfl (.c rfl .n)) rfl ?_
  rintro ⟨⟩ _
  refine x_seq ?_
  refine x_region rfl ?_
  refine o_y (y_lss rfl rfl) ?_
  refine o_nil ?_
  refine x_seq ?_
  refine x_cond rfl (fun hc0 => ?_) (fun hc0 => ?_)
  · try simp only [kk] at hc0
    exfalso; omega
  try simp only [kk] at hc0
  refine x_exit ?_
  with_reducible repeat (first | refine q_exit_then ?_ | refine q_exit_block ?_ | refine q_exit_pass rfl ?_)
  refine x_finN (fn := Go.Proofs.Tryz.f115) 0 (ret0 rfl ) ?_
  exact ⟨rfl, rfl, rfl⟩
theorem lookRequest_no {B : World} {H : HM} {O : OL} {bk : Nat} {C : List Value} (hC : C[24]? = some (.slice none 0 0)) (hi : In O bk (cl C 77)) : CallsM prog 149 [.pointer (some ⟨bk, 0, none⟩)].toArray B H O (Same (.bool true) H O) := by
  refine enter func149 rfl ntmps149 (l := [(0, _)]) rfl rfl ?_
  refine x_seq ?_
  refine x_region rfl ?_
  refine o_y (y_assign rfl) ?_
  refine o_nil ?_
  refine x_seq ?_
  refine x_seq ?_
  refine x_region rfl ?_
  refine o_y (y_move rfl) ?_
  refine o_y (y_nilCheck rfl) ?_
  refine o_y (y_fieldAddr fd77_24 ti65 (by decide) rfl) ?_
  refine o_y (y_loadO ti65 rfl hi hC) ?_
  refine o_y (y_lenA underlying65 rfl) ?_
  refine o_y (y_move rfl) ?_
  refine o_nil ?_
  refine x_block ?_
  refine x_loopf (σ := Unit) (fun s => [(12, .int .i64 0), (11, .int .i64 0)]) (fun s => O) (fun s => True) (fun s => 0) () trivial (.c rfl (.c rfl .n)) rfl ?_
  rintro ⟨⟩ _
  refine x_seq ?_
  refine x_region rfl ?_
  refine o_y (y_lss rfl rfl) ?_
  refine o_nil ?_
  refine x_seq ?_
  refine x_cond rfl (fun hc0 => ?_) (fun hc0 => ?_)
  · try simp only [kk] at hc0
    exfalso; omega
  try simp only [kk] at hc0
  refine x_exit ?_
  refine x_seq ?_
  refine x_region rfl ?_
  refine o_y (y_assign rfl) ?_
  refine o_nil ?_
  refine x_ret ?_
  refine x_fin 0 (ret1 rfl rfl) ?_
  exact ⟨rfl, rfl, rfl⟩
theorem fillMail_no {B : World} {H : HM} {O : OL} {bk : Nat} {C : List Value} (hC : C[25]? = some (.slice none 0 0)) (hi : In O bk (cl C 77)) : CallsM prog 83 [.pointer (some ⟨bk, 0, none⟩)].toArray B H O (Same (.tuple #[]) H O) := by
  refine enter func83 rfl ntmps83 (l := [(0, _)]) rfl rfl ?_
  refine x_seq ?_
  refine x_region rfl ?_
  refine o_y (y_move rfl) ?_
  refine o_y (y_nilCheck rfl) ?_
  refine o_y (y_fieldAddr fd77_25 ti66 (by decide) rfl) ?_
  refine o_y (y_loadO ti66 rfl hi hC) ?_
  refine o_y (y_lenA underlying66 rfl) ?_
  refine o_y (y_move rfl) ?_
  refine o_nil ?_
  refine x_block ?_
  refine x_loopf (σ := Unit) (fun s => [(10, .int .i64 0), (9, .int .i64 0)]) (fun s => O) (fun s => True) (fun s => 0) () trivial (.c rfl (.c rfl .n)) rfl ?_
  rintro ⟨⟩ _
  refine x_seq ?_
  refine x_region rfl ?_
  refine o_y (y_lss rfl rfl) ?_
  refine o_nil ?_
  refine x_seq ?_
  refine x_cond rfl (fun hc0 => ?_) (fun hc0 => ?_)
  · try simp only [kk] at hc0
    exfalso; omega
  try simp only [kk] at hc0
  refine x_exit ?_
  with_reducible repeat (first | refine q_exit_then ?_ | refine q_exit_block ?_ | refine q_exit_pass rfl ?_)
  refine x_finN (fn := Go.Proofs.Tryz.f83) 0 (ret0 rfl ) ?_
  exact ⟨rfl, rfl, rfl⟩
theorem growMail_no {B : World} {H : HM} {O : OL} {bk : Nat} {C : List Value} (hC : C[25]? = some (.slice none 0 0)) (hi : In O bk (cl C 77)) : CallsM prog 116 [.pointer (some ⟨bk, 0, none⟩)].toArray B H O (Same (.tuple #[]) H O) := by
  refine enter func116 rfl ntmps116 (l := [(0, _)]) rfl rfl ?_
  refine x_seq ?_
  refine x_region rfl ?_
  refine o_y (y_move rfl) ?_
  refine o_y (y_nilCheck rfl) ?_
  refine o_y (y_fieldAddr fd77_25 ti66 (by decide) rfl) ?_
  refine o_y (y_loadO ti66 rfl hi hC) ?_
  refine o_y (y_lenA underlying66 rfl) ?_
  refine o_y (y_move rfl) ?_
  refine o_nil ?_
  refine x_block ?_
  refine x_loopf (σ := Unit) (fun s => [(10, .int .i64 0), (9, .int .i64 0)]) (fun s => O) (fun s => True) (fun s => 0) () trivial (.c rfl (.c rfl .n)) rfl ?_
  rintro ⟨⟩ _
  refine x_seq ?_
  refine x_region rfl ?_
  refine o_y (y_lss rfl rfl) ?_
  refine o_nil ?_
  refine x_seq ?_
  refine x_cond rfl (fun hc0 => ?_) (fun hc0 => ?_)
  · try simp only [kk] at hc0
    exfalso; omega
  try simp only [kk] at hc0
  refine x_exit ?_
  with_reducible repeat (first | refine q_exit_then ?_ | refine q_exit_block ?_ | refine q_exit_pass rfl ?_)
  refine x_finN (fn := Go.Proofs.Tryz.f116) 0 (ret0 rfl ) ?_
  exact ⟨rfl, rfl, rfl⟩
theorem lookMail_no {B : World} {H : HM} {O : OL} {bk : Nat} {C : List Value} (hC : C[25]? = some (.slice none 0 0)) (hi : In O bk (cl C 77)) : CallsM prog 150 [.pointer (some ⟨bk, 0, none⟩)].toArray B H O (Same (.bool true) H O) := by
  refine enter func150 rfl ntmps150 (l := [(0, _)]) rfl rfl ?_
  refine x_seq ?_
  refine x_region rfl ?_
  refine o_y (y_assign rfl) ?_
  refine o_nil ?_
  refine x_seq ?_
  refine x_seq ?_
  refine x_region rfl ?_
  refine o_y (y_move rfl) ?_
  refine o_y (y_nilCheck rfl) ?_
  refine o_y (y_fieldAddr fd77_25 ti66 (by decide) rfl) ?_
  refine o_y (y_loadO ti66 rfl hi hC) ?_
  refine o_y (y_lenA underlying66 rfl) ?_
  refine o_y (y_move rfl) ?_
  refine o_nil ?_
  refine x_block ?_
  refine x_loopf (σ := Unit) (fun s => [(12, .int .i64 0), (11, .int .i64 0)]) (fun s => O) (fun s => True) (fun s => 0) () trivial (.c rfl (.c rfl .n)) rfl ?_
  rintro ⟨⟩ _
  refine x_seq ?_
  refine x_region rfl ?_
  refine o_y (y_lss rfl rfl) ?_
  refine o_nil ?_
  refine x_seq ?_
  refine x_cond rfl (fun hc0 => ?_) (fun hc0 => ?_)
  · try simp only [kk] at hc0
    exfalso; omega
  try simp only [kk] at hc0
  refine x_exit ?_
  refine x_seq ?_
  refine x_region rfl ?_
  refine o_y (y_assign rfl) ?_
  refine o_nil ?_
  refine x_ret ?_
  refine x_fin 0 (ret1 rfl rfl) ?_
  exact ⟨rfl, rfl, rfl⟩
theorem fillPending_no {B : World} {H : HM} {O : OL} {bk : Nat} {C : List Value} (hC : C[26]? = some (.slice none 0 0)) (hi : In O bk (cl C 77)) : CallsM prog 84 [.pointer (some ⟨bk, 0, none⟩)].toArray B H O (Same (.tuple #[]) H O) := by
  refine enter func84 rfl ntmps84 (l := [(0, _)]) rfl rfl ?_
  refine x_seq ?_
  refine x_region rfl ?_
  refine o_y (y_move rfl) ?_
  refine o_y (y_nilCheck rfl) ?_
  refine o_y (y_fieldAddr fd77_26 ti67 (by decide) rfl) ?_
  refine o_y (y_loadO ti67 rfl hi hC) ?_
  refine o_y (y_lenA underlying67 rfl) ?_
  refine o_y (y_move rfl) ?_
  refine o_nil ?_
  refine x_block ?_
  refine x_loopf (σ := Unit) (fun s => [(10, .int .i64 0), (9, .int .i64 0)]) (fun s => O) (fun s => True) (fun s => 0) () trivial (.c rfl (.c rfl .n)) rfl ?_
  rintro ⟨⟩ _
  refine x_seq ?_
  refine x_region rfl ?_
  refine o_y (y_lss rfl rfl) ?_
  refine o_nil ?_
  refine x_seq ?_
  refine x_cond rfl (fun hc0 => ?_) (fun hc0 => ?_)
  · try simp only [kk] at hc0
    exfalso; omega
  try simp only [kk] at hc0
  refine x_exit ?_
  with_reducible repeat (first | refine q_exit_then ?_ | refine q_exit_block ?_ | refine q_exit_pass rfl ?_)
  refine x_finN (fn := Go.Proofs.Tryz.f84) 0 (ret0 rfl ) ?_
  exact ⟨rfl, rfl, rfl⟩
theorem growPending_no {B : World} {H : HM} {O : OL} {bk : Nat} {C : List Value} (hC : C[26]? = some (.slice none 0 0)) (hi : In O bk (cl C 77)) : CallsM prog 117 [.pointer (some ⟨bk, 0, none⟩)].toArray B H O (Same (.tuple #[]) H O) := by
  refine enter func117 rfl ntmps117 (l := [(0, _)]) rfl rfl ?_
  refine x_seq ?_
  refine x_region rfl ?_
  refine o_y (y_move rfl) ?_
  refine o_y (y_nilCheck rfl) ?_
  refine o_y (y_fieldAddr fd77_26 ti67 (by decide) rfl) ?_
  refine o_y (y_loadO ti67 rfl hi hC) ?_
  refine o_y (y_lenA underlying67 rfl) ?_
  refine o_y (y_move rfl) ?_
  refine o_nil ?_
  refine x_block ?_
  refine x_loopf (σ := Unit) (fun s => [(10, .int .i64 0), (9, .int .i64 0)]) (fun s => O) (fun s => True) (fun s => 0) () trivial (.c rfl (.c rfl .n)) rfl ?_
  rintro ⟨⟩ _
  refine x_seq ?_
  refine x_region rfl ?_
  refine o_y (y_lss rfl rfl) ?_
  refine o_nil ?_
  refine x_seq ?_
  refine x_cond rfl (fun hc0 => ?_) (fun hc0 => ?_)
  · try simp only [kk] at hc0
    exfalso; omega
  try simp only [kk] at hc0
  refine x_exit ?_
  with_reducible repeat (first | refine q_exit_then ?_ | refine q_exit_block ?_ | refine q_exit_pass rfl ?_)
  refine x_finN (fn := Go.Proofs.Tryz.f117) 0 (ret0 rfl ) ?_
  exact ⟨rfl, rfl, rfl⟩
theorem lookPending_no {B : World} {H : HM} {O : OL} {bk : Nat} {C : List Value} (hC : C[26]? = some (.slice none 0 0)) (hi : In O bk (cl C 77)) : CallsM prog 151 [.pointer (some ⟨bk, 0, none⟩)].toArray B H O (Same (.bool true) H O) := by
  refine enter func151 rfl ntmps151 (l := [(0, _)]) rfl rfl ?_
  refine x_seq ?_
  refine x_region rfl ?_
  refine o_y (y_assign rfl) ?_
  refine o_nil ?_
  refine x_seq ?_
  refine x_seq ?_
  refine x_region rfl ?_
  refine o_y (y_move rfl) ?_
  refine o_y (y_nilCheck rfl) ?_
  refine o_y (y_fieldAddr fd77_26 ti67 (by decide) rfl) ?_
  refine o_y (y_loadO ti67 rfl hi hC) ?_
  refine o_y (y_lenA underlying67 rfl) ?_
  refine o_y (y_move rfl) ?_
  refine o_nil ?_
  refine x_block ?_
  refine x_loopf (σ := Unit) (fun s => [(12, .int .i64 0), (11, .int .i64 0)]) (fun s => O) (fun s => True) (fun s => 0) () trivial (.c rfl (.c rfl .n)) rfl ?_
  rintro ⟨⟩ _
  refine x_seq ?_
  refine x_region rfl ?_
  refine o_y (y_lss rfl rfl) ?_
  refine o_nil ?_
  refine x_seq ?_
  refine x_cond rfl (fun hc0 => ?_) (fun hc0 => ?_)
  · try simp only [kk] at hc0
    exfalso; omega
  try simp only [kk] at hc0
  refine x_exit ?_
  refine x_seq ?_
  refine x_region rfl ?_
  refine o_y (y_assign rfl) ?_
  refine o_nil ?_
  refine x_ret ?_
  refine x_fin 0 (ret1 rfl rfl) ?_
  exact ⟨rfl, rfl, rfl⟩
theorem fillFeed_no {B : World} {H : HM} {O : OL} {bk : Nat} {C : List Value} (hC : C[27]? = some (.slice none 0 0)) (hi : In O bk (cl C 77)) : CallsM prog 85 [.pointer (some ⟨bk, 0, none⟩)].toArray B H O (Same (.tuple #[]) H O) := by
  refine enter func85 rfl ntmps85 (l := [(0, _)]) rfl rfl ?_
  refine x_seq ?_
  refine x_region rfl ?_
  refine o_y (y_move rfl) ?_
  refine o_y (y_nilCheck rfl) ?_
  refine o_y (y_fieldAddr fd77_27 ti68 (by decide) rfl) ?_
  refine o_y (y_loadO ti68 rfl hi hC) ?_
  refine o_y (y_lenA underlying68 rfl) ?_
  refine o_y (y_move rfl) ?_
  refine o_nil ?_
  refine x_block ?_
  refine x_loopf (σ := Unit) (fun s => [(10, .int .i64 0), (9, .int .i64 0)]) (fun s => O) (fun s => True) (fun s => 0) () trivial (.c rfl (.c rfl .n)) rfl ?_
  rintro ⟨⟩ _
  refine x_seq ?_
  refine x_region rfl ?_
  refine o_y (y_lss rfl rfl) ?_
  refine o_nil ?_
  refine x_seq ?_
  refine x_cond rfl (fun hc0 => ?_) (fun hc0 => ?_)
  · try simp only [kk] at hc0
    exfalso; omega
  try simp only [kk] at hc0
  refine x_exit ?_
  with_reducible repeat (first | refine q_exit_then ?_ | refine q_exit_block ?_ | refine q_exit_pass rfl ?_)
  refine x_finN (fn := Go.Proofs.Tryz.f85) 0 (ret0 rfl ) ?_
  exact ⟨rfl, rfl, rfl⟩
theorem growFeed_no {B : World} {H : HM} {O : OL} {bk : Nat} {C : List Value} (hC : C[27]? = some (.slice none 0 0)) (hi : In O bk (cl C 77)) : CallsM prog 118 [.pointer (some ⟨bk, 0, none⟩)].toArray B H O (Same (.tuple #[]) H O) := by
  refine enter func118 rfl ntmps118 (l := [(0, _)]) rfl rfl ?_
  refine x_seq ?_
  refine x_region rfl ?_
  refine o_y (y_move rfl) ?_
  refine o_y (y_nilCheck rfl) ?_
  refine o_y (y_fieldAddr fd77_27 ti68 (by decide) rfl) ?_
  refine o_y (y_loadO ti68 rfl hi hC) ?_
  refine o_y (y_lenA underlying68 rfl) ?_
  refine o_y (y_move rfl) ?_
  refine o_nil ?_
  refine x_block ?_
  refine x_loopf (σ := Unit) (fun s => [(10, .int .i64 0), (9, .int .i64 0)]) (fun s => O) (fun s => True) (fun s => 0) () trivial (.c rfl (.c rfl .n)) rfl ?_
  rintro ⟨⟩ _
  refine x_seq ?_
  refine x_region rfl ?_
  refine o_y (y_lss rfl rfl) ?_
  refine o_nil ?_
  refine x_seq ?_
  refine x_cond rfl (fun hc0 => ?_) (fun hc0 => ?_)
  · try simp only [kk] at hc0
    exfalso; omega
  try simp only [kk] at hc0
  refine x_exit ?_
  with_reducible repeat (first | refine q_exit_then ?_ | refine q_exit_block ?_ | refine q_exit_pass rfl ?_)
  refine x_finN (fn := Go.Proofs.Tryz.f118) 0 (ret0 rfl ) ?_
  exact ⟨rfl, rfl, rfl⟩
theorem lookFeed_no {B : World} {H : HM} {O : OL} {bk : Nat} {C : List Value} (hC : C[27]? = some (.slice none 0 0)) (hi : In O bk (cl C 77)) : CallsM prog 152 [.pointer (some ⟨bk, 0, none⟩)].toArray B H O (Same (.bool true) H O) := by
  refine enter func152 rfl ntmps152 (l := [(0, _)]) rfl rfl ?_
  refine x_seq ?_
  refine x_region rfl ?_
  refine o_y (y_assign rfl) ?_
  refine o_nil ?_
  refine x_seq ?_
  refine x_seq ?_
  refine x_region rfl ?_
  refine o_y (y_move rfl) ?_
  refine o_y (y_nilCheck rfl) ?_
  refine o_y (y_fieldAddr fd77_27 ti68 (by decide) rfl) ?_
  refine o_y (y_loadO ti68 rfl hi hC) ?_
  refine o_y (y_lenA underlying68 rfl) ?_
  refine o_y (y_move rfl) ?_
  refine o_nil ?_
  refine x_block ?_
  refine x_loopf (σ := Unit) (fun s => [(12, .int .i64 0), (11, .int .i64 0)]) (fun s => O) (fun s => True) (fun s => 0) () trivial (.c rfl (.c rfl .n)) rfl ?_
  rintro ⟨⟩ _
  refine x_seq ?_
  refine x_region rfl ?_
  refine o_y (y_lss rfl rfl) ?_
  refine o_nil ?_
  refine x_seq ?_
  refine x_cond rfl (fun hc0 => ?_) (fun hc0 => ?_)
  · try simp only [kk] at hc0
    exfalso; omega
  try simp only [kk] at hc0
  refine x_exit ?_
  refine x_seq ?_
  refine x_region rfl ?_
  refine o_y (y_assign rfl) ?_
  refine o_nil ?_
  refine x_ret ?_
  refine x_fin 0 (ret1 rfl rfl) ?_
  exact ⟨rfl, rfl, rfl⟩
theorem fillBox_no {B : World} {H : HM} {O : OL} {bk : Nat} {C : List Value} (hC : C[29]? = some (.slice none 0 0)) (hi : In O bk (cl C 77)) : CallsM prog 87 [.pointer (some ⟨bk, 0, none⟩)].toArray B H O (Same (.tuple #[]) H O) := by
  refine enter func87 rfl ntmps87 (l := [(0, _)]) rfl rfl ?_
  refine x_seq ?_
  refine x_region rfl ?_
  refine o_y (y_move rfl) ?_
  refine o_y (y_nilCheck rfl) ?_
  refine o_y (y_fieldAddr fd77_29 ti70 (by decide) rfl) ?_
  refine o_y (y_loadO ti70 rfl hi hC) ?_
  refine o_y (y_lenA underlying70 rfl) ?_
  refine o_y (y_move rfl) ?_
  refine o_nil ?_
  refine x_block ?_
  refine x_loopf (σ := Unit) (fun s => [(10, .int .i64 0), (9, .int .i64 0)]) (fun s => O) (fun s => True) (fun s => 0) () trivial (.c rfl (.c rfl .n)) rfl ?_
  rintro ⟨⟩ _
  refine x_seq ?_
  refine x_region rfl ?_
  refine o_y (y_lss rfl rfl) ?_
  refine o_nil ?_
  refine x_seq ?_
  refine x_cond rfl (fun hc0 => ?_) (fun hc0 => ?_)
  · try simp only [kk] at hc0
    exfalso; omega
  try simp only [kk] at hc0
  refine x_exit ?_
  with_reducible repeat (first | refine q_exit_then ?_ | refine q_exit_block ?_ | refine q_exit_pass rfl ?_)
  refine x_finN (fn := Go.Proofs.Tryz.f87) 0 (ret0 rfl ) ?_
  exact ⟨rfl, rfl, rfl⟩
theorem growBox_no {B : World} {H : HM} {O : OL} {bk : Nat} {C : List Value} (hC : C[29]? = some (.slice none 0 0)) (hi : In O bk (cl C 77)) : CallsM prog 120 [.pointer (some ⟨bk, 0, none⟩)].toArray B H O (Same (.tuple #[]) H O) := by
  refine enter func120 rfl ntmps120 (l := [(0, _)]) rfl rfl ?_
  refine x_seq ?_
  refine x_region rfl ?_
  refine o_y (y_move rfl) ?_
  refine o_y (y_nilCheck rfl) ?_
  refine o_y (y_fieldAddr fd77_29 ti70 (by decide) rfl) ?_
  refine o_y (y_loadO ti70 rfl hi hC) ?_
  refine o_y (y_lenA underlying70 rfl) ?_
  refine o_y (y_move rfl) ?_
  refine o_nil ?_
  refine x_block ?_
  refine x_loopf (σ := Unit) (fun s => [(10, .int .i64 0), (9, .int .i64 0)]) (fun s => O) (fun s => True) (fun s => 0) () trivial (.c rfl (.c rfl .n)) rfl ?_
  rintro ⟨⟩ _
  refine x_seq ?_
  refine x_region rfl ?_
  refine o_y (y_lss rfl rfl) ?_
  refine o_nil ?_
  refine x_seq ?_
  refine x_cond rfl (fun hc0 => ?_) (fun hc0 => ?_)
  · try simp only [kk] at hc0
    exfalso; omega
  try simp only [kk] at hc0
  refine x_exit ?_
  with_reducible repeat (first | refine q_exit_then ?_ | refine q_exit_block ?_ | refine q_exit_pass rfl ?_)
  refine x_finN (fn := Go.Proofs.Tryz.f120) 0 (ret0 rfl ) ?_
  exact ⟨rfl, rfl, rfl⟩
theorem lookBox_no {B : World} {H : HM} {O : OL} {bk : Nat} {C : List Value} (hC : C[29]? = some (.slice none 0 0)) (hi : In O bk (cl C 77)) : CallsM prog 154 [.pointer (some ⟨bk, 0, none⟩)].toArray B H O (Same (.bool true) H O) := by
  refine enter func154 rfl ntmps154 (l := [(0, _)]) rfl rfl ?_
  refine x_seq ?_
  refine x_region rfl ?_
  refine o_y (y_assign rfl) ?_
  refine o_nil ?_
  refine x_seq ?_
  refine x_seq ?_
  refine x_region rfl ?_
  refine o_y (y_move rfl) ?_
  refine o_y (y_nilCheck rfl) ?_
  refine o_y (y_fieldAddr fd77_29 ti70 (by decide) rfl) ?_
  refine o_y (y_loadO ti70 rfl hi hC) ?_
  refine o_y (y_lenA underlying70 rfl) ?_
  refine o_y (y_move rfl) ?_
  refine o_nil ?_
  refine x_block ?_
  refine x_loopf (σ := Unit) (fun s => [(12, .int .i64 0), (11, .int .i64 0)]) (fun s => O) (fun s => True) (fun s => 0) () trivial (.c rfl (.c rfl .n)) rfl ?_
  rintro ⟨⟩ _
  refine x_seq ?_
  refine x_region rfl ?_
  refine o_y (y_lss rfl rfl) ?_
  refine o_nil ?_
  refine x_seq ?_
  refine x_cond rfl (fun hc0 => ?_) (fun hc0 => ?_)
  · try simp only [kk] at hc0
    exfalso; omega
  try simp only [kk] at hc0
  refine x_exit ?_
  refine x_seq ?_
  refine x_region rfl ?_
  refine o_y (y_assign rfl) ?_
  refine o_nil ?_
  refine x_ret ?_
  refine x_fin 0 (ret1 rfl rfl) ?_
  exact ⟨rfl, rfl, rfl⟩
theorem fillEarly_no {B : World} {H : HM} {O : OL} {bk : Nat} {C : List Value} (hC : C[30]? = some (.slice none 0 0)) (hi : In O bk (cl C 77)) : CallsM prog 88 [.pointer (some ⟨bk, 0, none⟩)].toArray B H O (Same (.tuple #[]) H O) := by
  refine enter func88 rfl ntmps88 (l := [(0, _)]) rfl rfl ?_
  refine x_seq ?_
  refine x_region rfl ?_
  refine o_y (y_move rfl) ?_
  refine o_y (y_nilCheck rfl) ?_
  refine o_y (y_fieldAddr fd77_30 ti71 (by decide) rfl) ?_
  refine o_y (y_loadO ti71 rfl hi hC) ?_
  refine o_y (y_lenA underlying71 rfl) ?_
  refine o_y (y_move rfl) ?_
  refine o_nil ?_
  refine x_block ?_
  refine x_loopf (σ := Unit) (fun s => [(10, .int .i64 0), (9, .int .i64 0)]) (fun s => O) (fun s => True) (fun s => 0) () trivial (.c rfl (.c rfl .n)) rfl ?_
  rintro ⟨⟩ _
  refine x_seq ?_
  refine x_region rfl ?_
  refine o_y (y_lss rfl rfl) ?_
  refine o_nil ?_
  refine x_seq ?_
  refine x_cond rfl (fun hc0 => ?_) (fun hc0 => ?_)
  · try simp only [kk] at hc0
    exfalso; omega
  try simp only [kk] at hc0
  refine x_exit ?_
  with_reducible repeat (first | refine q_exit_then ?_ | refine q_exit_block ?_ | refine q_exit_pass rfl ?_)
  refine x_finN (fn := Go.Proofs.Tryz.f88) 0 (ret0 rfl ) ?_
  exact ⟨rfl, rfl, rfl⟩
theorem growEarly_no {B : World} {H : HM} {O : OL} {bk : Nat} {C : List Value} (hC : C[30]? = some (.slice none 0 0)) (hi : In O bk (cl C 77)) : CallsM prog 121 [.pointer (some ⟨bk, 0, none⟩)].toArray B H O (Same (.tuple #[]) H O) := by
  refine enter func121 rfl ntmps121 (l := [(0, _)]) rfl rfl ?_
  refine x_seq ?_
  refine x_region rfl ?_
  refine o_y (y_move rfl) ?_
  refine o_y (y_nilCheck rfl) ?_
  refine o_y (y_fieldAddr fd77_30 ti71 (by decide) rfl) ?_
  refine o_y (y_loadO ti71 rfl hi hC) ?_
  refine o_y (y_lenA underlying71 rfl) ?_
  refine o_y (y_move rfl) ?_
  refine o_nil ?_
  refine x_block ?_
  refine x_loopf (σ := Unit) (fun s => [(10, .int .i64 0), (9, .int .i64 0)]) (fun s => O) (fun s => True) (fun s => 0) () trivial (.c rfl (.c rfl .n)) rfl ?_
  rintro ⟨⟩ _
  refine x_seq ?_
  refine x_region rfl ?_
  refine o_y (y_lss rfl rfl) ?_
  refine o_nil ?_
  refine x_seq ?_
  refine x_cond rfl (fun hc0 => ?_) (fun hc0 => ?_)
  · try simp only [kk] at hc0
    exfalso; omega
  try simp only [kk] at hc0
  refine x_exit ?_
  with_reducible repeat (first | refine q_exit_then ?_ | refine q_exit_block ?_ | refine q_exit_pass rfl ?_)
  refine x_finN (fn := Go.Proofs.Tryz.f121) 0 (ret0 rfl ) ?_
  exact ⟨rfl, rfl, rfl⟩
theorem lookEarly_no {B : World} {H : HM} {O : OL} {bk : Nat} {C : List Value} (hC : C[30]? = some (.slice none 0 0)) (hi : In O bk (cl C 77)) : CallsM prog 155 [.pointer (some ⟨bk, 0, none⟩)].toArray B H O (Same (.bool true) H O) := by
  refine enter func155 rfl ntmps155 (l := [(0, _)]) rfl rfl ?_
  refine x_seq ?_
  refine x_region rfl ?_
  refine o_y (y_assign rfl) ?_
  refine o_nil ?_
  refine x_seq ?_
  refine x_seq ?_
  refine x_region rfl ?_
  refine o_y (y_move rfl) ?_
  refine o_y (y_nilCheck rfl) ?_
  refine o_y (y_fieldAddr fd77_30 ti71 (by decide) rfl) ?_
  refine o_y (y_loadO ti71 rfl hi hC) ?_
  refine o_y (y_lenA underlying71 rfl) ?_
  refine o_y (y_move rfl) ?_
  refine o_nil ?_
  refine x_block ?_
  refine x_loopf (σ := Unit) (fun s => [(12, .int .i64 0), (11, .int .i64 0)]) (fun s => O) (fun s => True) (fun s => 0) () trivial (.c rfl (.c rfl .n)) rfl ?_
  rintro ⟨⟩ _
  refine x_seq ?_
  refine x_region rfl ?_
  refine o_y (y_lss rfl rfl) ?_
  refine o_nil ?_
  refine x_seq ?_
  refine x_cond rfl (fun hc0 => ?_) (fun hc0 => ?_)
  · try simp only [kk] at hc0
    exfalso; omega
  try simp only [kk] at hc0
  refine x_exit ?_
  refine x_seq ?_
  refine x_region rfl ?_
  refine o_y (y_assign rfl) ?_
  refine o_nil ?_
  refine x_ret ?_
  refine x_fin 0 (ret1 rfl rfl) ?_
  exact ⟨rfl, rfl, rfl⟩
theorem fillLink_no {B : World} {H : HM} {O : OL} {bk : Nat} {C : List Value} (hC : C[31]? = some (.slice none 0 0)) (hi : In O bk (cl C 77)) : CallsM prog 89 [.pointer (some ⟨bk, 0, none⟩)].toArray B H O (Same (.tuple #[]) H O) := by
  refine enter func89 rfl ntmps89 (l := [(0, _)]) rfl rfl ?_
  refine x_seq ?_
  refine x_region rfl ?_
  refine o_y (y_move rfl) ?_
  refine o_y (y_nilCheck rfl) ?_
  refine o_y (y_fieldAddr fd77_31 ti72 (by decide) rfl) ?_
  refine o_y (y_loadO ti72 rfl hi hC) ?_
  refine o_y (y_lenA underlying72 rfl) ?_
  refine o_y (y_move rfl) ?_
  refine o_nil ?_
  refine x_block ?_
  refine x_loopf (σ := Unit) (fun s => [(10, .int .i64 0), (9, .int .i64 0)]) (fun s => O) (fun s => True) (fun s => 0) () trivial (.c rfl (.c rfl .n)) rfl ?_
  rintro ⟨⟩ _
  refine x_seq ?_
  refine x_region rfl ?_
  refine o_y (y_lss rfl rfl) ?_
  refine o_nil ?_
  refine x_seq ?_
  refine x_cond rfl (fun hc0 => ?_) (fun hc0 => ?_)
  · try simp only [kk] at hc0
    exfalso; omega
  try simp only [kk] at hc0
  refine x_exit ?_
  with_reducible repeat (first | refine q_exit_then ?_ | refine q_exit_block ?_ | refine q_exit_pass rfl ?_)
  refine x_finN (fn := Go.Proofs.Tryz.f89) 0 (ret0 rfl ) ?_
  exact ⟨rfl, rfl, rfl⟩
theorem growLink_no {B : World} {H : HM} {O : OL} {bk : Nat} {C : List Value} (hC : C[31]? = some (.slice none 0 0)) (hi : In O bk (cl C 77)) : CallsM prog 122 [.pointer (some ⟨bk, 0, none⟩)].toArray B H O (Same (.tuple #[]) H O) := by
  refine enter func122 rfl ntmps122 (l := [(0, _)]) rfl rfl ?_
  refine x_seq ?_
  refine x_region rfl ?_
  refine o_y (y_move rfl) ?_
  refine o_y (y_nilCheck rfl) ?_
  refine o_y (y_fieldAddr fd77_31 ti72 (by decide) rfl) ?_
  refine o_y (y_loadO ti72 rfl hi hC) ?_
  refine o_y (y_lenA underlying72 rfl) ?_
  refine o_y (y_move rfl) ?_
  refine o_nil ?_
  refine x_block ?_
  refine x_loopf (σ := Unit) (fun s => [(10, .int .i64 0), (9, .int .i64 0)]) (fun s => O) (fun s => True) (fun s => 0) () trivial (.c rfl (.c rfl .n)) rfl ?_
  rintro ⟨⟩ _
  refine x_seq ?_
  refine x_region rfl ?_
  refine o_y (y_lss rfl rfl) ?_
  refine o_nil ?_
  refine x_seq ?_
  refine x_cond rfl (fun hc0 => ?_) (fun hc0 => ?_)
  · try simp only [kk] at hc0
    exfalso; omega
  try simp only [kk] at hc0
  refine x_exit ?_
  with_reducible repeat (first | refine q_exit_then ?_ | refine q_exit_block ?_ | refine q_exit_pass rfl ?_)
  refine x_finN (fn := Go.Proofs.Tryz.f122) 0 (ret0 rfl ) ?_
  exact ⟨rfl, rfl, rfl⟩
theorem lookLink_no {B : World} {H : HM} {O : OL} {bk : Nat} {C : List Value} (hC : C[31]? = some (.slice none 0 0)) (hi : In O bk (cl C 77)) : CallsM prog 156 [.pointer (some ⟨bk, 0, none⟩)].toArray B H O (Same (.bool true) H O) := by
  refine enter func156 rfl ntmps156 (l := [(0, _)]) rfl rfl ?_
  refine x_seq ?_
  refine x_region rfl ?_
  refine o_y (y_assign rfl) ?_
  refine o_nil ?_
  refine x_seq ?_
  refine x_seq ?_
  refine x_region rfl ?_
  refine o_y (y_move rfl) ?_
  refine o_y (y_nilCheck rfl) ?_
  refine o_y (y_fieldAddr fd77_31 ti72 (by decide) rfl) ?_
  refine o_y (y_loadO ti72 rfl hi hC) ?_
  refine o_y (y_lenA underlying72 rfl) ?_
  refine o_y (y_move rfl) ?_
  refine o_nil ?_
  refine x_block ?_
  refine x_loopf (σ := Unit) (fun s => [(12, .int .i64 0), (11, .int .i64 0)]) (fun s => O) (fun s => True) (fun s => 0) () trivial (.c rfl (.c rfl .n)) rfl ?_
  rintro ⟨⟩ _
  refine x_seq ?_
  refine x_region rfl ?_
  refine o_y (y_lss rfl rfl) ?_
  refine o_nil ?_
  refine x_seq ?_
  refine x_cond rfl (fun hc0 => ?_) (fun hc0 => ?_)
  · try simp only [kk] at hc0
    exfalso; omega
  try simp only [kk] at hc0
  refine x_exit ?_
  refine x_seq ?_
  refine x_region rfl ?_
  refine o_y (y_assign rfl) ?_
  refine o_nil ?_
  refine x_ret ?_
  refine x_fin 0 (ret1 rfl rfl) ?_
  exact ⟨rfl, rfl, rfl⟩
theorem fillPacket_no {B : World} {H : HM} {O : OL} {bk : Nat} {C : List Value} (hC : C[32]? = some (.slice none 0 0)) (hi : In O bk (cl C 77)) : CallsM prog 90 [.pointer (some ⟨bk, 0, none⟩)].toArray B H O (Same (.tuple #[]) H O) := by
  refine enter func90 rfl ntmps90 (l := [(0, _)]) rfl rfl ?_
  refine x_seq ?_
  refine x_region rfl ?_
  refine o_y (y_move rfl) ?_
  refine o_y (y_nilCheck rfl) ?_
  refine o_y (y_fieldAddr fd77_32 ti73 (by decide) rfl) ?_
  refine o_y (y_loadO ti73 rfl hi hC) ?_
  refine o_y (y_lenA underlying73 rfl) ?_
  refine o_y (y_move rfl) ?_
  refine o_nil ?_
  refine x_block ?_
  refine x_loopf (σ := Unit) (fun s => [(10, .int .i64 0), (9, .int .i64 0)]) (fun s => O) (fun s => True) (fun s => 0) () trivial (.c rfl (.c rfl .n)) rfl ?_
  rintro ⟨⟩ _
  refine x_seq ?_
  refine x_region rfl ?_
  refine o_y (y_lss rfl rfl) ?_
  refine o_nil ?_
  refine x_seq ?_
  refine x_cond rfl (fun hc0 => ?_) (fun hc0 => ?_)
  · try simp only [kk] at hc0
    exfalso; omega
  try simp only [kk] at hc0
  refine x_exit ?_
  with_reducible repeat (first | refine q_exit_then ?_ | refine q_exit_block ?_ | refine q_exit_pass rfl ?_)
  refine x_finN (fn := Go.Proofs.Tryz.f90) 0 (ret0 rfl ) ?_
  exact ⟨rfl, rfl, rfl⟩
theorem growPacket_no {B : World} {H : HM} {O : OL} {bk : Nat} {C : List Value} (hC : C[32]? = some (.slice none 0 0)) (hi : In O bk (cl C 77)) : CallsM prog 123 [.pointer (some ⟨bk, 0, none⟩)].toArray B H O (Same (.tuple #[]) H O) := by
  refine enter func123 rfl ntmps123 (l := [(0, _)]) rfl rfl ?_
  refine x_seq ?_
  refine x_region rfl ?_
  refine o_y (y_move rfl) ?_
  refine o_y (y_nilCheck rfl) ?_
  refine o_y (y_fieldAddr fd77_32 ti73 (by decide) rfl) ?_
  refine o_y (y_loadO ti73 rfl hi hC) ?_
  refine o_y (y_lenA underlying73 rfl) ?_
  refine o_y (y_move rfl) ?_
  refine o_nil ?_
  refine x_block ?_
  refine x_loopf (σ := Unit) (fun s => [(10, .int .i64 0), (9, .int .i64 0)]) (fun s => O) (fun s => True) (fun s => 0) () trivial (.c rfl (.c rfl .n)) rfl ?_
  rintro ⟨⟩ _
  refine x_seq ?_
  refine x_region rfl ?_
  refine o_y (y_lss rfl rfl) ?_
  refine o_nil ?_
  refine x_seq ?_
  refine x_cond rfl (fun hc0 => ?_) (fun hc0 => ?_)
  · try simp only [kk] at hc0
    exfalso; omega
  try simp only [kk] at hc0
  refine x_exit ?_
  with_reducible repeat (first | refine q_exit_then ?_ | refine q_exit_block ?_ | refine q_exit_pass rfl ?_)
  refine x_finN (fn := Go.Proofs.Tryz.f123) 0 (ret0 rfl ) ?_
  exact ⟨rfl, rfl, rfl⟩
theorem lookPacket_no {B : World} {H : HM} {O : OL} {bk : Nat} {C : List Value} (hC : C[32]? = some (.slice none 0 0)) (hi : In O bk (cl C 77)) : CallsM prog 157 [.pointer (some ⟨bk, 0, none⟩)].toArray B H O (Same (.bool true) H O) := by
  refine enter func157 rfl ntmps157 (l := [(0, _)]) rfl rfl ?_
  refine x_seq ?_
  refine x_region rfl ?_
  refine o_y (y_assign rfl) ?_
  refine o_nil ?_
  refine x_seq ?_
  refine x_seq ?_
  refine x_region rfl ?_
  refine o_y (y_move rfl) ?_
  refine o_y (y_nilCheck rfl) ?_
  refine o_y (y_fieldAddr fd77_32 ti73 (by decide) rfl) ?_
  refine o_y (y_loadO ti73 rfl hi hC) ?_
  refine o_y (y_lenA underlying73 rfl) ?_
  refine o_y (y_move rfl) ?_
  refine o_nil ?_
  refine x_block ?_
  refine x_loopf (σ := Unit) (fun s => [(12, .int .i64 0), (11, .int .i64 0)]) (fun s => O) (fun s => True) (fun s => 0) () trivial (.c rfl (.c rfl .n)) rfl ?_
  rintro ⟨⟩ _
  refine x_seq ?_
  refine x_region rfl ?_
  refine o_y (y_lss rfl rfl) ?_
  refine o_nil ?_
  refine x_seq ?_
  refine x_cond rfl (fun hc0 => ?_) (fun hc0 => ?_)
  · try simp only [kk] at hc0
    exfalso; omega
  try simp only [kk] at hc0
  refine x_exit ?_
  refine x_seq ?_
  refine x_region rfl ?_
  refine o_y (y_assign rfl) ?_
  refine o_nil ?_
  refine x_ret ?_
  refine x_fin 0 (ret1 rfl rfl) ?_
  exact ⟨rfl, rfl, rfl⟩
theorem fillTermRow_no {B : World} {H : HM} {O : OL} {bk : Nat} {C : List Value} (hC : C[33]? = some (.slice none 0 0)) (hi : In O bk (cl C 77)) : CallsM prog 91 [.pointer (some ⟨bk, 0, none⟩)].toArray B H O (Same (.tuple #[]) H O) := by
  refine enter func91 rfl ntmps91 (l := [(0, _)]) rfl rfl ?_
  refine x_seq ?_
  refine x_region rfl ?_
  refine o_y (y_move rfl) ?_
  refine o_y (y_nilCheck rfl) ?_
  refine o_y (y_fieldAddr fd77_33 ti74 (by decide) rfl) ?_
  refine o_y (y_loadO ti74 rfl hi hC) ?_
  refine o_y (y_lenA underlying74 rfl) ?_
  refine o_y (y_move rfl) ?_
  refine o_nil ?_
  refine x_block ?_
  refine x_loopf (σ := Unit) (fun s => [(10, .int .i64 0), (9, .int .i64 0)]) (fun s => O) (fun s => True) (fun s => 0) () trivial (.c rfl (.c rfl .n)) rfl ?_
  rintro ⟨⟩ _
  refine x_seq ?_
  refine x_region rfl ?_
  refine o_y (y_lss rfl rfl) ?_
  refine o_nil ?_
  refine x_seq ?_
  refine x_cond rfl (fun hc0 => ?_) (fun hc0 => ?_)
  · try simp only [kk] at hc0
    exfalso; omega
  try simp only [kk] at hc0
  refine x_exit ?_
  with_reducible repeat (first | refine q_exit_then ?_ | refine q_exit_block ?_ | refine q_exit_pass rfl ?_)
  refine x_finN (fn := Go.Proofs.Tryz.f91) 0 (ret0 rfl ) ?_
  exact ⟨rfl, rfl, rfl⟩
theorem growTermRow_no {B : World} {H : HM} {O : OL} {bk : Nat} {C : List Value} (hC : C[33]? = some (.slice none 0 0)) (hi : In O bk (cl C 77)) : CallsM prog 124 [.pointer (some ⟨bk, 0, none⟩)].toArray B H O (Same (.tuple #[]) H O) := by
  refine enter func124 rfl ntmps124 (l := [(0, _)]) rfl rfl ?_
  refine x_seq ?_
  refine x_region rfl ?_
  refine o_y (y_move rfl) ?_
  refine o_y (y_nilCheck rfl) ?_
  refine o_y (y_fieldAddr fd77_33 ti74 (by decide) rfl) ?_
  refine o_y (y_loadO ti74 rfl hi hC) ?_
  refine o_y (y_lenA underlying74 rfl) ?_
  refine o_y (y_move rfl) ?_
  refine o_nil ?_
  refine x_block ?_
  refine x_loopf (σ := Unit) (fun s => [(10, .int .i64 0), (9, .int .i64 0)]) (fun s => O) (fun s => True) (fun s => 0) () trivial (.c rfl (.c rfl .n)) rfl ?_
  rintro ⟨⟩ _
  refine x_seq ?_
  refine x_region rfl ?_
  refine o_y (y_lss rfl rfl) ?_
  refine o_nil ?_
  refine x_seq ?_
  refine x_cond rfl (fun hc0 => ?_) (fun hc0 => ?_)
  · try simp only [kk] at hc0
    exfalso; omega
  try simp only [kk] at hc0
  refine x_exit ?_
  with_reducible repeat (first | refine q_exit_then ?_ | refine q_exit_block ?_ | refine q_exit_pass rfl ?_)
  refine x_finN (fn := Go.Proofs.Tryz.f124) 0 (ret0 rfl ) ?_
  exact ⟨rfl, rfl, rfl⟩
theorem lookTermRow_no {B : World} {H : HM} {O : OL} {bk : Nat} {C : List Value} (hC : C[33]? = some (.slice none 0 0)) (hi : In O bk (cl C 77)) : CallsM prog 158 [.pointer (some ⟨bk, 0, none⟩)].toArray B H O (Same (.bool true) H O) := by
  refine enter func158 rfl ntmps158 (l := [(0, _)]) rfl rfl ?_
  refine x_seq ?_
  refine x_region rfl ?_
  refine o_y (y_assign rfl) ?_
  refine o_nil ?_
  refine x_seq ?_
  refine x_seq ?_
  refine x_region rfl ?_
  refine o_y (y_move rfl) ?_
  refine o_y (y_nilCheck rfl) ?_
  refine o_y (y_fieldAddr fd77_33 ti74 (by decide) rfl) ?_
  refine o_y (y_loadO ti74 rfl hi hC) ?_
  refine o_y (y_lenA underlying74 rfl) ?_
  refine o_y (y_move rfl) ?_
  refine o_nil ?_
  refine x_block ?_
  refine x_loopf (σ := Unit) (fun s => [(12, .int .i64 0), (11, .int .i64 0)]) (fun s => O) (fun s => True) (fun s => 0) () trivial (.c rfl (.c rfl .n)) rfl ?_
  rintro ⟨⟩ _
  refine x_seq ?_
  refine x_region rfl ?_
  refine o_y (y_lss rfl rfl) ?_
  refine o_nil ?_
  refine x_seq ?_
  refine x_cond rfl (fun hc0 => ?_) (fun hc0 => ?_)
  · try simp only [kk] at hc0
    exfalso; omega
  try simp only [kk] at hc0
  refine x_exit ?_
  refine x_seq ?_
  refine x_region rfl ?_
  refine o_y (y_assign rfl) ?_
  refine o_nil ?_
  refine x_ret ?_
  refine x_fin 0 (ret1 rfl rfl) ?_
  exact ⟨rfl, rfl, rfl⟩
theorem fillNumberRow_no {B : World} {H : HM} {O : OL} {bk : Nat} {C : List Value} (hC : C[34]? = some (.slice none 0 0)) (hi : In O bk (cl C 77)) : CallsM prog 92 [.pointer (some ⟨bk, 0, none⟩)].toArray B H O (Same (.tuple #[]) H O) := by
  refine enter func92 rfl ntmps92 (l := [(0, _)]) rfl rfl ?_
  refine x_seq ?_
  refine x_region rfl ?_
  refine o_y (y_move rfl) ?_
  refine o_y (y_nilCheck rfl) ?_
  refine o_y (y_fieldAddr fd77_34 ti75 (by decide) rfl) ?_
  refine o_y (y_loadO ti75 rfl hi hC) ?_
  refine o_y (y_lenA underlying75 rfl) ?_
  refine o_y (y_move rfl) ?_
  refine o_nil ?_
  refine x_block ?_
  refine x_loopf (σ := Unit) (fun s => [(10, .int .i64 0), (9, .int .i64 0)]) (fun s => O) (fun s => True) (fun s => 0) () trivial (.c rfl (.c rfl .n)) rfl ?_
  rintro ⟨⟩ _
  refine x_seq ?_
  refine x_region rfl ?_
  refine o_y (y_lss rfl rfl) ?_
  refine o_nil ?_
  refine x_seq ?_
  refine x_cond rfl (fun hc0 => ?_) (fun hc0 => ?_)
  · try simp only [kk] at hc0
    exfalso; omega
  try simp only [kk] at hc0
  refine x_exit ?_
  with_reducible repeat (first | refine q_exit_then ?_ | refine q_exit_block ?_ | refine q_exit_pass rfl ?_)
  refine x_finN (fn := Go.Proofs.Tryz.f92) 0 (ret0 rfl ) ?_
  exact ⟨rfl, rfl, rfl⟩
theorem growNumberRow_no {B : World} {H : HM} {O : OL} {bk : Nat} {C : List Value} (hC : C[34]? = some (.slice none 0 0)) (hi : In O bk (cl C 77)) : CallsM prog 125 [.pointer (some ⟨bk, 0, none⟩)].toArray B H O (Same (.tuple #[]) H O) := by
  refine enter func125 rfl ntmps125 (l := [(0, _)]) rfl rfl ?_
  refine x_seq ?_
  refine x_region rfl ?_
  refine o_y (y_move rfl) ?_
  refine o_y (y_nilCheck rfl) ?_
  refine o_y (y_fieldAddr fd77_34 ti75 (by decide) rfl) ?_
  refine o_y (y_loadO ti75 rfl hi hC) ?_
  refine o_y (y_lenA underlying75 rfl) ?_
  refine o_y (y_move rfl) ?_
  refine o_nil ?_
  refine x_block ?_
  refine x_loopf (σ := Unit) (fun s => [(10, .int .i64 0), (9, .int .i64 0)]) (fun s => O) (fun s => True) (fun s => 0) () trivial (.c rfl (.c rfl .n)) rfl ?_
  rintro ⟨⟩ _
  refine x_seq ?_
  refine x_region rfl ?_
  refine o_y (y_lss rfl rfl) ?_
  refine o_nil ?_
  refine x_seq ?_
  refine x_cond rfl (fun hc0 => ?_) (fun hc0 => ?_)
  · try simp only [kk] at hc0
    exfalso; omega
  try simp only [kk] at hc0
  refine x_exit ?_
  with_reducible repeat (first | refine q_exit_then ?_ | refine q_exit_block ?_ | refine q_exit_pass rfl ?_)
  refine x_finN (fn := Go.Proofs.Tryz.f125) 0 (ret0 rfl ) ?_
  exact ⟨rfl, rfl, rfl⟩
theorem lookNumberRow_no {B : World} {H : HM} {O : OL} {bk : Nat} {C : List Value} (hC : C[34]? = some (.slice none 0 0)) (hi : In O bk (cl C 77)) : CallsM prog 159 [.pointer (some ⟨bk, 0, none⟩)].toArray B H O (Same (.bool true) H O) := by
  refine enter func159 rfl ntmps159 (l := [(0, _)]) rfl rfl ?_
  refine x_seq ?_
  refine x_region rfl ?_
  refine o_y (y_assign rfl) ?_
  refine o_nil ?_
  refine x_seq ?_
  refine x_seq ?_
  refine x_region rfl ?_
  refine o_y (y_move rfl) ?_
  refine o_y (y_nilCheck rfl) ?_
  refine o_y (y_fieldAddr fd77_34 ti75 (by decide) rfl) ?_
  refine o_y (y_loadO ti75 rfl hi hC) ?_
  refine o_y (y_lenA underlying75 rfl) ?_
  refine o_y (y_move rfl) ?_
  refine o_nil ?_
  refine x_block ?_
  refine x_loopf (σ := Unit) (fun s => [(12, .int .i64 0), (11, .int .i64 0)]) (fun s => O) (fun s => True) (fun s => 0) () trivial (.c rfl (.c rfl .n)) rfl ?_
  rintro ⟨⟩ _
  refine x_seq ?_
  refine x_region rfl ?_
  refine o_y (y_lss rfl rfl) ?_
  refine o_nil ?_
  refine x_seq ?_
  refine x_cond rfl (fun hc0 => ?_) (fun hc0 => ?_)
  · try simp only [kk] at hc0
    exfalso; omega
  try simp only [kk] at hc0
  refine x_exit ?_
  refine x_seq ?_
  refine x_region rfl ?_
  refine o_y (y_assign rfl) ?_
  refine o_nil ?_
  refine x_ret ?_
  refine x_fin 0 (ret1 rfl rfl) ?_
  exact ⟨rfl, rfl, rfl⟩
end Go.Ph
set_option linter.unusedVariables false
set_option linter.unusedSimpArgs false
set_option maxRecDepth 100000
namespace Go.Ph
open Go Go.RowKit Go.Proofs.YtmgnagpgnoikfaaGreatDoor Go.Proofs.Tryz
def hty : Nat → TypeId := fun k => match k with | 0 => 157 | 1 => 161 | 2 => 166 | 3 => 171 | 4 => 178 | 5 => 182 | 6 => 188 | 7 => 191 | 8 => 195 | 9 => 202 | 10 => 209 | 11 => 216 | 12 => 223 | 13 => 230 | 14 => 237 | 15 => 244 | 16 => 252 | 17 => 258 | 18 => 263 | 19 => 266 | 20 => 271 | 21 => 280 | 22 => 287 | 23 => 295 | 24 => 303 | 25 => 310 | 26 => 153 | 27 => 319 | 28 => 326 | 29 => 333 | 30 => 340 | 31 => 347 | 32 => 352 | _ => 0
def kt : Nat → Nat := fun k => match k with | 0 => 3 | 4 => 135 | 6 => 131 | 7 => 138 | 17 => 127 | 19 => 31 | 26 => 95 | _ => 0
def ks : Nat → Nat := fun k => match k with | 0 => 1 | 4 => 3 | 6 => 3 | 7 => 2 | 17 => 4 | 19 => 15 | 26 => 2 | _ => 0
def kb : Nat → Nat := fun k => match k with | 0 => 8 | 4 => 24 | 6 => 24 | 7 => 16 | 17 => 48 | 19 => 200 | 26 => 32 | _ => 0
abbrev KeptB (bk : Nat) (s : BK) (nl : Nat) (F : List Nat) (H : HM) (O : OL) : Value → HM → OL → Prop := Kept 77 hty kt ks kb bk s nl F H O
theorem keepNumber_ok {B : World} {H : HM} {S O : OL} {bk : Nat} {s : BK} {p : Option Addr} {n c : Nat} (h : BkMem 77 hty bk s S) (hcn : s.count ≤ 1000000000000) :
    CallsM prog 171 [.pointer (some ⟨bk, 0, none⟩), .slice p n c].toArray B H (S ++ O) (fun _ H' O' => H = H' ∧ ∃ S', O' = S' ++ O ∧ BkMem 77 hty bk (s.add 0 (.slice p n c)) S') := by
  obtain ⟨C, v, R, A, D, e, hl, hle, hc0, hck, hr, hback⟩ := h.at 0 (by decide) O
  rw [e]
  have hr : Row v (s.ls 0).length (heldCells (s.ls 0)) 157 2 R := hr
  refine enter func171 rfl ntmps171 (l := [(0, _), (1, _)]) rfl rfl ?_
  refine x_seq ?_
  refine x_regionPs _ held_s0 [(0, true), (1, true), (2, true), (3, true), (4, true), (5, true), (6, true), (7, true), (8, true), (9, true), (10, true), (11, false), (12, false), (13, false), (14, true), (15, false)] [0, 1, 2, 3, 4, 5, 6, 7, 8, 9, 10, 14] [15] mixed (by kernel_rfl) npa ?_
  have hE := Ext.refl H
  refine p_take rfl rfl (y_move rfl) ?_
  refine p_take rfl rfl (y_move rfl) ?_
  refine p_take rfl rfl (y_nilCheck rfl) ?_
  refine p_take rfl rfl (y_fieldAddr fd77_2 ti43 (by decide) rfl) ?_
  refine p_take rfl rfl (y_loadO ti43 rfl .z hck) ?_
  refine p_take rfl rfl (y_move rfl) ?_
  refine p_take rfl rfl (y_move rfl) ?_
  refine p_take rfl rfl (y_nilCheck rfl) ?_
  refine p_take rfl rfl (y_fieldAddr fd77_0 ti3 (by decide) rfl) ?_
  refine p_take rfl rfl (y_loadO ti3 rfl .z hc0) ?_
  refine p_take rfl rfl (y_buildS bt157 rfl (C := [_, _]) rfl) ?_
  refine p_only rfl rfl ?_
  refine o_slice1 underlying43 ti157 (by decide) (by decide) rfl rfl (C := [_, _]) rfl rfl (fun b15 => ?_)
  refine o_nil ?_
  refine ⟨.inr ⟨hE, hld⟩, ?_⟩
  refine p_only rfl rfl ?_
  refine o_append (news := [.slice p n c, .int .i64 (s.count : Int)]) underlying43 ti157 rfl (by decide) rfl hr rfl (At.all inn) rfl rfl (by omega) (by omega) hol (fun v16 R16 j16 => ?_)
  refine o_nil ?_
  obtain ⟨p16, c16, rfl⟩ := j16.shape
  refine ⟨.inr ⟨hE, hld⟩, ?_⟩
  refine p_only rfl rfl ?_
  refine o_y (y_nilCheck rfl) ?_
  refine o_nil ?_
  refine ⟨.inr ⟨hE, hld⟩, ?_⟩
  refine p_take rfl rfl (y_fieldAddr fd77_2 ti43 (by decide) rfl) ?_
  refine p_only rfl rfl ?_
  refine o_store (u := [.slice p16 ((s.ls 0).length + 1) c16]) (C' := C.set 2 (.slice p16 ((s.ls 0).length + 1) c16)) ti43 rfl rfl rfl rfl rfl (.s .z) (by rw [hl]; decide) (putC_set (by rw [hl]; decide)) ?_
  refine o_nil ?_
  refine ⟨.inl rfl, ?_⟩
  refine p_nil ?_
  refine x_region rfl ?_
  refine o_y (y_move rfl) ?_
  refine o_y (y_nilCheck rfl) ?_
  refine o_y (y_fieldAddr fd77_0 ti3 (by decide) rfl) ?_
  refine o_y (y_loadO (u := .int .i64 (s.count : Int)) ti3 rfl (.s .z) (by rw [List.getElem?_set_ne (by decide)]; exact hc0)) ?_
  refine o_y (y_addN rfl rfl (by omega) (by omega)) ?_
  refine o_y (y_nilCheck rfl) ?_
  refine o_y (y_fieldAddr fd77_0 ti3 (by decide) rfl) ?_
  refine o_store (u := [.int .i64 ((s.count : Int) + 1)]) (C' := (C.set 2 (.slice p16 ((s.ls 0).length + 1) c16)).set 0 (.int .i64 ((s.count : Int) + 1))) ti3 rfl rfl rfl rfl rfl (.s .z) (by rw [List.length_set, hl]; decide) (putC_set (by rw [List.length_set, hl]; decide)) ?_
  refine o_nil ?_
  with_reducible repeat (first | refine q_exit_then ?_ | refine q_exit_block ?_ | refine q_exit_pass rfl ?_)
  refine x_finN (fn := Go.Proofs.Tryz.f171) 1 (ret0 rfl ) ?_
  obtain ⟨S', k1, k2⟩ := hback _ _ R16 j16
  exact ⟨rfl, S', k1, k2⟩
theorem keepSeal_ok {B : World} {H : HM} {S O : OL} {bk : Nat} {s : BK} {p : Option Addr} {n c : Nat} (h : BkMem 77 hty bk s S) (hcn : s.count ≤ 1000000000000) :
    CallsM prog 199 [.pointer (some ⟨bk, 0, none⟩), .slice p n c].toArray B H (S ++ O) (fun _ H' O' => H = H' ∧ ∃ S', O' = S' ++ O ∧ BkMem 77 hty bk (s.add 4 (.slice p n c)) S') := by
  obtain ⟨C, v, R, A, D, e, hl, hle, hc0, hck, hr, hback⟩ := h.at 4 (by decide) O
  rw [e]
  have hr : Row v (s.ls 4).length (heldCells (s.ls 4)) 178 2 R := hr
  refine enter func199 rfl ntmps199 (l := [(0, _), (1, _)]) rfl rfl ?_
  refine x_seq ?_
  refine x_regionPs _ held_s0 [(0, true), (1, true), (2, true), (3, true), (4, true), (5, true), (6, true), (7, true), (8, true), (9, true), (10, true), (11, false), (12, false), (13, false), (14, true), (15, false)] [0, 1, 2, 3, 4, 5, 6, 7, 8, 9, 10, 14] [15] mixed (by kernel_rfl) npa ?_
  have hE := Ext.refl H
  refine p_take rfl rfl (y_move rfl) ?_
  refine p_take rfl rfl (y_move rfl) ?_
  refine p_take rfl rfl (y_nilCheck rfl) ?_
  refine p_take rfl rfl (y_fieldAddr fd77_6 ti47 (by decide) rfl) ?_
  refine p_take rfl rfl (y_loadO ti47 rfl .z hck) ?_
  refine p_take rfl rfl (y_move rfl) ?_
  refine p_take rfl rfl (y_move rfl) ?_
  refine p_take rfl rfl (y_nilCheck rfl) ?_
  refine p_take rfl rfl (y_fieldAddr fd77_0 ti3 (by decide) rfl) ?_
  refine p_take rfl rfl (y_loadO ti3 rfl .z hc0) ?_
  refine p_take rfl rfl (y_buildS bt178 rfl (C := [_, _]) rfl) ?_
  refine p_only rfl rfl ?_
  refine o_slice1 underlying47 ti178 (by decide) (by decide) rfl rfl (C := [_, _]) rfl rfl (fun b15 => ?_)
  refine o_nil ?_
  refine ⟨.inr ⟨hE, hld⟩, ?_⟩
  refine p_only rfl rfl ?_
  refine o_append (news := [.slice p n c, .int .i64 (s.count : Int)]) underlying47 ti178 rfl (by decide) rfl hr rfl (At.all inn) rfl rfl (by omega) (by omega) hol (fun v16 R16 j16 => ?_)
  refine o_nil ?_
  obtain ⟨p16, c16, rfl⟩ := j16.shape
  refine ⟨.inr ⟨hE, hld⟩, ?_⟩
  refine p_only rfl rfl ?_
  refine o_y (y_nilCheck rfl) ?_
  refine o_nil ?_
  refine ⟨.inr ⟨hE, hld⟩, ?_⟩
  refine p_take rfl rfl (y_fieldAddr fd77_6 ti47 (by decide) rfl) ?_
  refine p_only rfl rfl ?_
  refine o_store (u := [.slice p16 ((s.ls 4).length + 1) c16]) (C' := C.set 6 (.slice p16 ((s.ls 4).length + 1) c16)) ti47 rfl rfl rfl rfl rfl (.s .z) (by rw [hl]; decide) (putC_set (by rw [hl]; decide)) ?_
  refine o_nil ?_
  refine ⟨.inl rfl, ?_⟩
  refine p_nil ?_
  refine x_region rfl ?_
  refine o_y (y_move rfl) ?_
  refine o_y (y_nilCheck rfl) ?_
  refine o_y (y_fieldAddr fd77_0 ti3 (by decide) rfl) ?_
  refine o_y (y_loadO (u := .int .i64 (s.count : Int)) ti3 rfl (.s .z) (by rw [List.getElem?_set_ne (by decide)]; exact hc0)) ?_
  refine o_y (y_addN rfl rfl (by omega) (by omega)) ?_
  refine o_y (y_nilCheck rfl) ?_
  refine o_y (y_fieldAddr fd77_0 ti3 (by decide) rfl) ?_
  refine o_store (u := [.int .i64 ((s.count : Int) + 1)]) (C' := (C.set 6 (.slice p16 ((s.ls 4).length + 1) c16)).set 0 (.int .i64 ((s.count : Int) + 1))) ti3 rfl rfl rfl rfl rfl (.s .z) (by rw [List.length_set, hl]; decide) (putC_set (by rw [List.length_set, hl]; decide)) ?_
  refine o_nil ?_
  with_reducible repeat (first | refine q_exit_then ?_ | refine q_exit_block ?_ | refine q_exit_pass rfl ?_)
  refine x_finN (fn := Go.Proofs.Tryz.f199) 1 (ret0 rfl ) ?_
  obtain ⟨S', k1, k2⟩ := hback _ _ R16 j16
  exact ⟨rfl, S', k1, k2⟩
theorem keepAdd_ok {B : World} {H : HM} {S O : OL} {bk : Nat} {s : BK} {p : Option Addr} {n c : Nat} (h : BkMem 77 hty bk s S) (hcn : s.count ≤ 1000000000000) :
    CallsM prog 198 [.pointer (some ⟨bk, 0, none⟩), .slice p n c].toArray B H (S ++ O) (fun _ H' O' => H = H' ∧ ∃ S', O' = S' ++ O ∧ BkMem 77 hty bk (s.add 6 (.slice p n c)) S') := by
  obtain ⟨C, v, R, A, D, e, hl, hle, hc0, hck, hr, hback⟩ := h.at 6 (by decide) O
  rw [e]
  have hr : Row v (s.ls 6).length (heldCells (s.ls 6)) 188 2 R := hr
  refine enter func198 rfl ntmps198 (l := [(0, _), (1, _)]) rfl rfl ?_
  refine x_seq ?_
  refine x_regionPs _ held_s0 [(0, true), (1, true), (2, true), (3, true), (4, true), (5, true), (6, true), (7, true), (8, true), (9, true), (10, true), (11, false), (12, false), (13, false), (14, true), (15, false)] [0, 1, 2, 3, 4, 5, 6, 7, 8, 9, 10, 14] [15] mixed (by kernel_rfl) npa ?_
  have hE := Ext.refl H
  refine p_take rfl rfl (y_move rfl) ?_
  refine p_take rfl rfl (y_move rfl) ?_
  refine p_take rfl rfl (y_nilCheck rfl) ?_
  refine p_take rfl rfl (y_fieldAddr fd77_8 ti49 (by decide) rfl) ?_
  refine p_take rfl rfl (y_loadO ti49 rfl .z hck) ?_
  refine p_take rfl rfl (y_move rfl) ?_
  refine p_take rfl rfl (y_move rfl) ?_
  refine p_take rfl rfl (y_nilCheck rfl) ?_
  refine p_take rfl rfl (y_fieldAddr fd77_0 ti3 (by decide) rfl) ?_
  refine p_take rfl rfl (y_loadO ti3 rfl .z hc0) ?_
  refine p_take rfl rfl (y_buildS bt188 rfl (C := [_, _]) rfl) ?_
  refine p_only rfl rfl ?_
  refine o_slice1 underlying49 ti188 (by decide) (by decide) rfl rfl (C := [_, _]) rfl rfl (fun b15 => ?_)
  refine o_nil ?_
  refine ⟨.inr ⟨hE, hld⟩, ?_⟩
  refine p_only rfl rfl ?_
  refine o_append (news := [.slice p n c, .int .i64 (s.count : Int)]) underlying49 ti188 rfl (by decide) rfl hr rfl (At.all inn) rfl rfl (by omega) (by omega) hol (fun v16 R16 j16 => ?_)
  refine o_nil ?_
  obtain ⟨p16, c16, rfl⟩ := j16.shape
  refine ⟨.inr ⟨hE, hld⟩, ?_⟩
  refine p_only rfl rfl ?_
  refine o_y (y_nilCheck rfl) ?_
  refine o_nil ?_
  refine ⟨.inr ⟨hE, hld⟩, ?_⟩
  refine p_take rfl rfl (y_fieldAddr fd77_8 ti49 (by decide) rfl) ?_
  refine p_only rfl rfl ?_
  refine o_store (u := [.slice p16 ((s.ls 6).length + 1) c16]) (C' := C.set 8 (.slice p16 ((s.ls 6).length + 1) c16)) ti49 rfl rfl rfl rfl rfl (.s .z) (by rw [hl]; decide) (putC_set (by rw [hl]; decide)) ?_
  refine o_nil ?_
  refine ⟨.inl rfl, ?_⟩
  refine p_nil ?_
  refine x_region rfl ?_
  refine o_y (y_move rfl) ?_
  refine o_y (y_nilCheck rfl) ?_
  refine o_y (y_fieldAddr fd77_0 ti3 (by decide) rfl) ?_
  refine o_y (y_loadO (u := .int .i64 (s.count : Int)) ti3 rfl (.s .z) (by rw [List.getElem?_set_ne (by decide)]; exact hc0)) ?_
  refine o_y (y_addN rfl rfl (by omega) (by omega)) ?_
  refine o_y (y_nilCheck rfl) ?_
  refine o_y (y_fieldAddr fd77_0 ti3 (by decide) rfl) ?_
  refine o_store (u := [.int .i64 ((s.count : Int) + 1)]) (C' := (C.set 8 (.slice p16 ((s.ls 6).length + 1) c16)).set 0 (.int .i64 ((s.count : Int) + 1))) ti3 rfl rfl rfl rfl rfl (.s .z) (by rw [List.length_set, hl]; decide) (putC_set (by rw [List.length_set, hl]; decide)) ?_
  refine o_nil ?_
  with_reducible repeat (first | refine q_exit_then ?_ | refine q_exit_block ?_ | refine q_exit_pass rfl ?_)
  refine x_finN (fn := Go.Proofs.Tryz.f198) 1 (ret0 rfl ) ?_
  obtain ⟨S', k1, k2⟩ := hback _ _ R16 j16
  exact ⟨rfl, S', k1, k2⟩
theorem keepJoin_ok {B : World} {H : HM} {S O : OL} {bk : Nat} {s : BK} {p : Option Addr} {n c : Nat} (h : BkMem 77 hty bk s S) (hcn : s.count ≤ 1000000000000) :
    CallsM prog 200 [.pointer (some ⟨bk, 0, none⟩), .slice p n c].toArray B H (S ++ O) (fun _ H' O' => H = H' ∧ ∃ S', O' = S' ++ O ∧ BkMem 77 hty bk (s.add 7 (.slice p n c)) S') := by
  obtain ⟨C, v, R, A, D, e, hl, hle, hc0, hck, hr, hback⟩ := h.at 7 (by decide) O
  rw [e]
  have hr : Row v (s.ls 7).length (heldCells (s.ls 7)) 191 2 R := hr
  refine enter func200 rfl ntmps200 (l := [(0, _), (1, _)]) rfl rfl ?_
  refine x_seq ?_
  refine x_regionPs _ held_s0 [(0, true), (1, true), (2, true), (3, true), (4, true), (5, true), (6, true), (7, true), (8, true), (9, true), (10, true), (11, false), (12, false), (13, false), (14, true), (15, false)] [0, 1, 2, 3, 4, 5, 6, 7, 8, 9, 10, 14] [15] mixed (by kernel_rfl) npa ?_
  have hE := Ext.refl H
  refine p_take rfl rfl (y_move rfl) ?_
  refine p_take rfl rfl (y_move rfl) ?_
  refine p_take rfl rfl (y_nilCheck rfl) ?_
  refine p_take rfl rfl (y_fieldAddr fd77_9 ti50 (by decide) rfl) ?_
  refine p_take rfl rfl (y_loadO ti50 rfl .z hck) ?_
  refine p_take rfl rfl (y_move rfl) ?_
  refine p_take rfl rfl (y_move rfl) ?_
  refine p_take rfl rfl (y_nilCheck rfl) ?_
  refine p_take rfl rfl (y_fieldAddr fd77_0 ti3 (by decide) rfl) ?_
  refine p_take rfl rfl (y_loadO ti3 rfl .z hc0) ?_
  refine p_take rfl rfl (y_buildS bt191 rfl (C := [_, _]) rfl) ?_
  refine p_only rfl rfl ?_
  refine o_slice1 underlying50 ti191 (by decide) (by decide) rfl rfl (C := [_, _]) rfl rfl (fun b15 => ?_)
  refine o_nil ?_
  refine ⟨.inr ⟨hE, hld⟩, ?_⟩
  refine p_only rfl rfl ?_
  refine o_append (news := [.slice p n c, .int .i64 (s.count : Int)]) underlying50 ti191 rfl (by decide) rfl hr rfl (At.all inn) rfl rfl (by omega) (by omega) hol (fun v16 R16 j16 => ?_)
  refine o_nil ?_
  obtain ⟨p16, c16, rfl⟩ := j16.shape
  refine ⟨.inr ⟨hE, hld⟩, ?_⟩
  refine p_only rfl rfl ?_
  refine o_y (y_nilCheck rfl) ?_
  refine o_nil ?_
  refine ⟨.inr ⟨hE, hld⟩, ?_⟩
  refine p_take rfl rfl (y_fieldAddr fd77_9 ti50 (by decide) rfl) ?_
  refine p_only rfl rfl ?_
  refine o_store (u := [.slice p16 ((s.ls 7).length + 1) c16]) (C' := C.set 9 (.slice p16 ((s.ls 7).length + 1) c16)) ti50 rfl rfl rfl rfl rfl (.s .z) (by rw [hl]; decide) (putC_set (by rw [hl]; decide)) ?_
  refine o_nil ?_
  refine ⟨.inl rfl, ?_⟩
  refine p_nil ?_
  refine x_region rfl ?_
  refine o_y (y_move rfl) ?_
  refine o_y (y_nilCheck rfl) ?_
  refine o_y (y_fieldAddr fd77_0 ti3 (by decide) rfl) ?_
  refine o_y (y_loadO (u := .int .i64 (s.count : Int)) ti3 rfl (.s .z) (by rw [List.getElem?_set_ne (by decide)]; exact hc0)) ?_
  refine o_y (y_addN rfl rfl (by omega) (by omega)) ?_
  refine o_y (y_nilCheck rfl) ?_
  refine o_y (y_fieldAddr fd77_0 ti3 (by decide) rfl) ?_
  refine o_store (u := [.int .i64 ((s.count : Int) + 1)]) (C' := (C.set 9 (.slice p16 ((s.ls 7).length + 1) c16)).set 0 (.int .i64 ((s.count : Int) + 1))) ti3 rfl rfl rfl rfl rfl (.s .z) (by rw [List.length_set, hl]; decide) (putC_set (by rw [List.length_set, hl]; decide)) ?_
  refine o_nil ?_
  with_reducible repeat (first | refine q_exit_then ?_ | refine q_exit_block ?_ | refine q_exit_pass rfl ?_)
  refine x_finN (fn := Go.Proofs.Tryz.f200) 1 (ret0 rfl ) ?_
  obtain ⟨S', k1, k2⟩ := hback _ _ R16 j16
  exact ⟨rfl, S', k1, k2⟩
theorem keepNode_ok {B : World} {H : HM} {S O : OL} {bk : Nat} {s : BK} {p : Option Addr} {n c : Nat} (h : BkMem 77 hty bk s S) (hcn : s.count ≤ 1000000000000) :
    CallsM prog 275 [.pointer (some ⟨bk, 0, none⟩), .slice p n c].toArray B H (S ++ O) (fun _ H' O' => H = H' ∧ ∃ S', O' = S' ++ O ∧ BkMem 77 hty bk (s.add 17 (.slice p n c)) S') := by
  obtain ⟨C, v, R, A, D, e, hl, hle, hc0, hck, hr, hback⟩ := h.at 17 (by decide) O
  rw [e]
  have hr : Row v (s.ls 17).length (heldCells (s.ls 17)) 258 2 R := hr
  refine enter func275 rfl ntmps275 (l := [(0, _), (1, _)]) rfl rfl ?_
  refine x_seq ?_
  refine x_regionPs _ held_s0 [(0, true), (1, true), (2, true), (3, true), (4, true), (5, true), (6, true), (7, true), (8, true), (9, true), (10, true), (11, false), (12, false), (13, false), (14, true), (15, false)] [0, 1, 2, 3, 4, 5, 6, 7, 8, 9, 10, 14] [15] mixed (by kernel_rfl) npa ?_
  have hE := Ext.refl H
  refine p_take rfl rfl (y_move rfl) ?_
  refine p_take rfl rfl (y_move rfl) ?_
  refine p_take rfl rfl (y_nilCheck rfl) ?_
  refine p_take rfl rfl (y_fieldAddr fd77_19 ti60 (by decide) rfl) ?_
  refine p_take rfl rfl (y_loadO ti60 rfl .z hck) ?_
  refine p_take rfl rfl (y_move rfl) ?_
  refine p_take rfl rfl (y_move rfl) ?_
  refine p_take rfl rfl (y_nilCheck rfl) ?_
  refine p_take rfl rfl (y_fieldAddr fd77_0 ti3 (by decide) rfl) ?_
  refine p_take rfl rfl (y_loadO ti3 rfl .z hc0) ?_
  refine p_take rfl rfl (y_buildS bt258 rfl (C := [_, _]) rfl) ?_
  refine p_only rfl rfl ?_
  refine o_slice1 underlying60 ti258 (by decide) (by decide) rfl rfl (C := [_, _]) rfl rfl (fun b15 => ?_)
  refine o_nil ?_
  refine ⟨.inr ⟨hE, hld⟩, ?_⟩
  refine p_only rfl rfl ?_
  refine o_append (news := [.slice p n c, .int .i64 (s.count : Int)]) underlying60 ti258 rfl (by decide) rfl hr rfl (At.all inn) rfl rfl (by omega) (by omega) hol (fun v16 R16 j16 => ?_)
  refine o_nil ?_
  obtain ⟨p16, c16, rfl⟩ := j16.shape
  refine ⟨.inr ⟨hE, hld⟩, ?_⟩
  refine p_only rfl rfl ?_
  refine o_y (y_nilCheck rfl) ?_
  refine o_nil ?_
  refine ⟨.inr ⟨hE, hld⟩, ?_⟩
  refine p_take rfl rfl (y_fieldAddr fd77_19 ti60 (by decide) rfl) ?_
  refine p_only rfl rfl ?_
  refine o_store (u := [.slice p16 ((s.ls 17).length + 1) c16]) (C' := C.set 19 (.slice p16 ((s.ls 17).length + 1) c16)) ti60 rfl rfl rfl rfl rfl (.s .z) (by rw [hl]; decide) (putC_set (by rw [hl]; decide)) ?_
  refine o_nil ?_
  refine ⟨.inl rfl, ?_⟩
  refine p_nil ?_
  refine x_region rfl ?_
  refine o_y (y_move rfl) ?_
  refine o_y (y_nilCheck rfl) ?_
  refine o_y (y_fieldAddr fd77_0 ti3 (by decide) rfl) ?_
  refine o_y (y_loadO (u := .int .i64 (s.count : Int)) ti3 rfl (.s .z) (by rw [List.getElem?_set_ne (by decide)]; exact hc0)) ?_
  refine o_y (y_addN rfl rfl (by omega) (by omega)) ?_
  refine o_y (y_nilCheck rfl) ?_
  refine o_y (y_fieldAddr fd77_0 ti3 (by decide) rfl) ?_
  refine o_store (u := [.int .i64 ((s.count : Int) + 1)]) (C' := (C.set 19 (.slice p16 ((s.ls 17).length + 1) c16)).set 0 (.int .i64 ((s.count : Int) + 1))) ti3 rfl rfl rfl rfl rfl (.s .z) (by rw [List.length_set, hl]; decide) (putC_set (by rw [List.length_set, hl]; decide)) ?_
  refine o_nil ?_
  with_reducible repeat (first | refine q_exit_then ?_ | refine q_exit_block ?_ | refine q_exit_pass rfl ?_)
  refine x_finN (fn := Go.Proofs.Tryz.f275) 1 (ret0 rfl ) ?_
  obtain ⟨S', k1, k2⟩ := hback _ _ R16 j16
  exact ⟨rfl, S', k1, k2⟩
theorem keepCommit_ok {B : World} {H : HM} {S O : OL} {bk : Nat} {s : BK} {p : Option Addr} {n c : Nat} (h : BkMem 77 hty bk s S) (hcn : s.count ≤ 1000000000000) :
    CallsM prog 273 [.pointer (some ⟨bk, 0, none⟩), .slice p n c].toArray B H (S ++ O) (fun _ H' O' => H = H' ∧ ∃ S', O' = S' ++ O ∧ BkMem 77 hty bk (s.add 19 (.slice p n c)) S') := by
  obtain ⟨C, v, R, A, D, e, hl, hle, hc0, hck, hr, hback⟩ := h.at 19 (by decide) O
  rw [e]
  have hr : Row v (s.ls 19).length (heldCells (s.ls 19)) 266 2 R := hr
  refine enter func273 rfl ntmps273 (l := [(0, _), (1, _)]) rfl rfl ?_
  refine x_seq ?_
  refine x_regionPs _ held_s0 [(0, true), (1, true), (2, true), (3, true), (4, true), (5, true), (6, true), (7, true), (8, true), (9, true), (10, true), (11, false), (12, false), (13, false), (14, true), (15, false)] [0, 1, 2, 3, 4, 5, 6, 7, 8, 9, 10, 14] [15] mixed (by kernel_rfl) npa ?_
  have hE := Ext.refl H
  refine p_take rfl rfl (y_move rfl) ?_
  refine p_take rfl rfl (y_move rfl) ?_
  refine p_take rfl rfl (y_nilCheck rfl) ?_
  refine p_take rfl rfl (y_fieldAddr fd77_21 ti62 (by decide) rfl) ?_
  refine p_take rfl rfl (y_loadO ti62 rfl .z hck) ?_
  refine p_take rfl rfl (y_move rfl) ?_
  refine p_take rfl rfl (y_move rfl) ?_
  refine p_take rfl rfl (y_nilCheck rfl) ?_
  refine p_take rfl rfl (y_fieldAddr fd77_0 ti3 (by decide) rfl) ?_
  refine p_take rfl rfl (y_loadO ti3 rfl .z hc0) ?_
  refine p_take rfl rfl (y_buildS bt266 rfl (C := [_, _]) rfl) ?_
  refine p_only rfl rfl ?_
  refine o_slice1 underlying62 ti266 (by decide) (by decide) rfl rfl (C := [_, _]) rfl rfl (fun b15 => ?_)
  refine o_nil ?_
  refine ⟨.inr ⟨hE, hld⟩, ?_⟩
  refine p_only rfl rfl ?_
  refine o_append (news := [.slice p n c, .int .i64 (s.count : Int)]) underlying62 ti266 rfl (by decide) rfl hr rfl (At.all inn) rfl rfl (by omega) (by omega) hol (fun v16 R16 j16 => ?_)
  refine o_nil ?_
  obtain ⟨p16, c16, rfl⟩ := j16.shape
  refine ⟨.inr ⟨hE, hld⟩, ?_⟩
  refine p_only rfl rfl ?_
  refine o_y (y_nilCheck rfl) ?_
  refine o_nil ?_
  refine ⟨.inr ⟨hE, hld⟩, ?_⟩
  refine p_take rfl rfl (y_fieldAddr fd77_21 ti62 (by decide) rfl) ?_
  refine p_only rfl rfl ?_
  refine o_store (u := [.slice p16 ((s.ls 19).length + 1) c16]) (C' := C.set 21 (.slice p16 ((s.ls 19).length + 1) c16)) ti62 rfl rfl rfl rfl rfl (.s .z) (by rw [hl]; decide) (putC_set (by rw [hl]; decide)) ?_
  refine o_nil ?_
  refine ⟨.inl rfl, ?_⟩
  refine p_nil ?_
  refine x_region rfl ?_
  refine o_y (y_move rfl) ?_
  refine o_y (y_nilCheck rfl) ?_
  refine o_y (y_fieldAddr fd77_0 ti3 (by decide) rfl) ?_
  refine o_y (y_loadO (u := .int .i64 (s.count : Int)) ti3 rfl (.s .z) (by rw [List.getElem?_set_ne (by decide)]; exact hc0)) ?_
  refine o_y (y_addN rfl rfl (by omega) (by omega)) ?_
  refine o_y (y_nilCheck rfl) ?_
  refine o_y (y_fieldAddr fd77_0 ti3 (by decide) rfl) ?_
  refine o_store (u := [.int .i64 ((s.count : Int) + 1)]) (C' := (C.set 21 (.slice p16 ((s.ls 19).length + 1) c16)).set 0 (.int .i64 ((s.count : Int) + 1))) ti3 rfl rfl rfl rfl rfl (.s .z) (by rw [List.length_set, hl]; decide) (putC_set (by rw [List.length_set, hl]; decide)) ?_
  refine o_nil ?_
  with_reducible repeat (first | refine q_exit_then ?_ | refine q_exit_block ?_ | refine q_exit_pass rfl ?_)
  refine x_finN (fn := Go.Proofs.Tryz.f273) 1 (ret0 rfl ) ?_
  obtain ⟨S', k1, k2⟩ := hback _ _ R16 j16
  exact ⟨rfl, S', k1, k2⟩
theorem keepLog_ok {B : World} {H : HM} {S O : OL} {bk : Nat} {s : BK} {p : Option Addr} {n c : Nat} (h : BkMem 77 hty bk s S) (hcn : s.count ≤ 1000000000000) :
    CallsM prog 55 [.pointer (some ⟨bk, 0, none⟩), .slice p n c].toArray B H (S ++ O) (fun _ H' O' => H = H' ∧ ∃ S', O' = S' ++ O ∧ BkMem 77 hty bk (s.add 26 (.slice p n c)) S') := by
  obtain ⟨C, v, R, A, D, e, hl, hle, hc0, hck, hr, hback⟩ := h.at 26 (by decide) O
  rw [e]
  have hr : Row v (s.ls 26).length (heldCells (s.ls 26)) 153 2 R := hr
  refine enter func55 rfl ntmps55 (l := [(0, _), (1, _)]) rfl rfl ?_
  refine x_seq ?_
  refine x_regionPs _ held_s0 [(0, true), (1, true), (2, true), (3, true), (4, true), (5, true), (6, true), (7, true), (8, true), (9, true), (10, true), (11, false), (12, false), (13, false), (14, true), (15, false)] [0, 1, 2, 3, 4, 5, 6, 7, 8, 9, 10, 14] [15] mixed (by kernel_rfl) npa ?_
  have hE := Ext.refl H
  refine p_take rfl rfl (y_move rfl) ?_
  refine p_take rfl rfl (y_move rfl) ?_
  refine p_take rfl rfl (y_nilCheck rfl) ?_
  refine p_take rfl rfl (y_fieldAddr fd77_28 ti69 (by decide) rfl) ?_
  refine p_take rfl rfl (y_loadO ti69 rfl .z hck) ?_
  refine p_take rfl rfl (y_move rfl) ?_
  refine p_take rfl rfl (y_move rfl) ?_
  refine p_take rfl rfl (y_nilCheck rfl) ?_
  refine p_take rfl rfl (y_fieldAddr fd77_0 ti3 (by decide) rfl) ?_
  refine p_take rfl rfl (y_loadO ti3 rfl .z hc0) ?_
  refine p_take rfl rfl (y_buildS bt153 rfl (C := [_, _]) rfl) ?_
  refine p_only rfl rfl ?_
  refine o_slice1 underlying69 ti153 (by decide) (by decide) rfl rfl (C := [_, _]) rfl rfl (fun b15 => ?_)
  refine o_nil ?_
  refine ⟨.inr ⟨hE, hld⟩, ?_⟩
  refine p_only rfl rfl ?_
  refine o_append (news := [.slice p n c, .int .i64 (s.count : Int)]) underlying69 ti153 rfl (by decide) rfl hr rfl (At.all inn) rfl rfl (by omega) (by omega) hol (fun v16 R16 j16 => ?_)
  refine o_nil ?_
  obtain ⟨p16, c16, rfl⟩ := j16.shape
  refine ⟨.inr ⟨hE, hld⟩, ?_⟩
  refine p_only rfl rfl ?_
  refine o_y (y_nilCheck rfl) ?_
  refine o_nil ?_
  refine ⟨.inr ⟨hE, hld⟩, ?_⟩
  refine p_take rfl rfl (y_fieldAddr fd77_28 ti69 (by decide) rfl) ?_
  refine p_only rfl rfl ?_
  refine o_store (u := [.slice p16 ((s.ls 26).length + 1) c16]) (C' := C.set 28 (.slice p16 ((s.ls 26).length + 1) c16)) ti69 rfl rfl rfl rfl rfl (.s .z) (by rw [hl]; decide) (putC_set (by rw [hl]; decide)) ?_
  refine o_nil ?_
  refine ⟨.inl rfl, ?_⟩
  refine p_nil ?_
  refine x_region rfl ?_
  refine o_y (y_move rfl) ?_
  refine o_y (y_nilCheck rfl) ?_
  refine o_y (y_fieldAddr fd77_0 ti3 (by decide) rfl) ?_
  refine o_y (y_loadO (u := .int .i64 (s.count : Int)) ti3 rfl (.s .z) (by rw [List.getElem?_set_ne (by decide)]; exact hc0)) ?_
  refine o_y (y_addN rfl rfl (by omega) (by omega)) ?_
  refine o_y (y_nilCheck rfl) ?_
  refine o_y (y_fieldAddr fd77_0 ti3 (by decide) rfl) ?_
  refine o_store (u := [.int .i64 ((s.count : Int) + 1)]) (C' := (C.set 28 (.slice p16 ((s.ls 26).length + 1) c16)).set 0 (.int .i64 ((s.count : Int) + 1))) ti3 rfl rfl rfl rfl rfl (.s .z) (by rw [List.length_set, hl]; decide) (putC_set (by rw [List.length_set, hl]; decide)) ?_
  refine o_nil ?_
  with_reducible repeat (first | refine q_exit_then ?_ | refine q_exit_block ?_ | refine q_exit_pass rfl ?_)
  refine x_finN (fn := Go.Proofs.Tryz.f55) 1 (ret0 rfl ) ?_
  obtain ⟨S', k1, k2⟩ := hback _ _ R16 j16
  exact ⟨rfl, S', k1, k2⟩
end Go.Ph
set_option linter.unusedVariables false
set_option linter.unusedSimpArgs false
set_option maxRecDepth 100000
namespace Go.Ph
open Go Go.RowKit Go.Proofs.YtmgnagpgnoikfaaGreatDoor Go.Proofs.Tryz
theorem bookNumbers_ok {B : World} {H : HM} {S O : OL} {bk : Nat} {s : BK} {tw : Bool} {u : Value} {xs : List Int} {F : List Nat} (h : BkMem 77 hty bk s S) (hu : OwL tw H u xs F) (hcn : s.count + 1 ≤ 1000000000000) :
    CallsM prog 31 [.pointer (some ⟨bk, 0, none⟩), u].toArray B H (S ++ O) (KeptB bk s 1 F H O) := by
  obtain ⟨R, cs, Fs, hr, hH, hel, rfl, hsm, _⟩ := hu.h
  obtain rfl := hel.flat (by intro _ _ _ h; exact h.2)
  obtain ⟨p, c, rfl⟩ := hr.shape
  refine enter func31 rfl ntmps31 (l := [(0, _), (1, _)]) rfl rfl ?_
  refine x_region rfl ?_
  refine o_y (y_move rfl) ?_
  refine o_y (y_move rfl) ?_
  refine o_call fn171 rfl (keepNumber_ok h (by omega)) ?_
  rintro _ _ _ ⟨rfl, S2, rfl, m2⟩
  refine o_nil ?_
  with_reducible repeat (first | refine q_exit_then ?_ | refine q_exit_block ?_ | refine q_exit_pass rfl ?_)
  refine x_finN (fn := Go.Proofs.Tryz.f31) 0 (ret0 rfl ) ?_
  refine ⟨rfl, S2, [(0, _)], rfl, rfl, m2, ?_⟩
  rw [List.append_nil]
  exact Flat.one (kt := kt) (ks := ks) (kb := kb) hr hH hsm (by decide)
theorem bookSeals_ok {B : World} {H : HM} {S O : OL} {bk : Nat} {s : BK} {tw : Bool} {u : Value} {xs : List Seal} {F : List Nat} (h : BkMem 77 hty bk s S) (hu : OwL tw H u xs F) (hcn : s.count + 1 ≤ 1000000000000) :
    CallsM prog 58 [.pointer (some ⟨bk, 0, none⟩), u].toArray B H (S ++ O) (KeptB bk s 1 F H O) := by
  obtain ⟨R, cs, Fs, hr, hH, hel, rfl, hsm, _⟩ := hu.h
  obtain rfl := hel.flat (by intro _ _ _ h; exact h.2)
  obtain ⟨p, c, rfl⟩ := hr.shape
  refine enter func58 rfl ntmps58 (l := [(0, _), (1, _)]) rfl rfl ?_
  refine x_region rfl ?_
  refine o_y (y_move rfl) ?_
  refine o_y (y_move rfl) ?_
  refine o_call fn199 rfl (keepSeal_ok h (by omega)) ?_
  rintro _ _ _ ⟨rfl, S2, rfl, m2⟩
  refine o_nil ?_
  with_reducible repeat (first | refine q_exit_then ?_ | refine q_exit_block ?_ | refine q_exit_pass rfl ?_)
  refine x_finN (fn := Go.Proofs.Tryz.f58) 0 (ret0 rfl ) ?_
  refine ⟨rfl, S2, [(4, _)], rfl, rfl, m2, ?_⟩
  rw [List.append_nil]
  exact Flat.one (kt := kt) (ks := ks) (kb := kb) hr hH hsm (by decide)
theorem bookAdds_ok {B : World} {H : HM} {S O : OL} {bk : Nat} {s : BK} {tw : Bool} {u : Value} {xs : List AddE} {F : List Nat} (h : BkMem 77 hty bk s S) (hu : OwL tw H u xs F) (hcn : s.count + 1 ≤ 1000000000000) :
    CallsM prog 57 [.pointer (some ⟨bk, 0, none⟩), u].toArray B H (S ++ O) (KeptB bk s 1 F H O) := by
  obtain ⟨R, cs, Fs, hr, hH, hel, rfl, hsm, _⟩ := hu.h
  obtain rfl := hel.flat (by intro _ _ _ h; exact h.2)
  obtain ⟨p, c, rfl⟩ := hr.shape
  refine enter func57 rfl ntmps57 (l := [(0, _), (1, _)]) rfl rfl ?_
  refine x_region rfl ?_
  refine o_y (y_move rfl) ?_
  refine o_y (y_move rfl) ?_
  refine o_call fn198 rfl (keepAdd_ok h (by omega)) ?_
  rintro _ _ _ ⟨rfl, S2, rfl, m2⟩
  refine o_nil ?_
  with_reducible repeat (first | refine q_exit_then ?_ | refine q_exit_block ?_ | refine q_exit_pass rfl ?_)
  refine x_finN (fn := Go.Proofs.Tryz.f57) 0 (ret0 rfl ) ?_
  refine ⟨rfl, S2, [(6, _)], rfl, rfl, m2, ?_⟩
  rw [List.append_nil]
  exact Flat.one (kt := kt) (ks := ks) (kb := kb) hr hH hsm (by decide)
theorem bookJoins_ok {B : World} {H : HM} {S O : OL} {bk : Nat} {s : BK} {tw : Bool} {u : Value} {xs : List Join} {F : List Nat} (h : BkMem 77 hty bk s S) (hu : OwL tw H u xs F) (hcn : s.count + 1 ≤ 1000000000000) :
    CallsM prog 59 [.pointer (some ⟨bk, 0, none⟩), u].toArray B H (S ++ O) (KeptB bk s 1 F H O) := by
  obtain ⟨R, cs, Fs, hr, hH, hel, rfl, hsm, _⟩ := hu.h
  obtain rfl := hel.flat (by intro _ _ _ h; exact h.2)
  obtain ⟨p, c, rfl⟩ := hr.shape
  refine enter func59 rfl ntmps59 (l := [(0, _), (1, _)]) rfl rfl ?_
  refine x_region rfl ?_
  refine o_y (y_move rfl) ?_
  refine o_y (y_move rfl) ?_
  refine o_call fn200 rfl (keepJoin_ok h (by omega)) ?_
  rintro _ _ _ ⟨rfl, S2, rfl, m2⟩
  refine o_nil ?_
  with_reducible repeat (first | refine q_exit_then ?_ | refine q_exit_block ?_ | refine q_exit_pass rfl ?_)
  refine x_finN (fn := Go.Proofs.Tryz.f59) 0 (ret0 rfl ) ?_
  refine ⟨rfl, S2, [(7, _)], rfl, rfl, m2, ?_⟩
  rw [List.append_nil]
  exact Flat.one (kt := kt) (ks := ks) (kb := kb) hr hH hsm (by decide)
def nlNode (x : Node) : Nat := 1
theorem bookNode_ok {B : World} {H : HM} {S O : OL} {bk : Nat} {s : BK} {tw : Bool} {ds : List Value} {x : Node} {F : List Nat} (h : BkMem 77 hty bk s S) (hx : Own.ow tw H ds x F) (hcn : s.count + nlNode x ≤ 1000000000000) :
    CallsM prog 274 [.pointer (some ⟨bk, 0, none⟩), .agg ds.toArray].toArray B H (S ++ O) (KeptB bk s (nlNode x) F H O) := by
  refine CallsM.pick ?_
  unfold nlNode at hcn
  obtain ⟨u3, F3, rfl, h0, h1, h2, h3, rfl⟩ := hx
  refine enter func274 rfl ntmps274 (l := [(0, _), (1, _)]) rfl rfl ?_
  refine x_seq ?_
  refine x_region rfl ?_
  refine o_box rfl (cs := [_, _, _, _]) rfl (fun b3 => ?_)
  refine o_nil ?_
  refine x_perm List.perm_middle.symm ?_
  refine x_region rfl ?_
  refine o_y (y_move rfl) ?_
  refine o_y (y_fieldAddr fd127_3 ti24 (by decide) rfl) ?_
  refine o_y (y_loadO ti24 rfl inn rfl) ?_
  refine o_call fn31 rfl (bookNumbers_ok (O := _ :: O) h h3 (by omega)) ?_
  rintro _ _ _ ⟨rfl, S1, l1, rfl, e1, m1, f1⟩
  refine o_nil ?_
  with_reducible repeat (first | refine q_exit_then ?_ | refine q_exit_block ?_ | refine q_exit_pass rfl ?_)
  refine x_finN (fn := Go.Proofs.Tryz.f274) 0 (ret0 rfl ) ?_
  exact ⟨S1 ++ O, sub_mid _ _ _, rfl, S1, l1, rfl, e1, m1, f1⟩
def nlNodes (xs : List Node) : Nat := (xs.map nlNode).sum + 1
theorem bookNodes_ok {B : World} {H : HM} {S O : OL} {bk : Nat} {s : BK} {tw : Bool} {u : Value} {xs : List Node} {F : List Nat} (h : BkMem 77 hty bk s S) (hu : OwL tw H u xs F) (hcn : s.count + nlNodes xs ≤ 1000000000000) :
    CallsM prog 197 [.pointer (some ⟨bk, 0, none⟩), u].toArray B H (S ++ O) (KeptB bk s (nlNodes xs) F H O) := by
  have hle := hu.rdL.lenle
  unfold nlNodes at hcn
  obtain ⟨R, cs, Fs, hr, hH, hel, rfl, hsm, _⟩ := hu.h
  obtain ⟨p, c, rfl⟩ := hr.shape
  refine enter func197 rfl ntmps197 (l := [(0, _), (1, _)]) rfl rfl ?_
  refine x_seq ?_
  refine x_seq ?_
  refine x_region rfl ?_
  refine o_y (y_move rfl) ?_
  refine o_y (y_lenA underlying27 rfl) ?_
  refine o_y (y_move rfl) ?_
  refine o_nil ?_
  refine x_block ?_
  refine x_loopf (σ := Nat × OL × List (Nat × Value) × List Nat × List Nat) (fun s => [(7, .int .i64 (s.1 : Int)), (6, .int .i64 (xs.length : Int)), (1, .slice p xs.length c), (0, .pointer (some ⟨bk, 0, none⟩))]) (fun s => s.2.1 ++ O) (fun s2 => s2.1 ≤ xs.length ∧ BkMem 77 hty bk (s.adds s2.2.2.1) s2.2.1 ∧ Flat kt ks kb H s2.2.2.1 s2.2.2.2.1 ∧ Fs = s2.2.2.2.1 ++ s2.2.2.2.2 ∧ ElO tw H (cs.drop (s2.1 * 4)) (xs.drop s2.1) s2.2.2.2.2 ∧ s2.2.2.1.length = ((xs.take s2.1).map nlNode).sum) (fun s => xs.length - s.1) (0, S, [], [], Fs) ⟨by simp, h, Flat.nil, rfl, hel, rfl⟩ (.c rfl (.c rfl (.c rfl (.c rfl .n)))) rfl ?_
  rintro ⟨i, S', l, FA, FB⟩ ⟨i1, i2, i3, i4, i5, i6⟩
  simp only at i1 i2 i3 i4 i5 i6
  refine x_seq ?_
  refine x_region rfl ?_
  refine o_y (y_lss rfl rfl) ?_
  refine o_nil ?_
  refine x_seq ?_
  refine x_cond rfl (fun hc0 => ?_) (fun hc0 => ?_)
  · try simp only [kk] at hc0
    have hi : i < xs.length := by omega
    rw [List.drop_eq_getElem_cons hi] at i5
    obtain ⟨ds, C', Fk, FB, eC, rfl, ho, i5⟩ := i5.uncons
    have hso := sum_take_succ nlNode hi
    have hsl := sum_take_le nlNode xs (i + 1)
    have dl : ds.length = 4 := Rep.len (Own.ow_rd ho)
    have dw := Rep.one (Own.ow_rd ho)
    have aE : AtS H (S' ++ O) (.slice p xs.length c) (i * 4) ds := hr.atH hH (by omega) (drop_get eC)
    have ho' := ho
    obtain ⟨u3, G3, rfl, h0, h1, h2, h3, eG⟩ := ho
    refine x_skip ?_
    refine x_seq ?_
    refine x_block ?_
    refine x_seq ?_
    refine x_region rfl ?_
    refine o_y (y_move rfl) ?_
    refine o_y (y_assign rfl) ?_
    refine o_nil ?_
    refine x_region rfl ?_
    refine o_y (y_move rfl) ?_
    refine o_y (y_move rfl) ?_
    refine o_y (y_move rfl) ?_
    refine o_y (y_idxR hr i hi underlying27 ti127 rfl rfl rfl) ?_
    refine o_y (y_loadS ti127 rfl (by assumption) rfl (fun e => by cases e)) ?_
    refine o_call fn274 rfl (bookNode_ok i2 ho' (by rw [BK.adds_count]; omega)) ?_
    rintro _ _ _ ⟨rfl, S2, l2, rfl, e2, m2, f2⟩
    refine o_nil ?_
    refine x_region rfl ?_
    refine o_y (y_addN rfl rfl (by omega) (by omega)) ?_
    refine o_y (y_move rfl) ?_
    refine o_nil ?_
    exact ⟨(i + 1, S2, l ++ l2, FA ++ Fk, FB), 0, rfl, (.c rfl (.c rfl (.c rfl (.c rfl .n)))), rfl, ⟨by omega, by rw [BK.adds_append]; exact m2, i3.append f2, by rw [i4, List.append_assoc], by rw [Nat.succ_mul]; rw [drop_more eC dl]; exact i5, by rw [hso, List.length_append]; omega⟩, by simp only; omega⟩
  try simp only [kk] at hc0
  refine x_exit ?_
  have hil : i = xs.length := by omega
  subst hil
  rw [List.drop_length] at i5
  rw [List.take_length] at i6
  have := i5.none
  subst this
  refine x_region rfl ?_
  refine o_y (y_move rfl) ?_
  refine o_y (y_move rfl) ?_
  refine o_call fn275 rfl (keepNode_ok i2 (by rw [BK.adds_count]; omega)) ?_
  rintro _ _ _ ⟨rfl, S2, rfl, m2⟩
  refine o_nil ?_
  with_reducible repeat (first | refine q_exit_then ?_ | refine q_exit_block ?_ | refine q_exit_pass rfl ?_)
  refine x_finN (fn := Go.Proofs.Tryz.f197) 0 (ret0 rfl ) ?_
  refine ⟨rfl, S2, l ++ [(17, _)], rfl, by rw [List.length_append, i6]; rfl, by rw [BK.adds_append]; exact m2, ?_⟩
  exact Flat.perm (i3.append (Flat.one (kt := kt) (ks := ks) (kb := kb) hr hH hsm (by decide))) (perm_count fun a => by rw [i4]; simp only [List.count_append, List.append_nil]; omega)
theorem bookTree_ok {B : World} {H : HM} {S O : OL} {bk : Nat} {s : BK} {tw : Bool} {u : Value} {xs : List Node} {F : List Nat} (h : BkMem 77 hty bk s S) (hu : OwL tw H u xs F) (hcn : s.count + nlNodes xs ≤ 1000000000000) :
    CallsM prog 56 [.pointer (some ⟨bk, 0, none⟩), .agg #[u]].toArray B H (S ++ O) (KeptB bk s (nlNodes xs) F H O) := by
  refine CallsM.pick ?_
  refine enter func56 rfl ntmps56 (l := [(0, _), (1, _)]) rfl rfl ?_
  refine x_seq ?_
  refine x_region rfl ?_
  refine o_box rfl (cs := [_]) rfl (fun b3 => ?_)
  refine o_nil ?_
  refine x_perm List.perm_middle.symm ?_
  refine x_region rfl ?_
  refine o_y (y_move rfl) ?_
  refine o_y (y_fieldAddr fd29_0 ti27 (by decide) rfl) ?_
  refine o_y (y_loadO ti27 rfl inn rfl) ?_
  refine o_call fn197 rfl (bookNodes_ok (O := _ :: O) h hu hcn) ?_
  rintro _ _ _ ⟨rfl, S1, l1, rfl, e1, m1, f1⟩
  refine o_nil ?_
  with_reducible repeat (first | refine q_exit_then ?_ | refine q_exit_block ?_ | refine q_exit_pass rfl ?_)
  refine x_finN (fn := Go.Proofs.Tryz.f56) 0 (ret0 rfl ) ?_
  exact ⟨S1 ++ O, sub_mid _ _ _, rfl, S1, l1, rfl, e1, m1, f1⟩
def nlCommit (x : Commit) : Nat := nlNodes x.next_.nodes + 4
theorem bookCommit_ok {B : World} {H : HM} {S O : OL} {bk : Nat} {s : BK} {tw : Bool} {ds : List Value} {x : Commit} {F : List Nat} (h : BkMem 77 hty bk s S) (hx : Own.ow tw H ds x F) (hcn : s.count + nlCommit x ≤ 1000000000000) :
    CallsM prog 16 [.pointer (some ⟨bk, 0, none⟩), .agg ds.toArray].toArray B H (S ++ O) (KeptB bk s (nlCommit x) F H O) := by
  refine CallsM.pick ?_
  unfold nlCommit at hcn
  obtain ⟨u6, u7, u8, u9, u12, F6, F7, F8, F9, F12, rfl, h0, h1, h2, h3, h4, h5, h6, h7, h8, h9, h10, h11, h12, h13, rfl⟩ := hx
  refine enter func16 rfl ntmps16 (l := [(0, _), (1, _)]) rfl rfl ?_
  refine x_seq ?_
  refine x_region rfl ?_
  refine o_box rfl (cs := [_, _, _, _, _, _, _, _, _, _, _, _, _, _, _]) rfl (fun b3 => ?_)
  refine o_nil ?_
  refine x_seq ?_
  refine x_perm List.perm_middle.symm ?_
  refine x_region rfl ?_
  refine o_y (y_move rfl) ?_
  refine o_y (y_fieldAddr fd31_12 ti29 (by decide) rfl) ?_
  refine o_y (y_loadP ti29 rfl inn (cs := [_]) rfl rfl) ?_
  refine o_call fn56 rfl (bookTree_ok (O := _ :: O) h h11 (by omega)) ?_
  rintro _ _ _ ⟨rfl, S1, l1, rfl, e1, m1, f1⟩
  refine o_nil ?_
  refine x_seq ?_
  refine x_region rfl ?_
  refine o_y (y_move rfl) ?_
  refine o_y (y_fieldAddr fd31_6 ti23 (by decide) rfl) ?_
  refine o_y (y_loadO ti23 rfl inn rfl) ?_
  refine o_call fn57 rfl (bookAdds_ok (O := _ :: O) m1 h5 (by rw [BK.adds_count]; omega)) ?_
  rintro _ _ _ ⟨rfl, S2, l2, rfl, e2, m2, f2⟩
  refine o_nil ?_
  refine x_seq ?_
  refine x_region rfl ?_
  refine o_y (y_move rfl) ?_
  refine o_y (y_fieldAddr fd31_7 ti24 (by decide) rfl) ?_
  refine o_y (y_loadO ti24 rfl inn rfl) ?_
  refine o_call fn31 rfl (bookNumbers_ok (O := _ :: O) m2 h6 (by rw [BK.adds_count, BK.adds_count]; omega)) ?_
  rintro _ _ _ ⟨rfl, S3, l3, rfl, e3, m3, f3⟩
  refine o_nil ?_
  refine x_seq ?_
  refine x_region rfl ?_
  refine o_y (y_move rfl) ?_
  refine o_y (y_fieldAddr fd31_8 ti25 (by decide) rfl) ?_
  refine o_y (y_loadO ti25 rfl inn rfl) ?_
  refine o_call fn58 rfl (bookSeals_ok (O := _ :: O) m3 h7 (by rw [BK.adds_count, BK.adds_count, BK.adds_count]; omega)) ?_
  rintro _ _ _ ⟨rfl, S4, l4, rfl, e4, m4, f4⟩
  refine o_nil ?_
  refine x_region rfl ?_
  refine o_y (y_move rfl) ?_
  refine o_y (y_fieldAddr fd31_9 ti26 (by decide) rfl) ?_
  refine o_y (y_loadO ti26 rfl inn rfl) ?_
  refine o_call fn59 rfl (bookJoins_ok (O := _ :: O) m4 h8 (by rw [BK.adds_count, BK.adds_count, BK.adds_count, BK.adds_count]; omega)) ?_
  rintro _ _ _ ⟨rfl, S5, l5, rfl, e5, m5, f5⟩
  refine o_nil ?_
  with_reducible repeat (first | refine q_exit_then ?_ | refine q_exit_block ?_ | refine q_exit_pass rfl ?_)
  refine x_finN (fn := Go.Proofs.Tryz.f16) 0 (ret0 rfl ) ?_
  refine ⟨S5 ++ O, sub_mid _ _ _, rfl, S5, l1 ++ (l2 ++ (l3 ++ (l4 ++ (l5)))), rfl, by simp only [List.length_append]; unfold nlCommit; omega, by simp only [BK.adds_append]; exact m5, ?_⟩
  exact Flat.perm (f1.append (f2.append (f3.append (f4.append (f5))))) (perm_count fun a => by simp only [List.count_append]; omega)
def nlCommits (xs : List Commit) : Nat := (xs.map nlCommit).sum + 1
theorem bookCommits_ok {B : World} {H : HM} {S O : OL} {bk : Nat} {s : BK} {tw : Bool} {u : Value} {xs : List Commit} {F : List Nat} (h : BkMem 77 hty bk s S) (hu : OwL tw H u xs F) (hcn : s.count + nlCommits xs ≤ 1000000000000) :
    CallsM prog 196 [.pointer (some ⟨bk, 0, none⟩), u].toArray B H (S ++ O) (KeptB bk s (nlCommits xs) F H O) := by
  have hle := hu.rdL.lenle
  unfold nlCommits at hcn
  obtain ⟨R, cs, Fs, hr, hH, hel, rfl, hsm, _⟩ := hu.h
  obtain ⟨p, c, rfl⟩ := hr.shape
  refine enter func196 rfl ntmps196 (l := [(0, _), (1, _)]) rfl rfl ?_
  refine x_seq ?_
  refine x_seq ?_
  refine x_region rfl ?_
  refine o_y (y_move rfl) ?_
  refine o_y (y_lenA underlying93 rfl) ?_
  refine o_y (y_move rfl) ?_
  refine o_nil ?_
  refine x_block ?_
  refine x_loopf (σ := Nat × OL × List (Nat × Value) × List Nat × List Nat) (fun s => [(7, .int .i64 (s.1 : Int)), (6, .int .i64 (xs.length : Int)), (1, .slice p xs.length c), (0, .pointer (some ⟨bk, 0, none⟩))]) (fun s => s.2.1 ++ O) (fun s2 => s2.1 ≤ xs.length ∧ BkMem 77 hty bk (s.adds s2.2.2.1) s2.2.1 ∧ Flat kt ks kb H s2.2.2.1 s2.2.2.2.1 ∧ Fs = s2.2.2.2.1 ++ s2.2.2.2.2 ∧ ElO tw H (cs.drop (s2.1 * 15)) (xs.drop s2.1) s2.2.2.2.2 ∧ s2.2.2.1.length = ((xs.take s2.1).map nlCommit).sum) (fun s => xs.length - s.1) (0, S, [], [], Fs) ⟨by simp, h, Flat.nil, rfl, hel, rfl⟩ (.c rfl (.c rfl (.c rfl (.c rfl .n)))) rfl ?_
  rintro ⟨i, S', l, FA, FB⟩ ⟨i1, i2, i3, i4, i5, i6⟩
  simp only at i1 i2 i3 i4 i5 i6
  refine x_seq ?_
  refine x_region rfl ?_
  refine o_y (y_lss rfl rfl) ?_
  refine o_nil ?_
  refine x_seq ?_
  refine x_cond rfl (fun hc0 => ?_) (fun hc0 => ?_)
  · try simp only [kk] at hc0
    have hi : i < xs.length := by omega
    rw [List.drop_eq_getElem_cons hi] at i5
    obtain ⟨ds, C', Fk, FB, eC, rfl, ho, i5⟩ := i5.uncons
    have hso := sum_take_succ nlCommit hi
    have hsl := sum_take_le nlCommit xs (i + 1)
    have dl : ds.length = 15 := Rep.len (Own.ow_rd ho)
    have dw := Rep.one (Own.ow_rd ho)
    have aE : AtS H (S' ++ O) (.slice p xs.length c) (i * 15) ds := hr.atH hH (by omega) (drop_get eC)
    have ho' := ho
    obtain ⟨u6, u7, u8, u9, u12, G6, G7, G8, G9, G12, rfl, h0, h1, h2, h3, h4, h5, h6, h7, h8, h9, h10, h11, h12, h13, eG⟩ := ho
    refine x_skip ?_
    refine x_seq ?_
    refine x_block ?_
    refine x_seq ?_
    refine x_region rfl ?_
    refine o_y (y_move rfl) ?_
    refine o_y (y_assign rfl) ?_
    refine o_nil ?_
    refine x_region rfl ?_
    refine o_y (y_move rfl) ?_
    refine o_y (y_move rfl) ?_
    refine o_y (y_move rfl) ?_
    refine o_y (y_idxR hr i hi underlying93 ti31 rfl rfl rfl) ?_
    refine o_y (y_loadS ti31 rfl (by assumption) rfl (fun e => by cases e)) ?_
    refine o_call fn16 rfl (bookCommit_ok i2 ho' (by rw [BK.adds_count]; omega)) ?_
    rintro _ _ _ ⟨rfl, S2, l2, rfl, e2, m2, f2⟩
    refine o_nil ?_
    refine x_region rfl ?_
    refine o_y (y_addN rfl rfl (by omega) (by omega)) ?_
    refine o_y (y_move rfl) ?_
    refine o_nil ?_
    exact ⟨(i + 1, S2, l ++ l2, FA ++ Fk, FB), 0, rfl, (.c rfl (.c rfl (.c rfl (.c rfl .n)))), rfl, ⟨by omega, by rw [BK.adds_append]; exact m2, i3.append f2, by rw [i4, List.append_assoc], by rw [Nat.succ_mul]; rw [drop_more eC dl]; exact i5, by rw [hso, List.length_append]; omega⟩, by simp only; omega⟩
  try simp only [kk] at hc0
  refine x_exit ?_
  have hil : i = xs.length := by omega
  subst hil
  rw [List.drop_length] at i5
  rw [List.take_length] at i6
  have := i5.none
  subst this
  refine x_region rfl ?_
  refine o_y (y_move rfl) ?_
  refine o_y (y_move rfl) ?_
  refine o_call fn273 rfl (keepCommit_ok i2 (by rw [BK.adds_count]; omega)) ?_
  rintro _ _ _ ⟨rfl, S2, rfl, m2⟩
  refine o_nil ?_
  with_reducible repeat (first | refine q_exit_then ?_ | refine q_exit_block ?_ | refine q_exit_pass rfl ?_)
  refine x_finN (fn := Go.Proofs.Tryz.f196) 0 (ret0 rfl ) ?_
  refine ⟨rfl, S2, l ++ [(19, _)], rfl, by rw [List.length_append, i6]; rfl, by rw [BK.adds_append]; exact m2, ?_⟩
  exact Flat.perm (i3.append (Flat.one (kt := kt) (ks := ks) (kb := kb) hr hH hsm (by decide))) (perm_count fun a => by rw [i4]; simp only [List.count_append, List.append_nil]; omega)
def nlLog (x : Log) : Nat := nlCommits x.commits
theorem bookLog_ok {B : World} {H : HM} {S O : OL} {bk : Nat} {s : BK} {tw : Bool} {ds : List Value} {x : Log} {F : List Nat} (h : BkMem 77 hty bk s S) (hx : Own.ow tw H ds x F) (hcn : s.count + nlLog x ≤ 1000000000000) :
    CallsM prog 54 [.pointer (some ⟨bk, 0, none⟩), .agg ds.toArray].toArray B H (S ++ O) (KeptB bk s (nlLog x) F H O) := by
  refine CallsM.pick ?_
  unfold nlLog at hcn
  obtain ⟨u1, F1, rfl, h0, h1, rfl⟩ := hx
  refine enter func54 rfl ntmps54 (l := [(0, _), (1, _)]) rfl rfl ?_
  refine x_seq ?_
  refine x_region rfl ?_
  refine o_box rfl (cs := [_, _]) rfl (fun b3 => ?_)
  refine o_nil ?_
  refine x_perm List.perm_middle.symm ?_
  refine x_region rfl ?_
  refine o_y (y_move rfl) ?_
  refine o_y (y_fieldAddr fd95_1 ti93 (by decide) rfl) ?_
  refine o_y (y_loadO ti93 rfl inn rfl) ?_
  refine o_call fn196 rfl (bookCommits_ok (O := _ :: O) h h1 (by omega)) ?_
  rintro _ _ _ ⟨rfl, S1, l1, rfl, e1, m1, f1⟩
  refine o_nil ?_
  with_reducible repeat (first | refine q_exit_then ?_ | refine q_exit_block ?_ | refine q_exit_pass rfl ?_)
  refine x_finN (fn := Go.Proofs.Tryz.f54) 0 (ret0 rfl ) ?_
  exact ⟨S1 ++ O, sub_mid _ _ _, rfl, S1, l1, rfl, e1, m1, f1⟩
def nlLogs (xs : List Log) : Nat := (xs.map nlLog).sum + 1
theorem bookLogs_ok {B : World} {H : HM} {S O : OL} {bk : Nat} {s : BK} {tw : Bool} {u : Value} {xs : List Log} {F : List Nat} (h : BkMem 77 hty bk s S) (hu : OwL tw H u xs F) (hcn : s.count + nlLogs xs ≤ 1000000000000) :
    CallsM prog 15 [.pointer (some ⟨bk, 0, none⟩), u].toArray B H (S ++ O) (KeptB bk s (nlLogs xs) F H O) := by
  have hle := hu.rdL.lenle
  unfold nlLogs at hcn
  obtain ⟨R, cs, Fs, hr, hH, hel, rfl, hsm, _⟩ := hu.h
  obtain ⟨p, c, rfl⟩ := hr.shape
  refine enter func15 rfl ntmps15 (l := [(0, _), (1, _)]) rfl rfl ?_
  refine x_seq ?_
  refine x_seq ?_
  refine x_region rfl ?_
  refine o_y (y_move rfl) ?_
  refine o_y (y_lenA underlying22 rfl) ?_
  refine o_y (y_move rfl) ?_
  refine o_nil ?_
  refine x_block ?_
  refine x_loopf (σ := Nat × OL × List (Nat × Value) × List Nat × List Nat) (fun s => [(7, .int .i64 (s.1 : Int)), (6, .int .i64 (xs.length : Int)), (1, .slice p xs.length c), (0, .pointer (some ⟨bk, 0, none⟩))]) (fun s => s.2.1 ++ O) (fun s2 => s2.1 ≤ xs.length ∧ BkMem 77 hty bk (s.adds s2.2.2.1) s2.2.1 ∧ Flat kt ks kb H s2.2.2.1 s2.2.2.2.1 ∧ Fs = s2.2.2.2.1 ++ s2.2.2.2.2 ∧ ElO tw H (cs.drop (s2.1 * 2)) (xs.drop s2.1) s2.2.2.2.2 ∧ s2.2.2.1.length = ((xs.take s2.1).map nlLog).sum) (fun s => xs.length - s.1) (0, S, [], [], Fs) ⟨by simp, h, Flat.nil, rfl, hel, rfl⟩ (.c rfl (.c rfl (.c rfl (.c rfl .n)))) rfl ?_
  rintro ⟨i, S', l, FA, FB⟩ ⟨i1, i2, i3, i4, i5, i6⟩
  simp only at i1 i2 i3 i4 i5 i6
  refine x_seq ?_
  refine x_region rfl ?_
  refine o_y (y_lss rfl rfl) ?_
  refine o_nil ?_
  refine x_seq ?_
  refine x_cond rfl (fun hc0 => ?_) (fun hc0 => ?_)
  · try simp only [kk] at hc0
    have hi : i < xs.length := by omega
    rw [List.drop_eq_getElem_cons hi] at i5
    obtain ⟨ds, C', Fk, FB, eC, rfl, ho, i5⟩ := i5.uncons
    have hso := sum_take_succ nlLog hi
    have hsl := sum_take_le nlLog xs (i + 1)
    have dl : ds.length = 2 := Rep.len (Own.ow_rd ho)
    have dw := Rep.one (Own.ow_rd ho)
    have aE : AtS H (S' ++ O) (.slice p xs.length c) (i * 2) ds := hr.atH hH (by omega) (drop_get eC)
    have ho' := ho
    obtain ⟨u1, G1, rfl, h0, h1, eG⟩ := ho
    refine x_skip ?_
    refine x_seq ?_
    refine x_block ?_
    refine x_seq ?_
    refine x_region rfl ?_
    refine o_y (y_move rfl) ?_
    refine o_y (y_assign rfl) ?_
    refine o_nil ?_
    refine x_region rfl ?_
    refine o_y (y_move rfl) ?_
    refine o_y (y_move rfl) ?_
    refine o_y (y_move rfl) ?_
    refine o_y (y_idxR hr i hi underlying22 ti95 rfl rfl rfl) ?_
    refine o_y (y_loadS ti95 rfl (by assumption) rfl (fun e => by cases e)) ?_
    refine o_call fn54 rfl (bookLog_ok i2 ho' (by rw [BK.adds_count]; omega)) ?_
    rintro _ _ _ ⟨rfl, S2, l2, rfl, e2, m2, f2⟩
    refine o_nil ?_
    refine x_region rfl ?_
    refine o_y (y_addN rfl rfl (by omega) (by omega)) ?_
    refine o_y (y_move rfl) ?_
    refine o_nil ?_
    exact ⟨(i + 1, S2, l ++ l2, FA ++ Fk, FB), 0, rfl, (.c rfl (.c rfl (.c rfl (.c rfl .n)))), rfl, ⟨by omega, by rw [BK.adds_append]; exact m2, i3.append f2, by rw [i4, List.append_assoc], by rw [Nat.succ_mul]; rw [drop_more eC dl]; exact i5, by rw [hso, List.length_append]; omega⟩, by simp only; omega⟩
  try simp only [kk] at hc0
  refine x_exit ?_
  have hil : i = xs.length := by omega
  subst hil
  rw [List.drop_length] at i5
  rw [List.take_length] at i6
  have := i5.none
  subst this
  refine x_region rfl ?_
  refine o_y (y_move rfl) ?_
  refine o_y (y_move rfl) ?_
  refine o_call fn55 rfl (keepLog_ok i2 (by rw [BK.adds_count]; omega)) ?_
  rintro _ _ _ ⟨rfl, S2, rfl, m2⟩
  refine o_nil ?_
  with_reducible repeat (first | refine q_exit_then ?_ | refine q_exit_block ?_ | refine q_exit_pass rfl ?_)
  refine x_finN (fn := Go.Proofs.Tryz.f15) 0 (ret0 rfl ) ?_
  refine ⟨rfl, S2, l ++ [(26, _)], rfl, by rw [List.length_append, i6]; rfl, by rw [BK.adds_append]; exact m2, ?_⟩
  exact Flat.perm (i3.append (Flat.one (kt := kt) (ks := ks) (kb := kb) hr hH hsm (by decide))) (perm_count fun a => by rw [i4]; simp only [List.count_append, List.append_nil]; omega)
end Go.Ph
set_option linter.unusedVariables false
set_option linter.unusedSimpArgs false
set_option maxRecDepth 100000
namespace Go.Ph
open Go Go.RowKit Go.Proofs.YtmgnagpgnoikfaaGreatDoor Go.Proofs.Tryz
theorem bits_ok {B : World} {H : HM} {O : OL} {bk : Nat} {C : List Value} {k : Int} (hC : C[1]? = some (.slice none 0 0)) (hi : In O bk (cl C 77)) : CallsM prog 126 [.pointer (some ⟨bk, 0, none⟩), .int .u64 k].toArray B H O (Same (.bool true) H O) := by
  refine enter func126 rfl ntmps126 (l := [(0, _), (1, _)]) rfl rfl ?_
  refine x_seq ?_
  refine x_region rfl ?_
  refine o_y (y_assign rfl) ?_
  refine o_nil ?_
  refine x_seq ?_
  refine x_seq ?_
  refine x_region rfl ?_
  refine o_y (y_move rfl) ?_
  refine o_y (y_nilCheck rfl) ?_
  refine o_y (y_fieldAddr fd77_1 ti42 (by decide) rfl) ?_
  refine o_y (y_loadO ti42 rfl hi hC) ?_
  refine o_y (y_lenA underlying42 rfl) ?_
  refine o_y (y_move rfl) ?_
  refine o_nil ?_
  refine x_block ?_
  refine x_loopf (σ := Unit) (fun s => [(19, .int .i64 0), (18, .int .i64 0), (0, .pointer (some ⟨bk, 0, none⟩))]) (fun s => O) (fun s => True) (fun s => 0) () trivial (.c rfl (.c rfl (.c rfl .n))) rfl ?_
  rintro ⟨⟩ _
  refine x_seq ?_
  refine x_region rfl ?_
  refine o_y (y_lss rfl rfl) ?_
  refine o_nil ?_
  refine x_seq ?_
  refine x_cond rfl (fun hc0 => ?_) (fun hc0 => ?_)
  · try simp only [kk] at hc0
    exfalso; omega
  try simp only [kk] at hc0
  refine x_exit ?_
  refine x_seq ?_
  refine x_seq ?_
  refine x_region rfl ?_
  refine o_y (y_move rfl) ?_
  refine o_y (y_nilCheck rfl) ?_
  refine o_y (y_fieldAddr fd77_1 ti42 (by decide) rfl) ?_
  refine o_y (y_loadO ti42 rfl hi hC) ?_
  refine o_y (y_lenA underlying42 rfl) ?_
  refine o_y (y_move rfl) ?_
  refine o_nil ?_
  refine x_block ?_
  refine x_loopf (σ := Unit) (fun s => [(44, .int .i64 0), (43, .int .i64 0), (0, .pointer (some ⟨bk, 0, none⟩))]) (fun s => O) (fun s => True) (fun s => 0) () trivial (.c rfl (.c rfl (.c rfl .n))) rfl ?_
  rintro ⟨⟩ _
  refine x_seq ?_
  refine x_region rfl ?_
  refine o_y (y_lss rfl rfl) ?_
  refine o_nil ?_
  refine x_seq ?_
  refine x_cond rfl (fun hc2 => ?_) (fun hc2 => ?_)
  · try simp only [kk] at hc2
    exfalso; omega
  try simp only [kk] at hc2
  refine x_exit ?_
  refine x_seq ?_
  refine x_seq ?_
  refine x_region rfl ?_
  refine o_y (y_move rfl) ?_
  refine o_y (y_nilCheck rfl) ?_
  refine o_y (y_fieldAddr fd77_1 ti42 (by decide) rfl) ?_
  refine o_y (y_loadO ti42 rfl hi hC) ?_
  refine o_y (y_lenA underlying42 rfl) ?_
  refine o_y (y_move rfl) ?_
  refine o_nil ?_
  refine x_block ?_
  refine x_loopf (σ := Unit) (fun s => [(77, .int .i64 0), (76, .int .i64 0), (0, .pointer (some ⟨bk, 0, none⟩))]) (fun s => O) (fun s => True) (fun s => 0) () trivial (.c rfl (.c rfl (.c rfl .n))) rfl ?_
  rintro ⟨⟩ _
  refine x_seq ?_
  refine x_region rfl ?_
  refine o_y (y_lss rfl rfl) ?_
  refine o_nil ?_
  refine x_seq ?_
  refine x_cond rfl (fun hc4 => ?_) (fun hc4 => ?_)
  · try simp only [kk] at hc4
    exfalso; omega
  try simp only [kk] at hc4
  refine x_exit ?_
  refine x_seq ?_
  refine x_region rfl ?_
  refine o_y (y_assign rfl) ?_
  refine o_nil ?_
  refine x_ret ?_
  refine x_fin 0 (ret1 rfl rfl) ?_
  exact ⟨rfl, rfl, rfl⟩
theorem u64_next (k : Nat) (hk : k < 8) : IntKind.u64.wrap ((k : Int) + 1) = ((k + 1 : Nat) : Int) := by
  unfold IntKind.wrap
  simp [IntKind.bits, IntKind.signed]
  omega
theorem apart_ok {B : World} {H : HM} {O : OL} {bk : Nat} {C : List Value} {vNumber : Value} {lNumber : List (Value × Nat)} {RvNumber RsNumber : OL} {vSeal : Value} {lSeal : List (Value × Nat)} {RvSeal RsSeal : OL} {vAdd : Value} {lAdd : List (Value × Nat)} {RvAdd RsAdd : OL} {vJoin : Value} {lJoin : List (Value × Nat)} {RvJoin RsJoin : OL} {vNode : Value} {lNode : List (Value × Nat)} {RvNode RsNode : OL} {vCommit : Value} {lCommit : List (Value × Nat)} {RvCommit RsCommit : OL} {vLog : Value} {lLog : List (Value × Nat)} {RvLog RsLog : OL} (cflags : C[1]? = some (.slice none 0 0)) (cNumber : C[2]? = some vNumber) (rNumber : Row vNumber lNumber.length (heldCells lNumber) 157 2 RvNumber) (hNumber : Held 3 1 8 Any3 140737488351232 lNumber RsNumber) (mNumber : lNumber.length ≤ 1000000000000) (cSeal : C[6]? = some vSeal) (rSeal : Row vSeal lSeal.length (heldCells lSeal) 178 2 RvSeal) (hSeal : Held 135 3 24 Any3 140737488351232 lSeal RsSeal) (mSeal : lSeal.length ≤ 1000000000000) (cAdd : C[8]? = some vAdd) (rAdd : Row vAdd lAdd.length (heldCells lAdd) 188 2 RvAdd) (hAdd : Held 131 3 24 Any3 140737488351232 lAdd RsAdd) (mAdd : lAdd.length ≤ 1000000000000) (cJoin : C[9]? = some vJoin) (rJoin : Row vJoin lJoin.length (heldCells lJoin) 191 2 RvJoin) (hJoin : Held 138 2 16 Any3 140737488351232 lJoin RsJoin) (mJoin : lJoin.length ≤ 1000000000000) (cNode : C[19]? = some vNode) (rNode : Row vNode lNode.length (heldCells lNode) 258 2 RvNode) (hNode : Held 127 4 48 Any3 140737488351232 lNode RsNode) (mNode : lNode.length ≤ 1000000000000) (cCommit : C[21]? = some vCommit) (rCommit : Row vCommit lCommit.length (heldCells lCommit) 266 2 RvCommit) (hCommit : Held 31 15 200 Any3 140737488351232 lCommit RsCommit) (mCommit : lCommit.length ≤ 1000000000000) (cLog : C[28]? = some vLog) (rLog : Row vLog lLog.length (heldCells lLog) 153 2 RvLog) (hLog : Held 95 2 32 Any3 140737488351232 lLog RsLog) (mLog : lLog.length ≤ 1000000000000) (cWide : C[3]? = some (.slice none 0 0)) (cText : C[4]? = some (.slice none 0 0)) (cTerm : C[5]? = some (.slice none 0 0)) (cKey : C[7]? = some (.slice none 0 0)) (cPast : C[10]? = some (.slice none 0 0)) (cCard : C[11]? = some (.slice none 0 0)) (cGot : C[12]? = some (.slice none 0 0)) (cNote : C[13]? = some (.slice none 0 0)) (cAnswer : C[14]? = some (.slice none 0 0)) (cOutcome : C[15]? = some (.slice none 0 0)) (cFinding : C[16]? = some (.slice none 0 0)) (cStep : C[17]? = some (.slice none 0 0)) (cWrite : C[18]? = some (.slice none 0 0)) (cTree : C[20]? = some (.slice none 0 0)) (cState : C[22]? = some (.slice none 0 0)) (cFace : C[23]? = some (.slice none 0 0)) (cRequest : C[24]? = some (.slice none 0 0)) (cMail : C[25]? = some (.slice none 0 0)) (cPending : C[26]? = some (.slice none 0 0)) (cFeed : C[27]? = some (.slice none 0 0)) (cBox : C[29]? = some (.slice none 0 0)) (cEarly : C[30]? = some (.slice none 0 0)) (cLink : C[31]? = some (.slice none 0 0)) (cPacket : C[32]? = some (.slice none 0 0)) (cTermRow : C[33]? = some (.slice none 0 0)) (cNumberRow : C[34]? = some (.slice none 0 0)) :
    CallsM prog 17 [.pointer (some ⟨bk, 0, none⟩)].toArray B H ((bk, cl C 77) :: (RvNumber ++ (RsNumber ++ (RvSeal ++ (RsSeal ++ (RvAdd ++ (RsAdd ++ (RvJoin ++ (RsJoin ++ (RvNode ++ (RsNode ++ (RvCommit ++ (RsCommit ++ (RvLog ++ (RsLog ++ (O)))))))))))))))) (Same (.bool true) H O) := by
  refine CallsM.pick ?_
  refine enter func17 rfl ntmps17 (l := [(0, _)]) rfl rfl ?_
  refine x_seq ?_
  refine x_region rfl ?_
  refine o_y (y_assign rfl) ?_
  refine o_nil ?_
  refine x_seq ?_
  refine x_region rfl ?_
  refine o_y (y_move rfl) ?_
  refine o_call fn60 rfl (CallsM.perm (List.Perm.refl _) (fillNumber_ok (O := RvSeal ++ (RsSeal ++ (RvAdd ++ (RsAdd ++ (RvJoin ++ (RsJoin ++ (RvNode ++ (RsNode ++ (RvCommit ++ (RsCommit ++ (RvLog ++ (RsLog ++ (O))))))))))))) cNumber rNumber hNumber (Nat.le_refl _) mNumber)) ?_
  rintro _ _ _ ⟨rfl, RsNumber1, rfl, hNumber1⟩
  refine o_nil ?_
  refine x_seq ?_
  refine x_region rfl ?_
  refine o_y (y_move rfl) ?_
  refine o_call fn61 rfl (fillWide_no cWide .z) ?_
  rintro _ _ _ ⟨rfl, rfl, rfl⟩
  refine o_nil ?_
  refine x_seq ?_
  refine x_region rfl ?_
  refine o_y (y_move rfl) ?_
  refine o_call fn62 rfl (fillText_no cText .z) ?_
  rintro _ _ _ ⟨rfl, rfl, rfl⟩
  refine o_nil ?_
  refine x_seq ?_
  refine x_region rfl ?_
  refine o_y (y_move rfl) ?_
  refine o_call fn63 rfl (fillTerm_no cTerm .z) ?_
  rintro _ _ _ ⟨rfl, rfl, rfl⟩
  refine o_nil ?_
  refine x_seq ?_
  refine x_region rfl ?_
  refine o_y (y_move rfl) ?_
  refine o_call fn64 rfl (CallsM.perm (List.Perm.cons _ (rot (A := RvNumber ++ (RsNumber1)) (X := RvSeal ++ (RsSeal ++ (RvAdd ++ (RsAdd ++ (RvJoin ++ (RsJoin ++ (RvNode ++ (RsNode ++ (RvCommit ++ (RsCommit ++ (RvLog ++ (RsLog ++ (O))))))))))))) (by simp only [List.append_assoc]) (by simp only [List.append_assoc]))) (fillSeal_ok (O := RvAdd ++ (RsAdd ++ (RvJoin ++ (RsJoin ++ (RvNode ++ (RsNode ++ (RvCommit ++ (RsCommit ++ (RvLog ++ (RsLog ++ (O ++ (RvNumber ++ (RsNumber1))))))))))))) cSeal rSeal hSeal (Nat.le_refl _) mSeal)) ?_
  rintro _ _ _ ⟨rfl, RsSeal1, rfl, hSeal1⟩
  refine o_nil ?_
  refine x_seq ?_
  refine x_region rfl ?_
  refine o_y (y_move rfl) ?_
  refine o_call fn65 rfl (fillKey_no cKey .z) ?_
  rintro _ _ _ ⟨rfl, rfl, rfl⟩
  refine o_nil ?_
  refine x_seq ?_
  refine x_region rfl ?_
  refine o_y (y_move rfl) ?_
  refine o_call fn66 rfl (CallsM.perm (List.Perm.cons _ (rot (A := RvSeal ++ (RsSeal1)) (X := RvAdd ++ (RsAdd ++ (RvJoin ++ (RsJoin ++ (RvNode ++ (RsNode ++ (RvCommit ++ (RsCommit ++ (RvLog ++ (RsLog ++ (O ++ (RvNumber ++ (RsNumber1))))))))))))) (by simp only [List.append_assoc]) (by simp only [List.append_assoc]))) (fillAdd_ok (O := RvJoin ++ (RsJoin ++ (RvNode ++ (RsNode ++ (RvCommit ++ (RsCommit ++ (RvLog ++ (RsLog ++ (O ++ (RvNumber ++ (RsNumber1 ++ (RvSeal ++ (RsSeal1))))))))))))) cAdd rAdd hAdd (Nat.le_refl _) mAdd)) ?_
  rintro _ _ _ ⟨rfl, RsAdd1, rfl, hAdd1⟩
  refine o_nil ?_
  refine x_seq ?_
  refine x_region rfl ?_
  refine o_y (y_move rfl) ?_
  refine o_call fn67 rfl (CallsM.perm (List.Perm.cons _ (rot (A := RvAdd ++ (RsAdd1)) (X := RvJoin ++ (RsJoin ++ (RvNode ++ (RsNode ++ (RvCommit ++ (RsCommit ++ (RvLog ++ (RsLog ++ (O ++ (RvNumber ++ (RsNumber1 ++ (RvSeal ++ (RsSeal1))))))))))))) (by simp only [List.append_assoc]) (by simp only [List.append_assoc]))) (fillJoin_ok (O := RvNode ++ (RsNode ++ (RvCommit ++ (RsCommit ++ (RvLog ++ (RsLog ++ (O ++ (RvNumber ++ (RsNumber1 ++ (RvSeal ++ (RsSeal1 ++ (RvAdd ++ (RsAdd1))))))))))))) cJoin rJoin hJoin (Nat.le_refl _) mJoin)) ?_
  rintro _ _ _ ⟨rfl, RsJoin1, rfl, hJoin1⟩
  refine o_nil ?_
  refine x_seq ?_
  refine x_region rfl ?_
  refine o_y (y_move rfl) ?_
  refine o_call fn68 rfl (fillPast_no cPast .z) ?_
  rintro _ _ _ ⟨rfl, rfl, rfl⟩
  refine o_nil ?_
  refine x_seq ?_
  refine x_region rfl ?_
  refine o_y (y_move rfl) ?_
  refine o_call fn69 rfl (fillCard_no cCard .z) ?_
  rintro _ _ _ ⟨rfl, rfl, rfl⟩
  refine o_nil ?_
  refine x_seq ?_
  refine x_region rfl ?_
  refine o_y (y_move rfl) ?_
  refine o_call fn70 rfl (fillGot_no cGot .z) ?_
  rintro _ _ _ ⟨rfl, rfl, rfl⟩
  refine o_nil ?_
  refine x_seq ?_
  refine x_region rfl ?_
  refine o_y (y_move rfl) ?_
  refine o_call fn71 rfl (fillNote_no cNote .z) ?_
  rintro _ _ _ ⟨rfl, rfl, rfl⟩
  refine o_nil ?_
  refine x_seq ?_
  refine x_region rfl ?_
  refine o_y (y_move rfl) ?_
  refine o_call fn72 rfl (fillAnswer_no cAnswer .z) ?_
  rintro _ _ _ ⟨rfl, rfl, rfl⟩
  refine o_nil ?_
  refine x_seq ?_
  refine x_region rfl ?_
  refine o_y (y_move rfl) ?_
  refine o_call fn73 rfl (fillOutcome_no cOutcome .z) ?_
  rintro _ _ _ ⟨rfl, rfl, rfl⟩
  refine o_nil ?_
  refine x_seq ?_
  refine x_region rfl ?_
  refine o_y (y_move rfl) ?_
  refine o_call fn74 rfl (fillFinding_no cFinding .z) ?_
  rintro _ _ _ ⟨rfl, rfl, rfl⟩
  refine o_nil ?_
  refine x_seq ?_
  refine x_region rfl ?_
  refine o_y (y_move rfl) ?_
  refine o_call fn75 rfl (fillStep_no cStep .z) ?_
  rintro _ _ _ ⟨rfl, rfl, rfl⟩
  refine o_nil ?_
  refine x_seq ?_
  refine x_region rfl ?_
  refine o_y (y_move rfl) ?_
  refine o_call fn76 rfl (fillWrite_no cWrite .z) ?_
  rintro _ _ _ ⟨rfl, rfl, rfl⟩
  refine o_nil ?_
  refine x_seq ?_
  refine x_region rfl ?_
  refine o_y (y_move rfl) ?_
  refine o_call fn77 rfl (CallsM.perm (List.Perm.cons _ (rot (A := RvJoin ++ (RsJoin1)) (X := RvNode ++ (RsNode ++ (RvCommit ++ (RsCommit ++ (RvLog ++ (RsLog ++ (O ++ (RvNumber ++ (RsNumber1 ++ (RvSeal ++ (RsSeal1 ++ (RvAdd ++ (RsAdd1))))))))))))) (by simp only [List.append_assoc]) (by simp only [List.append_assoc]))) (fillNode_ok (O := RvCommit ++ (RsCommit ++ (RvLog ++ (RsLog ++ (O ++ (RvNumber ++ (RsNumber1 ++ (RvSeal ++ (RsSeal1 ++ (RvAdd ++ (RsAdd1 ++ (RvJoin ++ (RsJoin1))))))))))))) cNode rNode hNode (Nat.le_refl _) mNode)) ?_
  rintro _ _ _ ⟨rfl, RsNode1, rfl, hNode1⟩
  refine o_nil ?_
  refine x_seq ?_
  refine x_region rfl ?_
  refine o_y (y_move rfl) ?_
  refine o_call fn78 rfl (fillTree_no cTree .z) ?_
  rintro _ _ _ ⟨rfl, rfl, rfl⟩
  refine o_nil ?_
  refine x_seq ?_
  refine x_region rfl ?_
  refine o_y (y_move rfl) ?_
  refine o_call fn79 rfl (CallsM.perm (List.Perm.cons _ (rot (A := RvNode ++ (RsNode1)) (X := RvCommit ++ (RsCommit ++ (RvLog ++ (RsLog ++ (O ++ (RvNumber ++ (RsNumber1 ++ (RvSeal ++ (RsSeal1 ++ (RvAdd ++ (RsAdd1 ++ (RvJoin ++ (RsJoin1))))))))))))) (by simp only [List.append_assoc]) (by simp only [List.append_assoc]))) (fillCommit_ok (O := RvLog ++ (RsLog ++ (O ++ (RvNumber ++ (RsNumber1 ++ (RvSeal ++ (RsSeal1 ++ (RvAdd ++ (RsAdd1 ++ (RvJoin ++ (RsJoin1 ++ (RvNode ++ (RsNode1))))))))))))) cCommit rCommit hCommit (Nat.le_refl _) mCommit)) ?_
  rintro _ _ _ ⟨rfl, RsCommit1, rfl, hCommit1⟩
  refine o_nil ?_
  refine x_seq ?_
  refine x_region rfl ?_
  refine o_y (y_move rfl) ?_
  refine o_call fn80 rfl (fillState_no cState .z) ?_
  rintro _ _ _ ⟨rfl, rfl, rfl⟩
  refine o_nil ?_
  refine x_seq ?_
  refine x_region rfl ?_
  refine o_y (y_move rfl) ?_
  refine o_call fn81 rfl (fillFace_no cFace .z) ?_
  rintro _ _ _ ⟨rfl, rfl, rfl⟩
  refine o_nil ?_
  refine x_seq ?_
  refine x_region rfl ?_
  refine o_y (y_move rfl) ?_
  refine o_call fn82 rfl (fillRequest_no cRequest .z) ?_
  rintro _ _ _ ⟨rfl, rfl, rfl⟩
  refine o_nil ?_
  refine x_seq ?_
  refine x_region rfl ?_
  refine o_y (y_move rfl) ?_
  refine o_call fn83 rfl (fillMail_no cMail .z) ?_
  rintro _ _ _ ⟨rfl, rfl, rfl⟩
  refine o_nil ?_
  refine x_seq ?_
  refine x_region rfl ?_
  refine o_y (y_move rfl) ?_
  refine o_call fn84 rfl (fillPending_no cPending .z) ?_
  rintro _ _ _ ⟨rfl, rfl, rfl⟩
  refine o_nil ?_
  refine x_seq ?_
  refine x_region rfl ?_
  refine o_y (y_move rfl) ?_
  refine o_call fn85 rfl (fillFeed_no cFeed .z) ?_
  rintro _ _ _ ⟨rfl, rfl, rfl⟩
  refine o_nil ?_
  refine x_seq ?_
  refine x_region rfl ?_
  refine o_y (y_move rfl) ?_
  refine o_call fn86 rfl (CallsM.perm (List.Perm.cons _ (rot (A := RvCommit ++ (RsCommit1)) (X := RvLog ++ (RsLog ++ (O ++ (RvNumber ++ (RsNumber1 ++ (RvSeal ++ (RsSeal1 ++ (RvAdd ++ (RsAdd1 ++ (RvJoin ++ (RsJoin1 ++ (RvNode ++ (RsNode1))))))))))))) (by simp only [List.append_assoc]) (by simp only [List.append_assoc]))) (fillLog_ok (O := O ++ (RvNumber ++ (RsNumber1 ++ (RvSeal ++ (RsSeal1 ++ (RvAdd ++ (RsAdd1 ++ (RvJoin ++ (RsJoin1 ++ (RvNode ++ (RsNode1 ++ (RvCommit ++ (RsCommit1))))))))))))) cLog rLog hLog (Nat.le_refl _) mLog)) ?_
  rintro _ _ _ ⟨rfl, RsLog1, rfl, hLog1⟩
  refine o_nil ?_
  refine x_seq ?_
  refine x_region rfl ?_
  refine o_y (y_move rfl) ?_
  refine o_call fn87 rfl (fillBox_no cBox .z) ?_
  rintro _ _ _ ⟨rfl, rfl, rfl⟩
  refine o_nil ?_
  refine x_seq ?_
  refine x_region rfl ?_
  refine o_y (y_move rfl) ?_
  refine o_call fn88 rfl (fillEarly_no cEarly .z) ?_
  rintro _ _ _ ⟨rfl, rfl, rfl⟩
  refine o_nil ?_
  refine x_seq ?_
  refine x_region rfl ?_
  refine o_y (y_move rfl) ?_
  refine o_call fn89 rfl (fillLink_no cLink .z) ?_
  rintro _ _ _ ⟨rfl, rfl, rfl⟩
  refine o_nil ?_
  refine x_seq ?_
  refine x_region rfl ?_
  refine o_y (y_move rfl) ?_
  refine o_call fn90 rfl (fillPacket_no cPacket .z) ?_
  rintro _ _ _ ⟨rfl, rfl, rfl⟩
  refine o_nil ?_
  refine x_seq ?_
  refine x_region rfl ?_
  refine o_y (y_move rfl) ?_
  refine o_call fn91 rfl (fillTermRow_no cTermRow .z) ?_
  rintro _ _ _ ⟨rfl, rfl, rfl⟩
  refine o_nil ?_
  refine x_seq ?_
  refine x_region rfl ?_
  refine o_y (y_move rfl) ?_
  refine o_call fn92 rfl (fillNumberRow_no cNumberRow .z) ?_
  rintro _ _ _ ⟨rfl, rfl, rfl⟩
  refine o_nil ?_
  refine x_seq ?_
  refine x_region rfl ?_
  refine o_y (y_move rfl) ?_
  refine o_call fn93 rfl (CallsM.perm (List.Perm.cons _ (rot (A := RvLog ++ (RsLog1 ++ (O))) (X := RvNumber ++ (RsNumber1 ++ (RvSeal ++ (RsSeal1 ++ (RvAdd ++ (RsAdd1 ++ (RvJoin ++ (RsJoin1 ++ (RvNode ++ (RsNode1 ++ (RvCommit ++ (RsCommit1)))))))))))) (by simp only [List.append_assoc]) (by simp only [List.append_assoc]))) (growNumber_ok (O := RvSeal ++ (RsSeal1 ++ (RvAdd ++ (RsAdd1 ++ (RvJoin ++ (RsJoin1 ++ (RvNode ++ (RsNode1 ++ (RvCommit ++ (RsCommit1 ++ (RvLog ++ (RsLog1 ++ (O))))))))))))) cNumber rNumber hNumber1 (Nat.le_refl _) mNumber)) ?_
  rintro _ _ _ ⟨rfl, lNumber2, RvNumber2, RsNumber2, rfl, eNumber2, rNumber2, hNumber2⟩
  refine o_nil ?_
  refine x_seq ?_
  refine x_region rfl ?_
  refine o_y (y_move rfl) ?_
  refine o_call fn94 rfl (growWide_no cWide .z) ?_
  rintro _ _ _ ⟨rfl, rfl, rfl⟩
  refine o_nil ?_
  refine x_seq ?_
  refine x_region rfl ?_
  refine o_y (y_move rfl) ?_
  refine o_call fn95 rfl (growText_no cText .z) ?_
  rintro _ _ _ ⟨rfl, rfl, rfl⟩
  refine o_nil ?_
  refine x_seq ?_
  refine x_region rfl ?_
  refine o_y (y_move rfl) ?_
  refine o_call fn96 rfl (growTerm_no cTerm .z) ?_
  rintro _ _ _ ⟨rfl, rfl, rfl⟩
  refine o_nil ?_
  refine x_seq ?_
  refine x_region rfl ?_
  refine o_y (y_move rfl) ?_
  refine o_call fn97 rfl (CallsM.perm (List.Perm.cons _ (rot (A := RvNumber2 ++ (RsNumber2)) (X := RvSeal ++ (RsSeal1 ++ (RvAdd ++ (RsAdd1 ++ (RvJoin ++ (RsJoin1 ++ (RvNode ++ (RsNode1 ++ (RvCommit ++ (RsCommit1 ++ (RvLog ++ (RsLog1 ++ (O))))))))))))) (by simp only [List.append_assoc]) (by simp only [List.append_assoc]))) (growSeal_ok (O := RvAdd ++ (RsAdd1 ++ (RvJoin ++ (RsJoin1 ++ (RvNode ++ (RsNode1 ++ (RvCommit ++ (RsCommit1 ++ (RvLog ++ (RsLog1 ++ (O ++ (RvNumber2 ++ (RsNumber2))))))))))))) cSeal rSeal hSeal1 (Nat.le_refl _) mSeal)) ?_
  rintro _ _ _ ⟨rfl, lSeal2, RvSeal2, RsSeal2, rfl, eSeal2, rSeal2, hSeal2⟩
  refine o_nil ?_
  refine x_seq ?_
  refine x_region rfl ?_
  refine o_y (y_move rfl) ?_
  refine o_call fn98 rfl (growKey_no cKey .z) ?_
  rintro _ _ _ ⟨rfl, rfl, rfl⟩
  refine o_nil ?_
  refine x_seq ?_
  refine x_region rfl ?_
  refine o_y (y_move rfl) ?_
  refine o_call fn99 rfl (CallsM.perm (List.Perm.cons _ (rot (A := RvSeal2 ++ (RsSeal2)) (X := RvAdd ++ (RsAdd1 ++ (RvJoin ++ (RsJoin1 ++ (RvNode ++ (RsNode1 ++ (RvCommit ++ (RsCommit1 ++ (RvLog ++ (RsLog1 ++ (O ++ (RvNumber2 ++ (RsNumber2))))))))))))) (by simp only [List.append_assoc]) (by simp only [List.append_assoc]))) (growAdd_ok (O := RvJoin ++ (RsJoin1 ++ (RvNode ++ (RsNode1 ++ (RvCommit ++ (RsCommit1 ++ (RvLog ++ (RsLog1 ++ (O ++ (RvNumber2 ++ (RsNumber2 ++ (RvSeal2 ++ (RsSeal2))))))))))))) cAdd rAdd hAdd1 (Nat.le_refl _) mAdd)) ?_
  rintro _ _ _ ⟨rfl, lAdd2, RvAdd2, RsAdd2, rfl, eAdd2, rAdd2, hAdd2⟩
  refine o_nil ?_
  refine x_seq ?_
  refine x_region rfl ?_
  refine o_y (y_move rfl) ?_
  refine o_call fn100 rfl (CallsM.perm (List.Perm.cons _ (rot (A := RvAdd2 ++ (RsAdd2)) (X := RvJoin ++ (RsJoin1 ++ (RvNode ++ (RsNode1 ++ (RvCommit ++ (RsCommit1 ++ (RvLog ++ (RsLog1 ++ (O ++ (RvNumber2 ++ (RsNumber2 ++ (RvSeal2 ++ (RsSeal2))))))))))))) (by simp only [List.append_assoc]) (by simp only [List.append_assoc]))) (growJoin_ok (O := RvNode ++ (RsNode1 ++ (RvCommit ++ (RsCommit1 ++ (RvLog ++ (RsLog1 ++ (O ++ (RvNumber2 ++ (RsNumber2 ++ (RvSeal2 ++ (RsSeal2 ++ (RvAdd2 ++ (RsAdd2))))))))))))) cJoin rJoin hJoin1 (Nat.le_refl _) mJoin)) ?_
  rintro _ _ _ ⟨rfl, lJoin2, RvJoin2, RsJoin2, rfl, eJoin2, rJoin2, hJoin2⟩
  refine o_nil ?_
  refine x_seq ?_
  refine x_region rfl ?_
  refine o_y (y_move rfl) ?_
  refine o_call fn101 rfl (growPast_no cPast .z) ?_
  rintro _ _ _ ⟨rfl, rfl, rfl⟩
  refine o_nil ?_
  refine x_seq ?_
  refine x_region rfl ?_
  refine o_y (y_move rfl) ?_
  refine o_call fn102 rfl (growCard_no cCard .z) ?_
  rintro _ _ _ ⟨rfl, rfl, rfl⟩
  refine o_nil ?_
  refine x_seq ?_
  refine x_region rfl ?_
  refine o_y (y_move rfl) ?_
  refine o_call fn103 rfl (growGot_no cGot .z) ?_
  rintro _ _ _ ⟨rfl, rfl, rfl⟩
  refine o_nil ?_
  refine x_seq ?_
  refine x_region rfl ?_
  refine o_y (y_move rfl) ?_
  refine o_call fn104 rfl (growNote_no cNote .z) ?_
  rintro _ _ _ ⟨rfl, rfl, rfl⟩
  refine o_nil ?_
  refine x_seq ?_
  refine x_region rfl ?_
  refine o_y (y_move rfl) ?_
  refine o_call fn105 rfl (growAnswer_no cAnswer .z) ?_
  rintro _ _ _ ⟨rfl, rfl, rfl⟩
  refine o_nil ?_
  refine x_seq ?_
  refine x_region rfl ?_
  refine o_y (y_move rfl) ?_
  refine o_call fn106 rfl (growOutcome_no cOutcome .z) ?_
  rintro _ _ _ ⟨rfl, rfl, rfl⟩
  refine o_nil ?_
  refine x_seq ?_
  refine x_region rfl ?_
  refine o_y (y_move rfl) ?_
  refine o_call fn107 rfl (growFinding_no cFinding .z) ?_
  rintro _ _ _ ⟨rfl, rfl, rfl⟩
  refine o_nil ?_
  refine x_seq ?_
  refine x_region rfl ?_
  refine o_y (y_move rfl) ?_
  refine o_call fn108 rfl (growStep_no cStep .z) ?_
  rintro _ _ _ ⟨rfl, rfl, rfl⟩
  refine o_nil ?_
  refine x_seq ?_
  refine x_region rfl ?_
  refine o_y (y_move rfl) ?_
  refine o_call fn109 rfl (growWrite_no cWrite .z) ?_
  rintro _ _ _ ⟨rfl, rfl, rfl⟩
  refine o_nil ?_
  refine x_seq ?_
  refine x_region rfl ?_
  refine o_y (y_move rfl) ?_
  refine o_call fn110 rfl (CallsM.perm (List.Perm.cons _ (rot (A := RvJoin2 ++ (RsJoin2)) (X := RvNode ++ (RsNode1 ++ (RvCommit ++ (RsCommit1 ++ (RvLog ++ (RsLog1 ++ (O ++ (RvNumber2 ++ (RsNumber2 ++ (RvSeal2 ++ (RsSeal2 ++ (RvAdd2 ++ (RsAdd2))))))))))))) (by simp only [List.append_assoc]) (by simp only [List.append_assoc]))) (growNode_ok (O := RvCommit ++ (RsCommit1 ++ (RvLog ++ (RsLog1 ++ (O ++ (RvNumber2 ++ (RsNumber2 ++ (RvSeal2 ++ (RsSeal2 ++ (RvAdd2 ++ (RsAdd2 ++ (RvJoin2 ++ (RsJoin2))))))))))))) cNode rNode hNode1 (Nat.le_refl _) mNode)) ?_
  rintro _ _ _ ⟨rfl, lNode2, RvNode2, RsNode2, rfl, eNode2, rNode2, hNode2⟩
  refine o_nil ?_
  refine x_seq ?_
  refine x_region rfl ?_
  refine o_y (y_move rfl) ?_
  refine o_call fn111 rfl (growTree_no cTree .z) ?_
  rintro _ _ _ ⟨rfl, rfl, rfl⟩
  refine o_nil ?_
  refine x_seq ?_
  refine x_region rfl ?_
  refine o_y (y_move rfl) ?_
  refine o_call fn112 rfl (CallsM.perm (List.Perm.cons _ (rot (A := RvNode2 ++ (RsNode2)) (X := RvCommit ++ (RsCommit1 ++ (RvLog ++ (RsLog1 ++ (O ++ (RvNumber2 ++ (RsNumber2 ++ (RvSeal2 ++ (RsSeal2 ++ (RvAdd2 ++ (RsAdd2 ++ (RvJoin2 ++ (RsJoin2))))))))))))) (by simp only [List.append_assoc]) (by simp only [List.append_assoc]))) (growCommit_ok (O := RvLog ++ (RsLog1 ++ (O ++ (RvNumber2 ++ (RsNumber2 ++ (RvSeal2 ++ (RsSeal2 ++ (RvAdd2 ++ (RsAdd2 ++ (RvJoin2 ++ (RsJoin2 ++ (RvNode2 ++ (RsNode2))))))))))))) cCommit rCommit hCommit1 (Nat.le_refl _) mCommit)) ?_
  rintro _ _ _ ⟨rfl, lCommit2, RvCommit2, RsCommit2, rfl, eCommit2, rCommit2, hCommit2⟩
  refine o_nil ?_
  refine x_seq ?_
  refine x_region rfl ?_
  refine o_y (y_move rfl) ?_
  refine o_call fn113 rfl (growState_no cState .z) ?_
  rintro _ _ _ ⟨rfl, rfl, rfl⟩
  refine o_nil ?_
  refine x_seq ?_
  refine x_region rfl ?_
  refine o_y (y_move rfl) ?_
  refine o_call fn114 rfl (growFace_no cFace .z) ?_
  rintro _ _ _ ⟨rfl, rfl, rfl⟩
  refine o_nil ?_
  refine x_seq ?_
  refine x_region rfl ?_
  refine o_y (y_move rfl) ?_
  refine o_call fn115 rfl (growRequest_no cRequest .z) ?_
  rintro _ _ _ ⟨rfl, rfl, rfl⟩
  refine o_nil ?_
  refine x_seq ?_
  refine x_region rfl ?_
  refine o_y (y_move rfl) ?_
  refine o_call fn116 rfl (growMail_no cMail .z) ?_
  rintro _ _ _ ⟨rfl, rfl, rfl⟩
  refine o_nil ?_
  refine x_seq ?_
  refine x_region rfl ?_
  refine o_y (y_move rfl) ?_
  refine o_call fn117 rfl (growPending_no cPending .z) ?_
  rintro _ _ _ ⟨rfl, rfl, rfl⟩
  refine o_nil ?_
  refine x_seq ?_
  refine x_region rfl ?_
  refine o_y (y_move rfl) ?_
  refine o_call fn118 rfl (growFeed_no cFeed .z) ?_
  rintro _ _ _ ⟨rfl, rfl, rfl⟩
  refine o_nil ?_
  refine x_seq ?_
  refine x_region rfl ?_
  refine o_y (y_move rfl) ?_
  refine o_call fn119 rfl (CallsM.perm (List.Perm.cons _ (rot (A := RvCommit2 ++ (RsCommit2)) (X := RvLog ++ (RsLog1 ++ (O ++ (RvNumber2 ++ (RsNumber2 ++ (RvSeal2 ++ (RsSeal2 ++ (RvAdd2 ++ (RsAdd2 ++ (RvJoin2 ++ (RsJoin2 ++ (RvNode2 ++ (RsNode2))))))))))))) (by simp only [List.append_assoc]) (by simp only [List.append_assoc]))) (growLog_ok (O := O ++ (RvNumber2 ++ (RsNumber2 ++ (RvSeal2 ++ (RsSeal2 ++ (RvAdd2 ++ (RsAdd2 ++ (RvJoin2 ++ (RsJoin2 ++ (RvNode2 ++ (RsNode2 ++ (RvCommit2 ++ (RsCommit2))))))))))))) cLog rLog hLog1 (Nat.le_refl _) mLog)) ?_
  rintro _ _ _ ⟨rfl, lLog2, RvLog2, RsLog2, rfl, eLog2, rLog2, hLog2⟩
  refine o_nil ?_
  refine x_seq ?_
  refine x_region rfl ?_
  refine o_y (y_move rfl) ?_
  refine o_call fn120 rfl (growBox_no cBox .z) ?_
  rintro _ _ _ ⟨rfl, rfl, rfl⟩
  refine o_nil ?_
  refine x_seq ?_
  refine x_region rfl ?_
  refine o_y (y_move rfl) ?_
  refine o_call fn121 rfl (growEarly_no cEarly .z) ?_
  rintro _ _ _ ⟨rfl, rfl, rfl⟩
  refine o_nil ?_
  refine x_seq ?_
  refine x_region rfl ?_
  refine o_y (y_move rfl) ?_
  refine o_call fn122 rfl (growLink_no cLink .z) ?_
  rintro _ _ _ ⟨rfl, rfl, rfl⟩
  refine o_nil ?_
  refine x_seq ?_
  refine x_region rfl ?_
  refine o_y (y_move rfl) ?_
  refine o_call fn123 rfl (growPacket_no cPacket .z) ?_
  rintro _ _ _ ⟨rfl, rfl, rfl⟩
  refine o_nil ?_
  refine x_seq ?_
  refine x_region rfl ?_
  refine o_y (y_move rfl) ?_
  refine o_call fn124 rfl (growTermRow_no cTermRow .z) ?_
  rintro _ _ _ ⟨rfl, rfl, rfl⟩
  refine o_nil ?_
  refine x_seq ?_
  refine x_region rfl ?_
  refine o_y (y_move rfl) ?_
  refine o_call fn125 rfl (growNumberRow_no cNumberRow .z) ?_
  rintro _ _ _ ⟨rfl, rfl, rfl⟩
  refine o_nil ?_
  refine x_seq ?_
  refine x_seq ?_
  refine x_region rfl ?_
  refine o_y (y_assign rfl) ?_
  refine o_nil ?_
  refine x_block ?_
  refine x_loopf (σ := Nat) (fun s => [(3, .int .u64 (s : Int)), (0, .pointer (some ⟨bk, 0, none⟩))]) (fun s => _) (fun s => s ≤ 8) (fun s => 8 - s) 0 (by omega) (.c rfl (.c rfl .n)) rfl ?_
  rintro k kq
  refine x_seq ?_
  refine x_seq ?_
  refine x_region rfl ?_
  refine o_y (y_move rfl) ?_
  refine o_y (y_lss rfl rfl) ?_
  refine o_nil ?_
  refine x_cond rfl (fun hc0 => ?_) (fun hc0 => ?_)
  · try simp only [kk] at hc0
    have hk : k < 8 := by omega
    refine x_skip ?_
    refine x_seq ?_
    refine x_block ?_
    refine x_seq ?_
    refine x_region rfl ?_
    refine o_y (y_move rfl) ?_
    refine o_y (y_move rfl) ?_
    refine o_call fn126 rfl (bits_ok cflags .z) ?_
    rintro _ _ _ ⟨rfl, rfl, rfl⟩
    refine o_y (y_not rfl) ?_
    refine o_nil ?_
    refine x_condF rfl ?_
    refine x_skip ?_
    refine x_region rfl ?_
    refine o_y (y_move rfl) ?_
    refine o_y (y_add rfl rfl) ?_
    refine o_y (y_assign rfl) ?_
    refine o_nil ?_
    exact ⟨k + 1, 0, rfl, (.c (by rw [← u64_next k hk]; rfl) (.c rfl .n)), rfl, by omega, by omega⟩
  try simp only [kk] at hc0
  refine x_exit ?_
  refine x_seq ?_
  refine x_region rfl ?_
  refine o_y (y_move rfl) ?_
  refine o_call fn127 rfl (CallsM.permS (List.Perm.cons _ (rot (A := RvLog2 ++ (RsLog2 ++ (O))) (X := RvNumber2 ++ (RsNumber2 ++ (RvSeal2 ++ (RsSeal2 ++ (RvAdd2 ++ (RsAdd2 ++ (RvJoin2 ++ (RsJoin2 ++ (RvNode2 ++ (RsNode2 ++ (RvCommit2 ++ (RsCommit2)))))))))))) (by simp only [List.append_assoc]) (by simp only [List.append_assoc]))) (lookNumber_ok (O := RvSeal2 ++ (RsSeal2 ++ (RvAdd2 ++ (RsAdd2 ++ (RvJoin2 ++ (RsJoin2 ++ (RvNode2 ++ (RsNode2 ++ (RvCommit2 ++ (RsCommit2 ++ (RvLog2 ++ (RsLog2 ++ (O))))))))))))) cNumber rNumber2 hNumber2 (by omega) (by rw [eNumber2]; exact mNumber))) ?_
  rintro _ _ _ ⟨rfl, rfl, rfl⟩
  refine o_y (y_move rfl) ?_
  refine o_gy 146 rfl rfl (y_move rfl) ?_
  refine o_gcall 146 rfl rfl fn128 rfl (lookWide_no cWide .z) ?_
  rintro _ _ _ ⟨rfl, rfl, rfl⟩
  refine o_y (y_pick rfl rfl) ?_
  refine o_y (y_move rfl) ?_
  refine o_gy 150 rfl rfl (y_move rfl) ?_
  refine o_gcall 150 rfl rfl fn129 rfl (lookText_no cText .z) ?_
  rintro _ _ _ ⟨rfl, rfl, rfl⟩
  refine o_y (y_pick rfl rfl) ?_
  refine o_y (y_move rfl) ?_
  refine o_gy 154 rfl rfl (y_move rfl) ?_
  refine o_gcall 154 rfl rfl fn130 rfl (lookTerm_no cTerm .z) ?_
  rintro _ _ _ ⟨rfl, rfl, rfl⟩
  refine o_y (y_pick rfl rfl) ?_
  refine o_y (y_move rfl) ?_
  refine o_gy 158 rfl rfl (y_move rfl) ?_
  refine o_gcall 158 rfl rfl fn131 rfl (CallsM.permS (List.Perm.cons _ (rot (A := RvLog2 ++ (RsLog2 ++ (O ++ (RvNumber2 ++ (RsNumber2))))) (X := RvSeal2 ++ (RsSeal2 ++ (RvAdd2 ++ (RsAdd2 ++ (RvJoin2 ++ (RsJoin2 ++ (RvNode2 ++ (RsNode2 ++ (RvCommit2 ++ (RsCommit2)))))))))) (by simp only [List.append_assoc]) (by simp only [List.append_assoc]))) (lookSeal_ok (O := RvAdd2 ++ (RsAdd2 ++ (RvJoin2 ++ (RsJoin2 ++ (RvNode2 ++ (RsNode2 ++ (RvCommit2 ++ (RsCommit2 ++ (RvLog2 ++ (RsLog2 ++ (O ++ (RvNumber2 ++ (RsNumber2))))))))))))) cSeal rSeal2 hSeal2 (by omega) (by rw [eSeal2]; exact mSeal))) ?_
  rintro _ _ _ ⟨rfl, rfl, rfl⟩
  refine o_y (y_pick rfl rfl) ?_
  refine o_y (y_move rfl) ?_
  refine o_gy 162 rfl rfl (y_move rfl) ?_
  refine o_gcall 162 rfl rfl fn132 rfl (lookKey_no cKey .z) ?_
  rintro _ _ _ ⟨rfl, rfl, rfl⟩
  refine o_y (y_pick rfl rfl) ?_
  refine o_y (y_move rfl) ?_
  refine o_gy 166 rfl rfl (y_move rfl) ?_
  refine o_gcall 166 rfl rfl fn133 rfl (CallsM.permS (List.Perm.cons _ (rot (A := RvLog2 ++ (RsLog2 ++ (O ++ (RvNumber2 ++ (RsNumber2 ++ (RvSeal2 ++ (RsSeal2))))))) (X := RvAdd2 ++ (RsAdd2 ++ (RvJoin2 ++ (RsJoin2 ++ (RvNode2 ++ (RsNode2 ++ (RvCommit2 ++ (RsCommit2)))))))) (by simp only [List.append_assoc]) (by simp only [List.append_assoc]))) (lookAdd_ok (O := RvJoin2 ++ (RsJoin2 ++ (RvNode2 ++ (RsNode2 ++ (RvCommit2 ++ (RsCommit2 ++ (RvLog2 ++ (RsLog2 ++ (O ++ (RvNumber2 ++ (RsNumber2 ++ (RvSeal2 ++ (RsSeal2))))))))))))) cAdd rAdd2 hAdd2 (by omega) (by rw [eAdd2]; exact mAdd))) ?_
  rintro _ _ _ ⟨rfl, rfl, rfl⟩
  refine o_y (y_pick rfl rfl) ?_
  refine o_y (y_move rfl) ?_
  refine o_gy 170 rfl rfl (y_move rfl) ?_
  refine o_gcall 170 rfl rfl fn134 rfl (CallsM.permS (List.Perm.cons _ (rot (A := RvLog2 ++ (RsLog2 ++ (O ++ (RvNumber2 ++ (RsNumber2 ++ (RvSeal2 ++ (RsSeal2 ++ (RvAdd2 ++ (RsAdd2))))))))) (X := RvJoin2 ++ (RsJoin2 ++ (RvNode2 ++ (RsNode2 ++ (RvCommit2 ++ (RsCommit2)))))) (by simp only [List.append_assoc]) (by simp only [List.append_assoc]))) (lookJoin_ok (O := RvNode2 ++ (RsNode2 ++ (RvCommit2 ++ (RsCommit2 ++ (RvLog2 ++ (RsLog2 ++ (O ++ (RvNumber2 ++ (RsNumber2 ++ (RvSeal2 ++ (RsSeal2 ++ (RvAdd2 ++ (RsAdd2))))))))))))) cJoin rJoin2 hJoin2 (by omega) (by rw [eJoin2]; exact mJoin))) ?_
  rintro _ _ _ ⟨rfl, rfl, rfl⟩
  refine o_y (y_pick rfl rfl) ?_
  refine o_y (y_move rfl) ?_
  refine o_gy 174 rfl rfl (y_move rfl) ?_
  refine o_gcall 174 rfl rfl fn135 rfl (lookPast_no cPast .z) ?_
  rintro _ _ _ ⟨rfl, rfl, rfl⟩
  refine o_y (y_pick rfl rfl) ?_
  refine o_y (y_move rfl) ?_
  refine o_gy 178 rfl rfl (y_move rfl) ?_
  refine o_gcall 178 rfl rfl fn136 rfl (lookCard_no cCard .z) ?_
  rintro _ _ _ ⟨rfl, rfl, rfl⟩
  refine o_y (y_pick rfl rfl) ?_
  refine o_y (y_move rfl) ?_
  refine o_gy 182 rfl rfl (y_move rfl) ?_
  refine o_gcall 182 rfl rfl fn137 rfl (lookGot_no cGot .z) ?_
  rintro _ _ _ ⟨rfl, rfl, rfl⟩
  refine o_y (y_pick rfl rfl) ?_
  refine o_y (y_move rfl) ?_
  refine o_gy 186 rfl rfl (y_move rfl) ?_
  refine o_gcall 186 rfl rfl fn138 rfl (lookNote_no cNote .z) ?_
  rintro _ _ _ ⟨rfl, rfl, rfl⟩
  refine o_y (y_pick rfl rfl) ?_
  refine o_y (y_move rfl) ?_
  refine o_gy 190 rfl rfl (y_move rfl) ?_
  refine o_gcall 190 rfl rfl fn139 rfl (lookAnswer_no cAnswer .z) ?_
  rintro _ _ _ ⟨rfl, rfl, rfl⟩
  refine o_y (y_pick rfl rfl) ?_
  refine o_y (y_move rfl) ?_
  refine o_gy 194 rfl rfl (y_move rfl) ?_
  refine o_gcall 194 rfl rfl fn140 rfl (lookOutcome_no cOutcome .z) ?_
  rintro _ _ _ ⟨rfl, rfl, rfl⟩
  refine o_y (y_pick rfl rfl) ?_
  refine o_y (y_move rfl) ?_
  refine o_gy 198 rfl rfl (y_move rfl) ?_
  refine o_gcall 198 rfl rfl fn141 rfl (lookFinding_no cFinding .z) ?_
  rintro _ _ _ ⟨rfl, rfl, rfl⟩
  refine o_y (y_pick rfl rfl) ?_
  refine o_y (y_move rfl) ?_
  refine o_gy 202 rfl rfl (y_move rfl) ?_
  refine o_gcall 202 rfl rfl fn142 rfl (lookStep_no cStep .z) ?_
  rintro _ _ _ ⟨rfl, rfl, rfl⟩
  refine o_y (y_pick rfl rfl) ?_
  refine o_y (y_move rfl) ?_
  refine o_gy 206 rfl rfl (y_move rfl) ?_
  refine o_gcall 206 rfl rfl fn143 rfl (lookWrite_no cWrite .z) ?_
  rintro _ _ _ ⟨rfl, rfl, rfl⟩
  refine o_y (y_pick rfl rfl) ?_
  refine o_y (y_move rfl) ?_
  refine o_gy 210 rfl rfl (y_move rfl) ?_
  refine o_gcall 210 rfl rfl fn144 rfl (CallsM.permS (List.Perm.cons _ (rot (A := RvLog2 ++ (RsLog2 ++ (O ++ (RvNumber2 ++ (RsNumber2 ++ (RvSeal2 ++ (RsSeal2 ++ (RvAdd2 ++ (RsAdd2 ++ (RvJoin2 ++ (RsJoin2))))))))))) (X := RvNode2 ++ (RsNode2 ++ (RvCommit2 ++ (RsCommit2)))) (by simp only [List.append_assoc]) (by simp only [List.append_assoc]))) (lookNode_ok (O := RvCommit2 ++ (RsCommit2 ++ (RvLog2 ++ (RsLog2 ++ (O ++ (RvNumber2 ++ (RsNumber2 ++ (RvSeal2 ++ (RsSeal2 ++ (RvAdd2 ++ (RsAdd2 ++ (RvJoin2 ++ (RsJoin2))))))))))))) cNode rNode2 hNode2 (by omega) (by rw [eNode2]; exact mNode))) ?_
  rintro _ _ _ ⟨rfl, rfl, rfl⟩
  refine o_y (y_pick rfl rfl) ?_
  refine o_y (y_move rfl) ?_
  refine o_gy 214 rfl rfl (y_move rfl) ?_
  refine o_gcall 214 rfl rfl fn145 rfl (lookTree_no cTree .z) ?_
  rintro _ _ _ ⟨rfl, rfl, rfl⟩
  refine o_y (y_pick rfl rfl) ?_
  refine o_y (y_move rfl) ?_
  refine o_gy 218 rfl rfl (y_move rfl) ?_
  refine o_gcall 218 rfl rfl fn146 rfl (CallsM.permS (List.Perm.cons _ (rot (A := RvLog2 ++ (RsLog2 ++ (O ++ (RvNumber2 ++ (RsNumber2 ++ (RvSeal2 ++ (RsSeal2 ++ (RvAdd2 ++ (RsAdd2 ++ (RvJoin2 ++ (RsJoin2 ++ (RvNode2 ++ (RsNode2))))))))))))) (X := RvCommit2 ++ (RsCommit2)) (by simp only [List.append_assoc]) (by simp only [List.append_assoc]))) (lookCommit_ok (O := RvLog2 ++ (RsLog2 ++ (O ++ (RvNumber2 ++ (RsNumber2 ++ (RvSeal2 ++ (RsSeal2 ++ (RvAdd2 ++ (RsAdd2 ++ (RvJoin2 ++ (RsJoin2 ++ (RvNode2 ++ (RsNode2))))))))))))) cCommit rCommit2 hCommit2 (by omega) (by rw [eCommit2]; exact mCommit))) ?_
  rintro _ _ _ ⟨rfl, rfl, rfl⟩
  refine o_y (y_pick rfl rfl) ?_
  refine o_y (y_move rfl) ?_
  refine o_gy 222 rfl rfl (y_move rfl) ?_
  refine o_gcall 222 rfl rfl fn147 rfl (lookState_no cState .z) ?_
  rintro _ _ _ ⟨rfl, rfl, rfl⟩
  refine o_y (y_pick rfl rfl) ?_
  refine o_y (y_move rfl) ?_
  refine o_gy 226 rfl rfl (y_move rfl) ?_
  refine o_gcall 226 rfl rfl fn148 rfl (lookFace_no cFace .z) ?_
  rintro _ _ _ ⟨rfl, rfl, rfl⟩
  refine o_y (y_pick rfl rfl) ?_
  refine o_y (y_move rfl) ?_
  refine o_gy 230 rfl rfl (y_move rfl) ?_
  refine o_gcall 230 rfl rfl fn149 rfl (lookRequest_no cRequest .z) ?_
  rintro _ _ _ ⟨rfl, rfl, rfl⟩
  refine o_y (y_pick rfl rfl) ?_
  refine o_y (y_move rfl) ?_
  refine o_gy 234 rfl rfl (y_move rfl) ?_
  refine o_gcall 234 rfl rfl fn150 rfl (lookMail_no cMail .z) ?_
  rintro _ _ _ ⟨rfl, rfl, rfl⟩
  refine o_y (y_pick rfl rfl) ?_
  refine o_y (y_move rfl) ?_
  refine o_gy 238 rfl rfl (y_move rfl) ?_
  refine o_gcall 238 rfl rfl fn151 rfl (lookPending_no cPending .z) ?_
  rintro _ _ _ ⟨rfl, rfl, rfl⟩
  refine o_y (y_pick rfl rfl) ?_
  refine o_y (y_move rfl) ?_
  refine o_gy 242 rfl rfl (y_move rfl) ?_
  refine o_gcall 242 rfl rfl fn152 rfl (lookFeed_no cFeed .z) ?_
  rintro _ _ _ ⟨rfl, rfl, rfl⟩
  refine o_y (y_pick rfl rfl) ?_
  refine o_y (y_move rfl) ?_
  refine o_gy 246 rfl rfl (y_move rfl) ?_
  refine o_gcall 246 rfl rfl fn153 rfl (CallsM.permS (List.Perm.refl _) (lookLog_ok (O := O ++ (RvNumber2 ++ (RsNumber2 ++ (RvSeal2 ++ (RsSeal2 ++ (RvAdd2 ++ (RsAdd2 ++ (RvJoin2 ++ (RsJoin2 ++ (RvNode2 ++ (RsNode2 ++ (RvCommit2 ++ (RsCommit2))))))))))))) cLog rLog2 hLog2 (by omega) (by rw [eLog2]; exact mLog))) ?_
  rintro _ _ _ ⟨rfl, rfl, rfl⟩
  refine o_y (y_pick rfl rfl) ?_
  refine o_y (y_move rfl) ?_
  refine o_gy 250 rfl rfl (y_move rfl) ?_
  refine o_gcall 250 rfl rfl fn154 rfl (lookBox_no cBox .z) ?_
  rintro _ _ _ ⟨rfl, rfl, rfl⟩
  refine o_y (y_pick rfl rfl) ?_
  refine o_y (y_move rfl) ?_
  refine o_gy 254 rfl rfl (y_move rfl) ?_
  refine o_gcall 254 rfl rfl fn155 rfl (lookEarly_no cEarly .z) ?_
  rintro _ _ _ ⟨rfl, rfl, rfl⟩
  refine o_y (y_pick rfl rfl) ?_
  refine o_y (y_move rfl) ?_
  refine o_gy 258 rfl rfl (y_move rfl) ?_
  refine o_gcall 258 rfl rfl fn156 rfl (lookLink_no cLink .z) ?_
  rintro _ _ _ ⟨rfl, rfl, rfl⟩
  refine o_y (y_pick rfl rfl) ?_
  refine o_y (y_move rfl) ?_
  refine o_gy 262 rfl rfl (y_move rfl) ?_
  refine o_gcall 262 rfl rfl fn157 rfl (lookPacket_no cPacket .z) ?_
  rintro _ _ _ ⟨rfl, rfl, rfl⟩
  refine o_y (y_pick rfl rfl) ?_
  refine o_y (y_move rfl) ?_
  refine o_gy 266 rfl rfl (y_move rfl) ?_
  refine o_gcall 266 rfl rfl fn158 rfl (lookTermRow_no cTermRow .z) ?_
  rintro _ _ _ ⟨rfl, rfl, rfl⟩
  refine o_y (y_pick rfl rfl) ?_
  refine o_y (y_move rfl) ?_
  refine o_gy 270 rfl rfl (y_move rfl) ?_
  refine o_gcall 270 rfl rfl fn159 rfl (lookNumberRow_no cNumberRow .z) ?_
  rintro _ _ _ ⟨rfl, rfl, rfl⟩
  refine o_y (y_pick rfl rfl) ?_
  refine o_y (y_assign rfl) ?_
  refine o_nil ?_
  refine x_ret ?_
  refine x_fin 0 (ret1 rfl rfl) ?_
  refine ⟨O, ?_, rfl, rfl, rfl⟩
  exact .cons _ (by simp only [← List.append_assoc]; repeat (first | exact List.sublist_append_right _ _ | exact List.Sublist.refl _ | refine List.Sublist.trans ?_ (List.sublist_append_left _ _)))
end Go.Ph
set_option linter.unusedVariables false
set_option linter.unusedSimpArgs false
set_option maxRecDepth 100000
namespace Go.Ph
open Go Go.RowKit Go.Proofs.YtmgnagpgnoikfaaGreatDoor Go.Proofs.Tryz
theorem twinNumbers_ok {B : World} {H : HM} {O : OL} {v : Value} {xs : List Int} (h : RdL H v xs) : CallsM prog 38 [v].toArray B H O (TwinL xs H O) := by
  have hle := h.lenle
  have hsm : xs.length * 8 ≤ 140737488351232 := h.small
  refine enter func38 rfl ntmps38 (l := [(0, _)]) rfl rfl ?_
  refine x_seq ?_
  refine x_region rfl ?_
  refine o_y (y_assign rfl) ?_
  refine o_nil ?_
  refine x_seq ?_
  refine x_region rfl ?_
  refine o_y (y_move rfl) ?_
  refine o_y (y_lenA underlying24 rfl) ?_
  refine o_y (y_move rfl) ?_
  refine o_y (y_lenA underlying24 rfl) ?_
  refine o_y (y_addN rfl rfl (by omega) (by omega)) ?_
  refine o_makeSlice (n := xs.length) (c := xs.length + 2) underlying24 ti3 (by decide) rfl rfl rfl (by omega) (by omega) (by omega) (by omega) (fun bm => ?_)
  have hz : (List.replicate (xs.length + 2) ([.int .i64 0] : List Value)).flatten.length = (xs.length + 2) * 1 := by simp
  have r0 := Row.make (n := xs.length) (b := bm) (e := 3) hz (by omega)
  refine o_y (y_assign rfl) ?_
  refine o_nil ?_
  refine x_seq ?_
  refine x_region rfl ?_
  refine o_y (y_move rfl) ?_
  refine o_y (y_move rfl) ?_
  refine o_copyL (o := 0) underlying24 underlying24 ti3 rfl r0 rfl rfl h (Nat.le_refl _) (by rw [r0.len]; omega) .o (fun R1 news hn j1 => ?_)
  have hnl : news.length = xs.length * 1 := hn.len
  rw [putC_all (by rw [r0.len]; exact hnl)] at j1
  obtain ⟨ds, hds, jr⟩ := j1.upto (m := xs.length + 2) (by omega) (Nat.le_refl _)
  refine o_nil ?_
  refine x_seq ?_
  refine x_region rfl ?_
  refine o_y (y_move rfl) ?_
  refine o_y (y_move rfl) ?_
  refine o_y (y_lenA underlying24 rfl) ?_
  refine o_y (y_addN rfl rfl (by omega) (by omega)) ?_
  refine o_y (y_sliceH underlying24 ti3 rfl rfl (xs.length + 2) (by first | rfl | omega) (by omega)) ?_
  refine o_y (y_assign rfl) ?_
  refine o_nil ?_
  refine x_seq ?_
  refine x_seq ?_
  refine x_region rfl ?_
  refine o_y (y_move rfl) ?_
  refine o_y (y_lenA underlying24 rfl) ?_
  refine o_y (y_assign rfl) ?_
  refine o_nil ?_
  refine x_block ?_
  refine x_loopf (σ := Nat × List Value × OL) (fun s => [(5, .int .i64 ((xs.length + s.1 : Nat) : Int)), (4, .slice (some ⟨bm, 0, none⟩) (xs.length + 2) (xs.length + 2)), (3, .slice (some ⟨bm, 0, none⟩) xs.length (xs.length + 2))]) (fun s => s.2.2 ++ O) (fun s => s.1 ≤ 2 ∧ Row (.slice (some ⟨bm, 0, none⟩) (xs.length + 2) (xs.length + 2)) (xs.length + 2) s.2.1 3 1 s.2.2 ∧ ∃ rest, s.2.1 = news ++ (marksTo (Own.mark Int) xs.length s.1 ++ rest)) (fun s => 2 - s.1) (0, _, _) ⟨by simp, jr, ds, by simp [marksTo]⟩ (.c rfl (.c rfl (.c rfl .n))) rfl ?_
  rintro ⟨k, cells, R⟩ ⟨z1, z2, rest, z3⟩
  simp only at z1 z2 z3
  refine x_seq ?_
  refine x_seq ?_
  refine x_region rfl ?_
  refine o_y (y_move rfl) ?_
  refine o_y (y_move rfl) ?_
  refine o_y (y_lenA underlying24 rfl) ?_
  refine o_y (y_lss rfl rfl) ?_
  refine o_nil ?_
  refine x_cond rfl (fun hc0 => ?_) (fun hc0 => ?_)
  · try simp only [kk] at hc0
    have hk : k < 2 := by omega
    have hkl := z2.len
    have hrl : 1 ≤ rest.length := by
      rw [z3, List.length_append, List.length_append, marksTo_len (es := 1) (fun i => rfl), hnl] at hkl
      omega
    refine x_skip ?_
    refine x_seq ?_
    refine x_block ?_
    refine x_region rfl ?_
    refine o_y (y_move rfl) ?_
    refine o_y (y_move rfl) ?_
    refine o_y (y_move rfl) ?_
    refine o_call fn175 rfl (markNumber_ok (xs.length + k) (by omega)) ?_
    rintro _ _ _ ⟨rfl, rfl, rfl⟩
    refine o_y (y_idxR z2 (xs.length + k) (by omega) underlying24 ti3 rfl rfl rfl) ?_
    refine o_storeS (u := [_]) ti3 rfl rfl z2 rfl rfl (by first | rfl | assumption | (simp only [ones, List.all_cons, List.all_nil, Bool.and_true, one_of (by assumption)]; done)) (by omega) (by omega) hol (fun R7_5 j7_5 => ?_)
    refine o_nil ?_
    refine x_region rfl ?_
    refine o_y (y_move rfl) ?_
    refine o_y (y_addN rfl rfl (by omega) (by omega)) ?_
    refine o_y (y_assign rfl) ?_
    refine o_nil ?_
    exact ⟨(k + 1, _, R7_5), 0, rfl, (.c rfl (.c rfl (.c rfl .n))), rfl, ⟨by omega, j7_5, rest.drop 1, by rw [z3]; exact putC_mark (mk := Own.mark Int) hnl (fun i => rfl) hrl⟩, by simp only; omega⟩
  try simp only [kk] at hc0
  refine x_exit ?_
  refine x_seq ?_
  refine x_region rfl ?_
  refine o_y (y_move rfl) ?_
  refine o_y (y_assign rfl) ?_
  refine o_nil ?_
  have hk2 : k = 2 := by omega
  subst hk2
  have hkl := z2.len
  have hre : rest = [] := by
    rw [z3, List.length_append, List.length_append, marksTo_len (es := 1) (fun i => rfl), hnl] at hkl
    exact List.eq_nil_of_length_eq_zero (by omega)
  subst hre
  rw [List.append_nil, marksTo_two] at z3
  subst z3
  refine x_freezeG (S := R) (O' := O) (List.Perm.refl _) (fun H9 g9 hI9 => ?_)
  refine x_ret ?_
  refine x_fin 0 (ret1 rfl rfl) ?_
  exact ⟨rfl, _, (by simpa using g9), OwL.twin z2 rfl (El.ownFlat (fun h => ⟨h, rfl⟩) (hn.mono g9.ext)) hI9 hsm⟩
theorem leftNumbers_ok {B : World} {H : HM} {O : OL} {v u : Value} {xs : List Int} {F : List Nat} (h : OwL true H v xs F) (hu : RdL H u xs) : CallsM prog 51 [v, u].toArray B H O (Same (.bool true) H O) := by
  have hv := h.rdL
  have hle := hv.lenle
  obtain ⟨R, cs, Fs, hr, hH, hel, _, hsm, htw⟩ := h.h
  obtain ⟨bm, rfl, rfl⟩ := htw rfl
  have hcl : cs.length = xs.length * 1 := hr.len
  have hr2 : Row (.slice (some ⟨bm, 0, none⟩) (xs.length + 2) (xs.length + 2)) (xs.length + 2) (cs ++ (marksTo (Own.mark Int) xs.length 2 ++ [])) 3 1 [(bm, cl (cs ++ (Own.mark Int xs.length ++ Own.mark Int (xs.length + 1))) (Own.ty Int))] := ⟨by rw [List.length_append, List.length_append, marksTo_len (es := 1) (fun i => rfl), hcl]; simp only [List.length_nil]; omega, .inr ⟨bm, _, [], rfl, Nat.le_refl _, by simp, by rw [marksTo_two]; simp; rfl⟩⟩
  refine enter func51 rfl ntmps51 (l := [(0, _), (1, _)]) rfl rfl ?_
  refine x_seq ?_
  refine x_region rfl ?_
  refine o_y (y_assign rfl) ?_
  refine o_nil ?_
  refine x_seq ?_
  refine x_seq ?_
  refine x_region rfl ?_
  refine o_y (y_move rfl) ?_
  refine o_y (y_lenA underlying24 rfl) ?_
  refine o_y (y_move rfl) ?_
  refine o_y (y_lenA underlying24 rfl) ?_
  refine o_y (y_neq rfl rfl) ?_
  refine o_nil ?_
  refine x_cond rfl (fun hc0 => ?_) (fun hc0 => ?_)
  · try simp only [kk] at hc0
    exfalso; first | exact hc0 trivial | omega
  try simp only [kk] at hc0
  refine x_skip ?_
  refine x_seq ?_
  refine x_region rfl ?_
  refine o_y (y_move rfl) ?_
  refine o_y (y_move rfl) ?_
  refine o_y (y_lenA underlying24 rfl) ?_
  refine o_y (y_addN rfl rfl (by omega) (by omega)) ?_
  refine o_y (y_sliceH underlying24 ti3 rfl rfl (xs.length + 2) (by first | rfl | omega) (by omega)) ?_
  refine o_y (y_assign rfl) ?_
  refine o_nil ?_
  refine x_seq ?_
  refine x_seq ?_
  refine x_region rfl ?_
  refine o_y (y_move rfl) ?_
  refine o_y (y_lenA underlying24 rfl) ?_
  refine o_y (y_assign rfl) ?_
  refine o_nil ?_
  refine x_block ?_
  refine x_loopf (σ := Nat) (fun s => [(6, .int .i64 ((xs.length + s : Nat) : Int)), (5, .slice (some ⟨bm, 0, none⟩) (xs.length + 2) (xs.length + 2)), (0, .slice (some ⟨bm, 0, none⟩) xs.length (xs.length + 2)), (1, u)]) (fun s => O) (fun s => s ≤ 2) (fun s => 2 - s) 0 (by simp) (.c rfl (.c rfl (.c rfl (.c rfl .n)))) rfl ?_
  rintro k z1
  refine x_seq ?_
  refine x_seq ?_
  refine x_region rfl ?_
  refine o_y (y_move rfl) ?_
  refine o_y (y_move rfl) ?_
  refine o_y (y_lenA underlying24 rfl) ?_
  refine o_y (y_lss rfl rfl) ?_
  refine o_nil ?_
  refine x_cond rfl (fun hc1 => ?_) (fun hc1 => ?_)
  · try simp only [kk] at hc1
    have hk : k < 2 := by omega
    have aF : AtS H O (.slice (some ⟨bm, 0, none⟩) (xs.length + 2) (xs.length + 2)) ((xs.length + k) * 1) (Own.mark Int ((xs.length + k : Nat) : Int)) := hr2.atH hH (by omega) (fun i x hx => by
      have hi := (List.getElem?_eq_some_iff.1 hx).1
      have hi2 : i < 1 := hi
      rw [List.getElem?_append_right (by omega), hcl, show (xs.length + k) * 1 + i - xs.length * 1 = k * 1 + i by omega, List.append_nil]
      match k, hk with
      | 0, _ => rw [marksTo_two, List.getElem?_append_left (by show 0 * 1 + i < 1; omega)]; simpa using hx
      | 1, _ => rw [marksTo_two, List.getElem?_append_right (by show 1 ≤ 1 * 1 + i; omega)]; have e : 1 * 1 + i - (Own.mark Int (xs.length : Int)).length = i := by show 1 * 1 + i - 1 = i; omega
                rw [e]; simpa using hx)
    refine x_skip ?_
    refine x_seq ?_
    refine x_block ?_
    refine x_seq ?_
    refine x_region rfl ?_
    refine o_y (y_move rfl) ?_
    refine o_y (y_move rfl) ?_
    refine o_y (y_idxR hr2 (xs.length + k) (by omega) underlying24 ti3 rfl rfl rfl) ?_
    refine o_y (y_loadS ti3 rfl aF rfl (fun _ => rfl)) ?_
    refine o_y (y_move rfl) ?_
    refine o_call fn193 rfl (isNumber_ok (xs.length + k) (by omega)) ?_
    rintro _ _ _ ⟨rfl, rfl, rfl⟩
    refine o_y (y_not rfl) ?_
    refine o_nil ?_
    refine x_condF rfl ?_
    refine x_skip ?_
    refine x_region rfl ?_
    refine o_y (y_move rfl) ?_
    refine o_y (y_addN rfl rfl (by omega) (by omega)) ?_
    refine o_y (y_assign rfl) ?_
    refine o_nil ?_
    exact ⟨k + 1, 0, rfl, (.c rfl (.c rfl (.c rfl (.c rfl .n)))), rfl, by omega, by omega⟩
  try simp only [kk] at hc1
  refine x_exit ?_
  refine x_seq ?_
  refine x_region rfl ?_
  refine o_y (y_move rfl) ?_
  refine o_y (y_move rfl) ?_
  refine o_call fn30 rfl (sameNumbers_ok hv hu) ?_
  rintro _ _ _ ⟨rfl, rfl, rfl⟩
  refine o_y (y_assign rfl) ?_
  refine o_nil ?_
  refine x_ret ?_
  refine x_fin 0 (ret1 rfl rfl) ?_
  exact ⟨by simp, rfl, rfl⟩
theorem twinAdds_ok {B : World} {H : HM} {O : OL} {v : Value} {xs : List AddE} (h : RdL H v xs) : CallsM prog 37 [v].toArray B H O (TwinL xs H O) := by
  have hle := h.lenle
  have hsm : xs.length * 24 ≤ 140737488351232 := h.small
  refine enter func37 rfl ntmps37 (l := [(0, _)]) rfl rfl ?_
  refine x_seq ?_
  refine x_region rfl ?_
  refine o_y (y_assign rfl) ?_
  refine o_nil ?_
  refine x_seq ?_
  refine x_region rfl ?_
  refine o_y (y_move rfl) ?_
  refine o_y (y_lenA underlying23 rfl) ?_
  refine o_y (y_move rfl) ?_
  refine o_y (y_lenA underlying23 rfl) ?_
  refine o_y (y_addN rfl rfl (by omega) (by omega)) ?_
  refine o_makeSlice (n := xs.length) (c := xs.length + 2) underlying23 ti131 (by decide) rfl rfl rfl (by omega) (by omega) (by omega) (by omega) (fun bm => ?_)
  have hz : (List.replicate (xs.length + 2) ([.int .i64 0, .int .i64 0, .int .i64 0] : List Value)).flatten.length = (xs.length + 2) * 3 := by simp
  have r0 := Row.make (n := xs.length) (b := bm) (e := 131) hz (by omega)
  refine o_y (y_assign rfl) ?_
  refine o_nil ?_
  refine x_seq ?_
  refine x_region rfl ?_
  refine o_y (y_move rfl) ?_
  refine o_y (y_move rfl) ?_
  refine o_copyL (o := 0) underlying23 underlying23 ti131 rfl r0 rfl rfl h (Nat.le_refl _) (by rw [r0.len]; omega) .o (fun R1 news hn j1 => ?_)
  have hnl : news.length = xs.length * 3 := hn.len
  rw [putC_all (by rw [r0.len]; exact hnl)] at j1
  obtain ⟨ds, hds, jr⟩ := j1.upto (m := xs.length + 2) (by omega) (Nat.le_refl _)
  refine o_nil ?_
  refine x_seq ?_
  refine x_region rfl ?_
  refine o_y (y_move rfl) ?_
  refine o_y (y_move rfl) ?_
  refine o_y (y_lenA underlying23 rfl) ?_
  refine o_y (y_addN rfl rfl (by omega) (by omega)) ?_
  refine o_y (y_sliceH underlying23 ti131 rfl rfl (xs.length + 2) (by first | rfl | omega) (by omega)) ?_
  refine o_y (y_assign rfl) ?_
  refine o_nil ?_
  refine x_seq ?_
  refine x_seq ?_
  refine x_region rfl ?_
  refine o_y (y_move rfl) ?_
  refine o_y (y_lenA underlying23 rfl) ?_
  refine o_y (y_assign rfl) ?_
  refine o_nil ?_
  refine x_block ?_
  refine x_loopf (σ := Nat × List Value × OL) (fun s => [(5, .int .i64 ((xs.length + s.1 : Nat) : Int)), (4, .slice (some ⟨bm, 0, none⟩) (xs.length + 2) (xs.length + 2)), (3, .slice (some ⟨bm, 0, none⟩) xs.length (xs.length + 2))]) (fun s => s.2.2 ++ O) (fun s => s.1 ≤ 2 ∧ Row (.slice (some ⟨bm, 0, none⟩) (xs.length + 2) (xs.length + 2)) (xs.length + 2) s.2.1 131 3 s.2.2 ∧ ∃ rest, s.2.1 = news ++ (marksTo (Own.mark AddE) xs.length s.1 ++ rest)) (fun s => 2 - s.1) (0, _, _) ⟨by simp, jr, ds, by simp [marksTo]⟩ (.c rfl (.c rfl (.c rfl .n))) rfl ?_
  rintro ⟨k, cells, R⟩ ⟨z1, z2, rest, z3⟩
  simp only at z1 z2 z3
  refine x_seq ?_
  refine x_seq ?_
  refine x_region rfl ?_
  refine o_y (y_move rfl) ?_
  refine o_y (y_move rfl) ?_
  refine o_y (y_lenA underlying23 rfl) ?_
  refine o_y (y_lss rfl rfl) ?_
  refine o_nil ?_
  refine x_cond rfl (fun hc0 => ?_) (fun hc0 => ?_)
  · try simp only [kk] at hc0
    have hk : k < 2 := by omega
    have hkl := z2.len
    have hrl : 3 ≤ rest.length := by
      rw [z3, List.length_append, List.length_append, marksTo_len (es := 3) (fun i => rfl), hnl] at hkl
      omega
    refine x_skip ?_
    refine x_seq ?_
    refine x_block ?_
    refine x_region rfl ?_
    refine o_y (y_move rfl) ?_
    refine o_y (y_move rfl) ?_
    refine o_y (y_move rfl) ?_
    refine o_call fn174 rfl (markAdd_ok (xs.length + k) (by omega)) ?_
    rintro _ _ _ ⟨rfl, rfl, rfl⟩
    refine o_y (y_idxR z2 (xs.length + k) (by omega) underlying23 ti131 rfl rfl rfl) ?_
    refine o_storeS (u := [_, _, _]) ti131 rfl rfl z2 rfl rfl (by first | rfl | assumption | (simp only [ones, List.all_cons, List.all_nil, Bool.and_true, one_of (by assumption)]; done)) (by omega) (by omega) hol (fun R7_5 j7_5 => ?_)
    refine o_nil ?_
    refine x_region rfl ?_
    refine o_y (y_move rfl) ?_
    refine o_y (y_addN rfl rfl (by omega) (by omega)) ?_
    refine o_y (y_assign rfl) ?_
    refine o_nil ?_
    exact ⟨(k + 1, _, R7_5), 0, rfl, (.c rfl (.c rfl (.c rfl .n))), rfl, ⟨by omega, j7_5, rest.drop 3, by rw [z3]; exact putC_mark (mk := Own.mark AddE) hnl (fun i => rfl) hrl⟩, by simp only; omega⟩
  try simp only [kk] at hc0
  refine x_exit ?_
  refine x_seq ?_
  refine x_region rfl ?_
  refine o_y (y_move rfl) ?_
  refine o_y (y_assign rfl) ?_
  refine o_nil ?_
  have hk2 : k = 2 := by omega
  subst hk2
  have hkl := z2.len
  have hre : rest = [] := by
    rw [z3, List.length_append, List.length_append, marksTo_len (es := 3) (fun i => rfl), hnl] at hkl
    exact List.eq_nil_of_length_eq_zero (by omega)
  subst hre
  rw [List.append_nil, marksTo_two] at z3
  subst z3
  refine x_freezeG (S := R) (O' := O) (List.Perm.refl _) (fun H9 g9 hI9 => ?_)
  refine x_ret ?_
  refine x_fin 0 (ret1 rfl rfl) ?_
  exact ⟨rfl, _, (by simpa using g9), OwL.twin z2 rfl (El.ownFlat (fun h => ⟨h, rfl⟩) (hn.mono g9.ext)) hI9 hsm⟩
theorem leftAdds_ok {B : World} {H : HM} {O : OL} {v u : Value} {xs : List AddE} {F : List Nat} (h : OwL true H v xs F) (hu : RdL H u xs) : CallsM prog 50 [v, u].toArray B H O (Same (.bool true) H O) := by
  have hv := h.rdL
  have hle := hv.lenle
  obtain ⟨R, cs, Fs, hr, hH, hel, _, hsm, htw⟩ := h.h
  obtain ⟨bm, rfl, rfl⟩ := htw rfl
  have hcl : cs.length = xs.length * 3 := hr.len
  have hr2 : Row (.slice (some ⟨bm, 0, none⟩) (xs.length + 2) (xs.length + 2)) (xs.length + 2) (cs ++ (marksTo (Own.mark AddE) xs.length 2 ++ [])) 131 3 [(bm, cl (cs ++ (Own.mark AddE xs.length ++ Own.mark AddE (xs.length + 1))) (Own.ty AddE))] := ⟨by rw [List.length_append, List.length_append, marksTo_len (es := 3) (fun i => rfl), hcl]; simp only [List.length_nil]; omega, .inr ⟨bm, _, [], rfl, Nat.le_refl _, by simp, by rw [marksTo_two]; simp; rfl⟩⟩
  refine enter func50 rfl ntmps50 (l := [(0, _), (1, _)]) rfl rfl ?_
  refine x_seq ?_
  refine x_region rfl ?_
  refine o_y (y_assign rfl) ?_
  refine o_nil ?_
  refine x_seq ?_
  refine x_seq ?_
  refine x_region rfl ?_
  refine o_y (y_move rfl) ?_
  refine o_y (y_lenA underlying23 rfl) ?_
  refine o_y (y_move rfl) ?_
  refine o_y (y_lenA underlying23 rfl) ?_
  refine o_y (y_neq rfl rfl) ?_
  refine o_nil ?_
  refine x_cond rfl (fun hc0 => ?_) (fun hc0 => ?_)
  · try simp only [kk] at hc0
    exfalso; first | exact hc0 trivial | omega
  try simp only [kk] at hc0
  refine x_skip ?_
  refine x_seq ?_
  refine x_region rfl ?_
  refine o_y (y_move rfl) ?_
  refine o_y (y_move rfl) ?_
  refine o_y (y_lenA underlying23 rfl) ?_
  refine o_y (y_addN rfl rfl (by omega) (by omega)) ?_
  refine o_y (y_sliceH underlying23 ti131 rfl rfl (xs.length + 2) (by first | rfl | omega) (by omega)) ?_
  refine o_y (y_assign rfl) ?_
  refine o_nil ?_
  refine x_seq ?_
  refine x_seq ?_
  refine x_region rfl ?_
  refine o_y (y_move rfl) ?_
  refine o_y (y_lenA underlying23 rfl) ?_
  refine o_y (y_assign rfl) ?_
  refine o_nil ?_
  refine x_block ?_
  refine x_loopf (σ := Nat) (fun s => [(6, .int .i64 ((xs.length + s : Nat) : Int)), (5, .slice (some ⟨bm, 0, none⟩) (xs.length + 2) (xs.length + 2)), (0, .slice (some ⟨bm, 0, none⟩) xs.length (xs.length + 2)), (1, u)]) (fun s => O) (fun s => s ≤ 2) (fun s => 2 - s) 0 (by simp) (.c rfl (.c rfl (.c rfl (.c rfl .n)))) rfl ?_
  rintro k z1
  refine x_seq ?_
  refine x_seq ?_
  refine x_region rfl ?_
  refine o_y (y_move rfl) ?_
  refine o_y (y_move rfl) ?_
  refine o_y (y_lenA underlying23 rfl) ?_
  refine o_y (y_lss rfl rfl) ?_
  refine o_nil ?_
  refine x_cond rfl (fun hc1 => ?_) (fun hc1 => ?_)
  · try simp only [kk] at hc1
    have hk : k < 2 := by omega
    have aF : AtS H O (.slice (some ⟨bm, 0, none⟩) (xs.length + 2) (xs.length + 2)) ((xs.length + k) * 3) (Own.mark AddE ((xs.length + k : Nat) : Int)) := hr2.atH hH (by omega) (fun i x hx => by
      have hi := (List.getElem?_eq_some_iff.1 hx).1
      have hi2 : i < 3 := hi
      rw [List.getElem?_append_right (by omega), hcl, show (xs.length + k) * 3 + i - xs.length * 3 = k * 3 + i by omega, List.append_nil]
      match k, hk with
      | 0, _ => rw [marksTo_two, List.getElem?_append_left (by show 0 * 3 + i < 3; omega)]; simpa using hx
      | 1, _ => rw [marksTo_two, List.getElem?_append_right (by show 3 ≤ 1 * 3 + i; omega)]; have e : 1 * 3 + i - (Own.mark AddE (xs.length : Int)).length = i := by show 1 * 3 + i - 3 = i; omega
                rw [e]; simpa using hx)
    refine x_skip ?_
    refine x_seq ?_
    refine x_block ?_
    refine x_seq ?_
    refine x_region rfl ?_
    refine o_y (y_move rfl) ?_
    refine o_y (y_move rfl) ?_
    refine o_y (y_idxR hr2 (xs.length + k) (by omega) underlying23 ti131 rfl rfl rfl) ?_
    refine o_y (y_loadS ti131 rfl aF rfl (fun e => by cases e)) ?_
    refine o_y (y_move rfl) ?_
    refine o_call fn192 rfl (isAdd_ok (xs.length + k) (by omega)) ?_
    rintro _ _ _ ⟨rfl, rfl, rfl⟩
    refine o_y (y_not rfl) ?_
    refine o_nil ?_
    refine x_condF rfl ?_
    refine x_skip ?_
    refine x_region rfl ?_
    refine o_y (y_move rfl) ?_
    refine o_y (y_addN rfl rfl (by omega) (by omega)) ?_
    refine o_y (y_assign rfl) ?_
    refine o_nil ?_
    exact ⟨k + 1, 0, rfl, (.c rfl (.c rfl (.c rfl (.c rfl .n)))), rfl, by omega, by omega⟩
  try simp only [kk] at hc1
  refine x_exit ?_
  refine x_seq ?_
  refine x_region rfl ?_
  refine o_y (y_move rfl) ?_
  refine o_y (y_move rfl) ?_
  refine o_call fn168 rfl (sameAdds_ok hv hu) ?_
  rintro _ _ _ ⟨rfl, rfl, rfl⟩
  refine o_y (y_assign rfl) ?_
  refine o_nil ?_
  refine x_ret ?_
  refine x_fin 0 (ret1 rfl rfl) ?_
  exact ⟨by simp, rfl, rfl⟩
theorem twinSeals_ok {B : World} {H : HM} {O : OL} {v : Value} {xs : List Seal} (h : RdL H v xs) : CallsM prog 39 [v].toArray B H O (TwinL xs H O) := by
  have hle := h.lenle
  have hsm : xs.length * 24 ≤ 140737488351232 := h.small
  refine enter func39 rfl ntmps39 (l := [(0, _)]) rfl rfl ?_
  refine x_seq ?_
  refine x_region rfl ?_
  refine o_y (y_assign rfl) ?_
  refine o_nil ?_
  refine x_seq ?_
  refine x_region rfl ?_
  refine o_y (y_move rfl) ?_
  refine o_y (y_lenA underlying25 rfl) ?_
  refine o_y (y_move rfl) ?_
  refine o_y (y_lenA underlying25 rfl) ?_
  refine o_y (y_addN rfl rfl (by omega) (by omega)) ?_
  refine o_makeSlice (n := xs.length) (c := xs.length + 2) underlying25 ti135 (by decide) rfl rfl rfl (by omega) (by omega) (by omega) (by omega) (fun bm => ?_)
  have hz : (List.replicate (xs.length + 2) ([.int .i64 0, .int .i64 0, .int .i64 0] : List Value)).flatten.length = (xs.length + 2) * 3 := by simp
  have r0 := Row.make (n := xs.length) (b := bm) (e := 135) hz (by omega)
  refine o_y (y_assign rfl) ?_
  refine o_nil ?_
  refine x_seq ?_
  refine x_region rfl ?_
  refine o_y (y_move rfl) ?_
  refine o_y (y_move rfl) ?_
  refine o_copyL (o := 0) underlying25 underlying25 ti135 rfl r0 rfl rfl h (Nat.le_refl _) (by rw [r0.len]; omega) .o (fun R1 news hn j1 => ?_)
  have hnl : news.length = xs.length * 3 := hn.len
  rw [putC_all (by rw [r0.len]; exact hnl)] at j1
  obtain ⟨ds, hds, jr⟩ := j1.upto (m := xs.length + 2) (by omega) (Nat.le_refl _)
  refine o_nil ?_
  refine x_seq ?_
  refine x_region rfl ?_
  refine o_y (y_move rfl) ?_
  refine o_y (y_move rfl) ?_
  refine o_y (y_lenA underlying25 rfl) ?_
  refine o_y (y_addN rfl rfl (by omega) (by omega)) ?_
  refine o_y (y_sliceH underlying25 ti135 rfl rfl (xs.length + 2) (by first | rfl | omega) (by omega)) ?_
  refine o_y (y_assign rfl) ?_
  refine o_nil ?_
  refine x_seq ?_
  refine x_seq ?_
  refine x_region rfl ?_
  refine o_y (y_move rfl) ?_
  refine o_y (y_lenA underlying25 rfl) ?_
  refine o_y (y_assign rfl) ?_
  refine o_nil ?_
  refine x_block ?_
  refine x_loopf (σ := Nat × List Value × OL) (fun s => [(5, .int .i64 ((xs.length + s.1 : Nat) : Int)), (4, .slice (some ⟨bm, 0, none⟩) (xs.length + 2) (xs.length + 2)), (3, .slice (some ⟨bm, 0, none⟩) xs.length (xs.length + 2))]) (fun s => s.2.2 ++ O) (fun s => s.1 ≤ 2 ∧ Row (.slice (some ⟨bm, 0, none⟩) (xs.length + 2) (xs.length + 2)) (xs.length + 2) s.2.1 135 3 s.2.2 ∧ ∃ rest, s.2.1 = news ++ (marksTo (Own.mark Seal) xs.length s.1 ++ rest)) (fun s => 2 - s.1) (0, _, _) ⟨by simp, jr, ds, by simp [marksTo]⟩ (.c rfl (.c rfl (.c rfl .n))) rfl ?_
  rintro ⟨k, cells, R⟩ ⟨z1, z2, rest, z3⟩
  simp only at z1 z2 z3
  refine x_seq ?_
  refine x_seq ?_
  refine x_region rfl ?_
  refine o_y (y_move rfl) ?_
  refine o_y (y_move rfl) ?_
  refine o_y (y_lenA underlying25 rfl) ?_
  refine o_y (y_lss rfl rfl) ?_
  refine o_nil ?_
  refine x_cond rfl (fun hc0 => ?_) (fun hc0 => ?_)
  · try simp only [kk] at hc0
    have hk : k < 2 := by omega
    have hkl := z2.len
    have hrl : 3 ≤ rest.length := by
      rw [z3, List.length_append, List.length_append, marksTo_len (es := 3) (fun i => rfl), hnl] at hkl
      omega
    refine x_skip ?_
    refine x_seq ?_
    refine x_block ?_
    refine x_region rfl ?_
    refine o_y (y_move rfl) ?_
    refine o_y (y_move rfl) ?_
    refine o_y (y_move rfl) ?_
    refine o_call fn176 rfl (markSeal_ok (xs.length + k) (by omega)) ?_
    rintro _ _ _ ⟨rfl, rfl, rfl⟩
    refine o_y (y_idxR z2 (xs.length + k) (by omega) underlying25 ti135 rfl rfl rfl) ?_
    refine o_storeS (u := [_, _, _]) ti135 rfl rfl z2 rfl rfl (by first | rfl | assumption | (simp only [ones, List.all_cons, List.all_nil, Bool.and_true, one_of (by assumption)]; done)) (by omega) (by omega) hol (fun R7_5 j7_5 => ?_)
    refine o_nil ?_
    refine x_region rfl ?_
    refine o_y (y_move rfl) ?_
    refine o_y (y_addN rfl rfl (by omega) (by omega)) ?_
    refine o_y (y_assign rfl) ?_
    refine o_nil ?_
    exact ⟨(k + 1, _, R7_5), 0, rfl, (.c rfl (.c rfl (.c rfl .n))), rfl, ⟨by omega, j7_5, rest.drop 3, by rw [z3]; exact putC_mark (mk := Own.mark Seal) hnl (fun i => rfl) hrl⟩, by simp only; omega⟩
  try simp only [kk] at hc0
  refine x_exit ?_
  refine x_seq ?_
  refine x_region rfl ?_
  refine o_y (y_move rfl) ?_
  refine o_y (y_assign rfl) ?_
  refine o_nil ?_
  have hk2 : k = 2 := by omega
  subst hk2
  have hkl := z2.len
  have hre : rest = [] := by
    rw [z3, List.length_append, List.length_append, marksTo_len (es := 3) (fun i => rfl), hnl] at hkl
    exact List.eq_nil_of_length_eq_zero (by omega)
  subst hre
  rw [List.append_nil, marksTo_two] at z3
  subst z3
  refine x_freezeG (S := R) (O' := O) (List.Perm.refl _) (fun H9 g9 hI9 => ?_)
  refine x_ret ?_
  refine x_fin 0 (ret1 rfl rfl) ?_
  exact ⟨rfl, _, (by simpa using g9), OwL.twin z2 rfl (El.ownFlat (fun h => ⟨h, rfl⟩) (hn.mono g9.ext)) hI9 hsm⟩
theorem leftSeals_ok {B : World} {H : HM} {O : OL} {v u : Value} {xs : List Seal} {F : List Nat} (h : OwL true H v xs F) (hu : RdL H u xs) : CallsM prog 52 [v, u].toArray B H O (Same (.bool true) H O) := by
  have hv := h.rdL
  have hle := hv.lenle
  obtain ⟨R, cs, Fs, hr, hH, hel, _, hsm, htw⟩ := h.h
  obtain ⟨bm, rfl, rfl⟩ := htw rfl
  have hcl : cs.length = xs.length * 3 := hr.len
  have hr2 : Row (.slice (some ⟨bm, 0, none⟩) (xs.length + 2) (xs.length + 2)) (xs.length + 2) (cs ++ (marksTo (Own.mark Seal) xs.length 2 ++ [])) 135 3 [(bm, cl (cs ++ (Own.mark Seal xs.length ++ Own.mark Seal (xs.length + 1))) (Own.ty Seal))] := ⟨by rw [List.length_append, List.length_append, marksTo_len (es := 3) (fun i => rfl), hcl]; simp only [List.length_nil]; omega, .inr ⟨bm, _, [], rfl, Nat.le_refl _, by simp, by rw [marksTo_two]; simp; rfl⟩⟩
  refine enter func52 rfl ntmps52 (l := [(0, _), (1, _)]) rfl rfl ?_
  refine x_seq ?_
  refine x_region rfl ?_
  refine o_y (y_assign rfl) ?_
  refine o_nil ?_
  refine x_seq ?_
  refine x_seq ?_
  refine x_region rfl ?_
  refine o_y (y_move rfl) ?_
  refine o_y (y_lenA underlying25 rfl) ?_
  refine o_y (y_move rfl) ?_
  refine o_y (y_lenA underlying25 rfl) ?_
  refine o_y (y_neq rfl rfl) ?_
  refine o_nil ?_
  refine x_cond rfl (fun hc0 => ?_) (fun hc0 => ?_)
  · try simp only [kk] at hc0
    exfalso; first | exact hc0 trivial | omega
  try simp only [kk] at hc0
  refine x_skip ?_
  refine x_seq ?_
  refine x_region rfl ?_
  refine o_y (y_move rfl) ?_
  refine o_y (y_move rfl) ?_
  refine o_y (y_lenA underlying25 rfl) ?_
  refine o_y (y_addN rfl rfl (by omega) (by omega)) ?_
  refine o_y (y_sliceH underlying25 ti135 rfl rfl (xs.length + 2) (by first | rfl | omega) (by omega)) ?_
  refine o_y (y_assign rfl) ?_
  refine o_nil ?_
  refine x_seq ?_
  refine x_seq ?_
  refine x_region rfl ?_
  refine o_y (y_move rfl) ?_
  refine o_y (y_lenA underlying25 rfl) ?_
  refine o_y (y_assign rfl) ?_
  refine o_nil ?_
  refine x_block ?_
  refine x_loopf (σ := Nat) (fun s => [(6, .int .i64 ((xs.length + s : Nat) : Int)), (5, .slice (some ⟨bm, 0, none⟩) (xs.length + 2) (xs.length + 2)), (0, .slice (some ⟨bm, 0, none⟩) xs.length (xs.length + 2)), (1, u)]) (fun s => O) (fun s => s ≤ 2) (fun s => 2 - s) 0 (by simp) (.c rfl (.c rfl (.c rfl (.c rfl .n)))) rfl ?_
  rintro k z1
  refine x_seq ?_
  refine x_seq ?_
  refine x_region rfl ?_
  refine o_y (y_move rfl) ?_
  refine o_y (y_move rfl) ?_
  refine o_y (y_lenA underlying25 rfl) ?_
  refine o_y (y_lss rfl rfl) ?_
  refine o_nil ?_
  refine x_cond rfl (fun hc1 => ?_) (fun hc1 => ?_)
  · try simp only [kk] at hc1
    have hk : k < 2 := by omega
    have aF : AtS H O (.slice (some ⟨bm, 0, none⟩) (xs.length + 2) (xs.length + 2)) ((xs.length + k) * 3) (Own.mark Seal ((xs.length + k : Nat) : Int)) := hr2.atH hH (by omega) (fun i x hx => by
      have hi := (List.getElem?_eq_some_iff.1 hx).1
      have hi2 : i < 3 := hi
      rw [List.getElem?_append_right (by omega), hcl, show (xs.length + k) * 3 + i - xs.length * 3 = k * 3 + i by omega, List.append_nil]
      match k, hk with
      | 0, _ => rw [marksTo_two, List.getElem?_append_left (by show 0 * 3 + i < 3; omega)]; simpa using hx
      | 1, _ => rw [marksTo_two, List.getElem?_append_right (by show 3 ≤ 1 * 3 + i; omega)]; have e : 1 * 3 + i - (Own.mark Seal (xs.length : Int)).length = i := by show 1 * 3 + i - 3 = i; omega
                rw [e]; simpa using hx)
    refine x_skip ?_
    refine x_seq ?_
    refine x_block ?_
    refine x_seq ?_
    refine x_region rfl ?_
    refine o_y (y_move rfl) ?_
    refine o_y (y_move rfl) ?_
    refine o_y (y_idxR hr2 (xs.length + k) (by omega) underlying25 ti135 rfl rfl rfl) ?_
    refine o_y (y_loadS ti135 rfl aF rfl (fun e => by cases e)) ?_
    refine o_y (y_move rfl) ?_
    refine o_call fn194 rfl (isSeal_ok (xs.length + k) (by omega)) ?_
    rintro _ _ _ ⟨rfl, rfl, rfl⟩
    refine o_y (y_not rfl) ?_
    refine o_nil ?_
    refine x_condF rfl ?_
    refine x_skip ?_
    refine x_region rfl ?_
    refine o_y (y_move rfl) ?_
    refine o_y (y_addN rfl rfl (by omega) (by omega)) ?_
    refine o_y (y_assign rfl) ?_
    refine o_nil ?_
    exact ⟨k + 1, 0, rfl, (.c rfl (.c rfl (.c rfl (.c rfl .n)))), rfl, by omega, by omega⟩
  try simp only [kk] at hc1
  refine x_exit ?_
  refine x_seq ?_
  refine x_region rfl ?_
  refine o_y (y_move rfl) ?_
  refine o_y (y_move rfl) ?_
  refine o_call fn169 rfl (sameSeals_ok hv hu) ?_
  rintro _ _ _ ⟨rfl, rfl, rfl⟩
  refine o_y (y_assign rfl) ?_
  refine o_nil ?_
  refine x_ret ?_
  refine x_fin 0 (ret1 rfl rfl) ?_
  exact ⟨by simp, rfl, rfl⟩
theorem twinJoins_ok {B : World} {H : HM} {O : OL} {v : Value} {xs : List Join} (h : RdL H v xs) : CallsM prog 40 [v].toArray B H O (TwinL xs H O) := by
  have hle := h.lenle
  have hsm : xs.length * 16 ≤ 140737488351232 := h.small
  refine enter func40 rfl ntmps40 (l := [(0, _)]) rfl rfl ?_
  refine x_seq ?_
  refine x_region rfl ?_
  refine o_y (y_assign rfl) ?_
  refine o_nil ?_
  refine x_seq ?_
  refine x_region rfl ?_
  refine o_y (y_move rfl) ?_
  refine o_y (y_lenA underlying26 rfl) ?_
  refine o_y (y_move rfl) ?_
  refine o_y (y_lenA underlying26 rfl) ?_
  refine o_y (y_addN rfl rfl (by omega) (by omega)) ?_
  refine o_makeSlice (n := xs.length) (c := xs.length + 2) underlying26 ti138 (by decide) rfl rfl rfl (by omega) (by omega) (by omega) (by omega) (fun bm => ?_)
  have hz : (List.replicate (xs.length + 2) ([.int .i64 0, .int .i64 0] : List Value)).flatten.length = (xs.length + 2) * 2 := by simp
  have r0 := Row.make (n := xs.length) (b := bm) (e := 138) hz (by omega)
  refine o_y (y_assign rfl) ?_
  refine o_nil ?_
  refine x_seq ?_
  refine x_region rfl ?_
  refine o_y (y_move rfl) ?_
  refine o_y (y_move rfl) ?_
  refine o_copyL (o := 0) underlying26 underlying26 ti138 rfl r0 rfl rfl h (Nat.le_refl _) (by rw [r0.len]; omega) .o (fun R1 news hn j1 => ?_)
  have hnl : news.length = xs.length * 2 := hn.len
  rw [putC_all (by rw [r0.len]; exact hnl)] at j1
  obtain ⟨ds, hds, jr⟩ := j1.upto (m := xs.length + 2) (by omega) (Nat.le_refl _)
  refine o_nil ?_
  refine x_seq ?_
  refine x_region rfl ?_
  refine o_y (y_move rfl) ?_
  refine o_y (y_move rfl) ?_
  refine o_y (y_lenA underlying26 rfl) ?_
  refine o_y (y_addN rfl rfl (by omega) (by omega)) ?_
  refine o_y (y_sliceH underlying26 ti138 rfl rfl (xs.length + 2) (by first | rfl | omega) (by omega)) ?_
  refine o_y (y_assign rfl) ?_
  refine o_nil ?_
  refine x_seq ?_
  refine x_seq ?_
  refine x_region rfl ?_
  refine o_y (y_move rfl) ?_
  refine o_y (y_lenA underlying26 rfl) ?_
  refine o_y (y_assign rfl) ?_
  refine o_nil ?_
  refine x_block ?_
  refine x_loopf (σ := Nat × List Value × OL) (fun s => [(5, .int .i64 ((xs.length + s.1 : Nat) : Int)), (4, .slice (some ⟨bm, 0, none⟩) (xs.length + 2) (xs.length + 2)), (3, .slice (some ⟨bm, 0, none⟩) xs.length (xs.length + 2))]) (fun s => s.2.2 ++ O) (fun s => s.1 ≤ 2 ∧ Row (.slice (some ⟨bm, 0, none⟩) (xs.length + 2) (xs.length + 2)) (xs.length + 2) s.2.1 138 2 s.2.2 ∧ ∃ rest, s.2.1 = news ++ (marksTo (Own.mark Join) xs.length s.1 ++ rest)) (fun s => 2 - s.1) (0, _, _) ⟨by simp, jr, ds, by simp [marksTo]⟩ (.c rfl (.c rfl (.c rfl .n))) rfl ?_
  rintro ⟨k, cells, R⟩ ⟨z1, z2, rest, z3⟩
  simp only at z1 z2 z3
  refine x_seq ?_
  refine x_seq ?_
  refine x_region rfl ?_
  refine o_y (y_move rfl) ?_
  refine o_y (y_move rfl) ?_
  refine o_y (y_lenA underlying26 rfl) ?_
  refine o_y (y_lss rfl rfl) ?_
  refine o_nil ?_
  refine x_cond rfl (fun hc0 => ?_) (fun hc0 => ?_)
  · try simp only [kk] at hc0
    have hk : k < 2 := by omega
    have hkl := z2.len
    have hrl : 2 ≤ rest.length := by
      rw [z3, List.length_append, List.length_append, marksTo_len (es := 2) (fun i => rfl), hnl] at hkl
      omega
    refine x_skip ?_
    refine x_seq ?_
    refine x_block ?_
    refine x_region rfl ?_
    refine o_y (y_move rfl) ?_
    refine o_y (y_move rfl) ?_
    refine o_y (y_move rfl) ?_
    refine o_call fn177 rfl (markJoin_ok (xs.length + k) (by omega)) ?_
    rintro _ _ _ ⟨rfl, rfl, rfl⟩
    refine o_y (y_idxR z2 (xs.length + k) (by omega) underlying26 ti138 rfl rfl rfl) ?_
    refine o_storeS (u := [_, _]) ti138 rfl rfl z2 rfl rfl (by first | rfl | assumption | (simp only [ones, List.all_cons, List.all_nil, Bool.and_true, one_of (by assumption)]; done)) (by omega) (by omega) hol (fun R7_5 j7_5 => ?_)
    refine o_nil ?_
    refine x_region rfl ?_
    refine o_y (y_move rfl) ?_
    refine o_y (y_addN rfl rfl (by omega) (by omega)) ?_
    refine o_y (y_assign rfl) ?_
    refine o_nil ?_
    exact ⟨(k + 1, _, R7_5), 0, rfl, (.c rfl (.c rfl (.c rfl .n))), rfl, ⟨by omega, j7_5, rest.drop 2, by rw [z3]; exact putC_mark (mk := Own.mark Join) hnl (fun i => rfl) hrl⟩, by simp only; omega⟩
  try simp only [kk] at hc0
  refine x_exit ?_
  refine x_seq ?_
  refine x_region rfl ?_
  refine o_y (y_move rfl) ?_
  refine o_y (y_assign rfl) ?_
  refine o_nil ?_
  have hk2 : k = 2 := by omega
  subst hk2
  have hkl := z2.len
  have hre : rest = [] := by
    rw [z3, List.length_append, List.length_append, marksTo_len (es := 2) (fun i => rfl), hnl] at hkl
    exact List.eq_nil_of_length_eq_zero (by omega)
  subst hre
  rw [List.append_nil, marksTo_two] at z3
  subst z3
  refine x_freezeG (S := R) (O' := O) (List.Perm.refl _) (fun H9 g9 hI9 => ?_)
  refine x_ret ?_
  refine x_fin 0 (ret1 rfl rfl) ?_
  exact ⟨rfl, _, (by simpa using g9), OwL.twin z2 rfl (El.ownFlat (fun h => ⟨h, rfl⟩) (hn.mono g9.ext)) hI9 hsm⟩
theorem leftJoins_ok {B : World} {H : HM} {O : OL} {v u : Value} {xs : List Join} {F : List Nat} (h : OwL true H v xs F) (hu : RdL H u xs) : CallsM prog 53 [v, u].toArray B H O (Same (.bool true) H O) := by
  have hv := h.rdL
  have hle := hv.lenle
  obtain ⟨R, cs, Fs, hr, hH, hel, _, hsm, htw⟩ := h.h
  obtain ⟨bm, rfl, rfl⟩ := htw rfl
  have hcl : cs.length = xs.length * 2 := hr.len
  have hr2 : Row (.slice (some ⟨bm, 0, none⟩) (xs.length + 2) (xs.length + 2)) (xs.length + 2) (cs ++ (marksTo (Own.mark Join) xs.length 2 ++ [])) 138 2 [(bm, cl (cs ++ (Own.mark Join xs.length ++ Own.mark Join (xs.length + 1))) (Own.ty Join))] := ⟨by rw [List.length_append, List.length_append, marksTo_len (es := 2) (fun i => rfl), hcl]; simp only [List.length_nil]; omega, .inr ⟨bm, _, [], rfl, Nat.le_refl _, by simp, by rw [marksTo_two]; simp; rfl⟩⟩
  refine enter func53 rfl ntmps53 (l := [(0, _), (1, _)]) rfl rfl ?_
  refine x_seq ?_
  refine x_region rfl ?_
  refine o_y (y_assign rfl) ?_
  refine o_nil ?_
  refine x_seq ?_
  refine x_seq ?_
  refine x_region rfl ?_
  refine o_y (y_move rfl) ?_
  refine o_y (y_lenA underlying26 rfl) ?_
  refine o_y (y_move rfl) ?_
  refine o_y (y_lenA underlying26 rfl) ?_
  refine o_y (y_neq rfl rfl) ?_
  refine o_nil ?_
  refine x_cond rfl (fun hc0 => ?_) (fun hc0 => ?_)
  · try simp only [kk] at hc0
    exfalso; first | exact hc0 trivial | omega
  try simp only [kk] at hc0
  refine x_skip ?_
  refine x_seq ?_
  refine x_region rfl ?_
  refine o_y (y_move rfl) ?_
  refine o_y (y_move rfl) ?_
  refine o_y (y_lenA underlying26 rfl) ?_
  refine o_y (y_addN rfl rfl (by omega) (by omega)) ?_
  refine o_y (y_sliceH underlying26 ti138 rfl rfl (xs.length + 2) (by first | rfl | omega) (by omega)) ?_
  refine o_y (y_assign rfl) ?_
  refine o_nil ?_
  refine x_seq ?_
  refine x_seq ?_
  refine x_region rfl ?_
  refine o_y (y_move rfl) ?_
  refine o_y (y_lenA underlying26 rfl) ?_
  refine o_y (y_assign rfl) ?_
  refine o_nil ?_
  refine x_block ?_
  refine x_loopf (σ := Nat) (fun s => [(6, .int .i64 ((xs.length + s : Nat) : Int)), (5, .slice (some ⟨bm, 0, none⟩) (xs.length + 2) (xs.length + 2)), (0, .slice (some ⟨bm, 0, none⟩) xs.length (xs.length + 2)), (1, u)]) (fun s => O) (fun s => s ≤ 2) (fun s => 2 - s) 0 (by simp) (.c rfl (.c rfl (.c rfl (.c rfl .n)))) rfl ?_
  rintro k z1
  refine x_seq ?_
  refine x_seq ?_
  refine x_region rfl ?_
  refine o_y (y_move rfl) ?_
  refine o_y (y_move rfl) ?_
  refine o_y (y_lenA underlying26 rfl) ?_
  refine o_y (y_lss rfl rfl) ?_
  refine o_nil ?_
  refine x_cond rfl (fun hc1 => ?_) (fun hc1 => ?_)
  · try simp only [kk] at hc1
    have hk : k < 2 := by omega
    have aF : AtS H O (.slice (some ⟨bm, 0, none⟩) (xs.length + 2) (xs.length + 2)) ((xs.length + k) * 2) (Own.mark Join ((xs.length + k : Nat) : Int)) := hr2.atH hH (by omega) (fun i x hx => by
      have hi := (List.getElem?_eq_some_iff.1 hx).1
      have hi2 : i < 2 := hi
      rw [List.getElem?_append_right (by omega), hcl, show (xs.length + k) * 2 + i - xs.length * 2 = k * 2 + i by omega, List.append_nil]
      match k, hk with
      | 0, _ => rw [marksTo_two, List.getElem?_append_left (by show 0 * 2 + i < 2; omega)]; simpa using hx
      | 1, _ => rw [marksTo_two, List.getElem?_append_right (by show 2 ≤ 1 * 2 + i; omega)]; have e : 1 * 2 + i - (Own.mark Join (xs.length : Int)).length = i := by show 1 * 2 + i - 2 = i; omega
                rw [e]; simpa using hx)
    refine x_skip ?_
    refine x_seq ?_
    refine x_block ?_
    refine x_seq ?_
    refine x_region rfl ?_
    refine o_y (y_move rfl) ?_
    refine o_y (y_move rfl) ?_
    refine o_y (y_idxR hr2 (xs.length + k) (by omega) underlying26 ti138 rfl rfl rfl) ?_
    refine o_y (y_loadS ti138 rfl aF rfl (fun e => by cases e)) ?_
    refine o_y (y_move rfl) ?_
    refine o_call fn195 rfl (isJoin_ok (xs.length + k) (by omega)) ?_
    rintro _ _ _ ⟨rfl, rfl, rfl⟩
    refine o_y (y_not rfl) ?_
    refine o_nil ?_
    refine x_condF rfl ?_
    refine x_skip ?_
    refine x_region rfl ?_
    refine o_y (y_move rfl) ?_
    refine o_y (y_addN rfl rfl (by omega) (by omega)) ?_
    refine o_y (y_assign rfl) ?_
    refine o_nil ?_
    exact ⟨k + 1, 0, rfl, (.c rfl (.c rfl (.c rfl (.c rfl .n)))), rfl, by omega, by omega⟩
  try simp only [kk] at hc1
  refine x_exit ?_
  refine x_seq ?_
  refine x_region rfl ?_
  refine o_y (y_move rfl) ?_
  refine o_y (y_move rfl) ?_
  refine o_call fn170 rfl (sameJoins_ok hv hu) ?_
  rintro _ _ _ ⟨rfl, rfl, rfl⟩
  refine o_y (y_assign rfl) ?_
  refine o_nil ?_
  refine x_ret ?_
  refine x_fin 0 (ret1 rfl rfl) ?_
  exact ⟨by simp, rfl, rfl⟩
end Go.Ph
set_option linter.unusedVariables false
set_option linter.unusedSimpArgs false
set_option maxRecDepth 100000
namespace Go.Ph
open Go Go.RowKit Go.Proofs.YtmgnagpgnoikfaaGreatDoor Go.Proofs.Tryz
theorem twinNode_ok {B : World} {H : HM} {O : OL} {ds : List Value} {x : Node} (h : Rep.rd H ds x) : CallsM prog 262 [.agg ds.toArray].toArray B H O (TwinO x H O) := by
  obtain ⟨u3, rfl, h0, h1, h2, h3⟩ := h
  refine enter func262 rfl ntmps262 (l := [(0, _)]) rfl rfl ?_
  refine x_seq ?_
  refine x_region rfl ?_
  refine o_box rfl (cs := [_, _, _, _]) rfl (fun b1 => ?_)
  refine o_alloc ti127 rfl (fun b2 => ?_)
  refine o_nil ?_
  refine x_seq ?_
  refine x_region rfl ?_
  refine o_y (y_fieldAddr fd127_3 ti24 (by decide) rfl) ?_
  refine o_y (y_loadO ti24 rfl inn rfl) ?_
  refine o_call fn38 rfl (twinNumbers_ok h3) ?_
  rintro _ H1 _ ⟨rfl, F3, g3, o3⟩
  obtain ⟨p3, c3, rfl⟩ := o3.shape
  refine o_y (y_fieldAddr fd127_3 ti24 (by decide) rfl) ?_
  refine o_store (u := [_]) (C' := [_, _, _, _]) ti24 rfl rfl rfl rfl (by first | rfl | assumption | (simp only [ones, List.all_cons, List.all_nil, Bool.and_true, one_of (by assumption)]; done)) (by repeat (first | exact .z | apply Upd.s | apply Upd.a)) (by exact Nat.le_of_ble_eq_true rfl) (by rfl) ?_
  refine o_nil ?_
  refine x_seq ?_
  refine x_region rfl ?_
  refine o_y (y_loadA ti127 rfl inn rfl) ?_
  refine o_store (u := [_, _, _, _]) (C' := [_, _, _, _]) ti127 rfl rfl rfl rfl (by first | rfl | assumption | (simp only [ones, List.all_cons, List.all_nil, Bool.and_true, one_of (by assumption)]; done)) (by repeat (first | exact .z | apply Upd.s | apply Upd.a)) (by exact Nat.le_of_ble_eq_true rfl) (by rfl) ?_
  refine o_nil ?_
  refine x_ret ?_
  refine x_fin 2 (retC rfl rfl ti127 inn rfl) ?_
  exact ⟨rfl, _, _, g3, rfl, _, _, rfl, h0, h1, h2, o3, rfl⟩
theorem leftNode_ok {B : World} {H : HM} {O : OL} {ds es : List Value} {x : Node} {F : List Nat} (h : Own.ow true H ds x F) (hu : Rep.rd H es x) : CallsM prog 272 [.agg ds.toArray, .agg es.toArray].toArray B H O (Same (.bool true) H O) := by
  obtain ⟨u3, F3, rfl, h0, h1, h2, h3, eF⟩ := h
  obtain ⟨w3, rfl, k0, k1, k2, k3⟩ := hu
  refine enter func272 rfl ntmps272 (l := [(0, _), (1, _)]) rfl rfl ?_
  refine x_seq ?_
  refine x_region rfl ?_
  refine o_box rfl (cs := [_, _, _, _]) rfl (fun b2 => ?_)
  refine o_box rfl (cs := [_, _, _, _]) rfl (fun b3 => ?_)
  refine o_y (y_assign rfl) ?_
  refine o_nil ?_
  refine x_seq ?_
  refine x_region rfl ?_
  refine o_y (y_fieldAddr fd127_0 ti3 (by decide) rfl) ?_
  refine o_y (y_loadO ti3 rfl inn rfl) ?_
  refine o_y (y_fieldAddr fd127_0 ti3 (by decide) rfl) ?_
  refine o_y (y_loadO ti3 rfl inn rfl) ?_
  refine o_y (y_eql rfl rfl) ?_
  refine o_y (y_move rfl) ?_
  refine o_split 10 rfl (fun hg1_10 => ?_) (fun hg1_10 => ?_)
  · try simp only [kk] at hg1_10
    refine o_gy 10 rfl rfl (y_fieldAddr fd127_1 ti3 (by decide) rfl) ?_
    refine o_gy 10 rfl rfl (y_loadO ti3 rfl inn rfl) ?_
    refine o_gy 10 rfl rfl (y_fieldAddr fd127_1 ti3 (by decide) rfl) ?_
    refine o_gy 10 rfl rfl (y_loadO ti3 rfl inn rfl) ?_
    refine o_gy 10 rfl rfl (y_eql rfl rfl) ?_
    refine o_y (y_pick rfl rfl) ?_
    refine o_y (y_move rfl) ?_
    refine o_split 17 rfl (fun hg1_17 => ?_) (fun hg1_17 => ?_)
    · try simp only [kk] at hg1_17
      refine o_gy 17 rfl rfl (y_fieldAddr fd127_2 ti3 (by decide) rfl) ?_
      refine o_gy 17 rfl rfl (y_loadO ti3 rfl inn rfl) ?_
      refine o_gy 17 rfl rfl (y_fieldAddr fd127_2 ti3 (by decide) rfl) ?_
      refine o_gy 17 rfl rfl (y_loadO ti3 rfl inn rfl) ?_
      refine o_gy 17 rfl rfl (y_eql rfl rfl) ?_
      refine o_y (y_pick rfl rfl) ?_
      refine o_y (y_move rfl) ?_
      refine o_split 24 rfl (fun hg1_24 => ?_) (fun hg1_24 => ?_)
      · try simp only [kk] at hg1_24
        refine o_gy 24 rfl rfl (y_fieldAddr fd127_3 ti24 (by decide) rfl) ?_
        refine o_gy 24 rfl rfl (y_loadO ti24 rfl inn rfl) ?_
        refine o_gy 24 rfl rfl (y_fieldAddr fd127_3 ti24 (by decide) rfl) ?_
        refine o_gy 24 rfl rfl (y_loadO ti24 rfl inn rfl) ?_
        refine o_gcall 24 rfl rfl fn51 rfl (leftNumbers_ok h3 k3) ?_
        rintro _ _ _ ⟨rfl, rfl, rfl⟩
        refine o_y (y_pick rfl rfl) ?_
        refine o_y (y_assign rfl) ?_
        refine o_nil ?_
        refine x_ret ?_
        refine x_fin 2 (ret1 rfl rfl) ?_
        exact ⟨rfl, rfl, rfl⟩
      try simp only [kk] at hg1_24
      exfalso; simp at hg1_24
    try simp only [kk] at hg1_17
    exfalso; simp at hg1_17
  try simp only [kk] at hg1_10
  exfalso; simp at hg1_10
theorem twinNodes_ok {B : World} {H : HM} {O : OL} {v : Value} {xs : List Node} (h : RdL H v xs) : CallsM prog 173 [v].toArray B H O (TwinL xs H O) := by
  have hle := h.lenle
  have hsm : xs.length * 48 ≤ 140737488351232 := h.small
  refine enter func173 rfl ntmps173 (l := [(0, _)]) rfl rfl ?_
  refine x_seq ?_
  refine x_region rfl ?_
  refine o_y (y_assign rfl) ?_
  refine o_nil ?_
  refine x_seq ?_
  refine x_region rfl ?_
  refine o_y (y_move rfl) ?_
  refine o_y (y_lenA underlying27 rfl) ?_
  refine o_y (y_move rfl) ?_
  refine o_y (y_lenA underlying27 rfl) ?_
  refine o_y (y_addN rfl rfl (by omega) (by omega)) ?_
  refine o_makeSlice (n := xs.length) (c := xs.length + 2) underlying27 ti127 (by decide) rfl rfl rfl (by omega) (by omega) (by omega) (by omega) (fun bm => ?_)
  have hz : (List.replicate (xs.length + 2) ([.int .i64 0, .int .i64 0, .int .i64 0, .slice none 0 0] : List Value)).flatten.length = (xs.length + 2) * 4 := by simp
  have r0 := Row.make (n := xs.length) (b := bm) (e := 127) hz (by omega)
  refine o_y (y_assign rfl) ?_
  refine o_nil ?_
  refine x_seq ?_
  refine x_seq ?_
  refine x_region rfl ?_
  refine o_y (y_move rfl) ?_
  refine o_y (y_lenA underlying27 rfl) ?_
  refine o_y (y_move rfl) ?_
  refine o_nil ?_
  refine x_block ?_
  refine x_loopg (σ := Nat × HM × List Value × OL × List Nat) (fun s => [(15, .int .i64 (s.1 : Int)), (14, .int .i64 (xs.length : Int)), (3, .slice (some ⟨bm, 0, none⟩) xs.length (xs.length + 2)), (0, v)]) (fun s => s.2.1) (fun s => s.2.2.2.1 ++ O) (fun s => s.1 ≤ xs.length ∧ Grew H s.2.1 s.2.2.2.2 ∧ Row (.slice (some ⟨bm, 0, none⟩) xs.length (xs.length + 2)) xs.length s.2.2.1 127 4 s.2.2.2.1 ∧ ElO true s.2.1 (s.2.2.1.take (s.1 * 4)) (xs.take s.1) s.2.2.2.2) (fun s => xs.length - s.1) (0, H, _, _, []) ⟨by simp, Grew.refl H, r0, by simp only [Nat.zero_mul, List.take_zero]; exact .n⟩ (.c rfl (.c rfl (.c rfl (.c rfl .n)))) rfl rfl ?_
  rintro ⟨i, H1, cells, R, Fs⟩ ⟨i1, i2, i3, i4⟩
  simp only at i1 i2 i3 i4
  refine x_seq ?_
  refine x_region rfl ?_
  refine o_y (y_lss rfl rfl) ?_
  refine o_nil ?_
  refine x_seq ?_
  refine x_cond rfl (fun hc0 => ?_) (fun hc0 => ?_)
  · try simp only [kk] at hc0
    have hi : i < xs.length := by omega
    have hv1 := h.mono i2.ext
    have hcl := i3.len
    refine x_skip ?_
    refine x_seq ?_
    refine x_block ?_
    refine x_seq ?_
    refine x_region rfl ?_
    refine o_y (y_move rfl) ?_
    refine o_y (y_assign rfl) ?_
    refine o_nil ?_
    refine x_region rfl ?_
    refine o_y (y_move rfl) ?_
    refine o_y (y_move rfl) ?_
    refine o_y (y_move rfl) ?_
    refine o_y (y_move rfl) ?_
    obtain ⟨ce22, ae22, re22⟩ := RdL.at hv1 _ i hi
    have se22 := AtS.isSl ae22
    have te22 := re22
    obtain ⟨u22_3, z22, q22_0, q22_1, q22_2, q22_3⟩ := re22
    subst z22
    have w22 := Rep.one te22
    refine o_y (y_idxL hv1 i hi underlying27 ti127 rfl rfl (by omega)) ?_
    refine o_y (y_loadS ti127 rfl (by assumption) rfl (fun e => by cases e)) ?_
    refine o_call fn262 rfl (twinNode_ok te22) ?_
    rintro _ H2 _ ⟨rfl, F2, cs2, g2, rfl, o2⟩
    have o2' := o2
    have w2 := Rep.one (Own.ow_rd o2)
    have l2 : cs2.length = 4 := Rep.len (Own.ow_rd o2)
    have e2 : (putC cells (i * 4) cs2).take ((i + 1) * 4) = cells.take (i * 4) ++ cs2 := by
      rw [show (i + 1) * 4 = i * 4 + cs2.length by omega]; exact putC_take (by omega)
    obtain ⟨u3, G3, rfl, h0, h1, h2, h3, eG⟩ := o2
    refine o_y (y_idxR i3 i hi underlying27 ti127 rfl rfl rfl) ?_
    refine o_storeS (u := [_, _, _, _]) ti127 rfl rfl i3 rfl rfl (by first | rfl | assumption | (simp only [ones, List.all_cons, List.all_nil, Bool.and_true, one_of (by assumption)]; done)) (by omega) (by omega) hol (fun R5_8 j5_8 => ?_)
    refine o_nil ?_
    refine x_region rfl ?_
    refine o_y (y_addN rfl rfl (by omega) (by omega)) ?_
    refine o_y (y_move rfl) ?_
    refine o_nil ?_
    exact ⟨(i + 1, H2, _, R5_8, Fs ++ F2), 0, rfl, (.c rfl (.c rfl (.c rfl (.c rfl .n)))), rfl, ⟨by omega, i2.trans g2, j5_8, by have e := (i4.mono g2.ext).snoc o2'; rw [← e2] at e; rw [take_next hi]; exact e⟩, by simp only; omega⟩
  try simp only [kk] at hc0
  refine x_exit ?_
  refine x_seq ?_
  have hin : i = xs.length := by omega
  subst hin
  have hv7 := h.mono i2.ext
  rw [List.take_length, List.take_of_length_le (by rw [i3.len]; exact Nat.le_refl _)] at i4
  obtain ⟨news, hne⟩ : ∃ news, news = cells := ⟨_, rfl⟩
  rw [← hne] at i3 i4
  have hnl : news.length = xs.length * 4 := i3.len
  obtain ⟨ds, hds, jr⟩ := i3.upto (m := xs.length + 2) (by omega) (Nat.le_refl _)
  refine x_region rfl ?_
  refine o_y (y_move rfl) ?_
  refine o_y (y_move rfl) ?_
  refine o_y (y_lenA underlying27 rfl) ?_
  refine o_y (y_addN rfl rfl (by omega) (by omega)) ?_
  refine o_y (y_sliceH underlying27 ti127 rfl rfl (xs.length + 2) (by first | rfl | omega) (by omega)) ?_
  refine o_y (y_assign rfl) ?_
  refine o_nil ?_
  refine x_seq ?_
  refine x_seq ?_
  refine x_region rfl ?_
  refine o_y (y_move rfl) ?_
  refine o_y (y_lenA underlying27 rfl) ?_
  refine o_y (y_assign rfl) ?_
  refine o_nil ?_
  refine x_block ?_
  refine x_loopf (σ := Nat × List Value × OL) (fun s => [(6, .int .i64 ((xs.length + s.1 : Nat) : Int)), (5, .slice (some ⟨bm, 0, none⟩) (xs.length + 2) (xs.length + 2)), (3, .slice (some ⟨bm, 0, none⟩) xs.length (xs.length + 2))]) (fun s => s.2.2 ++ O) (fun s => s.1 ≤ 2 ∧ Row (.slice (some ⟨bm, 0, none⟩) (xs.length + 2) (xs.length + 2)) (xs.length + 2) s.2.1 127 4 s.2.2 ∧ ∃ rest, s.2.1 = news ++ (marksTo (Own.mark Node) xs.length s.1 ++ rest)) (fun s => 2 - s.1) (0, _, _) ⟨by simp, jr, ds, by simp [marksTo]⟩ (.c rfl (.c rfl (.c rfl .n))) rfl ?_
  rintro ⟨k, cells, R⟩ ⟨z1, z2, rest, z3⟩
  simp only at z1 z2 z3
  refine x_seq ?_
  refine x_seq ?_
  refine x_region rfl ?_
  refine o_y (y_move rfl) ?_
  refine o_y (y_move rfl) ?_
  refine o_y (y_lenA underlying27 rfl) ?_
  refine o_y (y_lss rfl rfl) ?_
  refine o_nil ?_
  refine x_cond rfl (fun hc1 => ?_) (fun hc1 => ?_)
  · try simp only [kk] at hc1
    have hk : k < 2 := by omega
    have hkl := z2.len
    have hrl : 4 ≤ rest.length := by
      rw [z3, List.length_append, List.length_append, marksTo_len (es := 4) (fun i => rfl), hnl] at hkl
      omega
    refine x_skip ?_
    refine x_seq ?_
    refine x_block ?_
    refine x_region rfl ?_
    refine o_y (y_move rfl) ?_
    refine o_y (y_move rfl) ?_
    refine o_y (y_move rfl) ?_
    refine o_call fn214 rfl (markNode_ok (xs.length + k) (by omega)) ?_
    rintro _ _ _ ⟨rfl, rfl, rfl⟩
    refine o_y (y_idxR z2 (xs.length + k) (by omega) underlying27 ti127 rfl rfl rfl) ?_
    refine o_storeS (u := [_, _, _, _]) ti127 rfl rfl z2 rfl rfl (by first | rfl | assumption | (simp only [ones, List.all_cons, List.all_nil, Bool.and_true, one_of (by assumption)]; done)) (by omega) (by omega) hol (fun R11_5 j11_5 => ?_)
    refine o_nil ?_
    refine x_region rfl ?_
    refine o_y (y_move rfl) ?_
    refine o_y (y_addN rfl rfl (by omega) (by omega)) ?_
    refine o_y (y_assign rfl) ?_
    refine o_nil ?_
    exact ⟨(k + 1, _, R11_5), 0, rfl, (.c rfl (.c rfl (.c rfl .n))), rfl, ⟨by omega, j11_5, rest.drop 4, by rw [z3]; exact putC_mark (mk := Own.mark Node) hnl (fun i => rfl) hrl⟩, by simp only; omega⟩
  try simp only [kk] at hc1
  refine x_exit ?_
  refine x_seq ?_
  refine x_region rfl ?_
  refine o_y (y_move rfl) ?_
  refine o_y (y_assign rfl) ?_
  refine o_nil ?_
  have hk2 : k = 2 := by omega
  subst hk2
  have hkl := z2.len
  have hre : rest = [] := by
    rw [z3, List.length_append, List.length_append, marksTo_len (es := 4) (fun i => rfl), hnl] at hkl
    exact List.eq_nil_of_length_eq_zero (by omega)
  subst hre
  rw [List.append_nil, marksTo_two] at z3
  subst z3
  refine x_freezeG (S := R) (O' := O) (List.Perm.refl _) (fun H9 g9 hI9 => ?_)
  refine x_ret ?_
  refine x_fin 0 (ret1 rfl rfl) ?_
  exact ⟨rfl, _, ((i2.trans g9).perm (List.perm_append_comm)), OwL.twin z2 rfl (i4.mono g9.ext) hI9 hsm⟩
theorem leftNodes_ok {B : World} {H : HM} {O : OL} {v u : Value} {xs : List Node} {F : List Nat} (h : OwL true H v xs F) (hu : RdL H u xs) : CallsM prog 191 [v, u].toArray B H O (Same (.bool true) H O) := by
  have hv := h.rdL
  have hle := hv.lenle
  obtain ⟨R, cs, Fs, hr, hH, hel, _, hsm, htw⟩ := h.h
  obtain ⟨bm, rfl, rfl⟩ := htw rfl
  have hcl : cs.length = xs.length * 4 := hr.len
  have hr2 : Row (.slice (some ⟨bm, 0, none⟩) (xs.length + 2) (xs.length + 2)) (xs.length + 2) (cs ++ (marksTo (Own.mark Node) xs.length 2 ++ [])) 127 4 [(bm, cl (cs ++ (Own.mark Node xs.length ++ Own.mark Node (xs.length + 1))) (Own.ty Node))] := ⟨by rw [List.length_append, List.length_append, marksTo_len (es := 4) (fun i => rfl), hcl]; simp only [List.length_nil]; omega, .inr ⟨bm, _, [], rfl, Nat.le_refl _, by simp, by rw [marksTo_two]; simp; rfl⟩⟩
  refine enter func191 rfl ntmps191 (l := [(0, _), (1, _)]) rfl rfl ?_
  refine x_seq ?_
  refine x_region rfl ?_
  refine o_y (y_assign rfl) ?_
  refine o_nil ?_
  refine x_seq ?_
  refine x_seq ?_
  refine x_region rfl ?_
  refine o_y (y_move rfl) ?_
  refine o_y (y_lenA underlying27 rfl) ?_
  refine o_y (y_move rfl) ?_
  refine o_y (y_lenA underlying27 rfl) ?_
  refine o_y (y_neq rfl rfl) ?_
  refine o_nil ?_
  refine x_cond rfl (fun hc0 => ?_) (fun hc0 => ?_)
  · try simp only [kk] at hc0
    exfalso; first | exact hc0 trivial | omega
  try simp only [kk] at hc0
  refine x_skip ?_
  refine x_seq ?_
  refine x_seq ?_
  refine x_region rfl ?_
  refine o_y (y_move rfl) ?_
  refine o_y (y_lenA underlying27 rfl) ?_
  refine o_y (y_move rfl) ?_
  refine o_nil ?_
  refine x_block ?_
  refine x_loopf (σ := Nat) (fun s => [(15, .int .i64 (s : Int)), (14, .int .i64 (xs.length : Int)), (0, .slice (some ⟨bm, 0, none⟩) xs.length (xs.length + 2)), (1, u)]) (fun s => O) (fun s => s ≤ xs.length) (fun s => xs.length - s) 0 (by simp) (.c rfl (.c rfl (.c rfl (.c rfl .n)))) rfl ?_
  rintro i i1
  refine x_seq ?_
  refine x_region rfl ?_
  refine o_y (y_lss rfl rfl) ?_
  refine o_nil ?_
  refine x_seq ?_
  refine x_cond rfl (fun hc1 => ?_) (fun hc1 => ?_)
  · try simp only [kk] at hc1
    have hi : i < xs.length := by omega
    obtain ⟨A1, ds, D1, FA, Fk, FD, ec, _, hA1', _, ho, _⟩ := hel.split i hi
    have hA1 : A1.length = i * 4 := hA1'
    have aE : AtS H O (.slice (some ⟨bm, 0, none⟩) xs.length (xs.length + 2)) (i * 4) ds := hr.atH hH (by omega) (fun j x hx => by
      rw [ec, List.append_assoc, ← hA1, List.getElem?_append_right (by omega), Nat.add_sub_cancel_left, List.getElem?_append_left (List.getElem?_eq_some_iff.1 hx).1]; exact hx)
    have ho' := ho
    obtain ⟨u3, G3, rfl, h0, h1, h2, h3, eG⟩ := ho
    refine x_skip ?_
    refine x_seq ?_
    refine x_block ?_
    refine x_seq ?_
    refine x_region rfl ?_
    refine o_y (y_move rfl) ?_
    refine o_y (y_assign rfl) ?_
    refine o_nil ?_
    refine x_seq ?_
    refine x_regionQ mixed (by kernel_rfl) rfl ?_
    refine q_y (y_move rfl) ?_
    refine q_y (y_move rfl) ?_
    refine q_y (y_idxR hr i hi underlying27 ti127 rfl rfl rfl) ?_
    refine q_y (y_loadS ti127 rfl (by assumption) rfl (fun e => by cases e)) ?_
    refine q_y (y_move rfl) ?_
    refine q_y (y_move rfl) ?_
    obtain ⟨ce24, ae24, re24⟩ := RdL.at hu _ i hi
    have se24 := AtS.isSl ae24
    have te24 := re24
    obtain ⟨u24_3, z24, q24_0, q24_1, q24_2, q24_3⟩ := re24
    subst z24
    have w24 := Rep.one te24
    refine q_y (y_idxL hu i hi underlying27 ti127 rfl rfl (by omega)) ?_
    refine q_y (y_loadS ti127 rfl (by assumption) rfl (fun e => by cases e)) ?_
    refine q_call fn272 rfl (leftNode_ok ho' te24) ?_
    refine q_y (y_not rfl) ?_
    refine q_nil ?_
    refine x_condF rfl ?_
    refine x_skip ?_
    refine x_region rfl ?_
    refine o_y (y_addN rfl rfl (by omega) (by omega)) ?_
    refine o_y (y_move rfl) ?_
    refine o_nil ?_
    exact ⟨i + 1, 0, rfl, (.c rfl (.c rfl (.c rfl (.c rfl .n)))), rfl, by omega, by omega⟩
  try simp only [kk] at hc1
  refine x_exit ?_
  refine x_seq ?_
  refine x_region rfl ?_
  refine o_y (y_move rfl) ?_
  refine o_y (y_move rfl) ?_
  refine o_y (y_lenA underlying27 rfl) ?_
  refine o_y (y_addN rfl rfl (by omega) (by omega)) ?_
  refine o_y (y_sliceH underlying27 ti127 rfl rfl (xs.length + 2) (by first | rfl | omega) (by omega)) ?_
  refine o_y (y_assign rfl) ?_
  refine o_nil ?_
  refine x_seq ?_
  refine x_seq ?_
  refine x_region rfl ?_
  refine o_y (y_move rfl) ?_
  refine o_y (y_lenA underlying27 rfl) ?_
  refine o_y (y_assign rfl) ?_
  refine o_nil ?_
  refine x_block ?_
  refine x_loopf (σ := Nat) (fun s => [(7, .int .i64 ((xs.length + s : Nat) : Int)), (6, .slice (some ⟨bm, 0, none⟩) (xs.length + 2) (xs.length + 2))]) (fun s => O) (fun s => s ≤ 2) (fun s => 2 - s) 0 (by simp) (.c rfl (.c rfl .n)) rfl ?_
  rintro k z1
  refine x_seq ?_
  refine x_seq ?_
  refine x_region rfl ?_
  refine o_y (y_move rfl) ?_
  refine o_y (y_move rfl) ?_
  refine o_y (y_lenA underlying27 rfl) ?_
  refine o_y (y_lss rfl rfl) ?_
  refine o_nil ?_
  refine x_cond rfl (fun hc3 => ?_) (fun hc3 => ?_)
  · try simp only [kk] at hc3
    have hk : k < 2 := by omega
    have aF : AtS H O (.slice (some ⟨bm, 0, none⟩) (xs.length + 2) (xs.length + 2)) ((xs.length + k) * 4) (Own.mark Node ((xs.length + k : Nat) : Int)) := hr2.atH hH (by omega) (fun i x hx => by
      have hi := (List.getElem?_eq_some_iff.1 hx).1
      have hi2 : i < 4 := hi
      rw [List.getElem?_append_right (by omega), hcl, show (xs.length + k) * 4 + i - xs.length * 4 = k * 4 + i by omega, List.append_nil]
      match k, hk with
      | 0, _ => rw [marksTo_two, List.getElem?_append_left (by show 0 * 4 + i < 4; omega)]; simpa using hx
      | 1, _ => rw [marksTo_two, List.getElem?_append_right (by show 4 ≤ 1 * 4 + i; omega)]; have e : 1 * 4 + i - (Own.mark Node (xs.length : Int)).length = i := by show 1 * 4 + i - 4 = i; omega
                rw [e]; simpa using hx)
    refine x_skip ?_
    refine x_seq ?_
    refine x_block ?_
    refine x_seq ?_
    refine x_region rfl ?_
    refine o_y (y_move rfl) ?_
    refine o_y (y_move rfl) ?_
    refine o_y (y_idxR hr2 (xs.length + k) (by omega) underlying27 ti127 rfl rfl rfl) ?_
    refine o_y (y_loadS ti127 rfl aF rfl (fun e => by cases e)) ?_
    refine o_y (y_move rfl) ?_
    refine o_call fn242 rfl (isNode_ok (xs.length + k) (by omega)) ?_
    rintro _ _ _ ⟨rfl, rfl, rfl⟩
    refine o_y (y_not rfl) ?_
    refine o_nil ?_
    refine x_condF rfl ?_
    refine x_skip ?_
    refine x_region rfl ?_
    refine o_y (y_move rfl) ?_
    refine o_y (y_addN rfl rfl (by omega) (by omega)) ?_
    refine o_y (y_assign rfl) ?_
    refine o_nil ?_
    exact ⟨k + 1, 0, rfl, (.c rfl (.c rfl .n)), rfl, by omega, by omega⟩
  try simp only [kk] at hc3
  refine x_exit ?_
  refine x_seq ?_
  refine x_region rfl ?_
  refine o_y (y_assign rfl) ?_
  refine o_nil ?_
  refine x_ret ?_
  refine x_fin 0 (ret1 rfl rfl) ?_
  exact ⟨rfl, rfl, rfl⟩
theorem twinTree_ok {B : World} {H : HM} {O : OL} {u : Value} {xs : List Node} (h : RdL H u xs) : CallsM prog 36 [.agg #[u]].toArray B H O (fun v H' O' => O = O' ∧ ∃ F u2, Grew H H' F ∧ v = .agg #[u2] ∧ OwL true H' u2 xs F) := by
  refine enter func36 rfl ntmps36 (l := [(0, _)]) rfl rfl ?_
  refine x_seq ?_
  refine x_region rfl ?_
  refine o_box rfl (cs := [_]) rfl (fun b1 => ?_)
  refine o_alloc ti29 rfl (fun b2 => ?_)
  refine o_nil ?_
  refine x_seq ?_
  refine x_region rfl ?_
  refine o_y (y_fieldAddr fd29_0 ti27 (by decide) rfl) ?_
  refine o_y (y_loadO ti27 rfl inn rfl) ?_
  refine o_call fn173 rfl (twinNodes_ok h) ?_
  rintro _ H1 _ ⟨rfl, F0, g0, o0⟩
  obtain ⟨p0, c0, rfl⟩ := o0.shape
  refine o_y (y_fieldAddr fd29_0 ti27 (by decide) rfl) ?_
  refine o_store (u := [_]) (C' := [_]) ti27 rfl rfl rfl rfl (by first | rfl | assumption | (simp only [ones, List.all_cons, List.all_nil, Bool.and_true, one_of (by assumption)]; done)) (by repeat (first | exact .z | apply Upd.s | apply Upd.a)) (by exact Nat.le_of_ble_eq_true rfl) (by rfl) ?_
  refine o_nil ?_
  refine x_seq ?_
  refine x_region rfl ?_
  refine o_y (y_loadA ti29 rfl inn rfl) ?_
  refine o_store (u := [_]) (C' := [_]) ti29 rfl rfl rfl rfl (by first | rfl | assumption | (simp only [ones, List.all_cons, List.all_nil, Bool.and_true, one_of (by assumption)]; done)) (by repeat (first | exact .z | apply Upd.s | apply Upd.a)) (by exact Nat.le_of_ble_eq_true rfl) (by rfl) ?_
  refine o_nil ?_
  refine x_ret ?_
  refine x_fin 2 (retC rfl rfl ti29 inn rfl) ?_
  exact ⟨rfl, _, _, g0, rfl, o0⟩
theorem leftTree_ok {B : World} {H : HM} {O : OL} {u w : Value} {xs : List Node} {F : List Nat} (h : OwL true H u xs F) (hu : RdL H w xs) : CallsM prog 49 [.agg #[u], .agg #[w]].toArray B H O (Same (.bool true) H O) := by
  refine enter func49 rfl ntmps49 (l := [(0, _), (1, _)]) rfl rfl ?_
  refine x_seq ?_
  refine x_region rfl ?_
  refine o_box rfl (cs := [_]) rfl (fun b2 => ?_)
  refine o_box rfl (cs := [_]) rfl (fun b3 => ?_)
  refine o_y (y_assign rfl) ?_
  refine o_nil ?_
  refine x_seq ?_
  refine x_region rfl ?_
  refine o_y (y_fieldAddr fd29_0 ti27 (by decide) rfl) ?_
  refine o_y (y_loadO ti27 rfl inn rfl) ?_
  refine o_y (y_fieldAddr fd29_0 ti27 (by decide) rfl) ?_
  refine o_y (y_loadO ti27 rfl inn rfl) ?_
  refine o_call fn191 rfl (leftNodes_ok h hu) ?_
  rintro _ _ _ ⟨rfl, rfl, rfl⟩
  refine o_y (y_assign rfl) ?_
  refine o_nil ?_
  refine x_ret ?_
  refine x_fin 2 (ret1 rfl rfl) ?_
  exact ⟨rfl, rfl, rfl⟩
theorem twinCommit_ok {B : World} {H : HM} {O : OL} {ds : List Value} {x : Commit} (h : Rep.rd H ds x) : CallsM prog 9 [.agg ds.toArray].toArray B H O (TwinO x H O) := by
  obtain ⟨u6, u7, u8, u9, u12, rfl, h0, h1, h2, h3, h4, h5, h6, h7, h8, h9, h10, h11, h12, h13⟩ := h
  refine enter func9 rfl ntmps9 (l := [(0, _)]) rfl rfl ?_
  refine x_seq ?_
  refine x_region rfl ?_
  refine o_box rfl (cs := [_, _, _, _, _, _, _, _, _, _, _, _, _, _, _]) rfl (fun b1 => ?_)
  refine o_alloc ti31 rfl (fun b2 => ?_)
  refine o_nil ?_
  refine x_seq ?_
  refine x_region rfl ?_
  refine o_y (y_fieldAddr fd31_12 ti29 (by decide) rfl) ?_
  refine o_y (y_loadP ti29 rfl inn (cs := [_]) rfl rfl) ?_
  refine o_call fn36 rfl (twinTree_ok h11) ?_
  rintro _ H1 _ ⟨rfl, F12, w12, g12, rfl, o12⟩
  obtain ⟨p12, c12, rfl⟩ := o12.shape
  refine o_y (y_fieldAddr fd31_12 ti29 (by decide) rfl) ?_
  refine o_store (u := [_]) (C' := [_, _, _, _, _, _, _, _, _, _, _, _, _, _, _]) ti29 rfl rfl rfl rfl (by first | rfl | assumption | (simp only [ones, List.all_cons, List.all_nil, Bool.and_true, one_of (by assumption)]; done)) (by repeat (first | exact .z | apply Upd.s | apply Upd.a)) (by exact Nat.le_of_ble_eq_true rfl) (by rfl) ?_
  refine o_nil ?_
  refine x_seq ?_
  refine x_region rfl ?_
  refine o_y (y_fieldAddr fd31_6 ti23 (by decide) rfl) ?_
  refine o_y (y_loadO ti23 rfl inn rfl) ?_
  refine o_call fn37 rfl (twinAdds_ok (h5.mono g12.ext)) ?_
  rintro _ H2 _ ⟨rfl, F6, g6, o6⟩
  obtain ⟨p6, c6, rfl⟩ := o6.shape
  refine o_y (y_fieldAddr fd31_6 ti23 (by decide) rfl) ?_
  refine o_store (u := [_]) (C' := [_, _, _, _, _, _, _, _, _, _, _, _, _, _, _]) ti23 rfl rfl rfl rfl (by first | rfl | assumption | (simp only [ones, List.all_cons, List.all_nil, Bool.and_true, one_of (by assumption)]; done)) (by repeat (first | exact .z | apply Upd.s | apply Upd.a)) (by exact Nat.le_of_ble_eq_true rfl) (by rfl) ?_
  refine o_nil ?_
  refine x_seq ?_
  refine x_region rfl ?_
  refine o_y (y_fieldAddr fd31_7 ti24 (by decide) rfl) ?_
  refine o_y (y_loadO ti24 rfl inn rfl) ?_
  refine o_call fn38 rfl (twinNumbers_ok (h6.mono (g12.ext.trans g6.ext))) ?_
  rintro _ H3 _ ⟨rfl, F7, g7, o7⟩
  obtain ⟨p7, c7, rfl⟩ := o7.shape
  refine o_y (y_fieldAddr fd31_7 ti24 (by decide) rfl) ?_
  refine o_store (u := [_]) (C' := [_, _, _, _, _, _, _, _, _, _, _, _, _, _, _]) ti24 rfl rfl rfl rfl (by first | rfl | assumption | (simp only [ones, List.all_cons, List.all_nil, Bool.and_true, one_of (by assumption)]; done)) (by repeat (first | exact .z | apply Upd.s | apply Upd.a)) (by exact Nat.le_of_ble_eq_true rfl) (by rfl) ?_
  refine o_nil ?_
  refine x_seq ?_
  refine x_region rfl ?_
  refine o_y (y_fieldAddr fd31_8 ti25 (by decide) rfl) ?_
  refine o_y (y_loadO ti25 rfl inn rfl) ?_
  refine o_call fn39 rfl (twinSeals_ok (h7.mono ((g12.ext.trans g6.ext).trans g7.ext))) ?_
  rintro _ H4 _ ⟨rfl, F8, g8, o8⟩
  obtain ⟨p8, c8, rfl⟩ := o8.shape
  refine o_y (y_fieldAddr fd31_8 ti25 (by decide) rfl) ?_
  refine o_store (u := [_]) (C' := [_, _, _, _, _, _, _, _, _, _, _, _, _, _, _]) ti25 rfl rfl rfl rfl (by first | rfl | assumption | (simp only [ones, List.all_cons, List.all_nil, Bool.and_true, one_of (by assumption)]; done)) (by repeat (first | exact .z | apply Upd.s | apply Upd.a)) (by exact Nat.le_of_ble_eq_true rfl) (by rfl) ?_
  refine o_nil ?_
  refine x_seq ?_
  refine x_region rfl ?_
  refine o_y (y_fieldAddr fd31_9 ti26 (by decide) rfl) ?_
  refine o_y (y_loadO ti26 rfl inn rfl) ?_
  refine o_call fn40 rfl (twinJoins_ok (h8.mono (((g12.ext.trans g6.ext).trans g7.ext).trans g8.ext))) ?_
  rintro _ H5 _ ⟨rfl, F9, g9, o9⟩
  obtain ⟨p9, c9, rfl⟩ := o9.shape
  refine o_y (y_fieldAddr fd31_9 ti26 (by decide) rfl) ?_
  refine o_store (u := [_]) (C' := [_, _, _, _, _, _, _, _, _, _, _, _, _, _, _]) ti26 rfl rfl rfl rfl (by first | rfl | assumption | (simp only [ones, List.all_cons, List.all_nil, Bool.and_true, one_of (by assumption)]; done)) (by repeat (first | exact .z | apply Upd.s | apply Upd.a)) (by exact Nat.le_of_ble_eq_true rfl) (by rfl) ?_
  refine o_nil ?_
  refine x_seq ?_
  refine x_region rfl ?_
  refine o_y (y_loadA ti31 rfl inn rfl) ?_
  refine o_store (u := [_, _, _, _, _, _, _, _, _, _, _, _, _, _, _]) (C' := [_, _, _, _, _, _, _, _, _, _, _, _, _, _, _]) ti31 rfl rfl rfl rfl (by first | rfl | assumption | (simp only [ones, List.all_cons, List.all_nil, Bool.and_true, one_of (by assumption)]; done)) (by repeat (first | exact .z | apply Upd.s | apply Upd.a)) (by exact Nat.le_of_ble_eq_true rfl) (by rfl) ?_
  refine o_nil ?_
  refine x_ret ?_
  refine x_fin 2 (retC rfl rfl ti31 inn rfl) ?_
  exact ⟨rfl, (F6 ++ (F7 ++ (F8 ++ (F9 ++ (F12))))), _, ((((g12.trans g6).trans g7).trans g8).trans g9).perm (perm_count fun a => by simp only [List.count_append]; omega), rfl, _, _, _, _, _, _, _, _, _, _, rfl, h0, h1, h2, h3, h4, o6.mono ((g7.ext.trans g8.ext).trans g9.ext), o7.mono (g8.ext.trans g9.ext), o8.mono g9.ext, o9, h9, h10, o12.mono (((g6.ext.trans g7.ext).trans g8.ext).trans g9.ext), h12, h13, rfl⟩
theorem leftCommit_ok {B : World} {H : HM} {O : OL} {ds es : List Value} {x : Commit} {F : List Nat} (h : Own.ow true H ds x F) (hu : Rep.rd H es x) : CallsM prog 14 [.agg ds.toArray, .agg es.toArray].toArray B H O (Same (.bool true) H O) := by
  obtain ⟨u6, u7, u8, u9, u12, F6, F7, F8, F9, F12, rfl, h0, h1, h2, h3, h4, h5, h6, h7, h8, h9, h10, h11, h12, h13, eF⟩ := h
  obtain ⟨w6, w7, w8, w9, w12, rfl, k0, k1, k2, k3, k4, k5, k6, k7, k8, k9, k10, k11, k12, k13⟩ := hu
  refine enter func14 rfl ntmps14 (l := [(0, _), (1, _)]) rfl rfl ?_
  refine x_seq ?_
  refine x_region rfl ?_
  refine o_box rfl (cs := [_, _, _, _, _, _, _, _, _, _, _, _, _, _, _]) rfl (fun b2 => ?_)
  refine o_box rfl (cs := [_, _, _, _, _, _, _, _, _, _, _, _, _, _, _]) rfl (fun b3 => ?_)
  refine o_y (y_assign rfl) ?_
  refine o_nil ?_
  refine x_seq ?_
  refine x_region rfl ?_
  refine o_y (y_fieldAddr fd31_0 ti3 (by decide) rfl) ?_
  refine o_y (y_loadO ti3 rfl inn rfl) ?_
  refine o_y (y_fieldAddr fd31_0 ti3 (by decide) rfl) ?_
  refine o_y (y_loadO ti3 rfl inn rfl) ?_
  refine o_y (y_eql rfl rfl) ?_
  refine o_y (y_move rfl) ?_
  refine o_split 10 rfl (fun hg1_10 => ?_) (fun hg1_10 => ?_)
  · try simp only [kk] at hg1_10
    refine o_gy 10 rfl rfl (y_fieldAddr fd31_1 ti3 (by decide) rfl) ?_
    refine o_gy 10 rfl rfl (y_loadO ti3 rfl inn rfl) ?_
    refine o_gy 10 rfl rfl (y_fieldAddr fd31_1 ti3 (by decide) rfl) ?_
    refine o_gy 10 rfl rfl (y_loadO ti3 rfl inn rfl) ?_
    refine o_gy 10 rfl rfl (y_eql rfl rfl) ?_
    refine o_y (y_pick rfl rfl) ?_
    refine o_y (y_move rfl) ?_
    refine o_split 17 rfl (fun hg1_17 => ?_) (fun hg1_17 => ?_)
    · try simp only [kk] at hg1_17
      refine o_gy 17 rfl rfl (y_fieldAddr fd31_2 ti3 (by decide) rfl) ?_
      refine o_gy 17 rfl rfl (y_loadO ti3 rfl inn rfl) ?_
      refine o_gy 17 rfl rfl (y_fieldAddr fd31_2 ti3 (by decide) rfl) ?_
      refine o_gy 17 rfl rfl (y_loadO ti3 rfl inn rfl) ?_
      refine o_gy 17 rfl rfl (y_eql rfl rfl) ?_
      refine o_y (y_pick rfl rfl) ?_
      refine o_y (y_move rfl) ?_
      refine o_split 24 rfl (fun hg1_24 => ?_) (fun hg1_24 => ?_)
      · try simp only [kk] at hg1_24
        refine o_gy 24 rfl rfl (y_fieldAddr fd31_3 ti3 (by decide) rfl) ?_
        refine o_gy 24 rfl rfl (y_loadO ti3 rfl inn rfl) ?_
        refine o_gy 24 rfl rfl (y_fieldAddr fd31_3 ti3 (by decide) rfl) ?_
        refine o_gy 24 rfl rfl (y_loadO ti3 rfl inn rfl) ?_
        refine o_gy 24 rfl rfl (y_eql rfl rfl) ?_
        refine o_y (y_pick rfl rfl) ?_
        refine o_y (y_move rfl) ?_
        refine o_split 31 rfl (fun hg1_31 => ?_) (fun hg1_31 => ?_)
        · try simp only [kk] at hg1_31
          refine o_gy 31 rfl rfl (y_fieldAddr fd31_4 ti3 (by decide) rfl) ?_
          refine o_gy 31 rfl rfl (y_loadO ti3 rfl inn rfl) ?_
          refine o_gy 31 rfl rfl (y_fieldAddr fd31_4 ti3 (by decide) rfl) ?_
          refine o_gy 31 rfl rfl (y_loadO ti3 rfl inn rfl) ?_
          refine o_gy 31 rfl rfl (y_eql rfl rfl) ?_
          refine o_y (y_pick rfl rfl) ?_
          refine o_y (y_move rfl) ?_
          refine o_split 38 rfl (fun hg1_38 => ?_) (fun hg1_38 => ?_)
          · try simp only [kk] at hg1_38
            refine o_gy 38 rfl rfl (y_fieldAddr fd31_5 ti4 (by decide) rfl) ?_
            refine o_gy 38 rfl rfl (y_loadO ti4 rfl inn rfl) ?_
            refine o_gy 38 rfl rfl (y_fieldAddr fd31_5 ti4 (by decide) rfl) ?_
            refine o_gy 38 rfl rfl (y_loadO ti4 rfl inn rfl) ?_
            refine o_gy 38 rfl rfl (y_beql underlying4 rfl rfl) ?_
            refine o_y (y_pick rfl rfl) ?_
            refine o_y (y_move rfl) ?_
            refine o_split 45 rfl (fun hg1_45 => ?_) (fun hg1_45 => ?_)
            · try simp only [kk] at hg1_45
              refine o_gy 45 rfl rfl (y_fieldAddr fd31_10 ti3 (by decide) rfl) ?_
              refine o_gy 45 rfl rfl (y_loadO ti3 rfl inn rfl) ?_
              refine o_gy 45 rfl rfl (y_fieldAddr fd31_10 ti3 (by decide) rfl) ?_
              refine o_gy 45 rfl rfl (y_loadO ti3 rfl inn rfl) ?_
              refine o_gy 45 rfl rfl (y_eql rfl rfl) ?_
              refine o_y (y_pick rfl rfl) ?_
              refine o_y (y_move rfl) ?_
              refine o_split 52 rfl (fun hg1_52 => ?_) (fun hg1_52 => ?_)
              · try simp only [kk] at hg1_52
                refine o_gy 52 rfl rfl (y_fieldAddr fd31_11 ti3 (by decide) rfl) ?_
                refine o_gy 52 rfl rfl (y_loadO ti3 rfl inn rfl) ?_
                refine o_gy 52 rfl rfl (y_fieldAddr fd31_11 ti3 (by decide) rfl) ?_
                refine o_gy 52 rfl rfl (y_loadO ti3 rfl inn rfl) ?_
                refine o_gy 52 rfl rfl (y_eql rfl rfl) ?_
                refine o_y (y_pick rfl rfl) ?_
                refine o_y (y_move rfl) ?_
                refine o_split 59 rfl (fun hg1_59 => ?_) (fun hg1_59 => ?_)
                · try simp only [kk] at hg1_59
                  refine o_gy 59 rfl rfl (y_fieldAddr fd31_13 ti3 (by decide) rfl) ?_
                  refine o_gy 59 rfl rfl (y_loadO ti3 rfl inn rfl) ?_
                  refine o_gy 59 rfl rfl (y_fieldAddr fd31_13 ti3 (by decide) rfl) ?_
                  refine o_gy 59 rfl rfl (y_loadO ti3 rfl inn rfl) ?_
                  refine o_gy 59 rfl rfl (y_eql rfl rfl) ?_
                  refine o_y (y_pick rfl rfl) ?_
                  refine o_y (y_move rfl) ?_
                  refine o_split 66 rfl (fun hg1_66 => ?_) (fun hg1_66 => ?_)
                  · try simp only [kk] at hg1_66
                    refine o_gy 66 rfl rfl (y_fieldAddr fd31_14 ti3 (by decide) rfl) ?_
                    refine o_gy 66 rfl rfl (y_loadO ti3 rfl inn rfl) ?_
                    refine o_gy 66 rfl rfl (y_fieldAddr fd31_14 ti3 (by decide) rfl) ?_
                    refine o_gy 66 rfl rfl (y_loadO ti3 rfl inn rfl) ?_
                    refine o_gy 66 rfl rfl (y_eql rfl rfl) ?_
                    refine o_y (y_pick rfl rfl) ?_
                    refine o_y (y_move rfl) ?_
                    refine o_split 73 rfl (fun hg1_73 => ?_) (fun hg1_73 => ?_)
                    · try simp only [kk] at hg1_73
                      refine o_gy 73 rfl rfl (y_fieldAddr fd31_12 ti29 (by decide) rfl) ?_
                      refine o_gy 73 rfl rfl (y_loadP ti29 rfl inn (cs := [_]) rfl rfl) ?_
                      refine o_gy 73 rfl rfl (y_fieldAddr fd31_12 ti29 (by decide) rfl) ?_
                      refine o_gy 73 rfl rfl (y_loadP ti29 rfl inn (cs := [_]) rfl rfl) ?_
                      refine o_gcall 73 rfl rfl fn49 rfl (leftTree_ok h11 k11) ?_
                      rintro _ _ _ ⟨rfl, rfl, rfl⟩
                      refine o_y (y_pick rfl rfl) ?_
                      refine o_y (y_move rfl) ?_
                      refine o_gy 80 rfl rfl (y_fieldAddr fd31_6 ti23 (by decide) rfl) ?_
                      refine o_gy 80 rfl rfl (y_loadO ti23 rfl inn rfl) ?_
                      refine o_gy 80 rfl rfl (y_fieldAddr fd31_6 ti23 (by decide) rfl) ?_
                      refine o_gy 80 rfl rfl (y_loadO ti23 rfl inn rfl) ?_
                      refine o_gcall 80 rfl rfl fn50 rfl (leftAdds_ok h5 k5) ?_
                      rintro _ _ _ ⟨rfl, rfl, rfl⟩
                      refine o_y (y_pick rfl rfl) ?_
                      refine o_y (y_move rfl) ?_
                      refine o_gy 87 rfl rfl (y_fieldAddr fd31_7 ti24 (by decide) rfl) ?_
                      refine o_gy 87 rfl rfl (y_loadO ti24 rfl inn rfl) ?_
                      refine o_gy 87 rfl rfl (y_fieldAddr fd31_7 ti24 (by decide) rfl) ?_
                      refine o_gy 87 rfl rfl (y_loadO ti24 rfl inn rfl) ?_
                      refine o_gcall 87 rfl rfl fn51 rfl (leftNumbers_ok h6 k6) ?_
                      rintro _ _ _ ⟨rfl, rfl, rfl⟩
                      refine o_y (y_pick rfl rfl) ?_
                      refine o_y (y_move rfl) ?_
                      refine o_gy 94 rfl rfl (y_fieldAddr fd31_8 ti25 (by decide) rfl) ?_
                      refine o_gy 94 rfl rfl (y_loadO ti25 rfl inn rfl) ?_
                      refine o_gy 94 rfl rfl (y_fieldAddr fd31_8 ti25 (by decide) rfl) ?_
                      refine o_gy 94 rfl rfl (y_loadO ti25 rfl inn rfl) ?_
                      refine o_gcall 94 rfl rfl fn52 rfl (leftSeals_ok h7 k7) ?_
                      rintro _ _ _ ⟨rfl, rfl, rfl⟩
                      refine o_y (y_pick rfl rfl) ?_
                      refine o_y (y_move rfl) ?_
                      refine o_gy 101 rfl rfl (y_fieldAddr fd31_9 ti26 (by decide) rfl) ?_
                      refine o_gy 101 rfl rfl (y_loadO ti26 rfl inn rfl) ?_
                      refine o_gy 101 rfl rfl (y_fieldAddr fd31_9 ti26 (by decide) rfl) ?_
                      refine o_gy 101 rfl rfl (y_loadO ti26 rfl inn rfl) ?_
                      refine o_gcall 101 rfl rfl fn53 rfl (leftJoins_ok h8 k8) ?_
                      rintro _ _ _ ⟨rfl, rfl, rfl⟩
                      refine o_y (y_pick rfl rfl) ?_
                      refine o_y (y_assign rfl) ?_
                      refine o_nil ?_
                      refine x_ret ?_
                      refine x_fin 2 (ret1 rfl rfl) ?_
                      exact ⟨rfl, rfl, rfl⟩
                    try simp only [kk] at hg1_73
                    exfalso; simp at hg1_73
                  try simp only [kk] at hg1_66
                  exfalso; simp at hg1_66
                try simp only [kk] at hg1_59
                exfalso; simp at hg1_59
              try simp only [kk] at hg1_52
              exfalso; simp at hg1_52
            try simp only [kk] at hg1_45
            exfalso; simp at hg1_45
          try simp only [kk] at hg1_38
          exfalso; simp at hg1_38
        try simp only [kk] at hg1_31
        exfalso; simp at hg1_31
      try simp only [kk] at hg1_24
      exfalso; simp at hg1_24
    try simp only [kk] at hg1_17
    exfalso; simp at hg1_17
  try simp only [kk] at hg1_10
  exfalso; simp at hg1_10
theorem twinCommits_ok {B : World} {H : HM} {O : OL} {v : Value} {xs : List Commit} (h : RdL H v xs) : CallsM prog 172 [v].toArray B H O (TwinL xs H O) := by
  have hle := h.lenle
  have hsm : xs.length * 200 ≤ 140737488351232 := h.small
  refine enter func172 rfl ntmps172 (l := [(0, _)]) rfl rfl ?_
  refine x_seq ?_
  refine x_region rfl ?_
  refine o_y (y_assign rfl) ?_
  refine o_nil ?_
  refine x_seq ?_
  refine x_region rfl ?_
  refine o_y (y_move rfl) ?_
  refine o_y (y_lenA underlying93 rfl) ?_
  refine o_y (y_move rfl) ?_
  refine o_y (y_lenA underlying93 rfl) ?_
  refine o_y (y_addN rfl rfl (by omega) (by omega)) ?_
  refine o_makeSlice (n := xs.length) (c := xs.length + 2) underlying93 ti31 (by decide) rfl rfl rfl (by omega) (by omega) (by omega) (by omega) (fun bm => ?_)
  have hz : (List.replicate (xs.length + 2) ([.int .i64 0, .int .i64 0, .int .i64 0, .int .i64 0, .int .i64 0, .bool false, .slice none 0 0, .slice none 0 0, .slice none 0 0, .slice none 0 0, .int .i64 0, .int .i64 0, .slice none 0 0, .int .i64 0, .int .i64 0] : List Value)).flatten.length = (xs.length + 2) * 15 := by simp
  have r0 := Row.make (n := xs.length) (b := bm) (e := 31) hz (by omega)
  refine o_y (y_assign rfl) ?_
  refine o_nil ?_
  refine x_seq ?_
  refine x_seq ?_
  refine x_region rfl ?_
  refine o_y (y_move rfl) ?_
  refine o_y (y_lenA underlying93 rfl) ?_
  refine o_y (y_move rfl) ?_
  refine o_nil ?_
  refine x_block ?_
  refine x_loopg (σ := Nat × HM × List Value × OL × List Nat) (fun s => [(15, .int .i64 (s.1 : Int)), (14, .int .i64 (xs.length : Int)), (3, .slice (some ⟨bm, 0, none⟩) xs.length (xs.length + 2)), (0, v)]) (fun s => s.2.1) (fun s => s.2.2.2.1 ++ O) (fun s => s.1 ≤ xs.length ∧ Grew H s.2.1 s.2.2.2.2 ∧ Row (.slice (some ⟨bm, 0, none⟩) xs.length (xs.length + 2)) xs.length s.2.2.1 31 15 s.2.2.2.1 ∧ ElO true s.2.1 (s.2.2.1.take (s.1 * 15)) (xs.take s.1) s.2.2.2.2) (fun s => xs.length - s.1) (0, H, _, _, []) ⟨by simp, Grew.refl H, r0, by simp only [Nat.zero_mul, List.take_zero]; exact .n⟩ (.c rfl (.c rfl (.c rfl (.c rfl .n)))) rfl rfl ?_
  rintro ⟨i, H1, cells, R, Fs⟩ ⟨i1, i2, i3, i4⟩
  simp only at i1 i2 i3 i4
  refine x_seq ?_
  refine x_region rfl ?_
  refine o_y (y_lss rfl rfl) ?_
  refine o_nil ?_
  refine x_seq ?_
  refine x_cond rfl (fun hc0 => ?_) (fun hc0 => ?_)
  · try simp only [kk] at hc0
    have hi : i < xs.length := by omega
    have hv1 := h.mono i2.ext
    have hcl := i3.len
    refine x_skip ?_
    refine x_seq ?_
    refine x_block ?_
    refine x_seq ?_
    refine x_region rfl ?_
    refine o_y (y_move rfl) ?_
    refine o_y (y_assign rfl) ?_
    refine o_nil ?_
    refine x_region rfl ?_
    refine o_y (y_move rfl) ?_
    refine o_y (y_move rfl) ?_
    refine o_y (y_move rfl) ?_
    refine o_y (y_move rfl) ?_
    obtain ⟨ce22, ae22, re22⟩ := RdL.at hv1 _ i hi
    have se22 := AtS.isSl ae22
    have te22 := re22
    obtain ⟨u22_6, u22_7, u22_8, u22_9, u22_12, z22, q22_0, q22_1, q22_2, q22_3, q22_4, q22_5, q22_6, q22_7, q22_8, q22_9, q22_10, q22_11, q22_12, q22_13⟩ := re22
    subst z22
    have w22 := Rep.one te22
    refine o_y (y_idxL hv1 i hi underlying93 ti31 rfl rfl (by omega)) ?_
    refine o_y (y_loadS ti31 rfl (by assumption) rfl (fun e => by cases e)) ?_
    refine o_call fn9 rfl (twinCommit_ok te22) ?_
    rintro _ H2 _ ⟨rfl, F2, cs2, g2, rfl, o2⟩
    have o2' := o2
    have w2 := Rep.one (Own.ow_rd o2)
    have l2 : cs2.length = 15 := Rep.len (Own.ow_rd o2)
    have e2 : (putC cells (i * 15) cs2).take ((i + 1) * 15) = cells.take (i * 15) ++ cs2 := by
      rw [show (i + 1) * 15 = i * 15 + cs2.length by omega]; exact putC_take (by omega)
    obtain ⟨u6, u7, u8, u9, u12, G6, G7, G8, G9, G12, rfl, h0, h1, h2, h3, h4, h5, h6, h7, h8, h9, h10, h11, h12, h13, eG⟩ := o2
    refine o_y (y_idxR i3 i hi underlying93 ti31 rfl rfl rfl) ?_
    refine o_storeS (u := [_, _, _, _, _, _, _, _, _, _, _, _, _, _, _]) ti31 rfl rfl i3 rfl rfl (by first | rfl | assumption | (simp only [ones, List.all_cons, List.all_nil, Bool.and_true, one_of (by assumption)]; done)) (by omega) (by omega) hol (fun R5_8 j5_8 => ?_)
    refine o_nil ?_
    refine x_region rfl ?_
    refine o_y (y_addN rfl rfl (by omega) (by omega)) ?_
    refine o_y (y_move rfl) ?_
    refine o_nil ?_
    exact ⟨(i + 1, H2, _, R5_8, Fs ++ F2), 0, rfl, (.c rfl (.c rfl (.c rfl (.c rfl .n)))), rfl, ⟨by omega, i2.trans g2, j5_8, by have e := (i4.mono g2.ext).snoc o2'; rw [← e2] at e; rw [take_next hi]; exact e⟩, by simp only; omega⟩
  try simp only [kk] at hc0
  refine x_exit ?_
  refine x_seq ?_
  have hin : i = xs.length := by omega
  subst hin
  have hv7 := h.mono i2.ext
  rw [List.take_length, List.take_of_length_le (by rw [i3.len]; exact Nat.le_refl _)] at i4
  obtain ⟨news, hne⟩ : ∃ news, news = cells := ⟨_, rfl⟩
  rw [← hne] at i3 i4
  have hnl : news.length = xs.length * 15 := i3.len
  obtain ⟨ds, hds, jr⟩ := i3.upto (m := xs.length + 2) (by omega) (Nat.le_refl _)
  refine x_region rfl ?_
  refine o_y (y_move rfl) ?_
  refine o_y (y_move rfl) ?_
  refine o_y (y_lenA underlying93 rfl) ?_
  refine o_y (y_addN rfl rfl (by omega) (by omega)) ?_
  refine o_y (y_sliceH underlying93 ti31 rfl rfl (xs.length + 2) (by first | rfl | omega) (by omega)) ?_
  refine o_y (y_assign rfl) ?_
  refine o_nil ?_
  refine x_seq ?_
  refine x_seq ?_
  refine x_region rfl ?_
  refine o_y (y_move rfl) ?_
  refine o_y (y_lenA underlying93 rfl) ?_
  refine o_y (y_assign rfl) ?_
  refine o_nil ?_
  refine x_block ?_
  refine x_loopf (σ := Nat × List Value × OL) (fun s => [(6, .int .i64 ((xs.length + s.1 : Nat) : Int)), (5, .slice (some ⟨bm, 0, none⟩) (xs.length + 2) (xs.length + 2)), (3, .slice (some ⟨bm, 0, none⟩) xs.length (xs.length + 2))]) (fun s => s.2.2 ++ O) (fun s => s.1 ≤ 2 ∧ Row (.slice (some ⟨bm, 0, none⟩) (xs.length + 2) (xs.length + 2)) (xs.length + 2) s.2.1 31 15 s.2.2 ∧ ∃ rest, s.2.1 = news ++ (marksTo (Own.mark Commit) xs.length s.1 ++ rest)) (fun s => 2 - s.1) (0, _, _) ⟨by simp, jr, ds, by simp [marksTo]⟩ (.c rfl (.c rfl (.c rfl .n))) rfl ?_
  rintro ⟨k, cells, R⟩ ⟨z1, z2, rest, z3⟩
  simp only at z1 z2 z3
  refine x_seq ?_
  refine x_seq ?_
  refine x_region rfl ?_
  refine o_y (y_move rfl) ?_
  refine o_y (y_move rfl) ?_
  refine o_y (y_lenA underlying93 rfl) ?_
  refine o_y (y_lss rfl rfl) ?_
  refine o_nil ?_
  refine x_cond rfl (fun hc1 => ?_) (fun hc1 => ?_)
  · try simp only [kk] at hc1
    have hk : k < 2 := by omega
    have hkl := z2.len
    have hrl : 15 ≤ rest.length := by
      rw [z3, List.length_append, List.length_append, marksTo_len (es := 15) (fun i => rfl), hnl] at hkl
      omega
    refine x_skip ?_
    refine x_seq ?_
    refine x_block ?_
    refine x_region rfl ?_
    refine o_y (y_move rfl) ?_
    refine o_y (y_move rfl) ?_
    refine o_y (y_move rfl) ?_
    refine o_call fn216 rfl (markCommit_ok (xs.length + k) (by omega)) ?_
    rintro _ _ _ ⟨rfl, rfl, rfl⟩
    refine o_y (y_idxR z2 (xs.length + k) (by omega) underlying93 ti31 rfl rfl rfl) ?_
    refine o_storeS (u := [_, _, _, _, _, _, _, _, _, _, _, _, _, _, _]) ti31 rfl rfl z2 rfl rfl (by first | rfl | assumption | (simp only [ones, List.all_cons, List.all_nil, Bool.and_true, one_of (by assumption)]; done)) (by omega) (by omega) hol (fun R11_5 j11_5 => ?_)
    refine o_nil ?_
    refine x_region rfl ?_
    refine o_y (y_move rfl) ?_
    refine o_y (y_addN rfl rfl (by omega) (by omega)) ?_
    refine o_y (y_assign rfl) ?_
    refine o_nil ?_
    exact ⟨(k + 1, _, R11_5), 0, rfl, (.c rfl (.c rfl (.c rfl .n))), rfl, ⟨by omega, j11_5, rest.drop 15, by rw [z3]; exact putC_mark (mk := Own.mark Commit) hnl (fun i => rfl) hrl⟩, by simp only; omega⟩
  try simp only [kk] at hc1
  refine x_exit ?_
  refine x_seq ?_
  refine x_region rfl ?_
  refine o_y (y_move rfl) ?_
  refine o_y (y_assign rfl) ?_
  refine o_nil ?_
  have hk2 : k = 2 := by omega
  subst hk2
  have hkl := z2.len
  have hre : rest = [] := by
    rw [z3, List.length_append, List.length_append, marksTo_len (es := 15) (fun i => rfl), hnl] at hkl
    exact List.eq_nil_of_length_eq_zero (by omega)
  subst hre
  rw [List.append_nil, marksTo_two] at z3
  subst z3
  refine x_freezeG (S := R) (O' := O) (List.Perm.refl _) (fun H9 g9 hI9 => ?_)
  refine x_ret ?_
  refine x_fin 0 (ret1 rfl rfl) ?_
  exact ⟨rfl, _, ((i2.trans g9).perm (List.perm_append_comm)), OwL.twin z2 rfl (i4.mono g9.ext) hI9 hsm⟩
theorem leftCommits_ok {B : World} {H : HM} {O : OL} {v u : Value} {xs : List Commit} {F : List Nat} (h : OwL true H v xs F) (hu : RdL H u xs) : CallsM prog 190 [v, u].toArray B H O (Same (.bool true) H O) := by
  have hv := h.rdL
  have hle := hv.lenle
  obtain ⟨R, cs, Fs, hr, hH, hel, _, hsm, htw⟩ := h.h
  obtain ⟨bm, rfl, rfl⟩ := htw rfl
  have hcl : cs.length = xs.length * 15 := hr.len
  have hr2 : Row (.slice (some ⟨bm, 0, none⟩) (xs.length + 2) (xs.length + 2)) (xs.length + 2) (cs ++ (marksTo (Own.mark Commit) xs.length 2 ++ [])) 31 15 [(bm, cl (cs ++ (Own.mark Commit xs.length ++ Own.mark Commit (xs.length + 1))) (Own.ty Commit))] := ⟨by rw [List.length_append, List.length_append, marksTo_len (es := 15) (fun i => rfl), hcl]; simp only [List.length_nil]; omega, .inr ⟨bm, _, [], rfl, Nat.le_refl _, by simp, by rw [marksTo_two]; simp; rfl⟩⟩
  refine enter func190 rfl ntmps190 (l := [(0, _), (1, _)]) rfl rfl ?_
  refine x_seq ?_
  refine x_region rfl ?_
  refine o_y (y_assign rfl) ?_
  refine o_nil ?_
  refine x_seq ?_
  refine x_seq ?_
  refine x_region rfl ?_
  refine o_y (y_move rfl) ?_
  refine o_y (y_lenA underlying93 rfl) ?_
  refine o_y (y_move rfl) ?_
  refine o_y (y_lenA underlying93 rfl) ?_
  refine o_y (y_neq rfl rfl) ?_
  refine o_nil ?_
  refine x_cond rfl (fun hc0 => ?_) (fun hc0 => ?_)
  · try simp only [kk] at hc0
    exfalso; first | exact hc0 trivial | omega
  try simp only [kk] at hc0
  refine x_skip ?_
  refine x_seq ?_
  refine x_seq ?_
  refine x_region rfl ?_
  refine o_y (y_move rfl) ?_
  refine o_y (y_lenA underlying93 rfl) ?_
  refine o_y (y_move rfl) ?_
  refine o_nil ?_
  refine x_block ?_
  refine x_loopf (σ := Nat) (fun s => [(15, .int .i64 (s : Int)), (14, .int .i64 (xs.length : Int)), (0, .slice (some ⟨bm, 0, none⟩) xs.length (xs.length + 2)), (1, u)]) (fun s => O) (fun s => s ≤ xs.length) (fun s => xs.length - s) 0 (by simp) (.c rfl (.c rfl (.c rfl (.c rfl .n)))) rfl ?_
  rintro i i1
  refine x_seq ?_
  refine x_region rfl ?_
  refine o_y (y_lss rfl rfl) ?_
  refine o_nil ?_
  refine x_seq ?_
  refine x_cond rfl (fun hc1 => ?_) (fun hc1 => ?_)
  · try simp only [kk] at hc1
    have hi : i < xs.length := by omega
    obtain ⟨A1, ds, D1, FA, Fk, FD, ec, _, hA1', _, ho, _⟩ := hel.split i hi
    have hA1 : A1.length = i * 15 := hA1'
    have aE : AtS H O (.slice (some ⟨bm, 0, none⟩) xs.length (xs.length + 2)) (i * 15) ds := hr.atH hH (by omega) (fun j x hx => by
      rw [ec, List.append_assoc, ← hA1, List.getElem?_append_right (by omega), Nat.add_sub_cancel_left, List.getElem?_append_left (List.getElem?_eq_some_iff.1 hx).1]; exact hx)
    have ho' := ho
    obtain ⟨u6, u7, u8, u9, u12, G6, G7, G8, G9, G12, rfl, h0, h1, h2, h3, h4, h5, h6, h7, h8, h9, h10, h11, h12, h13, eG⟩ := ho
    refine x_skip ?_
    refine x_seq ?_
    refine x_block ?_
    refine x_seq ?_
    refine x_region rfl ?_
    refine o_y (y_move rfl) ?_
    refine o_y (y_assign rfl) ?_
    refine o_nil ?_
    refine x_seq ?_
    refine x_regionQ mixed (by kernel_rfl) rfl ?_
    refine q_y (y_move rfl) ?_
    refine q_y (y_move rfl) ?_
    refine q_y (y_idxR hr i hi underlying93 ti31 rfl rfl rfl) ?_
    refine q_y (y_loadS ti31 rfl (by assumption) rfl (fun e => by cases e)) ?_
    refine q_y (y_move rfl) ?_
    refine q_y (y_move rfl) ?_
    obtain ⟨ce24, ae24, re24⟩ := RdL.at hu _ i hi
    have se24 := AtS.isSl ae24
    have te24 := re24
    obtain ⟨u24_6, u24_7, u24_8, u24_9, u24_12, z24, q24_0, q24_1, q24_2, q24_3, q24_4, q24_5, q24_6, q24_7, q24_8, q24_9, q24_10, q24_11, q24_12, q24_13⟩ := re24
    subst z24
    have w24 := Rep.one te24
    refine q_y (y_idxL hu i hi underlying93 ti31 rfl rfl (by omega)) ?_
    refine q_y (y_loadS ti31 rfl (by assumption) rfl (fun e => by cases e)) ?_
    refine q_call fn14 rfl (leftCommit_ok ho' te24) ?_
    refine q_y (y_not rfl) ?_
    refine q_nil ?_
    refine x_condF rfl ?_
    refine x_skip ?_
    refine x_region rfl ?_
    refine o_y (y_addN rfl rfl (by omega) (by omega)) ?_
    refine o_y (y_move rfl) ?_
    refine o_nil ?_
    exact ⟨i + 1, 0, rfl, (.c rfl (.c rfl (.c rfl (.c rfl .n)))), rfl, by omega, by omega⟩
  try simp only [kk] at hc1
  refine x_exit ?_
  refine x_seq ?_
  refine x_region rfl ?_
  refine o_y (y_move rfl) ?_
  refine o_y (y_move rfl) ?_
  refine o_y (y_lenA underlying93 rfl) ?_
  refine o_y (y_addN rfl rfl (by omega) (by omega)) ?_
  refine o_y (y_sliceH underlying93 ti31 rfl rfl (xs.length + 2) (by first | rfl | omega) (by omega)) ?_
  refine o_y (y_assign rfl) ?_
  refine o_nil ?_
  refine x_seq ?_
  refine x_seq ?_
  refine x_region rfl ?_
  refine o_y (y_move rfl) ?_
  refine o_y (y_lenA underlying93 rfl) ?_
  refine o_y (y_assign rfl) ?_
  refine o_nil ?_
  refine x_block ?_
  refine x_loopf (σ := Nat) (fun s => [(7, .int .i64 ((xs.length + s : Nat) : Int)), (6, .slice (some ⟨bm, 0, none⟩) (xs.length + 2) (xs.length + 2))]) (fun s => O) (fun s => s ≤ 2) (fun s => 2 - s) 0 (by simp) (.c rfl (.c rfl .n)) rfl ?_
  rintro k z1
  refine x_seq ?_
  refine x_seq ?_
  refine x_region rfl ?_
  refine o_y (y_move rfl) ?_
  refine o_y (y_move rfl) ?_
  refine o_y (y_lenA underlying93 rfl) ?_
  refine o_y (y_lss rfl rfl) ?_
  refine o_nil ?_
  refine x_cond rfl (fun hc3 => ?_) (fun hc3 => ?_)
  · try simp only [kk] at hc3
    have hk : k < 2 := by omega
    have aF : AtS H O (.slice (some ⟨bm, 0, none⟩) (xs.length + 2) (xs.length + 2)) ((xs.length + k) * 15) (Own.mark Commit ((xs.length + k : Nat) : Int)) := hr2.atH hH (by omega) (fun i x hx => by
      have hi := (List.getElem?_eq_some_iff.1 hx).1
      have hi2 : i < 15 := hi
      rw [List.getElem?_append_right (by omega), hcl, show (xs.length + k) * 15 + i - xs.length * 15 = k * 15 + i by omega, List.append_nil]
      match k, hk with
      | 0, _ => rw [marksTo_two, List.getElem?_append_left (by show 0 * 15 + i < 15; omega)]; simpa using hx
      | 1, _ => rw [marksTo_two, List.getElem?_append_right (by show 15 ≤ 1 * 15 + i; omega)]; have e : 1 * 15 + i - (Own.mark Commit (xs.length : Int)).length = i := by show 1 * 15 + i - 15 = i; omega
                rw [e]; simpa using hx)
    refine x_skip ?_
    refine x_seq ?_
    refine x_block ?_
    refine x_seq ?_
    refine x_region rfl ?_
    refine o_y (y_move rfl) ?_
    refine o_y (y_move rfl) ?_
    refine o_y (y_idxR hr2 (xs.length + k) (by omega) underlying93 ti31 rfl rfl rfl) ?_
    refine o_y (y_loadS ti31 rfl aF rfl (fun e => by cases e)) ?_
    refine o_y (y_move rfl) ?_
    refine o_call fn244 rfl (isCommit_ok (xs.length + k) (by omega)) ?_
    rintro _ _ _ ⟨rfl, rfl, rfl⟩
    refine o_y (y_not rfl) ?_
    refine o_nil ?_
    refine x_condF rfl ?_
    refine x_skip ?_
    refine x_region rfl ?_
    refine o_y (y_move rfl) ?_
    refine o_y (y_addN rfl rfl (by omega) (by omega)) ?_
    refine o_y (y_assign rfl) ?_
    refine o_nil ?_
    exact ⟨k + 1, 0, rfl, (.c rfl (.c rfl .n)), rfl, by omega, by omega⟩
  try simp only [kk] at hc3
  refine x_exit ?_
  refine x_seq ?_
  refine x_region rfl ?_
  refine o_y (y_assign rfl) ?_
  refine o_nil ?_
  refine x_ret ?_
  refine x_fin 0 (ret1 rfl rfl) ?_
  exact ⟨rfl, rfl, rfl⟩
theorem twinLog_ok {B : World} {H : HM} {O : OL} {ds : List Value} {x : Log} (h : Rep.rd H ds x) : CallsM prog 34 [.agg ds.toArray].toArray B H O (TwinO x H O) := by
  obtain ⟨u1, rfl, h0, h1⟩ := h
  refine enter func34 rfl ntmps34 (l := [(0, _)]) rfl rfl ?_
  refine x_seq ?_
  refine x_region rfl ?_
  refine o_box rfl (cs := [_, _]) rfl (fun b1 => ?_)
  refine o_alloc ti95 rfl (fun b2 => ?_)
  refine o_nil ?_
  refine x_seq ?_
  refine x_region rfl ?_
  refine o_y (y_fieldAddr fd95_1 ti93 (by decide) rfl) ?_
  refine o_y (y_loadO ti93 rfl inn rfl) ?_
  refine o_call fn172 rfl (twinCommits_ok h1) ?_
  rintro _ H1 _ ⟨rfl, F1, g1, o1⟩
  obtain ⟨p1, c1, rfl⟩ := o1.shape
  refine o_y (y_fieldAddr fd95_1 ti93 (by decide) rfl) ?_
  refine o_store (u := [_]) (C' := [_, _]) ti93 rfl rfl rfl rfl (by first | rfl | assumption | (simp only [ones, List.all_cons, List.all_nil, Bool.and_true, one_of (by assumption)]; done)) (by repeat (first | exact .z | apply Upd.s | apply Upd.a)) (by exact Nat.le_of_ble_eq_true rfl) (by rfl) ?_
  refine o_nil ?_
  refine x_seq ?_
  refine x_region rfl ?_
  refine o_y (y_loadA ti95 rfl inn rfl) ?_
  refine o_store (u := [_, _]) (C' := [_, _]) ti95 rfl rfl rfl rfl (by first | rfl | assumption | (simp only [ones, List.all_cons, List.all_nil, Bool.and_true, one_of (by assumption)]; done)) (by repeat (first | exact .z | apply Upd.s | apply Upd.a)) (by exact Nat.le_of_ble_eq_true rfl) (by rfl) ?_
  refine o_nil ?_
  refine x_ret ?_
  refine x_fin 2 (retC rfl rfl ti95 inn rfl) ?_
  exact ⟨rfl, _, _, g1, rfl, _, _, rfl, h0, o1, rfl⟩
theorem leftLog_ok {B : World} {H : HM} {O : OL} {ds es : List Value} {x : Log} {F : List Nat} (h : Own.ow true H ds x F) (hu : Rep.rd H es x) : CallsM prog 47 [.agg ds.toArray, .agg es.toArray].toArray B H O (Same (.bool true) H O) := by
  obtain ⟨u1, F1, rfl, h0, h1, eF⟩ := h
  obtain ⟨w1, rfl, k0, k1⟩ := hu
  refine enter func47 rfl ntmps47 (l := [(0, _), (1, _)]) rfl rfl ?_
  refine x_seq ?_
  refine x_region rfl ?_
  refine o_box rfl (cs := [_, _]) rfl (fun b2 => ?_)
  refine o_box rfl (cs := [_, _]) rfl (fun b3 => ?_)
  refine o_y (y_assign rfl) ?_
  refine o_nil ?_
  refine x_seq ?_
  refine x_region rfl ?_
  refine o_y (y_fieldAddr fd95_0 ti3 (by decide) rfl) ?_
  refine o_y (y_loadO ti3 rfl inn rfl) ?_
  refine o_y (y_fieldAddr fd95_0 ti3 (by decide) rfl) ?_
  refine o_y (y_loadO ti3 rfl inn rfl) ?_
  refine o_y (y_eql rfl rfl) ?_
  refine o_y (y_move rfl) ?_
  refine o_split 10 rfl (fun hg1_10 => ?_) (fun hg1_10 => ?_)
  · try simp only [kk] at hg1_10
    refine o_gy 10 rfl rfl (y_fieldAddr fd95_1 ti93 (by decide) rfl) ?_
    refine o_gy 10 rfl rfl (y_loadO ti93 rfl inn rfl) ?_
    refine o_gy 10 rfl rfl (y_fieldAddr fd95_1 ti93 (by decide) rfl) ?_
    refine o_gy 10 rfl rfl (y_loadO ti93 rfl inn rfl) ?_
    refine o_gcall 10 rfl rfl fn190 rfl (leftCommits_ok h1 k1) ?_
    rintro _ _ _ ⟨rfl, rfl, rfl⟩
    refine o_y (y_pick rfl rfl) ?_
    refine o_y (y_assign rfl) ?_
    refine o_nil ?_
    refine x_ret ?_
    refine x_fin 2 (ret1 rfl rfl) ?_
    exact ⟨rfl, rfl, rfl⟩
  try simp only [kk] at hg1_10
  exfalso; simp at hg1_10
theorem twinLogs_ok {B : World} {H : HM} {O : OL} {v : Value} {xs : List Log} (h : RdL H v xs) : CallsM prog 8 [v].toArray B H O (TwinL xs H O) := by
  have hle := h.lenle
  have hsm : xs.length * 32 ≤ 140737488351232 := h.small
  refine enter func8 rfl ntmps8 (l := [(0, _)]) rfl rfl ?_
  refine x_seq ?_
  refine x_region rfl ?_
  refine o_y (y_assign rfl) ?_
  refine o_nil ?_
  refine x_seq ?_
  refine x_region rfl ?_
  refine o_y (y_move rfl) ?_
  refine o_y (y_lenA underlying22 rfl) ?_
  refine o_y (y_move rfl) ?_
  refine o_y (y_lenA underlying22 rfl) ?_
  refine o_y (y_addN rfl rfl (by omega) (by omega)) ?_
  refine o_makeSlice (n := xs.length) (c := xs.length + 2) underlying22 ti95 (by decide) rfl rfl rfl (by omega) (by omega) (by omega) (by omega) (fun bm => ?_)
  have hz : (List.replicate (xs.length + 2) ([.int .i64 0, .slice none 0 0] : List Value)).flatten.length = (xs.length + 2) * 2 := by simp
  have r0 := Row.make (n := xs.length) (b := bm) (e := 95) hz (by omega)
  refine o_y (y_assign rfl) ?_
  refine o_nil ?_
  refine x_seq ?_
  refine x_seq ?_
  refine x_region rfl ?_
  refine o_y (y_move rfl) ?_
  refine o_y (y_lenA underlying22 rfl) ?_
  refine o_y (y_move rfl) ?_
  refine o_nil ?_
  refine x_block ?_
  refine x_loopg (σ := Nat × HM × List Value × OL × List Nat) (fun s => [(15, .int .i64 (s.1 : Int)), (14, .int .i64 (xs.length : Int)), (3, .slice (some ⟨bm, 0, none⟩) xs.length (xs.length + 2)), (0, v)]) (fun s => s.2.1) (fun s => s.2.2.2.1 ++ O) (fun s => s.1 ≤ xs.length ∧ Grew H s.2.1 s.2.2.2.2 ∧ Row (.slice (some ⟨bm, 0, none⟩) xs.length (xs.length + 2)) xs.length s.2.2.1 95 2 s.2.2.2.1 ∧ ElO true s.2.1 (s.2.2.1.take (s.1 * 2)) (xs.take s.1) s.2.2.2.2) (fun s => xs.length - s.1) (0, H, _, _, []) ⟨by simp, Grew.refl H, r0, by simp only [Nat.zero_mul, List.take_zero]; exact .n⟩ (.c rfl (.c rfl (.c rfl (.c rfl .n)))) rfl rfl ?_
  rintro ⟨i, H1, cells, R, Fs⟩ ⟨i1, i2, i3, i4⟩
  simp only at i1 i2 i3 i4
  refine x_seq ?_
  refine x_region rfl ?_
  refine o_y (y_lss rfl rfl) ?_
  refine o_nil ?_
  refine x_seq ?_
  refine x_cond rfl (fun hc0 => ?_) (fun hc0 => ?_)
  · try simp only [kk] at hc0
    have hi : i < xs.length := by omega
    have hv1 := h.mono i2.ext
    have hcl := i3.len
    refine x_skip ?_
    refine x_seq ?_
    refine x_block ?_
    refine x_seq ?_
    refine x_region rfl ?_
    refine o_y (y_move rfl) ?_
    refine o_y (y_assign rfl) ?_
    refine o_nil ?_
    refine x_region rfl ?_
    refine o_y (y_move rfl) ?_
    refine o_y (y_move rfl) ?_
    refine o_y (y_move rfl) ?_
    refine o_y (y_move rfl) ?_
    obtain ⟨ce22, ae22, re22⟩ := RdL.at hv1 _ i hi
    have se22 := AtS.isSl ae22
    have te22 := re22
    obtain ⟨u22_1, z22, q22_0, q22_1⟩ := re22
    subst z22
    have w22 := Rep.one te22
    refine o_y (y_idxL hv1 i hi underlying22 ti95 rfl rfl (by omega)) ?_
    refine o_y (y_loadS ti95 rfl (by assumption) rfl (fun e => by cases e)) ?_
    refine o_call fn34 rfl (twinLog_ok te22) ?_
    rintro _ H2 _ ⟨rfl, F2, cs2, g2, rfl, o2⟩
    have o2' := o2
    have w2 := Rep.one (Own.ow_rd o2)
    have l2 : cs2.length = 2 := Rep.len (Own.ow_rd o2)
    have e2 : (putC cells (i * 2) cs2).take ((i + 1) * 2) = cells.take (i * 2) ++ cs2 := by
      rw [show (i + 1) * 2 = i * 2 + cs2.length by omega]; exact putC_take (by omega)
    obtain ⟨u1, G1, rfl, h0, h1, eG⟩ := o2
    refine o_y (y_idxR i3 i hi underlying22 ti95 rfl rfl rfl) ?_
    refine o_storeS (u := [_, _]) ti95 rfl rfl i3 rfl rfl (by first | rfl | assumption | (simp only [ones, List.all_cons, List.all_nil, Bool.and_true, one_of (by assumption)]; done)) (by omega) (by omega) hol (fun R5_8 j5_8 => ?_)
    refine o_nil ?_
    refine x_region rfl ?_
    refine o_y (y_addN rfl rfl (by omega) (by omega)) ?_
    refine o_y (y_move rfl) ?_
    refine o_nil ?_
    exact ⟨(i + 1, H2, _, R5_8, Fs ++ F2), 0, rfl, (.c rfl (.c rfl (.c rfl (.c rfl .n)))), rfl, ⟨by omega, i2.trans g2, j5_8, by have e := (i4.mono g2.ext).snoc o2'; rw [← e2] at e; rw [take_next hi]; exact e⟩, by simp only; omega⟩
  try simp only [kk] at hc0
  refine x_exit ?_
  refine x_seq ?_
  have hin : i = xs.length := by omega
  subst hin
  have hv7 := h.mono i2.ext
  rw [List.take_length, List.take_of_length_le (by rw [i3.len]; exact Nat.le_refl _)] at i4
  obtain ⟨news, hne⟩ : ∃ news, news = cells := ⟨_, rfl⟩
  rw [← hne] at i3 i4
  have hnl : news.length = xs.length * 2 := i3.len
  obtain ⟨ds, hds, jr⟩ := i3.upto (m := xs.length + 2) (by omega) (Nat.le_refl _)
  refine x_region rfl ?_
  refine o_y (y_move rfl) ?_
  refine o_y (y_move rfl) ?_
  refine o_y (y_lenA underlying22 rfl) ?_
  refine o_y (y_addN rfl rfl (by omega) (by omega)) ?_
  refine o_y (y_sliceH underlying22 ti95 rfl rfl (xs.length + 2) (by first | rfl | omega) (by omega)) ?_
  refine o_y (y_assign rfl) ?_
  refine o_nil ?_
  refine x_seq ?_
  refine x_seq ?_
  refine x_region rfl ?_
  refine o_y (y_move rfl) ?_
  refine o_y (y_lenA underlying22 rfl) ?_
  refine o_y (y_assign rfl) ?_
  refine o_nil ?_
  refine x_block ?_
  refine x_loopf (σ := Nat × List Value × OL) (fun s => [(6, .int .i64 ((xs.length + s.1 : Nat) : Int)), (5, .slice (some ⟨bm, 0, none⟩) (xs.length + 2) (xs.length + 2)), (3, .slice (some ⟨bm, 0, none⟩) xs.length (xs.length + 2))]) (fun s => s.2.2 ++ O) (fun s => s.1 ≤ 2 ∧ Row (.slice (some ⟨bm, 0, none⟩) (xs.length + 2) (xs.length + 2)) (xs.length + 2) s.2.1 95 2 s.2.2 ∧ ∃ rest, s.2.1 = news ++ (marksTo (Own.mark Log) xs.length s.1 ++ rest)) (fun s => 2 - s.1) (0, _, _) ⟨by simp, jr, ds, by simp [marksTo]⟩ (.c rfl (.c rfl (.c rfl .n))) rfl ?_
  rintro ⟨k, cells, R⟩ ⟨z1, z2, rest, z3⟩
  simp only at z1 z2 z3
  refine x_seq ?_
  refine x_seq ?_
  refine x_region rfl ?_
  refine o_y (y_move rfl) ?_
  refine o_y (y_move rfl) ?_
  refine o_y (y_lenA underlying22 rfl) ?_
  refine o_y (y_lss rfl rfl) ?_
  refine o_nil ?_
  refine x_cond rfl (fun hc1 => ?_) (fun hc1 => ?_)
  · try simp only [kk] at hc1
    have hk : k < 2 := by omega
    have hkl := z2.len
    have hrl : 2 ≤ rest.length := by
      rw [z3, List.length_append, List.length_append, marksTo_len (es := 2) (fun i => rfl), hnl] at hkl
      omega
    refine x_skip ?_
    refine x_seq ?_
    refine x_block ?_
    refine x_region rfl ?_
    refine o_y (y_move rfl) ?_
    refine o_y (y_move rfl) ?_
    refine o_y (y_move rfl) ?_
    refine o_call fn35 rfl (markLog_ok (xs.length + k) (by omega)) ?_
    rintro _ _ _ ⟨rfl, rfl, rfl⟩
    refine o_y (y_idxR z2 (xs.length + k) (by omega) underlying22 ti95 rfl rfl rfl) ?_
    refine o_storeS (u := [_, _]) ti95 rfl rfl z2 rfl rfl (by first | rfl | assumption | (simp only [ones, List.all_cons, List.all_nil, Bool.and_true, one_of (by assumption)]; done)) (by omega) (by omega) hol (fun R11_5 j11_5 => ?_)
    refine o_nil ?_
    refine x_region rfl ?_
    refine o_y (y_move rfl) ?_
    refine o_y (y_addN rfl rfl (by omega) (by omega)) ?_
    refine o_y (y_assign rfl) ?_
    refine o_nil ?_
    exact ⟨(k + 1, _, R11_5), 0, rfl, (.c rfl (.c rfl (.c rfl .n))), rfl, ⟨by omega, j11_5, rest.drop 2, by rw [z3]; exact putC_mark (mk := Own.mark Log) hnl (fun i => rfl) hrl⟩, by simp only; omega⟩
  try simp only [kk] at hc1
  refine x_exit ?_
  refine x_seq ?_
  refine x_region rfl ?_
  refine o_y (y_move rfl) ?_
  refine o_y (y_assign rfl) ?_
  refine o_nil ?_
  have hk2 : k = 2 := by omega
  subst hk2
  have hkl := z2.len
  have hre : rest = [] := by
    rw [z3, List.length_append, List.length_append, marksTo_len (es := 2) (fun i => rfl), hnl] at hkl
    exact List.eq_nil_of_length_eq_zero (by omega)
  subst hre
  rw [List.append_nil, marksTo_two] at z3
  subst z3
  refine x_freezeG (S := R) (O' := O) (List.Perm.refl _) (fun H9 g9 hI9 => ?_)
  refine x_ret ?_
  refine x_fin 0 (ret1 rfl rfl) ?_
  exact ⟨rfl, _, ((i2.trans g9).perm (List.perm_append_comm)), OwL.twin z2 rfl (i4.mono g9.ext) hI9 hsm⟩
end Go.Ph
