/- The given statement LedgerAppendsCardSaid is proved: the law phratrylaw14.LedgerAppends holds of the program for every input. Conditions: none but the statement's own. -/
import Derived.Test.YtmgnagpgnoikfaaGreatDoorP6
import Derived.Test.YtmgnagpgnoikfaaGreatDoorClosedLedgerAppends
import Derived.Test.YtmgnagpgnoikfaaGreatDoorCards
import Derived.Test.YtmgnagpgnoikfaaGreatDoorTie
import Derived.WalkKit
import Derived.ProofKit
import Derived.OpenShut
import Derived.ChangeOld
import Derived.Below
import Derived.Carry
import Derived.SizedLaws
import Derived.Deep.DeepHandedRow
import Derived.Lib.LaidTab
import Derived.Stop.LaidErr
set_option linter.unusedVariables false
namespace Go.Proofs.YtmgnagpgnoikfaaGreatDoor.ledgerAppends
open Go.ChangeShapes Go.WideShapes Go.ChangeAt Go.RowKit

theorem own : ownKnob Go.Proofs.Tryz.prog.godebug = none := by kernel_rfl
theorem laidOut : laidOutB Go.Proofs.Tryz.prog = true := by kernel_rfl
theorem gTab : Go.Proofs.Tryz.prog.globalNamed "math/bits.deBruijn64tab" = some 0 := by kernel_rfl
theorem gTabType : (Go.Proofs.Tryz.prog.globals[0]?).map (·.type) = some 413 := by kernel_rfl
theorem cellsTab : Go.Proofs.Tryz.prog.cellsOf 413 = 64 := by kernel_rfl
theorem cellsU8 : Go.Proofs.Tryz.prog.cellsOf 5 = 1 := by kernel_rfl
theorem table {W : World} (h : laidMetH Go.Proofs.Tryz.prog Rows.ledgerAppendsRow.laid W) : Lib.TabIs Go.Proofs.Tryz.prog W "math/bits.deBruijn64tab" .u8 (Ph.tab64.map fun (n : Nat) => (n : Int)) :=
  by
    have h0 : laidMet Go.Proofs.Tryz.prog Rows.ledgerAppendsRow.laid W := h
    have h1 : laidMet Go.Proofs.Tryz.prog [("math/bits.deBruijn64tab", Rows.laid_math_bits_deBruijn64tab), ("internal/strconv.uint64pow10", Rows.laid_internal_strconv_uint64pow10)] W := laidMet.tail (x := ("math/bits.deBruijn32tab", Rows.laid_math_bits_deBruijn32tab)) (r := [("math/bits.deBruijn64tab", Rows.laid_math_bits_deBruijn64tab), ("internal/strconv.uint64pow10", Rows.laid_internal_strconv_uint64pow10)]) h0
    exact Lib.tabIs_of_head (rest := [("internal/strconv.uint64pow10", Rows.laid_internal_strconv_uint64pow10)]) gTab gTabType Go.Proofs.Tryz.underlying413 Go.Proofs.Tryz.underlying5 cellsU8 cellsTab h1
theorem tabAt {W : World} (h : laidMetH Go.Proofs.Tryz.prog Rows.ledgerAppendsRow.laid W) : Ph.TabAt (fun b => W.heap[b]?) := by
  have h1 : W.var? Go.Proofs.Tryz.prog "math/bits.deBruijn64tab" = _ := table h
  unfold World.var? at h1
  rw [gTab, Option.bind_some] at h1
  split at h1
  · rename_i cs T fr hb
    injection h1 with h1
    refine ⟨T, fr, ?_⟩
    show W.heap[0]? = _
    rw [hb, h1, List.map_map]; rfl
  · cases h1

set_option maxRecDepth 100000 in
theorem contract (H : Type) (enc : TypeId × Value → H) (W : World) (base : Nat) (args : Array Value) (ds gs : List (DataW H)) (before : List MemPlace)
    (hval0 : ∀ (j : Nat) t v, Go.Proofs.Tryz.f3.params[j]? = some t → args[j]? = some v → Value.okWide Go.Proofs.Tryz.prog W .any base t v)
    (hW : DataW.Whole enc Go.Proofs.Tryz.prog Go.Proofs.Tryz.f3.params.toList Rows.ledgerAppendsSpec.vars false W args.toList ds gs before)
    (hsz0 : (DataW.weightsEach Go.Proofs.Tryz.prog (Go.Proofs.Tryz.f3.params.toList ++ Rows.ledgerAppendsSpec.plain.varTypes Go.Proofs.Tryz.prog) (ds ++ gs)).all (· ≤ reachBytes) = true) (hL : laidMetH Go.Proofs.Tryz.prog Rows.ledgerAppendsRow.laid W) :
    Calls Go.Proofs.Tryz.prog 3 args W fun e W' => ∃ v, e = .returned v ∧ Rows.ledgerAppendsSpec.post enc Go.Proofs.Tryz.prog Go.Proofs.Tryz.f3 false true false false W args v W' := by
  have hsz : (DataW.weightsEach Go.Proofs.Tryz.prog (Go.Proofs.Tryz.f3.params.toList ++ Rows.ledgerAppendsSpec.plain.varTypes Go.Proofs.Tryz.prog) (ds ++ gs)).all (· ≤ reachBytes) = true := hsz0
  have hval : ∀ (j : Nat) t v, Go.Proofs.Tryz.f3.params[j]? = some t → args[j]? = some v → Value.okWide Go.Proofs.Tryz.prog W .any base t v := hval0
  have hW' := hW
  obtain ⟨p, q, hA0, hV, rfl, hfz, hnd⟩ := hW
  have hA : DataW.TrodAll enc Go.Proofs.Tryz.prog W 0 (fun _ => true) true Go.Proofs.Tryz.f3.params.toList args.toList ds p := hA0
  rw [Go.Proofs.Tryz.params3] at hA hval hsz
  obtain ⟨v0, vs0, d0, ds0, p0, q0, hargs, rfl, rfl, h0, r0⟩ := trodAll_cons hA
  obtain ⟨v1, vs1, d1, ds1, p1, q1, rfl, rfl, rfl, h1, r1⟩ := trodAll_cons r0
  obtain ⟨rfl, rfl, rfl⟩ := trodAll_nil r1
  obtain rfl : args = #[v0, v1] := by cases args; simp_all
  obtain ⟨rfl, rfl⟩ := trodVars_none hV
  obtain ⟨a0, len0, cap0, rfl⟩ := okWide_slice Go.Proofs.Tryz.underlying22 (hval 0 22 v0 rfl rfl)
  have k0 := h0
  have lt0 : ∀ x ∈ p0, x.block < W.heap.size := by obtain ⟨m, hm⟩ := k0; exact DataW.trod_lt m _ _ _ hm
  obtain ⟨fuel0, hf0⟩ := h0
  have hwt0 : ∀ x ∈ d0.weights Go.Proofs.Tryz.prog 22, x ≤ reachBytes := fun x hx => by
    have := List.all_eq_true.1 hsz x (Ph.weightsEach_mem (j := 0) (t := 22) (d := d0) rfl rfl hx)
    simpa using this
  obtain ⟨xs0, u0, hu0, g0⟩ := Ph.reads_sLog hf0 hwt0
  simp only [Value.cells] at hu0
  obtain rfl : u0 = .slice a0 len0 cap0 := by simpa using hu0.symm
  obtain ⟨c1, rfl, _⟩ := okWide_struct Go.Proofs.Tryz.underlying31 (hval 1 31 v1 rfl rfl)
  obtain ⟨l1, rfl⟩ : ∃ l : List Value, c1 = l.toArray := ⟨c1.toList, by simp⟩
  have k1 := h1
  have lt1 : ∀ x ∈ p1, x.block < W.heap.size := by obtain ⟨m, hm⟩ := k1; exact DataW.trod_lt m _ _ _ hm
  obtain ⟨fuel1, hf1⟩ := h1
  have hwt1 : ∀ x ∈ d1.weights Go.Proofs.Tryz.prog 31, x ≤ reachBytes := fun x hx => by
    have := List.all_eq_true.1 hsz x (Ph.weightsEach_mem (j := 1) (t := 31) (d := d1) rfl rfl hx)
    simpa using this
  obtain ⟨x1, g10⟩ := Ph.reads_Commit hf1 hwt1
  have g1 : Ph.Rep.rd (fun b => W.heap[b]?) l1 x1 := g10
  have walk := Ph.appends_true (B := W) (O := []) (tabAt hL) g0 g1 W (Ph.Fits.start W)
  refine walk.mono fun e W' hh => ?_
  obtain ⟨v, H', O', rfl, hfit, rfl, _, _⟩ := hh
  have bel := hfit.below
  exact ⟨_, rfl, _, _, _, [], _, [], hW', trodAll_mk1 (shut_bool Go.Proofs.Tryz.underlying4 _), (trodAll_cons_mk (Below.trod laidOut (by kernel_rfl) (of_decide_eq_true (by kernel_rfl)) k0 bel lt0) (trodAll_cons_mk (Below.trod laidOut (by kernel_rfl) (of_decide_eq_true (by kernel_rfl)) k1 bel lt1) trodAll_mk0)), rfl, bel.frame _, fun h => by cases h⟩

/-- A world for the witness: the settled one, the table holding what its initialiser lays. -/
noncomputable def laidWorld (os : Os) : World :=
  { World.holding Go.Proofs.Tryz.prog os ⟨#[], #[], []⟩ with heap := ((((World.holding Go.Proofs.Tryz.prog os ⟨#[], #[], []⟩).heap.modify 2 fun
      | .cells _ t frozen => .cells (([0, 1, 28, 2, 29, 14, 24, 3, 30, 22, 20, 15, 25, 17, 4, 8, 31, 27, 13, 23, 21, 19, 16, 7, 26, 12, 18, 6, 11, 5, 10, 9] : List Nat).map fun (n : Nat) => Value.int .u8 n).toArray t frozen
      | o => o).modify 0 fun
      | .cells _ t frozen => .cells (Ph.tab64.map fun (n : Nat) => Value.int .u8 n).toArray t frozen
      | o => o).modify 1 fun
      | .cells _ t frozen => .cells (([1, 10, 100, 1000, 10000, 100000, 1000000, 10000000, 100000000, 1000000000, 10000000000, 100000000000, 1000000000000, 10000000000000, 100000000000000, 1000000000000000, 10000000000000000, 100000000000000000, 1000000000000000000, 10000000000000000000] : List Nat).map fun (n : Nat) => Value.int .u64 n).toArray t frozen
      | o => o) }
theorem laid_met (os : Os) : laidMet Go.Proofs.Tryz.prog Rows.ledgerAppendsRow.laid ((laidWorld os).forCall (fun _ _ => 0) ⟨#[], #[.slice none 0 0, .agg #[.int .i64 0, .int .i64 0, .int .i64 0, .int .i64 0, .int .i64 0, .bool false, .slice none 0 0, .slice none 0 0, .slice none 0 0, .slice none 0 0, .int .i64 0, .int .i64 0, .slice none 0 0, .int .i64 0, .int .i64 0]], []⟩).memory :=
  laidMet_of_run' 12 (by kernel_rfl) (by kernel_rfl)
theorem reads (os : Os) {H : Type} (enc : TypeId × Value → H) : ∃ places, DataW.whole enc Go.Proofs.Tryz.prog ((laidWorld os).forCall (fun _ _ => 0) ⟨#[], #[.slice none 0 0, .agg #[.int .i64 0, .int .i64 0, .int .i64 0, .int .i64 0, .int .i64 0, .bool false, .slice none 0 0, .slice none 0 0, .slice none 0 0, .slice none 0 0, .int .i64 0, .int .i64 0, .slice none 0 0, .int .i64 0, .int .i64 0]], []⟩).memory Go.Proofs.Tryz.f3.params.toList Rows.ledgerAppendsSpec.vars false (#[.slice none 0 0, .agg #[.int .i64 0, .int .i64 0, .int .i64 0, .int .i64 0, .int .i64 0, .bool false, .slice none 0 0, .slice none 0 0, .slice none 0 0, .slice none 0 0, .int .i64 0, .int .i64 0, .slice none 0 0, .int .i64 0, .int .i64 0]] : Array Value).toList 12 = some ([.nil, .agg [.lit (.int .i64 0), .lit (.int .i64 0), .lit (.int .i64 0), .lit (.int .i64 0), .lit (.int .i64 0), .lit (.bool false), .nil, .nil, .nil, .nil, .lit (.int .i64 0), .lit (.int .i64 0), .agg [.nil], .lit (.int .i64 0), .lit (.int .i64 0)]], [], places) :=
  ⟨[], by kernel_rfl⟩
set_option maxRecDepth 100000 in
theorem lifted (os : Os) (started : os.Started) (H : Type) (enc : TypeId × Value → H) (F : Stop.Interp) :
    ReturnsInHanded {} Go.Proofs.Tryz.checked os 3 .any ((OpenSpec.ofChange Rows.ledgerAppendsSpec).preRow enc Go.Proofs.Tryz.prog Go.Proofs.Tryz.f3 Rows.ledgerAppendsRow.domain false Rows.ledgerAppendsRow.laid) (((OpenSpec.ofChange Rows.ledgerAppendsSpec).at F).post enc Go.Proofs.Tryz.prog Go.Proofs.Tryz.f3 false true false false) := by
  obtain ⟨places, hx⟩ := reads os enc
  refine returnsInHanded_of_row (C := Go.Proofs.Tryz.checked) (s := OpenSpec.ofChange Rows.ledgerAppendsSpec) own started (by kernel_rfl) Go.Proofs.Tryz.func3
    (witness_row_at (enc := enc) (C := Go.Proofs.Tryz.checked) false (laidWorld os) #[.slice none 0 0, .agg #[.int .i64 0, .int .i64 0, .int .i64 0, .int .i64 0, .int .i64 0, .bool false, .slice none 0 0, .slice none 0 0, .slice none 0 0, .slice none 0 0, .int .i64 0, .int .i64 0, .slice none 0 0, .int .i64 0, .int .i64 0]] rfl (by kernel_rfl) (by kernel_rfl) (by kernel_rfl)
      (OpenSpec.preRow_of_cond 12 hx (by kernel_rfl) (fun k hk => by cases hk) (by kernel_rfl) (laid_met os))) ?_
  intro W base args ds gs before hval hW _ _ hsz hL _ _
  exact contract H enc W base args ds gs before hval hW hsz hL
theorem said : Rows.LedgerAppendsSaid :=
  OpenClaim.holds_of_cond 3 Go.Proofs.Tryz.f3 rfl rfl rfl rfl rfl rfl rfl ⟨rfl, rfl, rfl, rfl, rfl⟩ rfl rfl rfl rfl rfl name3 Go.Proofs.Tryz.func3 closed
    (of_decide_eq_true (by kernel_rfl)) (by unfold Func.isWrapper; first | (rw [if_pos (by decide +kernel)]; kernel_rfl) | (rw [if_neg (by decide +kernel)]; exact ⟨rfl, rfl⟩))
    (fun os started H enc _ F => by rw [OpenClaim.pre_eq_preRow]; exact lifted os started H enc F)
theorem plain (f : FuncId) (fn : Func) (hf : Tryz.pinned.checked.prog.funcNamed "phratry/phratrylaw14.LedgerAppends" = some f) (hfn : Tryz.pinned.checked.prog.funcs[f]? = some fn) :
    false = Tryz.pinned.checked.prog.looks [] ∧ ∀ (j : Nat) t, fn.params[j]? = some t → Tryz.pinned.checked.prog.wantsStandIn t = false := by
  obtain rfl : f = 3 := Option.some.inj ((show Go.Proofs.Tryz.prog.funcNamed "phratry/phratrylaw14.LedgerAppends" = some 3 by kernel_rfl).symm.trans hf) |>.symm
  obtain rfl : fn = Go.Proofs.Tryz.f3 := (Option.some.inj (Go.Proofs.Tryz.func3.symm.trans hfn)).symm
  refine ⟨by kernel_rfl, fun j t ht => ?_⟩
  rw [Go.Proofs.Tryz.params3] at ht
  have hm := Array.mem_of_getElem? ht
  simp only [List.mem_toArray, List.mem_cons, List.mem_nil_iff, or_false] at hm
  rcases hm with rfl | rfl
  · exact (show Go.Proofs.Tryz.prog.wantsStandIn 22 = false by kernel_rfl)
  · exact (show Go.Proofs.Tryz.prog.wantsStandIn 31 = false by kernel_rfl)
theorem card : Rows.LedgerAppendsCardSaid :=
  Claim7.holds_tied_plain_at .later [] _ _ _ _ said (fun _ h => by cases h) (by kernel_rfl) (fun _ h => by cases h) ledgerAppends_row_tie rfl ⟨rfl, rfl⟩ (by kernel_rfl) rfl plain (by kernel_rfl)
#print axioms card
end Go.Proofs.YtmgnagpgnoikfaaGreatDoor.ledgerAppends
namespace Go.Proofs.YtmgnagpgnoikfaaGreatDoor
/-- The card, under a short name, for the claim. -/
theorem ledgerAppends_holds : Rows.LedgerAppendsCardSaid := ledgerAppends.card
end Go.Proofs.YtmgnagpgnoikfaaGreatDoor
