/- The given statement LedgerTellsCardSaid is proved: the law phratrylaw14.LedgerTells holds of the program for every input. Conditions: none but the statement's own. -/
import Derived.Test.YtmgnagpgnoikfaaGreatDoorP5
import Derived.Test.YtmgnagpgnoikfaaGreatDoorClosedLedgerTells
import Derived.Test.YtmgnagpgnoikfaaGreatDoorCards
import Derived.Test.YtmgnagpgnoikfaaGreatDoorTie
import Derived.WalkKit
import Derived.ProofKit
import Derived.OpenShut
import Derived.ChangeOld
import Derived.Below
import Derived.Carry
import Derived.SizedLaws
import Derived.Deep.DeepHandedRow
import Derived.Lib.LaidTab
import Derived.Stop.LaidErr
set_option linter.unusedVariables false
namespace Go.Proofs.YtmgnagpgnoikfaaGreatDoor.ledgerTells
open Go.ChangeShapes Go.WideShapes Go.ChangeAt Go.RowKit

theorem own : ownKnob Go.Proofs.Tryz.prog.godebug = none := by kernel_rfl
theorem laidOut : laidOutB Go.Proofs.Tryz.prog = true := by kernel_rfl
theorem gTab : Go.Proofs.Tryz.prog.globalNamed "math/bits.deBruijn64tab" = some 0 := by kernel_rfl
theorem gTabType : (Go.Proofs.Tryz.prog.globals[0]?).map (·.type) = some 413 := by kernel_rfl
theorem cellsTab : Go.Proofs.Tryz.prog.cellsOf 413 = 64 := by kernel_rfl
theorem cellsU8 : Go.Proofs.Tryz.prog.cellsOf 5 = 1 := by kernel_rfl
theorem table {W : World} (h : laidMetH Go.Proofs.Tryz.prog Rows.ledgerTellsRow.laid W) : Lib.TabIs Go.Proofs.Tryz.prog W "math/bits.deBruijn64tab" .u8 (Ph.tab64.map fun (n : Nat) => (n : Int)) :=
  by
    have h0 : laidMet Go.Proofs.Tryz.prog Rows.ledgerTellsRow.laid W := h
    have h1 : laidMet Go.Proofs.Tryz.prog [("math/bits.deBruijn64tab", Rows.laid_math_bits_deBruijn64tab), ("internal/strconv.uint64pow10", Rows.laid_internal_strconv_uint64pow10)] W := laidMet.tail (x := ("math/bits.deBruijn32tab", Rows.laid_math_bits_deBruijn32tab)) (r := [("math/bits.deBruijn64tab", Rows.laid_math_bits_deBruijn64tab), ("internal/strconv.uint64pow10", Rows.laid_internal_strconv_uint64pow10)]) h0
    exact Lib.tabIs_of_head (rest := [("internal/strconv.uint64pow10", Rows.laid_internal_strconv_uint64pow10)]) gTab gTabType Go.Proofs.Tryz.underlying413 Go.Proofs.Tryz.underlying5 cellsU8 cellsTab h1
theorem tabAt {W : World} (h : laidMetH Go.Proofs.Tryz.prog Rows.ledgerTellsRow.laid W) : Ph.TabAt (fun b => W.heap[b]?) := by
  have h1 : W.var? Go.Proofs.Tryz.prog "math/bits.deBruijn64tab" = _ := table h
  unfold World.var? at h1
  rw [gTab, Option.bind_some] at h1
  split at h1
  · rename_i cs T fr hb
    injection h1 with h1
    refine ⟨T, fr, ?_⟩
    show W.heap[0]? = _
    rw [hb, h1, List.map_map]; rfl
  · cases h1

set_option maxRecDepth 100000 in
theorem contract (H : Type) (enc : TypeId × Value → H) (W : World) (base : Nat) (args : Array Value) (ds gs : List (DataW H)) (before : List MemPlace)
    (hval0 : ∀ (j : Nat) t v, Go.Proofs.Tryz.f4.params[j]? = some t → args[j]? = some v → Value.okWide Go.Proofs.Tryz.prog W .any base t v)
    (hW : DataW.Whole enc Go.Proofs.Tryz.prog Go.Proofs.Tryz.f4.params.toList Rows.ledgerTellsSpec.vars false W args.toList ds gs before)
    (hsz0 : (DataW.weightsEach Go.Proofs.Tryz.prog (Go.Proofs.Tryz.f4.params.toList ++ Rows.ledgerTellsSpec.plain.varTypes Go.Proofs.Tryz.prog) (ds ++ gs)).all (· ≤ reachBytes) = true) (hL : laidMetH Go.Proofs.Tryz.prog Rows.ledgerTellsRow.laid W) :
    Calls Go.Proofs.Tryz.prog 4 args W fun e W' => ∃ v, e = .returned v ∧ Rows.ledgerTellsSpec.post enc Go.Proofs.Tryz.prog Go.Proofs.Tryz.f4 false true false false W args v W' := by
  have hsz : (DataW.weightsEach Go.Proofs.Tryz.prog (Go.Proofs.Tryz.f4.params.toList ++ Rows.ledgerTellsSpec.plain.varTypes Go.Proofs.Tryz.prog) (ds ++ gs)).all (· ≤ reachBytes) = true := hsz0
  have hval : ∀ (j : Nat) t v, Go.Proofs.Tryz.f4.params[j]? = some t → args[j]? = some v → Value.okWide Go.Proofs.Tryz.prog W .any base t v := hval0
  have hW' := hW
  obtain ⟨p, q, hA0, hV, rfl, hfz, hnd⟩ := hW
  have hA : DataW.TrodAll enc Go.Proofs.Tryz.prog W 0 (fun _ => true) true Go.Proofs.Tryz.f4.params.toList args.toList ds p := hA0
  rw [Go.Proofs.Tryz.params4] at hA hval hsz
  obtain ⟨v0, vs0, d0, ds0, p0, q0, hargs, rfl, rfl, h0, r0⟩ := trodAll_cons hA
  obtain ⟨v1, vs1, d1, ds1, p1, q1, rfl, rfl, rfl, h1, r1⟩ := trodAll_cons r0
  obtain ⟨v2, vs2, d2, ds2, p2, q2, rfl, rfl, rfl, h2, r2⟩ := trodAll_cons r1
  obtain ⟨rfl, rfl, rfl⟩ := trodAll_nil r2
  obtain rfl : args = #[v0, v1, v2] := by cases args; simp_all
  obtain ⟨rfl, rfl⟩ := trodVars_none hV
  obtain ⟨a0, len0, cap0, rfl⟩ := okWide_slice Go.Proofs.Tryz.underlying22 (hval 0 22 v0 rfl rfl)
  have k0 := h0
  have lt0 : ∀ x ∈ p0, x.block < W.heap.size := by obtain ⟨m, hm⟩ := k0; exact DataW.trod_lt m _ _ _ hm
  obtain ⟨fuel0, hf0⟩ := h0
  have hwt0 : ∀ x ∈ d0.weights Go.Proofs.Tryz.prog 22, x ≤ reachBytes := fun x hx => by
    have := List.all_eq_true.1 hsz x (Ph.weightsEach_mem (j := 0) (t := 22) (d := d0) rfl rfl hx)
    simpa using this
  obtain ⟨xs0, u0, hu0, g0⟩ := Ph.reads_sLog hf0 hwt0
  simp only [Value.cells] at hu0
  obtain rfl : u0 = .slice a0 len0 cap0 := by simpa using hu0.symm
  obtain ⟨a1, rfl, rfl, rfl, w1⟩ := open_int Go.Proofs.Tryz.underlying3 (hval 1 3 v1 rfl rfl) h1
  have g1 := Ph.inR_wf w1
  obtain ⟨a2, rfl, rfl, rfl, w2⟩ := open_int Go.Proofs.Tryz.underlying3 (hval 2 3 v2 rfl rfl) h2
  have g2 := Ph.inR_wf w2
  have walk := Ph.tells_true (B := W) (O := []) (tabAt hL) g0 g1 g2 W (Ph.Fits.start W)
  refine walk.mono fun e W' hh => ?_
  obtain ⟨v, H', O', rfl, hfit, rfl, _, _⟩ := hh
  have bel := hfit.below
  exact ⟨_, rfl, _, _, _, [], _, [], hW', trodAll_mk1 (shut_bool Go.Proofs.Tryz.underlying4 _), (trodAll_cons_mk (Below.trod laidOut (by kernel_rfl) (of_decide_eq_true (by kernel_rfl)) k0 bel lt0) (trodAll_cons_mk (shut_int Go.Proofs.Tryz.underlying3 w1) (trodAll_cons_mk (shut_int Go.Proofs.Tryz.underlying3 w2) trodAll_mk0))), rfl, bel.frame _, fun h => by cases h⟩

/-- A world for the witness: the settled one, the table holding what its initialiser lays. -/
noncomputable def laidWorld (os : Os) : World :=
  { World.holding Go.Proofs.Tryz.prog os ⟨#[], #[], []⟩ with heap := ((((World.holding Go.Proofs.Tryz.prog os ⟨#[], #[], []⟩).heap.modify 2 fun
      | .cells _ t frozen => .cells (([0, 1, 28, 2, 29, 14, 24, 3, 30, 22, 20, 15, 25, 17, 4, 8, 31, 27, 13, 23, 21, 19, 16, 7, 26, 12, 18, 6, 11, 5, 10, 9] : List Nat).map fun (n : Nat) => Value.int .u8 n).toArray t frozen
      | o => o).modify 0 fun
      | .cells _ t frozen => .cells (Ph.tab64.map fun (n : Nat) => Value.int .u8 n).toArray t frozen
      | o => o).modify 1 fun
      | .cells _ t frozen => .cells (([1, 10, 100, 1000, 10000, 100000, 1000000, 10000000, 100000000, 1000000000, 10000000000, 100000000000, 1000000000000, 10000000000000, 100000000000000, 1000000000000000, 10000000000000000, 100000000000000000, 1000000000000000000, 10000000000000000000] : List Nat).map fun (n : Nat) => Value.int .u64 n).toArray t frozen
      | o => o) }
theorem laid_met (os : Os) : laidMet Go.Proofs.Tryz.prog Rows.ledgerTellsRow.laid ((laidWorld os).forCall (fun _ _ => 0) ⟨#[], #[.slice none 0 0, .int .i64 0, .int .i64 0], []⟩).memory :=
  laidMet_of_run' 12 (by kernel_rfl) (by kernel_rfl)
theorem reads (os : Os) {H : Type} (enc : TypeId × Value → H) : ∃ places, DataW.whole enc Go.Proofs.Tryz.prog ((laidWorld os).forCall (fun _ _ => 0) ⟨#[], #[.slice none 0 0, .int .i64 0, .int .i64 0], []⟩).memory Go.Proofs.Tryz.f4.params.toList Rows.ledgerTellsSpec.vars false (#[.slice none 0 0, .int .i64 0, .int .i64 0] : Array Value).toList 12 = some ([.nil, .lit (.int .i64 0), .lit (.int .i64 0)], [], places) :=
  ⟨[], by kernel_rfl⟩
set_option maxRecDepth 100000 in
theorem lifted (os : Os) (started : os.Started) (H : Type) (enc : TypeId × Value → H) (F : Stop.Interp) :
    ReturnsInHanded {} Go.Proofs.Tryz.checked os 4 .any ((OpenSpec.ofChange Rows.ledgerTellsSpec).preRow enc Go.Proofs.Tryz.prog Go.Proofs.Tryz.f4 Rows.ledgerTellsRow.domain false Rows.ledgerTellsRow.laid) (((OpenSpec.ofChange Rows.ledgerTellsSpec).at F).post enc Go.Proofs.Tryz.prog Go.Proofs.Tryz.f4 false true false false) := by
  obtain ⟨places, hx⟩ := reads os enc
  refine returnsInHanded_of_row (C := Go.Proofs.Tryz.checked) (s := OpenSpec.ofChange Rows.ledgerTellsSpec) own started (by kernel_rfl) Go.Proofs.Tryz.func4
    (witness_row_at (enc := enc) (C := Go.Proofs.Tryz.checked) false (laidWorld os) #[.slice none 0 0, .int .i64 0, .int .i64 0] rfl (by kernel_rfl) (by kernel_rfl) (by kernel_rfl)
      (OpenSpec.preRow_of_cond 12 hx (by kernel_rfl) (fun k hk => by cases hk) (by kernel_rfl) (laid_met os))) ?_
  intro W base args ds gs before hval hW _ _ hsz hL _ _
  exact contract H enc W base args ds gs before hval hW hsz hL
theorem said : Rows.LedgerTellsSaid :=
  OpenClaim.holds_of_cond 4 Go.Proofs.Tryz.f4 rfl rfl rfl rfl rfl rfl rfl ⟨rfl, rfl, rfl, rfl, rfl⟩ rfl rfl rfl rfl rfl name3 Go.Proofs.Tryz.func4 closed
    (of_decide_eq_true (by kernel_rfl)) (by unfold Func.isWrapper; first | (rw [if_pos (by decide +kernel)]; kernel_rfl) | (rw [if_neg (by decide +kernel)]; exact ⟨rfl, rfl⟩))
    (fun os started H enc _ F => by rw [OpenClaim.pre_eq_preRow]; exact lifted os started H enc F)
theorem plain (f : FuncId) (fn : Func) (hf : Tryz.pinned.checked.prog.funcNamed "phratry/phratrylaw14.LedgerTells" = some f) (hfn : Tryz.pinned.checked.prog.funcs[f]? = some fn) :
    false = Tryz.pinned.checked.prog.looks [] ∧ ∀ (j : Nat) t, fn.params[j]? = some t → Tryz.pinned.checked.prog.wantsStandIn t = false := by
  obtain rfl : f = 4 := Option.some.inj ((show Go.Proofs.Tryz.prog.funcNamed "phratry/phratrylaw14.LedgerTells" = some 4 by kernel_rfl).symm.trans hf) |>.symm
  obtain rfl : fn = Go.Proofs.Tryz.f4 := (Option.some.inj (Go.Proofs.Tryz.func4.symm.trans hfn)).symm
  refine ⟨by kernel_rfl, fun j t ht => ?_⟩
  rw [Go.Proofs.Tryz.params4] at ht
  have hm := Array.mem_of_getElem? ht
  simp only [List.mem_toArray, List.mem_cons, List.mem_nil_iff, or_false] at hm
  have hm : t = 22 ∨ t = 3 := by simpa using hm
  rcases hm with rfl | rfl
  · exact (show Go.Proofs.Tryz.prog.wantsStandIn 22 = false by kernel_rfl)
  · exact (show Go.Proofs.Tryz.prog.wantsStandIn 3 = false by kernel_rfl)
theorem card : Rows.LedgerTellsCardSaid :=
  Claim7.holds_tied_plain_at .later [] _ _ _ _ said (fun _ h => by cases h) (by kernel_rfl) (fun _ h => by cases h) ledgerTells_row_tie rfl ⟨rfl, rfl⟩ (by kernel_rfl) rfl plain (by kernel_rfl)
#print axioms card
end Go.Proofs.YtmgnagpgnoikfaaGreatDoor.ledgerTells
namespace Go.Proofs.YtmgnagpgnoikfaaGreatDoor
/-- The card, under a short name, for the claim. -/
theorem ledgerTells_holds : Rows.LedgerTellsCardSaid := ledgerTells.card
end Go.Proofs.YtmgnagpgnoikfaaGreatDoor
