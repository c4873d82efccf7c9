/- LedgerRow: the row and the card. -/
import Derived.Test.YtmgnagpgnoikfaaDoorLedger8
import Derived.Test.YtmgnagpgnoikfaaDoorReads
import Derived.Test.YtmgnagpgnoikfaaDoorCards
import Derived.Test.YtmgnagpgnoikfaaDoorTie
import Derived.WalkKit
import Derived.ProofKit
import Derived.OpenShut
import Derived.ChangeOld
import Derived.Below
import Derived.Carry
import Derived.SizedLaws
import Derived.Deep.DeepHandedRow
import Derived.Lib.LaidTab
set_option linter.unusedVariables false
namespace Go.Proofs.YtmgnagpgnoikfaaDoor.ledgerRow
open Go.ChangeShapes Go.WideShapes Go.ChangeAt Go.RowKit

theorem own : ownKnob Go.Proofs.Tryd.prog.godebug = none := by kernel_rfl
theorem laidOut : laidOutB Go.Proofs.Tryd.prog = true := by kernel_rfl
theorem gTab : Go.Proofs.Tryd.prog.globalNamed "math/bits.deBruijn64tab" = some 0 := by kernel_rfl
theorem gTabType : (Go.Proofs.Tryd.prog.globals[0]?).map (·.type) = some 121 := by kernel_rfl
theorem cellsTab : Go.Proofs.Tryd.prog.cellsOf 121 = 64 := by kernel_rfl
theorem cellsU8 : Go.Proofs.Tryd.prog.cellsOf 5 = 1 := by kernel_rfl
theorem table {W : World} (h : laidMetH Go.Proofs.Tryd.prog Rows.ledgerRowRow.laid W) : Lib.TabIs Go.Proofs.Tryd.prog W "math/bits.deBruijn64tab" .u8 (Ph.tab64.map fun (n : Nat) => (n : Int)) :=
  Lib.tabIs_of_head (rest := []) gTab gTabType Go.Proofs.Tryd.underlying121 Go.Proofs.Tryd.underlying5 cellsU8 cellsTab h
theorem tabAt {W : World} (h : laidMetH Go.Proofs.Tryd.prog Rows.ledgerRowRow.laid W) : Ph.TabAt (fun b => W.heap[b]?) := by
  have h1 : W.var? Go.Proofs.Tryd.prog "math/bits.deBruijn64tab" = _ := table h
  unfold World.var? at h1
  rw [gTab, Option.bind_some] at h1
  split at h1
  · rename_i cs T fr hb
    injection h1 with h1
    refine ⟨T, fr, ?_⟩
    show W.heap[0]? = _
    rw [hb, h1, List.map_map]; rfl
  · cases h1

set_option maxRecDepth 100000 in
theorem contract (H : Type) (enc : TypeId × Value → H) (W : World) (base : Nat) (args : Array Value) (ds gs : List (DataW H)) (before : List MemPlace)
    (hval0 : ∀ (j : Nat) t v, Go.Proofs.Tryd.f5.params[j]? = some t → args[j]? = some v → Value.okWide Go.Proofs.Tryd.prog W .any base t v)
    (hW : DataW.Whole enc Go.Proofs.Tryd.prog Go.Proofs.Tryd.f5.params.toList Rows.ledgerRowSpec.vars false W args.toList ds gs before)
    (hsz0 : (DataW.weightsEach Go.Proofs.Tryd.prog (Go.Proofs.Tryd.f5.params.toList ++ Rows.ledgerRowSpec.plain.varTypes Go.Proofs.Tryd.prog) (ds ++ gs)).all (· ≤ reachBytes) = true) (hL : laidMetH Go.Proofs.Tryd.prog Rows.ledgerRowRow.laid W) :
    Calls Go.Proofs.Tryd.prog 5 args W fun e W' => ∃ v, e = .returned v ∧ Rows.ledgerRowSpec.post enc Go.Proofs.Tryd.prog Go.Proofs.Tryd.f5 false true false false W args v W' := by
  have hsz : (DataW.weightsEach Go.Proofs.Tryd.prog (Go.Proofs.Tryd.f5.params.toList ++ Rows.ledgerRowSpec.plain.varTypes Go.Proofs.Tryd.prog) (ds ++ gs)).all (· ≤ reachBytes) = true := hsz0
  have hval : ∀ (j : Nat) t v, Go.Proofs.Tryd.f5.params[j]? = some t → args[j]? = some v → Value.okWide Go.Proofs.Tryd.prog W .any base t v := hval0
  have hW' := hW
  obtain ⟨p, q, hA0, hV, rfl, hfz, hnd⟩ := hW
  have hA : DataW.TrodAll enc Go.Proofs.Tryd.prog W 0 (fun _ => true) true Go.Proofs.Tryd.f5.params.toList args.toList ds p := hA0
  rw [Go.Proofs.Tryd.params5] at hA hval hsz
  obtain ⟨v0, vs0, d0, ds0, p0, q0, hargs, rfl, rfl, h0, r0⟩ := trodAll_cons hA
  obtain ⟨v1, vs1, d1, ds1, p1, q1, rfl, rfl, rfl, h1, r1⟩ := trodAll_cons r0
  obtain ⟨rfl, rfl, rfl⟩ := trodAll_nil r1
  obtain rfl : args = #[v0, v1] := by cases args; simp_all
  obtain ⟨rfl, rfl⟩ := trodVars_none hV
  obtain ⟨a0, len0, cap0, rfl⟩ := okWide_slice Go.Proofs.Tryd.underlying22 (hval 0 22 v0 rfl rfl)
  have k0 := h0
  have lt0 : ∀ x ∈ p0, x.block < W.heap.size := by obtain ⟨m, hm⟩ := k0; exact DataW.trod_lt m _ _ _ hm
  obtain ⟨a1, rfl, rfl, rfl, w1⟩ := open_int Go.Proofs.Tryd.underlying3 (hval 1 3 v1 rfl rfl) h1
  obtain ⟨fuel, hf⟩ := h0
  have hwt : ∀ x ∈ d0.weights Go.Proofs.Tryd.prog 22, x ≤ reachBytes := fun x hx => by
    have := List.all_eq_true.1 hsz x (Ph.weightsEach_mem (j := 0) (t := 22) (d := d0) rfl rfl hx)
    simpa using this
  obtain ⟨xs, u, hu, hr⟩ := Ph.reads_sLog hf hwt
  simp only [Value.cells] at hu
  obtain rfl : u = .slice a0 len0 cap0 := by simpa using hu.symm
  have hg := Ph.inR_wf w1
  have walk := Ph.row_true (B := W) (O := []) (tabAt hL) hr hg W (Ph.Fits.start W)
  refine walk.mono fun e W' hh => ?_
  obtain ⟨v, H', O', rfl, hfit, rfl, _, _⟩ := hh
  have bel := hfit.below
  exact ⟨_, rfl, _, _, _, [], _, [], hW', trodAll_mk1 (shut_bool Go.Proofs.Tryd.underlying4 _), (trodAll_cons_mk (Below.trod laidOut (by kernel_rfl) (of_decide_eq_true (by kernel_rfl)) k0 bel lt0) (trodAll_cons_mk (shut_int Go.Proofs.Tryd.underlying3 w1) trodAll_mk0)), rfl, bel.frame _, fun h => by cases h⟩

/-- A world for the witness: the settled one, the table holding what its initialiser lays. -/
noncomputable def laidWorld (os : Os) : World :=
  { World.holding Go.Proofs.Tryd.prog os ⟨#[], #[], []⟩ with heap := (World.holding Go.Proofs.Tryd.prog os ⟨#[], #[], []⟩).heap.modify 0 fun
      | .cells _ t frozen => .cells (Ph.tab64.map fun (n : Nat) => Value.int .u8 n).toArray t frozen
      | o => o }
theorem laid_met (os : Os) : laidMet Go.Proofs.Tryd.prog Rows.ledgerRowRow.laid ((laidWorld os).forCall (fun _ _ => 0) ⟨#[], #[.slice none 0 0, .int .i64 0], []⟩).memory :=
  laidMet_of_run' 8 (by kernel_rfl) (by kernel_rfl)
theorem reads (os : Os) {H : Type} (enc : TypeId × Value → H) : ∃ places, DataW.whole enc Go.Proofs.Tryd.prog ((laidWorld os).forCall (fun _ _ => 0) ⟨#[], #[.slice none 0 0, .int .i64 0], []⟩).memory Go.Proofs.Tryd.f5.params.toList Rows.ledgerRowSpec.vars false #[Value.slice none 0 0, Value.int .i64 0].toList 8 = some ([.nil, .lit (.int .i64 0)], [], places) :=
  ⟨[], by kernel_rfl⟩
set_option maxRecDepth 100000 in
theorem lifted (os : Os) (started : os.Started) (H : Type) (enc : TypeId × Value → H) (F : Stop.Interp) :
    ReturnsInHanded {} Go.Proofs.Tryd.checked os 5 .any ((OpenSpec.ofChange Rows.ledgerRowSpec).preRow enc Go.Proofs.Tryd.prog Go.Proofs.Tryd.f5 Rows.ledgerRowRow.domain false Rows.ledgerRowRow.laid) (((OpenSpec.ofChange Rows.ledgerRowSpec).at F).post enc Go.Proofs.Tryd.prog Go.Proofs.Tryd.f5 false true false false) := by
  obtain ⟨places, hx⟩ := reads os enc
  refine returnsInHanded_of_row (C := Go.Proofs.Tryd.checked) (s := OpenSpec.ofChange Rows.ledgerRowSpec) own started (by kernel_rfl) Go.Proofs.Tryd.func5
    (witness_row_at (enc := enc) (C := Go.Proofs.Tryd.checked) false (laidWorld os) #[.slice none 0 0, .int .i64 0] rfl (by kernel_rfl) (by kernel_rfl) (by kernel_rfl)
      (OpenSpec.preRow_of_cond 8 hx (by kernel_rfl) (fun k hk => by cases hk) (by kernel_rfl) (laid_met os))) ?_
  intro W base args ds gs before hval hW _ _ hsz hL _ _
  exact contract H enc W base args ds gs before hval hW hsz hL
theorem said : Rows.LedgerRowSaid :=
  OpenClaim.holds_of_cond 5 Go.Proofs.Tryd.f5 rfl rfl rfl rfl rfl rfl rfl ⟨rfl, rfl, rfl, rfl, rfl⟩ rfl rfl rfl rfl rfl (by kernel_rfl) Go.Proofs.Tryd.func5 (by kernel_rfl)
    (of_decide_eq_true (by kernel_rfl)) (by unfold Func.isWrapper; first | (rw [if_pos (by decide +kernel)]; kernel_rfl) | (rw [if_neg (by decide +kernel)]; exact ⟨rfl, rfl⟩))
    (fun os started H enc _ F => by rw [OpenClaim.pre_eq_preRow]; exact lifted os started H enc F)
theorem plain (f : FuncId) (fn : Func) (hf : Tryd.pinned.checked.prog.funcNamed "phratry/phratrylaw14.LedgerRow" = some f) (hfn : Tryd.pinned.checked.prog.funcs[f]? = some fn) :
    false = Tryd.pinned.checked.prog.looks [] ∧ ∀ (j : Nat) t, fn.params[j]? = some t → Tryd.pinned.checked.prog.wantsStandIn t = false := by
  obtain rfl : f = 5 := Option.some.inj ((show Go.Proofs.Tryd.prog.funcNamed "phratry/phratrylaw14.LedgerRow" = some 5 by kernel_rfl).symm.trans hf) |>.symm
  obtain rfl : fn = Go.Proofs.Tryd.f5 := (Option.some.inj (Go.Proofs.Tryd.func5.symm.trans hfn)).symm
  refine ⟨by kernel_rfl, fun j t ht => ?_⟩
  rw [Go.Proofs.Tryd.params5] at ht
  have hm := Array.mem_of_getElem? ht
  simp only [List.mem_toArray, List.mem_cons, List.mem_nil_iff, or_false] at hm
  rcases hm with rfl | rfl
  · exact (show Go.Proofs.Tryd.prog.wantsStandIn 22 = false by kernel_rfl)
  · exact (show Go.Proofs.Tryd.prog.wantsStandIn 3 = false by kernel_rfl)
theorem card : Rows.LedgerRowCardSaid :=
  Claim7.holds_tied_plain_at .later [] _ _ _ _ said (fun _ h => by cases h) (by kernel_rfl) (fun _ h => by cases h) ledgerRow_row_tie rfl ⟨rfl, rfl⟩ (by kernel_rfl) rfl plain (by kernel_rfl)
#print axioms card
end Go.Proofs.YtmgnagpgnoikfaaDoor.ledgerRow
namespace Go.Proofs.YtmgnagpgnoikfaaDoor
/-- The card, under a short name, for the claim. -/
theorem ledgerRow_holds : Rows.LedgerRowCardSaid := ledgerRow.card
end Go.Proofs.YtmgnagpgnoikfaaDoor
