/- The given statement LedgerApartCardSaid is proved: the law phratrylaw14.LedgerApart holds of the program for every input. Conditions: none but the statement's own. -/
import Derived.Test.YtmgnagpgnoikfaaDoorLedgerW
import Derived.Test.YtmgnagpgnoikfaaDoorReads
import Derived.Test.YtmgnagpgnoikfaaDoorCards
import Derived.Test.YtmgnagpgnoikfaaDoorTie
import Derived.WalkKit
import Derived.ProofKit
import Derived.OpenShut
import Derived.ChangeOld
import Derived.Below
import Derived.Carry
import Derived.SizedLaws
import Derived.Deep.DeepHandedRow
import Derived.Lib.LaidTab
set_option linter.unusedVariables false
namespace Go.Proofs.YtmgnagpgnoikfaaDoor.ledgerApart
open Go.ChangeShapes Go.WideShapes Go.ChangeAt Go.RowKit

theorem own : ownKnob Go.Proofs.Tryd.prog.godebug = none := by kernel_rfl
theorem laidOut : laidOutB Go.Proofs.Tryd.prog = true := by kernel_rfl
theorem gTab : Go.Proofs.Tryd.prog.globalNamed "math/bits.deBruijn64tab" = some 0 := by kernel_rfl
theorem gTabType : (Go.Proofs.Tryd.prog.globals[0]?).map (·.type) = some 121 := by kernel_rfl
theorem cellsTab : Go.Proofs.Tryd.prog.cellsOf 121 = 64 := by kernel_rfl
theorem cellsU8 : Go.Proofs.Tryd.prog.cellsOf 5 = 1 := by kernel_rfl
theorem table {W : World} (h : laidMetH Go.Proofs.Tryd.prog Rows.ledgerApartRow.laid W) : Lib.TabIs Go.Proofs.Tryd.prog W "math/bits.deBruijn64tab" .u8 (Ph.tab64.map fun (n : Nat) => (n : Int)) :=
  Lib.tabIs_of_head (rest := []) gTab gTabType Go.Proofs.Tryd.underlying121 Go.Proofs.Tryd.underlying5 cellsU8 cellsTab h
theorem tabAt {W : World} (h : laidMetH Go.Proofs.Tryd.prog Rows.ledgerApartRow.laid W) : Ph.TabAt (fun b => W.heap[b]?) := by
  have h1 : W.var? Go.Proofs.Tryd.prog "math/bits.deBruijn64tab" = _ := table h
  unfold World.var? at h1
  rw [gTab, Option.bind_some] at h1
  split at h1
  · rename_i cs T fr hb
    injection h1 with h1
    refine ⟨T, fr, ?_⟩
    show W.heap[0]? = _
    rw [hb, h1, List.map_map]; rfl
  · cases h1

set_option maxRecDepth 100000 in
theorem contract (H : Type) (enc : TypeId × Value → H) (W : World) (base : Nat) (args : Array Value) (ds gs : List (DataW H)) (before : List MemPlace)
    (hval0 : ∀ (j : Nat) t v, Go.Proofs.Tryd.f3.params[j]? = some t → args[j]? = some v → Value.okWide Go.Proofs.Tryd.prog W .any base t v)
    (hW : DataW.Whole enc Go.Proofs.Tryd.prog Go.Proofs.Tryd.f3.params.toList Rows.ledgerApartSpec.vars false W args.toList ds gs before)
    (hsz0 : (DataW.weightsEach Go.Proofs.Tryd.prog (Go.Proofs.Tryd.f3.params.toList ++ Rows.ledgerApartSpec.plain.varTypes Go.Proofs.Tryd.prog) (ds ++ gs)).all (· ≤ reachBytes) = true) (hL : laidMetH Go.Proofs.Tryd.prog Rows.ledgerApartRow.laid W) :
    Calls Go.Proofs.Tryd.prog 3 args W fun e W' => ∃ v, e = .returned v ∧ Rows.ledgerApartSpec.post enc Go.Proofs.Tryd.prog Go.Proofs.Tryd.f3 false true false false W args v W' := by
  have hsz : (DataW.weightsEach Go.Proofs.Tryd.prog (Go.Proofs.Tryd.f3.params.toList ++ Rows.ledgerApartSpec.plain.varTypes Go.Proofs.Tryd.prog) (ds ++ gs)).all (· ≤ reachBytes) = true := hsz0
  have hval : ∀ (j : Nat) t v, Go.Proofs.Tryd.f3.params[j]? = some t → args[j]? = some v → Value.okWide Go.Proofs.Tryd.prog W .any base t v := hval0
  have hW' := hW
  obtain ⟨p, q, hA0, hV, rfl, hfz, hnd⟩ := hW
  have hA : DataW.TrodAll enc Go.Proofs.Tryd.prog W 0 (fun _ => true) true Go.Proofs.Tryd.f3.params.toList args.toList ds p := hA0
  rw [Go.Proofs.Tryd.params3] at hA hval hsz
  obtain ⟨v0, vs0, d0, ds0, p0, q0, hargs, rfl, rfl, h0, r0⟩ := trodAll_cons hA
  obtain ⟨v1, vs1, d1, ds1, p1, q1, rfl, rfl, rfl, h1, r1⟩ := trodAll_cons r0
  obtain ⟨v2, vs2, d2, ds2, p2, q2, rfl, rfl, rfl, h2, r2⟩ := trodAll_cons r1
  obtain ⟨rfl, rfl, rfl⟩ := trodAll_nil r2
  obtain rfl : args = #[v0, v1, v2] := by cases args; simp_all
  obtain ⟨rfl, rfl⟩ := trodVars_none hV
  obtain ⟨a0, len0, cap0, rfl⟩ := okWide_slice Go.Proofs.Tryd.underlying22 (hval 0 22 v0 rfl rfl)
  have k0 := h0
  have lt0 : ∀ x ∈ p0, x.block < W.heap.size := by obtain ⟨m, hm⟩ := k0; exact DataW.trod_lt m _ _ _ hm
  obtain ⟨fuel0, hf0⟩ := h0
  have hwt0 : ∀ x ∈ d0.weights Go.Proofs.Tryd.prog 22, x ≤ reachBytes := fun x hx => by
    have := List.all_eq_true.1 hsz x (Ph.weightsEach_mem (j := 0) (t := 22) (d := d0) rfl rfl hx)
    simpa using this
  obtain ⟨xs0, u0, hu0, g0⟩ := Ph.reads_sLog hf0 hwt0
  simp only [Value.cells] at hu0
  obtain rfl : u0 = .slice a0 len0 cap0 := by simpa using hu0.symm
  obtain ⟨c1, rfl, _⟩ := okWide_struct Go.Proofs.Tryd.underlying31 (hval 1 31 v1 rfl rfl)
  obtain ⟨l1, rfl⟩ : ∃ l : List Value, c1 = l.toArray := ⟨c1.toList, by simp⟩
  have k1 := h1
  have lt1 : ∀ x ∈ p1, x.block < W.heap.size := by obtain ⟨m, hm⟩ := k1; exact DataW.trod_lt m _ _ _ hm
  obtain ⟨fuel1, hf1⟩ := h1
  have hwt1 : ∀ x ∈ d1.weights Go.Proofs.Tryd.prog 31, x ≤ reachBytes := fun x hx => by
    have := List.all_eq_true.1 hsz x (Ph.weightsEach_mem (j := 1) (t := 31) (d := d1) rfl rfl hx)
    simpa using this
  obtain ⟨x1, g10⟩ := Ph.reads_Commit hf1 hwt1
  have g1 : Ph.Rep.rd (fun b => W.heap[b]?) l1 x1 := g10
  obtain ⟨c2, rfl, _⟩ := okWide_struct Go.Proofs.Tryd.underlying31 (hval 2 31 v2 rfl rfl)
  obtain ⟨l2, rfl⟩ : ∃ l : List Value, c2 = l.toArray := ⟨c2.toList, by simp⟩
  have k2 := h2
  have lt2 : ∀ x ∈ p2, x.block < W.heap.size := by obtain ⟨m, hm⟩ := k2; exact DataW.trod_lt m _ _ _ hm
  obtain ⟨fuel2, hf2⟩ := h2
  have hwt2 : ∀ x ∈ d2.weights Go.Proofs.Tryd.prog 31, x ≤ reachBytes := fun x hx => by
    have := List.all_eq_true.1 hsz x (Ph.weightsEach_mem (j := 2) (t := 31) (d := d2) rfl rfl hx)
    simpa using this
  obtain ⟨x2, g20⟩ := Ph.reads_Commit hf2 hwt2
  have g2 : Ph.Rep.rd (fun b => W.heap[b]?) l2 x2 := g20
  have walk := Ph.apart_true (B := W) (O := []) (tabAt hL) g0 g1 g2 W (Ph.Fits.start W)
  refine walk.mono fun e W' hh => ?_
  obtain ⟨v, H', O', rfl, hfit, rfl, _, _⟩ := hh
  have bel := hfit.below
  exact ⟨_, rfl, _, _, _, [], _, [], hW', trodAll_mk1 (shut_bool Go.Proofs.Tryd.underlying4 _), (trodAll_cons_mk (Below.trod laidOut (by kernel_rfl) (of_decide_eq_true (by kernel_rfl)) k0 bel lt0) (trodAll_cons_mk (Below.trod laidOut (by kernel_rfl) (of_decide_eq_true (by kernel_rfl)) k1 bel lt1) (trodAll_cons_mk (Below.trod laidOut (by kernel_rfl) (of_decide_eq_true (by kernel_rfl)) k2 bel lt2) trodAll_mk0))), rfl, bel.frame _, fun h => by cases h⟩

/-- A world for the witness: the settled one, the table holding what its initialiser lays. -/
noncomputable def laidWorld (os : Os) : World :=
  { World.holding Go.Proofs.Tryd.prog os ⟨#[], #[], []⟩ with heap := (World.holding Go.Proofs.Tryd.prog os ⟨#[], #[], []⟩).heap.modify 0 fun
      | .cells _ t frozen => .cells (Ph.tab64.map fun (n : Nat) => Value.int .u8 n).toArray t frozen
      | o => o }
theorem laid_met (os : Os) : laidMet Go.Proofs.Tryd.prog Rows.ledgerApartRow.laid ((laidWorld os).forCall (fun _ _ => 0) ⟨#[], #[.slice none 0 0, .agg #[.int .i64 0, .int .i64 0, .int .i64 0, .int .i64 0, .int .i64 0, .bool false, .slice none 0 0, .slice none 0 0, .slice none 0 0, .slice none 0 0, .int .i64 0, .int .i64 0, .slice none 0 0, .int .i64 0, .int .i64 0], .agg #[.int .i64 0, .int .i64 0, .int .i64 0, .int .i64 0, .int .i64 0, .bool false, .slice none 0 0, .slice none 0 0, .slice none 0 0, .slice none 0 0, .int .i64 0, .int .i64 0, .slice none 0 0, .int .i64 0, .int .i64 0]], []⟩).memory :=
  laidMet_of_run' 12 (by kernel_rfl) (by kernel_rfl)
theorem reads (os : Os) {H : Type} (enc : TypeId × Value → H) : ∃ places, DataW.whole enc Go.Proofs.Tryd.prog ((laidWorld os).forCall (fun _ _ => 0) ⟨#[], #[.slice none 0 0, .agg #[.int .i64 0, .int .i64 0, .int .i64 0, .int .i64 0, .int .i64 0, .bool false, .slice none 0 0, .slice none 0 0, .slice none 0 0, .slice none 0 0, .int .i64 0, .int .i64 0, .slice none 0 0, .int .i64 0, .int .i64 0], .agg #[.int .i64 0, .int .i64 0, .int .i64 0, .int .i64 0, .int .i64 0, .bool false, .slice none 0 0, .slice none 0 0, .slice none 0 0, .slice none 0 0, .int .i64 0, .int .i64 0, .slice none 0 0, .int .i64 0, .int .i64 0]], []⟩).memory Go.Proofs.Tryd.f3.params.toList Rows.ledgerApartSpec.vars false (#[.slice none 0 0, .agg #[.int .i64 0, .int .i64 0, .int .i64 0, .int .i64 0, .int .i64 0, .bool false, .slice none 0 0, .slice none 0 0, .slice none 0 0, .slice none 0 0, .int .i64 0, .int .i64 0, .slice none 0 0, .int .i64 0, .int .i64 0], .agg #[.int .i64 0, .int .i64 0, .int .i64 0, .int .i64 0, .int .i64 0, .bool false, .slice none 0 0, .slice none 0 0, .slice none 0 0, .slice none 0 0, .int .i64 0, .int .i64 0, .slice none 0 0, .int .i64 0, .int .i64 0]] : Array Value).toList 12 = some ([.nil, .agg [.lit (.int .i64 0), .lit (.int .i64 0), .lit (.int .i64 0), .lit (.int .i64 0), .lit (.int .i64 0), .lit (.bool false), .nil, .nil, .nil, .nil, .lit (.int .i64 0), .lit (.int .i64 0), .agg [.nil], .lit (.int .i64 0), .lit (.int .i64 0)], .agg [.lit (.int .i64 0), .lit (.int .i64 0), .lit (.int .i64 0), .lit (.int .i64 0), .lit (.int .i64 0), .lit (.bool false), .nil, .nil, .nil, .nil, .lit (.int .i64 0), .lit (.int .i64 0), .agg [.nil], .lit (.int .i64 0), .lit (.int .i64 0)]], [], places) :=
  ⟨[], by kernel_rfl⟩
set_option maxRecDepth 100000 in
theorem lifted (os : Os) (started : os.Started) (H : Type) (enc : TypeId × Value → H) (F : Stop.Interp) :
    ReturnsInHanded {} Go.Proofs.Tryd.checked os 3 .any ((OpenSpec.ofChange Rows.ledgerApartSpec).preRow enc Go.Proofs.Tryd.prog Go.Proofs.Tryd.f3 Rows.ledgerApartRow.domain false Rows.ledgerApartRow.laid) (((OpenSpec.ofChange Rows.ledgerApartSpec).at F).post enc Go.Proofs.Tryd.prog Go.Proofs.Tryd.f3 false true false false) := by
  obtain ⟨places, hx⟩ := reads os enc
  refine returnsInHanded_of_row (C := Go.Proofs.Tryd.checked) (s := OpenSpec.ofChange Rows.ledgerApartSpec) own started (by kernel_rfl) Go.Proofs.Tryd.func3
    (witness_row_at (enc := enc) (C := Go.Proofs.Tryd.checked) false (laidWorld os) #[.slice none 0 0, .agg #[.int .i64 0, .int .i64 0, .int .i64 0, .int .i64 0, .int .i64 0, .bool false, .slice none 0 0, .slice none 0 0, .slice none 0 0, .slice none 0 0, .int .i64 0, .int .i64 0, .slice none 0 0, .int .i64 0, .int .i64 0], .agg #[.int .i64 0, .int .i64 0, .int .i64 0, .int .i64 0, .int .i64 0, .bool false, .slice none 0 0, .slice none 0 0, .slice none 0 0, .slice none 0 0, .int .i64 0, .int .i64 0, .slice none 0 0, .int .i64 0, .int .i64 0]] rfl (by kernel_rfl) (by kernel_rfl) (by kernel_rfl)
      (OpenSpec.preRow_of_cond 12 hx (by kernel_rfl) (fun k hk => by cases hk) (by kernel_rfl) (laid_met os))) ?_
  intro W base args ds gs before hval hW _ _ hsz hL _ _
  exact contract H enc W base args ds gs before hval hW hsz hL
theorem said : Rows.LedgerApartSaid :=
  OpenClaim.holds_of_cond 3 Go.Proofs.Tryd.f3 rfl rfl rfl rfl rfl rfl rfl ⟨rfl, rfl, rfl, rfl, rfl⟩ rfl rfl rfl rfl rfl (by kernel_rfl) Go.Proofs.Tryd.func3 (by kernel_rfl)
    (of_decide_eq_true (by kernel_rfl)) (by unfold Func.isWrapper; first | (rw [if_pos (by decide +kernel)]; kernel_rfl) | (rw [if_neg (by decide +kernel)]; exact ⟨rfl, rfl⟩))
    (fun os started H enc _ F => by rw [OpenClaim.pre_eq_preRow]; exact lifted os started H enc F)
theorem plain (f : FuncId) (fn : Func) (hf : Tryd.pinned.checked.prog.funcNamed "phratry/phratrylaw14.LedgerApart" = some f) (hfn : Tryd.pinned.checked.prog.funcs[f]? = some fn) :
    false = Tryd.pinned.checked.prog.looks [] ∧ ∀ (j : Nat) t, fn.params[j]? = some t → Tryd.pinned.checked.prog.wantsStandIn t = false := by
  obtain rfl : f = 3 := Option.some.inj ((show Go.Proofs.Tryd.prog.funcNamed "phratry/phratrylaw14.LedgerApart" = some 3 by kernel_rfl).symm.trans hf) |>.symm
  obtain rfl : fn = Go.Proofs.Tryd.f3 := (Option.some.inj (Go.Proofs.Tryd.func3.symm.trans hfn)).symm
  refine ⟨by kernel_rfl, fun j t ht => ?_⟩
  rw [Go.Proofs.Tryd.params3] at ht
  have hm := Array.mem_of_getElem? ht
  simp only [List.mem_toArray, List.mem_cons, List.mem_nil_iff, or_false] at hm
  have hm : t = 22 ∨ t = 31 := by simpa using hm
  rcases hm with rfl | rfl
  · exact (show Go.Proofs.Tryd.prog.wantsStandIn 22 = false by kernel_rfl)
  · exact (show Go.Proofs.Tryd.prog.wantsStandIn 31 = false by kernel_rfl)
theorem card : Rows.LedgerApartCardSaid :=
  Claim7.holds_tied_plain_at .later [] _ _ _ _ said (fun _ h => by cases h) (by kernel_rfl) (fun _ h => by cases h) ledgerApart_row_tie rfl ⟨rfl, rfl⟩ (by kernel_rfl) rfl plain (by kernel_rfl)
#print axioms card
end Go.Proofs.YtmgnagpgnoikfaaDoor.ledgerApart
namespace Go.Proofs.YtmgnagpgnoikfaaDoor
/-- The card, under a short name, for the claim. -/
theorem ledgerApart_holds : Rows.LedgerApartCardSaid := ledgerApart.card
end Go.Proofs.YtmgnagpgnoikfaaDoor
