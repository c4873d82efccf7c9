/- What a reading of the arguments gives, at the structs of this program. -/
import Derived.Test.YtmgnagpgnoikfaaDoorBase16
import Derived.Test.YtmgnagpgnoikfaaDoorData
import Derived.Test.YtmgnagpgnoikfaaDoorTys
set_option linter.unusedVariables false
set_option linter.unusedSimpArgs false
set_option maxRecDepth 100000
namespace Go.Ph
open Go Go.RowKit Go.Proofs.YtmgnagpgnoikfaaDoor

theorem reads_Int : Reads Go.Proofs.Tryd.prog Int 3 := reads_int Go.Proofs.Tryd.underlying3
theorem reads_Bool : Reads Go.Proofs.Tryd.prog Bool 4 := reads_bool Go.Proofs.Tryd.underlying4
theorem reads_AddE : Reads Go.Proofs.Tryd.prog AddE 78 := by
  intro J enc W sp fuel cs d p h hw
  obtain ⟨hl, hf⟩ := trod_field Go.Proofs.Tryd.underlying78 h hw
  rw [show Go.Proofs.Tryd.prog.cellsOf 78 = 3 by kernel_rfl] at hl
  match cs, hl with
  | [a0, a1, a2], _ =>
    obtain ⟨_, _, _, h0, w0⟩ := hf 0 _ rfl
    obtain ⟨x0, r0⟩ := reads_Int h0 w0
    change Rep.rd _ (List.take (Go.Proofs.Tryd.prog.cellsOf 3) (List.drop 0 [a0, a1, a2])) x0 at r0
    rw [show Go.Proofs.Tryd.prog.cellsOf 3 = 1 by kernel_rfl] at r0
    change Rep.rd _ [a0] x0 at r0
    obtain ⟨e0, r0⟩ := r0
    simp only [List.cons.injEq, and_true] at e0
    obtain ⟨_, _, _, h1, w1⟩ := hf 1 _ rfl
    obtain ⟨x1, r1⟩ := reads_Int h1 w1
    change Rep.rd _ (List.take (Go.Proofs.Tryd.prog.cellsOf 3) (List.drop 1 [a0, a1, a2])) x1 at r1
    rw [show Go.Proofs.Tryd.prog.cellsOf 3 = 1 by kernel_rfl] at r1
    change Rep.rd _ [a1] x1 at r1
    obtain ⟨e1, r1⟩ := r1
    simp only [List.cons.injEq, and_true] at e1
    obtain ⟨_, _, _, h2, w2⟩ := hf 2 _ rfl
    obtain ⟨x2, r2⟩ := reads_Int h2 w2
    change Rep.rd _ (List.take (Go.Proofs.Tryd.prog.cellsOf 3) (List.drop 2 [a0, a1, a2])) x2 at r2
    rw [show Go.Proofs.Tryd.prog.cellsOf 3 = 1 by kernel_rfl] at r2
    change Rep.rd _ [a2] x2 at r2
    obtain ⟨e2, r2⟩ := r2
    simp only [List.cons.injEq, and_true] at e2
    subst e0
    subst e1
    subst e2
    exact ⟨⟨x0, x1, x2⟩, ⟨rfl, r0, r1, r2⟩⟩
theorem reads_Seal : Reads Go.Proofs.Tryd.prog Seal 81 := by
  intro J enc W sp fuel cs d p h hw
  obtain ⟨hl, hf⟩ := trod_field Go.Proofs.Tryd.underlying81 h hw
  rw [show Go.Proofs.Tryd.prog.cellsOf 81 = 3 by kernel_rfl] at hl
  match cs, hl with
  | [a0, a1, a2], _ =>
    obtain ⟨_, _, _, h0, w0⟩ := hf 0 _ rfl
    obtain ⟨x0, r0⟩ := reads_Int h0 w0
    change Rep.rd _ (List.take (Go.Proofs.Tryd.prog.cellsOf 3) (List.drop 0 [a0, a1, a2])) x0 at r0
    rw [show Go.Proofs.Tryd.prog.cellsOf 3 = 1 by kernel_rfl] at r0
    change Rep.rd _ [a0] x0 at r0
    obtain ⟨e0, r0⟩ := r0
    simp only [List.cons.injEq, and_true] at e0
    obtain ⟨_, _, _, h1, w1⟩ := hf 1 _ rfl
    obtain ⟨x1, r1⟩ := reads_Int h1 w1
    change Rep.rd _ (List.take (Go.Proofs.Tryd.prog.cellsOf 3) (List.drop 1 [a0, a1, a2])) x1 at r1
    rw [show Go.Proofs.Tryd.prog.cellsOf 3 = 1 by kernel_rfl] at r1
    change Rep.rd _ [a1] x1 at r1
    obtain ⟨e1, r1⟩ := r1
    simp only [List.cons.injEq, and_true] at e1
    obtain ⟨_, _, _, h2, w2⟩ := hf 2 _ rfl
    obtain ⟨x2, r2⟩ := reads_Int h2 w2
    change Rep.rd _ (List.take (Go.Proofs.Tryd.prog.cellsOf 3) (List.drop 2 [a0, a1, a2])) x2 at r2
    rw [show Go.Proofs.Tryd.prog.cellsOf 3 = 1 by kernel_rfl] at r2
    change Rep.rd _ [a2] x2 at r2
    obtain ⟨e2, r2⟩ := r2
    simp only [List.cons.injEq, and_true] at e2
    subst e0
    subst e1
    subst e2
    exact ⟨⟨x0, x1, x2⟩, ⟨rfl, r0, r1, r2⟩⟩
theorem reads_Join : Reads Go.Proofs.Tryd.prog Join 84 := by
  intro J enc W sp fuel cs d p h hw
  obtain ⟨hl, hf⟩ := trod_field Go.Proofs.Tryd.underlying84 h hw
  rw [show Go.Proofs.Tryd.prog.cellsOf 84 = 2 by kernel_rfl] at hl
  match cs, hl with
  | [a0, a1], _ =>
    obtain ⟨_, _, _, h0, w0⟩ := hf 0 _ rfl
    obtain ⟨x0, r0⟩ := reads_Int h0 w0
    change Rep.rd _ (List.take (Go.Proofs.Tryd.prog.cellsOf 3) (List.drop 0 [a0, a1])) x0 at r0
    rw [show Go.Proofs.Tryd.prog.cellsOf 3 = 1 by kernel_rfl] at r0
    change Rep.rd _ [a0] x0 at r0
    obtain ⟨e0, r0⟩ := r0
    simp only [List.cons.injEq, and_true] at e0
    obtain ⟨_, _, _, h1, w1⟩ := hf 1 _ rfl
    obtain ⟨x1, r1⟩ := reads_Int h1 w1
    change Rep.rd _ (List.take (Go.Proofs.Tryd.prog.cellsOf 3) (List.drop 1 [a0, a1])) x1 at r1
    rw [show Go.Proofs.Tryd.prog.cellsOf 3 = 1 by kernel_rfl] at r1
    change Rep.rd _ [a1] x1 at r1
    obtain ⟨e1, r1⟩ := r1
    simp only [List.cons.injEq, and_true] at e1
    subst e0
    subst e1
    exact ⟨⟨x0, x1⟩, ⟨rfl, r0, r1⟩⟩
theorem reads_sInt : Reads Go.Proofs.Tryd.prog (List Int) 24 := reads_slice Go.Proofs.Tryd.underlying24 (by kernel_rfl) (by decide) (by kernel_rfl) reads_Int
theorem reads_Node : Reads Go.Proofs.Tryd.prog Node 72 := by
  intro J enc W sp fuel cs d p h hw
  obtain ⟨hl, hf⟩ := trod_field Go.Proofs.Tryd.underlying72 h hw
  rw [show Go.Proofs.Tryd.prog.cellsOf 72 = 4 by kernel_rfl] at hl
  match cs, hl with
  | [a0, a1, a2, a3], _ =>
    obtain ⟨_, _, _, h0, w0⟩ := hf 0 _ rfl
    obtain ⟨x0, r0⟩ := reads_Int h0 w0
    change Rep.rd _ (List.take (Go.Proofs.Tryd.prog.cellsOf 3) (List.drop 0 [a0, a1, a2, a3])) x0 at r0
    rw [show Go.Proofs.Tryd.prog.cellsOf 3 = 1 by kernel_rfl] at r0
    change Rep.rd _ [a0] x0 at r0
    obtain ⟨e0, r0⟩ := r0
    simp only [List.cons.injEq, and_true] at e0
    obtain ⟨_, _, _, h1, w1⟩ := hf 1 _ rfl
    obtain ⟨x1, r1⟩ := reads_Int h1 w1
    change Rep.rd _ (List.take (Go.Proofs.Tryd.prog.cellsOf 3) (List.drop 1 [a0, a1, a2, a3])) x1 at r1
    rw [show Go.Proofs.Tryd.prog.cellsOf 3 = 1 by kernel_rfl] at r1
    change Rep.rd _ [a1] x1 at r1
    obtain ⟨e1, r1⟩ := r1
    simp only [List.cons.injEq, and_true] at e1
    obtain ⟨_, _, _, h2, w2⟩ := hf 2 _ rfl
    obtain ⟨x2, r2⟩ := reads_Int h2 w2
    change Rep.rd _ (List.take (Go.Proofs.Tryd.prog.cellsOf 3) (List.drop 2 [a0, a1, a2, a3])) x2 at r2
    rw [show Go.Proofs.Tryd.prog.cellsOf 3 = 1 by kernel_rfl] at r2
    change Rep.rd _ [a2] x2 at r2
    obtain ⟨e2, r2⟩ := r2
    simp only [List.cons.injEq, and_true] at e2
    obtain ⟨_, _, _, h3, w3⟩ := hf 3 _ rfl
    obtain ⟨x3, r3⟩ := reads_sInt h3 w3
    change Rep.rd _ (List.take (Go.Proofs.Tryd.prog.cellsOf 24) (List.drop 3 [a0, a1, a2, a3])) x3 at r3
    rw [show Go.Proofs.Tryd.prog.cellsOf 24 = 1 by kernel_rfl] at r3
    change Rep.rd _ [a3] x3 at r3
    obtain ⟨v3, e3, r3⟩ := r3
    simp only [List.cons.injEq, and_true] at e3
    subst e0
    subst e1
    subst e2
    subst e3
    exact ⟨⟨x0, x1, x2, x3⟩, ⟨_, rfl, r0, r1, r2, r3⟩⟩
theorem reads_sNode : Reads Go.Proofs.Tryd.prog (List Node) 27 := reads_slice Go.Proofs.Tryd.underlying27 (by kernel_rfl) (by decide) (by kernel_rfl) reads_Node
theorem reads_Tree : Reads Go.Proofs.Tryd.prog Tree 29 := by
  intro J enc W sp fuel cs d p h hw
  obtain ⟨hl, hf⟩ := trod_field Go.Proofs.Tryd.underlying29 h hw
  rw [show Go.Proofs.Tryd.prog.cellsOf 29 = 1 by kernel_rfl] at hl
  match cs, hl with
  | [a0], _ =>
    obtain ⟨_, _, _, h0, w0⟩ := hf 0 _ rfl
    obtain ⟨x0, r0⟩ := reads_sNode h0 w0
    change Rep.rd _ (List.take (Go.Proofs.Tryd.prog.cellsOf 27) (List.drop 0 [a0])) x0 at r0
    rw [show Go.Proofs.Tryd.prog.cellsOf 27 = 1 by kernel_rfl] at r0
    change Rep.rd _ [a0] x0 at r0
    obtain ⟨v0, e0, r0⟩ := r0
    simp only [List.cons.injEq, and_true] at e0
    subst e0
    exact ⟨⟨x0⟩, ⟨_, rfl, r0⟩⟩
theorem reads_sAddE : Reads Go.Proofs.Tryd.prog (List AddE) 23 := reads_slice Go.Proofs.Tryd.underlying23 (by kernel_rfl) (by decide) (by kernel_rfl) reads_AddE
theorem reads_sSeal : Reads Go.Proofs.Tryd.prog (List Seal) 25 := reads_slice Go.Proofs.Tryd.underlying25 (by kernel_rfl) (by decide) (by kernel_rfl) reads_Seal
theorem reads_sJoin : Reads Go.Proofs.Tryd.prog (List Join) 26 := reads_slice Go.Proofs.Tryd.underlying26 (by kernel_rfl) (by decide) (by kernel_rfl) reads_Join
theorem reads_Commit : Reads Go.Proofs.Tryd.prog Commit 31 := by
  intro J enc W sp fuel cs d p h hw
  obtain ⟨hl, hf⟩ := trod_field Go.Proofs.Tryd.underlying31 h hw
  rw [show Go.Proofs.Tryd.prog.cellsOf 31 = 15 by kernel_rfl] at hl
  match cs, hl with
  | [a0, a1, a2, a3, a4, a5, a6, a7, a8, a9, a10, a11, a12, a13, a14], _ =>
    obtain ⟨_, _, _, h0, w0⟩ := hf 0 _ rfl
    obtain ⟨x0, r0⟩ := reads_Int h0 w0
    change Rep.rd _ (List.take (Go.Proofs.Tryd.prog.cellsOf 3) (List.drop 0 [a0, a1, a2, a3, a4, a5, a6, a7, a8, a9, a10, a11, a12, a13, a14])) x0 at r0
    rw [show Go.Proofs.Tryd.prog.cellsOf 3 = 1 by kernel_rfl] at r0
    change Rep.rd _ [a0] x0 at r0
    obtain ⟨e0, r0⟩ := r0
    simp only [List.cons.injEq, and_true] at e0
    obtain ⟨_, _, _, h1, w1⟩ := hf 1 _ rfl
    obtain ⟨x1, r1⟩ := reads_Int h1 w1
    change Rep.rd _ (List.take (Go.Proofs.Tryd.prog.cellsOf 3) (List.drop 1 [a0, a1, a2, a3, a4, a5, a6, a7, a8, a9, a10, a11, a12, a13, a14])) x1 at r1
    rw [show Go.Proofs.Tryd.prog.cellsOf 3 = 1 by kernel_rfl] at r1
    change Rep.rd _ [a1] x1 at r1
    obtain ⟨e1, r1⟩ := r1
    simp only [List.cons.injEq, and_true] at e1
    obtain ⟨_, _, _, h2, w2⟩ := hf 2 _ rfl
    obtain ⟨x2, r2⟩ := reads_Int h2 w2
    change Rep.rd _ (List.take (Go.Proofs.Tryd.prog.cellsOf 3) (List.drop 2 [a0, a1, a2, a3, a4, a5, a6, a7, a8, a9, a10, a11, a12, a13, a14])) x2 at r2
    rw [show Go.Proofs.Tryd.prog.cellsOf 3 = 1 by kernel_rfl] at r2
    change Rep.rd _ [a2] x2 at r2
    obtain ⟨e2, r2⟩ := r2
    simp only [List.cons.injEq, and_true] at e2
    obtain ⟨_, _, _, h3, w3⟩ := hf 3 _ rfl
    obtain ⟨x3, r3⟩ := reads_Int h3 w3
    change Rep.rd _ (List.take (Go.Proofs.Tryd.prog.cellsOf 3) (List.drop 3 [a0, a1, a2, a3, a4, a5, a6, a7, a8, a9, a10, a11, a12, a13, a14])) x3 at r3
    rw [show Go.Proofs.Tryd.prog.cellsOf 3 = 1 by kernel_rfl] at r3
    change Rep.rd _ [a3] x3 at r3
    obtain ⟨e3, r3⟩ := r3
    simp only [List.cons.injEq, and_true] at e3
    obtain ⟨_, _, _, h4, w4⟩ := hf 4 _ rfl
    obtain ⟨x4, r4⟩ := reads_Int h4 w4
    change Rep.rd _ (List.take (Go.Proofs.Tryd.prog.cellsOf 3) (List.drop 4 [a0, a1, a2, a3, a4, a5, a6, a7, a8, a9, a10, a11, a12, a13, a14])) x4 at r4
    rw [show Go.Proofs.Tryd.prog.cellsOf 3 = 1 by kernel_rfl] at r4
    change Rep.rd _ [a4] x4 at r4
    obtain ⟨e4, r4⟩ := r4
    simp only [List.cons.injEq, and_true] at e4
    obtain ⟨_, _, _, h5, w5⟩ := hf 5 _ rfl
    obtain ⟨x5, r5⟩ := reads_Bool h5 w5
    change Rep.rd _ (List.take (Go.Proofs.Tryd.prog.cellsOf 4) (List.drop 5 [a0, a1, a2, a3, a4, a5, a6, a7, a8, a9, a10, a11, a12, a13, a14])) x5 at r5
    rw [show Go.Proofs.Tryd.prog.cellsOf 4 = 1 by kernel_rfl] at r5
    change Rep.rd _ [a5] x5 at r5
    have e5 : [a5] = [Value.bool x5] := r5
    simp only [List.cons.injEq, and_true] at e5
    obtain ⟨_, _, _, h6, w6⟩ := hf 6 _ rfl
    obtain ⟨x6, r6⟩ := reads_sAddE h6 w6
    change Rep.rd _ (List.take (Go.Proofs.Tryd.prog.cellsOf 23) (List.drop 6 [a0, a1, a2, a3, a4, a5, a6, a7, a8, a9, a10, a11, a12, a13, a14])) x6 at r6
    rw [show Go.Proofs.Tryd.prog.cellsOf 23 = 1 by kernel_rfl] at r6
    change Rep.rd _ [a6] x6 at r6
    obtain ⟨v6, e6, r6⟩ := r6
    simp only [List.cons.injEq, and_true] at e6
    obtain ⟨_, _, _, h7, w7⟩ := hf 7 _ rfl
    obtain ⟨x7, r7⟩ := reads_sInt h7 w7
    change Rep.rd _ (List.take (Go.Proofs.Tryd.prog.cellsOf 24) (List.drop 7 [a0, a1, a2, a3, a4, a5, a6, a7, a8, a9, a10, a11, a12, a13, a14])) x7 at r7
    rw [show Go.Proofs.Tryd.prog.cellsOf 24 = 1 by kernel_rfl] at r7
    change Rep.rd _ [a7] x7 at r7
    obtain ⟨v7, e7, r7⟩ := r7
    simp only [List.cons.injEq, and_true] at e7
    obtain ⟨_, _, _, h8, w8⟩ := hf 8 _ rfl
    obtain ⟨x8, r8⟩ := reads_sSeal h8 w8
    change Rep.rd _ (List.take (Go.Proofs.Tryd.prog.cellsOf 25) (List.drop 8 [a0, a1, a2, a3, a4, a5, a6, a7, a8, a9, a10, a11, a12, a13, a14])) x8 at r8
    rw [show Go.Proofs.Tryd.prog.cellsOf 25 = 1 by kernel_rfl] at r8
    change Rep.rd _ [a8] x8 at r8
    obtain ⟨v8, e8, r8⟩ := r8
    simp only [List.cons.injEq, and_true] at e8
    obtain ⟨_, _, _, h9, w9⟩ := hf 9 _ rfl
    obtain ⟨x9, r9⟩ := reads_sJoin h9 w9
    change Rep.rd _ (List.take (Go.Proofs.Tryd.prog.cellsOf 26) (List.drop 9 [a0, a1, a2, a3, a4, a5, a6, a7, a8, a9, a10, a11, a12, a13, a14])) x9 at r9
    rw [show Go.Proofs.Tryd.prog.cellsOf 26 = 1 by kernel_rfl] at r9
    change Rep.rd _ [a9] x9 at r9
    obtain ⟨v9, e9, r9⟩ := r9
    simp only [List.cons.injEq, and_true] at e9
    obtain ⟨_, _, _, h10, w10⟩ := hf 10 _ rfl
    obtain ⟨x10, r10⟩ := reads_Int h10 w10
    change Rep.rd _ (List.take (Go.Proofs.Tryd.prog.cellsOf 3) (List.drop 10 [a0, a1, a2, a3, a4, a5, a6, a7, a8, a9, a10, a11, a12, a13, a14])) x10 at r10
    rw [show Go.Proofs.Tryd.prog.cellsOf 3 = 1 by kernel_rfl] at r10
    change Rep.rd _ [a10] x10 at r10
    obtain ⟨e10, r10⟩ := r10
    simp only [List.cons.injEq, and_true] at e10
    obtain ⟨_, _, _, h11, w11⟩ := hf 11 _ rfl
    obtain ⟨x11, r11⟩ := reads_Int h11 w11
    change Rep.rd _ (List.take (Go.Proofs.Tryd.prog.cellsOf 3) (List.drop 11 [a0, a1, a2, a3, a4, a5, a6, a7, a8, a9, a10, a11, a12, a13, a14])) x11 at r11
    rw [show Go.Proofs.Tryd.prog.cellsOf 3 = 1 by kernel_rfl] at r11
    change Rep.rd _ [a11] x11 at r11
    obtain ⟨e11, r11⟩ := r11
    simp only [List.cons.injEq, and_true] at e11
    obtain ⟨_, _, _, h12, w12⟩ := hf 12 _ rfl
    obtain ⟨x12, r12⟩ := reads_Tree h12 w12
    change Rep.rd _ (List.take (Go.Proofs.Tryd.prog.cellsOf 29) (List.drop 12 [a0, a1, a2, a3, a4, a5, a6, a7, a8, a9, a10, a11, a12, a13, a14])) x12 at r12
    rw [show Go.Proofs.Tryd.prog.cellsOf 29 = 1 by kernel_rfl] at r12
    change Rep.rd _ [a12] x12 at r12
    obtain ⟨v12, e12, r12⟩ := r12
    simp only [List.cons.injEq, and_true] at e12
    obtain ⟨_, _, _, h13, w13⟩ := hf 13 _ rfl
    obtain ⟨x13, r13⟩ := reads_Int h13 w13
    change Rep.rd _ (List.take (Go.Proofs.Tryd.prog.cellsOf 3) (List.drop 13 [a0, a1, a2, a3, a4, a5, a6, a7, a8, a9, a10, a11, a12, a13, a14])) x13 at r13
    rw [show Go.Proofs.Tryd.prog.cellsOf 3 = 1 by kernel_rfl] at r13
    change Rep.rd _ [a13] x13 at r13
    obtain ⟨e13, r13⟩ := r13
    simp only [List.cons.injEq, and_true] at e13
    obtain ⟨_, _, _, h14, w14⟩ := hf 14 _ rfl
    obtain ⟨x14, r14⟩ := reads_Int h14 w14
    change Rep.rd _ (List.take (Go.Proofs.Tryd.prog.cellsOf 3) (List.drop 14 [a0, a1, a2, a3, a4, a5, a6, a7, a8, a9, a10, a11, a12, a13, a14])) x14 at r14
    rw [show Go.Proofs.Tryd.prog.cellsOf 3 = 1 by kernel_rfl] at r14
    change Rep.rd _ [a14] x14 at r14
    obtain ⟨e14, r14⟩ := r14
    simp only [List.cons.injEq, and_true] at e14
    subst e0
    subst e1
    subst e2
    subst e3
    subst e4
    subst e5
    subst e6
    subst e7
    subst e8
    subst e9
    subst e10
    subst e11
    subst e12
    subst e13
    subst e14
    exact ⟨⟨x0, x1, x2, x3, x4, x5, x6, x7, x8, x9, x10, x11, x12, x13, x14⟩, ⟨_, _, _, _, _, rfl, r0, r1, r2, r3, r4, r6, r7, r8, r9, r10, r11, r12, r13, r14⟩⟩
theorem reads_sCommit : Reads Go.Proofs.Tryd.prog (List Commit) 46 := reads_slice Go.Proofs.Tryd.underlying46 (by kernel_rfl) (by decide) (by kernel_rfl) reads_Commit
theorem reads_Log : Reads Go.Proofs.Tryd.prog Log 48 := by
  intro J enc W sp fuel cs d p h hw
  obtain ⟨hl, hf⟩ := trod_field Go.Proofs.Tryd.underlying48 h hw
  rw [show Go.Proofs.Tryd.prog.cellsOf 48 = 2 by kernel_rfl] at hl
  match cs, hl with
  | [a0, a1], _ =>
    obtain ⟨_, _, _, h0, w0⟩ := hf 0 _ rfl
    obtain ⟨x0, r0⟩ := reads_Int h0 w0
    change Rep.rd _ (List.take (Go.Proofs.Tryd.prog.cellsOf 3) (List.drop 0 [a0, a1])) x0 at r0
    rw [show Go.Proofs.Tryd.prog.cellsOf 3 = 1 by kernel_rfl] at r0
    change Rep.rd _ [a0] x0 at r0
    obtain ⟨e0, r0⟩ := r0
    simp only [List.cons.injEq, and_true] at e0
    obtain ⟨_, _, _, h1, w1⟩ := hf 1 _ rfl
    obtain ⟨x1, r1⟩ := reads_sCommit h1 w1
    change Rep.rd _ (List.take (Go.Proofs.Tryd.prog.cellsOf 46) (List.drop 1 [a0, a1])) x1 at r1
    rw [show Go.Proofs.Tryd.prog.cellsOf 46 = 1 by kernel_rfl] at r1
    change Rep.rd _ [a1] x1 at r1
    obtain ⟨v1, e1, r1⟩ := r1
    simp only [List.cons.injEq, and_true] at e1
    subst e0
    subst e1
    exact ⟨⟨x0, x1⟩, ⟨_, rfl, r0, r1⟩⟩
theorem reads_sLog : Reads Go.Proofs.Tryd.prog (List Log) 22 := reads_slice Go.Proofs.Tryd.underlying22 (by kernel_rfl) (by decide) (by kernel_rfl) reads_Log
end Go.Ph
