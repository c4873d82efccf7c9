/- The program's structs as plain data, and what memory reads as them. -/
import Derived.Test.YtmgnagpgnoikfaaDoorBase7
set_option linter.unusedVariables false
namespace Go.Ph
open Go Go.RowKit

theorem one_of {α : Type} [Rep α] {H : HM} {v : Value} {xs : List α} (h : RdL H v xs) : Value.oneCell' v = true := by
  have := h.one; simpa [ones] using this

structure AddE where
  member : Int
  epoch : Int
  pub : Int
  deriving DecidableEq, Inhabited
instance : Rep AddE where
  sz := 3
  bytes := 24
  bpos := by decide
  rd := fun H cs x => cs = [.int .i64 x.member, .int .i64 x.epoch, .int .i64 x.pub] ∧ InR x.member ∧ InR x.epoch ∧ InR x.pub
  len := fun ⟨e, _⟩ => by rw [e]; rfl
  one := fun ⟨e, _⟩ => by rw [e]; rfl
  mono := fun x ⟨e, h0, h1, h2⟩ => ⟨e, h0, h1, h2⟩

structure Seal where
  at_ : Int
  to_ : Int
  term_ : Int
  deriving DecidableEq, Inhabited
instance : Rep Seal where
  sz := 3
  bytes := 24
  bpos := by decide
  rd := fun H cs x => cs = [.int .i64 x.at_, .int .i64 x.to_, .int .i64 x.term_] ∧ InR x.at_ ∧ InR x.to_ ∧ InR x.term_
  len := fun ⟨e, _⟩ => by rw [e]; rfl
  one := fun ⟨e, _⟩ => by rw [e]; rfl
  mono := fun x ⟨e, h0, h1, h2⟩ => ⟨e, h0, h1, h2⟩

structure Join where
  member : Int
  term_ : Int
  deriving DecidableEq, Inhabited
instance : Rep Join where
  sz := 2
  bytes := 16
  bpos := by decide
  rd := fun H cs x => cs = [.int .i64 x.member, .int .i64 x.term_] ∧ InR x.member ∧ InR x.term_
  len := fun ⟨e, _⟩ => by rw [e]; rfl
  one := fun ⟨e, _⟩ => by rw [e]; rfl
  mono := fun x ⟨e, h0, h1⟩ => ⟨e, h0, h1⟩

structure Node where
  pub : Int
  member : Int
  epoch : Int
  unmerged : List Int
  deriving DecidableEq, Inhabited
instance : Rep Node where
  sz := 4
  bytes := 48
  bpos := by decide
  rd := fun H cs x => ∃ u3 : Value, cs = [.int .i64 x.pub, .int .i64 x.member, .int .i64 x.epoch, u3] ∧ InR x.pub ∧ InR x.member ∧ InR x.epoch ∧ RdL H u3 x.unmerged
  len := fun ⟨u3, e, _⟩ => by rw [e]; rfl
  one := fun ⟨u3, e, h0, h1, h2, h3⟩ => by
    rw [e]
    simp only [ones, List.all_cons, List.all_nil, Bool.and_true, one_of h3] <;> rfl
  mono := fun x ⟨u3, e, h0, h1, h2, h3⟩ => ⟨u3, e, h0, h1, h2, h3.mono x⟩

structure Tree where
  nodes : List Node
  deriving DecidableEq, Inhabited
instance : Rep Tree where
  sz := 1
  bytes := 24
  bpos := by decide
  rd := fun H cs x => ∃ u0 : Value, cs = [u0] ∧ RdL H u0 x.nodes
  len := fun ⟨u0, e, _⟩ => by rw [e]; rfl
  one := fun ⟨u0, e, h0⟩ => by
    rw [e]
    simp only [ones, List.all_cons, List.all_nil, Bool.and_true, one_of h0] <;> rfl
  mono := fun x ⟨u0, e, h0⟩ => ⟨u0, e, h0.mono x⟩

structure Commit where
  group : Int
  epoch : Int
  by_ : Int
  member : Int
  keyEpoch : Int
  external : Bool
  adds : List AddE
  removes : List Int
  seals : List Seal
  joins : List Join
  own : Int
  entry : Int
  next_ : Tree
  face : Int
  card : Int
  deriving DecidableEq, Inhabited
instance : Rep Commit where
  sz := 15
  bytes := 200
  bpos := by decide
  rd := fun H cs x => ∃ u6 u7 u8 u9 u12 : Value, cs = [.int .i64 x.group, .int .i64 x.epoch, .int .i64 x.by_, .int .i64 x.member, .int .i64 x.keyEpoch, .bool x.external, u6, u7, u8, u9, .int .i64 x.own, .int .i64 x.entry, u12, .int .i64 x.face, .int .i64 x.card] ∧ InR x.group ∧ InR x.epoch ∧ InR x.by_ ∧ InR x.member ∧ InR x.keyEpoch ∧ RdL H u6 x.adds ∧ RdL H u7 x.removes ∧ RdL H u8 x.seals ∧ RdL H u9 x.joins ∧ InR x.own ∧ InR x.entry ∧ RdL H u12 x.next_.nodes ∧ InR x.face ∧ InR x.card
  len := fun ⟨u6, u7, u8, u9, u12, e, _⟩ => by rw [e]; rfl
  one := fun ⟨u6, u7, u8, u9, u12, e, h0, h1, h2, h3, h4, h5, h6, h7, h8, h9, h10, h11, h12, h13⟩ => by
    rw [e]
    simp only [ones, List.all_cons, List.all_nil, Bool.and_true, one_of h5, one_of h6, one_of h7, one_of h8, one_of h11] <;> rfl
  mono := fun x ⟨u6, u7, u8, u9, u12, e, h0, h1, h2, h3, h4, h5, h6, h7, h8, h9, h10, h11, h12, h13⟩ => ⟨u6, u7, u8, u9, u12, e, h0, h1, h2, h3, h4, h5.mono x, h6.mono x, h7.mono x, h8.mono x, h9, h10, h11.mono x, h12, h13⟩

structure Log where
  group : Int
  commits : List Commit
  deriving DecidableEq, Inhabited
instance : Rep Log where
  sz := 2
  bytes := 32
  bpos := by decide
  rd := fun H cs x => ∃ u1 : Value, cs = [.int .i64 x.group, u1] ∧ InR x.group ∧ RdL H u1 x.commits
  len := fun ⟨u1, e, _⟩ => by rw [e]; rfl
  one := fun ⟨u1, e, h0, h1⟩ => by
    rw [e]
    simp only [ones, List.all_cons, List.all_nil, Bool.and_true, one_of h1] <;> rfl
  mono := fun x ⟨u1, e, h0, h1⟩ => ⟨u1, e, h0, h1.mono x⟩

end Go.Ph
