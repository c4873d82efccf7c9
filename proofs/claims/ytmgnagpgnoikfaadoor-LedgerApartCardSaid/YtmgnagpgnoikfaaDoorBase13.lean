/- What the library does to a row of integers in place. -/
import Derived.Test.YtmgnagpgnoikfaaDoorBase12
import Derived.Sort.Grow
set_option linter.unusedVariables false
set_option linter.unusedSimpArgs false
namespace Go.Ph
open Go Go.RowKit Go.Sort
theorem El.ints {H : HM} {cs : List Value} {xs : List Int} (h : El H cs xs) : cs = xs.map (Value.int .i64) ∧ ∀ x ∈ xs, InR x := by
  induction h with
  | n => simp
  | c h1 h2 ih =>
    obtain ⟨rfl, h3⟩ := h1
    exact ⟨by simp [ih.1], by simpa using ⟨h3, ih.2⟩⟩
theorem El.ofInts {H : HM} : ∀ {xs : List Int}, (∀ x ∈ xs, InR x) → El H (xs.map (Value.int .i64)) xs
  | [], _ => .n
  | x :: xs, h => El.c (cs := [.int .i64 x]) ⟨rfl, h x (by simp)⟩ (El.ofInts fun y hy => h y (by simp [hy]))
/-- A shorter slice of the same row. -/
theorem Row.cut {p : Option Addr} {n c m : Nat} {cs : List Value} {e es : Nat} {R : OL} (h : Row (.slice p n c) n cs e es R) (hm : m ≤ n) : Row (.slice p m c) m (cs.take (m * es)) e es R := by
  have hl := h.len
  have hle : m * es ≤ n * es := Nat.mul_le_mul_right _ hm
  refine ⟨by rw [List.length_take]; omega, ?_⟩
  rcases h.form with ⟨h1, h2, h3⟩ | ⟨b, cap, sp, h1, h2, h3, h4⟩
  · have : m = 0 := by omega
    subst this; subst h2
    exact .inl ⟨h1, rfl, h3⟩
  · injection h1 with h5 h6 h7
    subst h7
    refine .inr ⟨b, c, cs.drop (m * es) ++ sp, by rw [h5], by omega, ?_, ?_⟩
    · rw [List.length_append, List.length_drop, h3, hl, Nat.sub_mul, Nat.sub_mul]
      have : n * es ≤ c * es := Nat.mul_le_mul_right _ h2
      omega
    · rw [← List.append_assoc, List.take_append_drop]; exact h4
theorem putCells_row {xs' : List Int} {cs sp : List Value} (h : xs'.length = cs.length) : putCells (Value.int .i64) 0 xs'.toArray (cs ++ sp).toArray = (xs'.map (Value.int .i64) ++ sp).toArray := by
  apply Array.ext_getElem?
  intro k
  simp only [putCells, Array.getElem?_mapIdx, List.size_toArray, Nat.zero_le, true_and, Nat.zero_add, Nat.sub_zero, List.getElem?_toArray]
  by_cases hk : k < xs'.length
  · rw [List.getElem?_append_left (by omega), List.getElem?_append_left (by simpa using hk), List.getElem?_eq_getElem (by omega)]
    simp [hk]
  · rw [List.getElem?_append_right (by omega), List.getElem?_append_right (by simp; omega)]
    rw [h] at hk
    simp only [hk, if_false, List.length_map, h]
    cases sp[k - cs.length]? <;> rfl
theorem CallsM.put {P : Program} {f : FuncId} {args : Array Value} {B : World} {H : HM} {O R : OL} {F : OL → OL} {p : Option Addr} {c e : Nat} {cs : List Value} {xs xs' : List Int} {r : Value}
    (hr : Row (.slice p xs.length c) xs.length cs e 1 R) (he : El H cs xs) (h0 : 0 < xs.length) (hF : Hole O R F) (hl : xs'.length = xs.length)
    (h : ∀ b w, p = some ⟨b, 0, none⟩ → xs.length ≤ c → Holds (Value.int .i64) w b 0 xs.toArray → b < w.heap.size → Calls P f args w fun ev w' => ev = .returned r ∧ ∃ k os, w' = grow (putRow (Value.int .i64) (Sort.ahead w k) b 0 xs'.toArray) os) :
    CallsM P f args B H O (fun v' H' O' => v' = r ∧ H = H' ∧ ∃ R', O' = F R' ∧ Row (.slice p xs.length c) xs.length (xs'.map (Value.int .i64)) e 1 R') := by
  intro w hw
  obtain ⟨rfl, hin⟩ := he.ints
  rcases hr.form with ⟨_, h2, _⟩ | ⟨b, cap, sp, h1, h2, h3, rfl⟩
  · omega
  · injection h1 with h5 _ h7
    subst h5; subst h7
    obtain ⟨A, C, rfl, hF'⟩ := hF.split
    have hw2 : Fits B H (A ++ (b, cl (xs.map (Value.int .i64) ++ sp) e) :: C) w := hw
    have hb := hw2.own b (cl (xs.map (Value.int .i64) ++ sp) e) (by simp)
    have hlt : b < w.heap.size := (Array.getElem?_eq_some_iff.1 hb.1).1
    have hH : Holds (Value.int .i64) w b 0 xs.toArray := by
      intro j hj
      simp only [List.size_toArray] at hj
      simp only [World.cell?, World.frozen?, hb.1, cl, Nat.zero_add]
      refine ⟨?_, by simp⟩
      simp [List.getElem?_append_left, hj]
    refine (h b w rfl h2 hH hlt).mono ?_
    rintro ev w' ⟨rfl, k, os, rfl⟩
    refine ⟨r, H, F [(b, cl (xs'.map (Value.int .i64) ++ sp) e)], rfl, ?_, rfl, rfl, _, rfl, ?_⟩
    · rw [hF']
      refine Fits.turn' hw2 rfl rfl rfl ?_ ?_ ?_
      · simp [grow, putRow, mapBlock, Sort.ahead]
      · intro q hq hne
        simp only [grow, putRow, mapBlock, Sort.ahead]
        rw [Array.getElem?_append_left (by simpa using hq), Array.getElem?_modify, if_neg (Ne.symm hne)]
      · simp only [grow, putRow, mapBlock, Sort.ahead]
        rw [Array.getElem?_append_left (by simpa using hlt), Array.getElem?_modify, if_pos rfl, hb.1]
        simp only [Option.map_some, cl, onCells]
        rw [putCells_row (by simpa using hl)]
    · exact ⟨by simp [hl], .inr ⟨b, c, sp, rfl, h2, h3, rfl⟩⟩
end Go.Ph
