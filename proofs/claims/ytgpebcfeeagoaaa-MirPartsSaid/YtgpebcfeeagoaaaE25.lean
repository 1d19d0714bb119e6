/- Kit E, part 25: parameters opened: rows whose elements have a fact each; arrays of two numbers. -/
import Derived.Test.YtgpebcfeeagoaaaE24
import Derived.Test.YtgpebcfeeagoaaaE13
import Derived.OpenShut
set_option linter.unusedVariables false
namespace Go.E
open Go Go.ChangeShapes Go.WideShapes
section
variable {H : Type} {enc : TypeId × Value → H} {P : Program} {w : World} {base : Nat} {spare : Nat → Bool} {held : Bool} {fuel : Nat} {t e : TypeId} {cs : List Value} {x : DataW H × List MemPlace}
/-- A slice of elements of one form. -/
theorem opened_rowQ {α : Type} {en : α → List Value} (dd : α) {Q : α → Prop} {sz B : Nat} (ht : P.underlying t = some (.slice e)) (hc : P.cellsOf e = sz) (hB : P.bytesOf e = B) (hlen : ∀ a, (en a).length = sz)
    (hel : ∀ fuel cs y, DataW.trod enc P w base spare held fuel e cs = some y → okW P e y.1 → ∃ a, cs = en a ∧ Q a) (h : DataW.trod enc P w base spare held fuel t cs = some x) (hw : okW P t x.1) :
    ∃ (A : Option Addr) (c : Nat) (xs : List α), cs = [.slice A xs.length c] ∧ RdE sz en dd w A xs ∧ (∀ x ∈ xs, Q x) ∧ xs.length * B ≤ 140737488351232 := by
  rcases DataW.trod_slice ht h with ⟨rfl, rfl⟩ | ⟨a, len, cap, elems, rest, n, rfl, rfl, rfl, hb, hl, hm, hlen', hel', hsp, hns⟩
  · exact ⟨none, 0, [], rfl, fun i hi => absurd hi (Nat.not_lt_zero i), by simp, by simp⟩
  · have key : ∀ i, i < len → ∃ v : α, Q v ∧ ∀ j u, (en v)[j]? = some u → w.cell? (a.add (i * sz + j)) = some u := fun i hi => by
      have h1 := hel' i hi
      have hei : i < elems.length := by omega
      rw [List.getElem?_eq_getElem hei, hc, Option.bind_eq_some_iff] at h1
      obtain ⟨cs', hcs, hy⟩ := h1
      obtain ⟨v, rfl, hq⟩ := hel n cs' _ hy (fun m hm => hw m (by
        simp only [DataW.weights, ht]
        refine List.mem_cons_of_mem _ (List.mem_append_left _ ?_)
        have : ∀ (l : List (DataW H × List MemPlace)) (i : Nat) (hi : i < l.length), m ∈ (l[i].1).weights P e → m ∈ DataW.weightsAll P e (l.map (·.1)) := by
          intro l
          induction l with
          | nil => intro i hi; simp at hi
          | cons y l ih =>
            intro i hi hm
            simp only [List.map_cons, DataW.weightsAll, List.mem_append]
            cases i with
            | zero => exact .inl hm
            | succ i => exact .inr (ih i (by simpa using hi) hm)
        exact this elems i hei hm))
      obtain ⟨_, hl1, hcell⟩ := World.cells?_some hcs
      refine ⟨v, hq, fun j u hj => ?_⟩
      have hjlt : j < sz := by rw [← hl1]; exact (List.getElem?_eq_some_iff.1 hj).1
      have := hcell j hjlt
      rw [addr_add_add] at this
      rw [this, hj]
    have hch : ∃ f : Nat → α, ∀ i, i < len → Q (f i) ∧ ∀ j u, (en (f i))[j]? = some u → w.cell? (a.add (i * sz + j)) = some u :=
      ⟨fun i => if hi : i < len then Classical.choose (key i hi) else dd, fun i hi => by dsimp only; rw [dif_pos hi]; exact Classical.choose_spec (key i hi)⟩
    obtain ⟨f, hf⟩ := hch
    refine ⟨some a, cap, (List.range len).map f, by simp, fun i hi => ⟨a, rfl, fun j u hj => ?_⟩, fun x hx => ?_, ?_⟩
    · have hi' : i < len := by simpa using hi
      have e1 : ((List.range len).map f).getD i dd = f i := by simp [List.getD_eq_getElem?_getD, hi']
      rw [e1] at hj
      exact (hf i hi').2 j u hj
    · obtain ⟨i, hi, rfl⟩ := List.mem_map.1 hx
      exact (hf i (List.mem_range.1 hi)).1
    · have hmem : (elems.length + rest.length) * B ≤ reachBytes := by
        refine hw _ ?_
        simp only [DataW.weights, ht, hB, List.length_map]
        exact List.mem_cons_self
      have : ((List.range len).map f).length * B ≤ (elems.length + rest.length) * B := Nat.mul_le_mul_right _ (by simp; omega)
      exact Nat.le_trans this hmem
/-- A slice of numbers, its capacity told. -/
theorem opened_intsC {B : Nat} (ht : P.underlying t = some (.slice e)) (he : P.underlying e = some (.int .i64)) (hc : P.cellsOf e = 1) (hB : P.bytesOf e = B) (h : DataW.trod enc P w base spare held fuel t cs = some x) (hw : okW P t x.1) :
    ∃ (A : Option Addr) (c : Nat) (xs : List Int), cs = [.slice A xs.length c] ∧ RdI w A xs ∧ xs.length * B ≤ 140737488351232 ∧ xs.length ≤ c := by
  rcases open_ints ht he hc h with ⟨rfl, rfl⟩ | ⟨a, len, cap, zs, rfl, hb, hl, hm, hz, rfl, hcell, hwf⟩
  · exact ⟨none, 0, [], rfl, fun i hi => absurd hi (Nat.not_lt_zero i), by simp, by simp⟩
  · have hle : len ≤ zs.length := by rw [hz]; split <;> omega
    have hlen : (zs.take len).length = len := by rw [List.length_take]; omega
    refine ⟨some a, cap, zs.take len, by rw [hlen], fun i hi => ⟨a, rfl, ?_⟩, ?_, by rw [hlen]; exact hl⟩
    · rw [hlen] at hi
      have := hcell i (by omega)
      rw [this, List.getD_eq_getElem?_getD, List.getD_eq_getElem?_getD, List.getElem?_take_of_lt hi]
    · rw [hlen]
      have hmem : (zs.length) * B ≤ reachBytes := by
        refine hw _ ?_
        simp only [DataW.weights, ht, hB]
        refine List.mem_cons.2 (.inl ?_)
        congr 1
        simp [lits]; omega
      exact Nat.le_trans (Nat.mul_le_mul_right _ hle) hmem
theorem take1c {cs : List Value} {o s : Nat} {y : Value} (hs : s = 1) (h : (cs.drop o).take s = [y]) : cs[o]? = some y := by
  subst hs
  have : ((cs.drop o).take 1)[0]? = some y := by rw [h]; rfl
  rwa [List.getElem?_take_of_lt (by omega), List.getElem?_drop, Nat.add_zero] at this
theorem lit64 {n : Int} (h : (Lit.int .i64 n).wf = true) : -9223372036854775808 ≤ n ∧ n ≤ 9223372036854775807 := by
  simp only [Lit.wf, Bool.and_eq_true, decide_eq_true_eq] at h
  exact h
theorem opened_arr2 (ht : P.underlying t = some (.array 2 e)) (he : P.underlying e = some (.int .i64)) (hc : P.cellsOf e = 1) (hc2 : P.cellsOf t = 2) (h : DataW.trod enc P w base spare held fuel t cs = some x) : ∃ a b : Int, cs = [.int .i64 a, .int .i64 b] := by
  obtain ⟨xs, m, rfl, rfl, hl, hn, hx⟩ := DataW.trod_array ht h
  rw [hc2] at hl
  match cs, hl with
  | [u, v], _ =>
    have h0 := hx 0 (by omega)
    have h1 := hx 1 (by omega)
    rw [List.getElem?_eq_getElem (by omega)] at h0 h1
    obtain ⟨a, e0, _⟩ := opened_int he h0
    obtain ⟨b, e1, _⟩ := opened_int he h1
    rw [hc] at e0 e1
    have e0' : u = .int .i64 a := by simpa using e0
    have e1' : v = .int .i64 b := by simpa using e1
    exact ⟨a, b, by rw [e0', e1']⟩
end
end Go.E
