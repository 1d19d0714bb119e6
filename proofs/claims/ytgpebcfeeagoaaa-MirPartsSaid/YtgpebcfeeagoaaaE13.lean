/- Kit E, part 13: what a law is handed, opened. -/
import Derived.Test.YtgpebcfeeagoaaaE12
import Derived.SizedLaws
import Derived.ChangeSlices
set_option linter.unusedVariables false
namespace Go.E
open Go Go.ChangeShapes Go.WideShapes
def okW {H : Type} (P : Program) (t : TypeId) (d : DataW H) : Prop := ∀ n ∈ d.weights P t, n ≤ reachBytes
section
variable {H : Type} {enc : TypeId × Value → H} {P : Program} {w : World} {base : Nat} {spare : Nat → Bool} {held : Bool} {fuel : Nat} {t e : TypeId} {cs : List Value} {x : DataW H × List MemPlace}
theorem okW_each {ts : List TypeId} {ds : List (DataW H)} (h : ∀ n ∈ DataW.weightsEach P ts ds, n ≤ reachBytes) {j : Nat} {d : DataW H} (ht : ts[j]? = some t) (hd : ds[j]? = some d) : okW P t d := fun n hn => h n (DataW.weights_mem_each ht hd n hn)
theorem okW_all {ts : List TypeId} {ds : List (DataW H)} (h : (DataW.weightsEach P ts ds).all (· ≤ reachBytes) = true) : ∀ n ∈ DataW.weightsEach P ts ds, n ≤ reachBytes := fun n hn => by
  have := List.all_eq_true.1 h n hn; simpa using this
/-- A slice of numbers. -/
theorem opened_ints {B : Nat} (ht : P.underlying t = some (.slice e)) (he : P.underlying e = some (.int .i64)) (hc : P.cellsOf e = 1) (hB : P.bytesOf e = B) (h : DataW.trod enc P w base spare held fuel t cs = some x) (hw : okW P t x.1) :
    ∃ (A : Option Addr) (c : Nat) (xs : List Int), cs = [.slice A xs.length c] ∧ RdI w A xs ∧ xs.length * B ≤ 140737488351232 := by
  rcases open_ints ht he hc h with ⟨rfl, rfl⟩ | ⟨a, len, cap, zs, rfl, hb, hl, hm, hz, rfl, hcell, hwf⟩
  · exact ⟨none, 0, [], rfl, fun i hi => absurd hi (Nat.not_lt_zero i), by simp⟩
  · have hle : len ≤ zs.length := by rw [hz]; split <;> omega
    have hlen : (zs.take len).length = len := by rw [List.length_take]; omega
    refine ⟨some a, cap, zs.take len, by rw [hlen], fun i hi => ⟨a, rfl, ?_⟩, ?_⟩
    · rw [hlen] at hi
      have := hcell i (by omega)
      rw [this, List.getD_eq_getElem?_getD, List.getD_eq_getElem?_getD, List.getElem?_take_of_lt hi]
    · rw [hlen]
      have hmem : (zs.length) * B ≤ reachBytes := by
        refine hw _ ?_
        simp only [DataW.weights, ht, hB]
        refine List.mem_cons.2 (.inl ?_)
        congr 1
        simp [lits]; omega
      exact Nat.le_trans (Nat.mul_le_mul_right _ hle) hmem
theorem opened_int {k : IntKind} (ht : P.underlying t = some (.int k)) (h : DataW.trod enc P w base spare held fuel t cs = some x) : ∃ n : Int, cs = [.int k n] ∧ (Lit.int k n).wf = true := by
  obtain ⟨n, h1, _, h2⟩ := DataW.trod_int ht h
  exact ⟨n, h1, h2⟩
/-- The parts of a struct. -/
theorem opened_struct {fs : Array Field} (ht : P.underlying t = some (.struct fs)) (h : DataW.trod enc P w base spare held fuel t cs = some x) (hw : okW P t x.1) :
    cs.length = P.cellsOf t ∧ ∀ (i : Nat) (f : Field), fs[i]? = some f → ∃ y fuel', DataW.trod enc P w base spare held fuel' f.type ((cs.drop f.offset).take (P.cellsOf f.type)) = some y ∧ okW P f.type y.1 := by
  obtain ⟨xs, n, rfl, rfl, hl, hlen, hx⟩ := DataW.trod_struct ht h
  refine ⟨hl, fun i f hf => ?_⟩
  have hi : i < xs.length := by rw [hlen]; exact (Array.getElem?_eq_some_iff.1 hf).1
  refine ⟨xs[i], n, by rw [hx i f hf, List.getElem?_eq_getElem hi], fun m hm => hw m ?_⟩
  simp only [DataW.weights, ht]
  exact DataW.weights_mem_each (j := i) (by simp [hf]) (by simp [hi]) m hm
/-- A slice of elements of one form. -/
theorem opened_row {α : Type} {en : α → List Value} (dd : α) {sz B : Nat} (ht : P.underlying t = some (.slice e)) (hc : P.cellsOf e = sz) (hB : P.bytesOf e = B) (hlen : ∀ a, (en a).length = sz)
    (hel : ∀ fuel cs y, DataW.trod enc P w base spare held fuel e cs = some y → okW P e y.1 → ∃ a, cs = en a) (h : DataW.trod enc P w base spare held fuel t cs = some x) (hw : okW P t x.1) :
    ∃ (A : Option Addr) (c : Nat) (xs : List α), cs = [.slice A xs.length c] ∧ RdE sz en dd w A xs ∧ xs.length * B ≤ 140737488351232 := by
  rcases DataW.trod_slice ht h with ⟨rfl, rfl⟩ | ⟨a, len, cap, elems, rest, n, rfl, rfl, rfl, hb, hl, hm, hlen', hel', hsp, hns⟩
  · exact ⟨none, 0, [], rfl, fun i hi => absurd hi (Nat.not_lt_zero i), by simp⟩
  · have key : ∀ i, i < len → ∃ v : α, ∀ j u, (en v)[j]? = some u → w.cell? (a.add (i * sz + j)) = some u := fun i hi => by
      have h1 := hel' i hi
      have hei : i < elems.length := by omega
      rw [List.getElem?_eq_getElem hei, hc, Option.bind_eq_some_iff] at h1
      obtain ⟨cs', hcs, hy⟩ := h1
      obtain ⟨v, rfl⟩ := hel n cs' _ hy (fun m hm => hw m (by
        simp only [DataW.weights, ht]
        refine List.mem_cons_of_mem _ (List.mem_append_left _ ?_)
        have : ∀ (l : List (DataW H × List MemPlace)) (i : Nat) (hi : i < l.length), m ∈ (l[i].1).weights P e → m ∈ DataW.weightsAll P e (l.map (·.1)) := by
          intro l
          induction l with
          | nil => intro i hi; simp at hi
          | cons y l ih =>
            intro i hi hm
            simp only [List.map_cons, DataW.weightsAll, List.mem_append]
            cases i with
            | zero => exact .inl hm
            | succ i => exact .inr (ih i (by simpa using hi) hm)
        exact this elems i hei hm))
      obtain ⟨_, hl1, hcell⟩ := World.cells?_some hcs
      refine ⟨v, fun j u hj => ?_⟩
      have hjlt : j < sz := by rw [← hl1]; exact (List.getElem?_eq_some_iff.1 hj).1
      have := hcell j hjlt
      rw [addr_add_add] at this
      rw [this, hj]
    have hch : ∃ f : Nat → α, ∀ i, i < len → ∀ j u, (en (f i))[j]? = some u → w.cell? (a.add (i * sz + j)) = some u :=
      ⟨fun i => if hi : i < len then Classical.choose (key i hi) else dd, fun i hi => by dsimp only; rw [dif_pos hi]; exact Classical.choose_spec (key i hi)⟩
    obtain ⟨f, hf⟩ := hch
    refine ⟨some a, cap, (List.range len).map f, by simp, fun i hi => ⟨a, rfl, fun j u hj => ?_⟩, ?_⟩
    · have hi' : i < len := by simpa using hi
      have e1 : ((List.range len).map f).getD i dd = f i := by simp [List.getD_eq_getElem?_getD, hi']
      rw [e1] at hj
      exact hf i hi' j u hj
    · have hmem : (elems.length + rest.length) * B ≤ reachBytes := by
        refine hw _ ?_
        simp only [DataW.weights, ht, hB, List.length_map]
        exact List.mem_cons_self
      have : ((List.range len).map f).length * B ≤ (elems.length + rest.length) * B := Nat.mul_le_mul_right _ (by simp; omega)
      exact Nat.le_trans this hmem
theorem RdI.ki {A : Option Addr} {xs : List Int} (h : RdI w A xs) : KI w noM A xs := fun w' hw' i hi => by
  obtain ⟨ad, hA, hc⟩ := h i hi
  exact ⟨ad, hA, hw'.old hc (fun x => x.elim)⟩
end
end Go.E
