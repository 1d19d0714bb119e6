/- Layer 25 (slot): the parameters of the laws, opened: a frame, a list of numbers, a list of pairs. -/
import Derived.Test.YtfbmeponhejbhaaSlotA
import Derived.Test.YtfbmeponhejbhaaE13
import Derived.KernelRfl
set_option linter.unusedVariables false
namespace Go.Proofs.Ytfbmeponhejbhaa
open Go Go.E Go.ChangeShapes Go.WideShapes
theorem take1 {cs : List Value} {o s : Nat} {y : Value} (hs : s = 1) (h : (cs.drop o).take s = [y]) : cs[o]? = some y := by
  subst hs
  have : ((cs.drop o).take 1)[0]? = some y := by rw [h]; rfl
  rwa [List.getElem?_take_of_lt (by omega), List.getElem?_drop, Nat.add_zero] at this
section
set_option maxRecDepth 100000
variable {H : Type} {enc : TypeId × Value → H} {W : World} {base : Nat} {v : Value} {d : DataW H} {p : List MemPlace}
theorem opened_list (hv : Value.okWide Try.prog W .any base 22 v) (h : DataW.Trod enc Try.prog W 0 (fun _ => true) true 22 v d p) (hw : okW Try.prog 22 d) :
    ∃ (A : Option Addr) (c : Nat) (xs : List Int), v = .slice A xs.length c ∧ KI W noM A xs ∧ xs.length < 100000000000000 := by
  obtain ⟨a, n, c, rfl⟩ := okWide_slice Try.underlying22 hv
  obtain ⟨fuel, hf⟩ := h
  obtain ⟨A, c', xs, e, h1, h2⟩ := opened_ints (B := 8) Try.underlying22 Try.underlying3 (by kernel_rfl) (by kernel_rfl) hf hw
  simp only [Value.cells, List.cons.injEq, and_true] at e
  exact ⟨A, c', xs, e, h1.ki, by omega⟩
theorem opened_pairs (hv : Value.okWide Try.prog W .any base 23 v) (h : DataW.Trod enc Try.prog W 0 (fun _ => true) true 23 v d p) (hw : okW Try.prog 23 d) :
    ∃ (A : Option Addr) (c : Nat) (xs : List (Int × Int)), v = .slice A xs.length c ∧ KP W noM A xs ∧ xs.length < 100000000000000 := by
  obtain ⟨a, n, c, rfl⟩ := okWide_slice Try.underlying23 hv
  obtain ⟨fuel, hf⟩ := h
  obtain ⟨A, c', xs, e, h1, h2⟩ := opened_row (en := encP) (sz := 2) (B := 16) (0, 0) Try.underlying23 (by kernel_rfl) (by kernel_rfl) (fun _ => rfl) (fun fuel cs y hy hwy => by
    obtain ⟨hl, hp⟩ := opened_struct Try.underlying41 hy hwy
    have hl2 : cs.length = 2 := hl.trans (by kernel_rfl)
    match cs, hl2 with
    | [a, b], _ =>
      obtain ⟨y0, f0, g0, _⟩ := hp 0 _ rfl
      obtain ⟨y1, f1, g1, _⟩ := hp 1 _ rfl
      obtain ⟨m, e0, _⟩ := opened_int Try.underlying3 g0
      obtain ⟨n, e1, _⟩ := opened_int Try.underlying3 g1
      have c3 : Try.prog.cellsOf 3 = 1 := by kernel_rfl
      have e0' : a = .int .i64 m := Option.some.inj (take1 c3 e0)
      have e1' : b = .int .i64 n := Option.some.inj (take1 c3 e1)
      exact ⟨(m, n), by rw [e0', e1']⟩) hf hw
  simp only [Value.cells, List.cons.injEq, and_true] at e
  refine ⟨A, c', xs, e, fun w' hw' => (RdE.kept h1 (fun _ _ x => x.elim)) w' hw', by omega⟩
theorem opened_frame (hv : Value.okWide Try.prog W .any base 28 v) (h : DataW.Trod enc Try.prog W 0 (fun _ => true) true 28 v d p) (hw : okW Try.prog 28 d) :
    ∃ (A B : Option Addr) (c cb : Nat) (xs hs : List Int) (t s : Int), v = .agg #[.slice A xs.length c, .slice B hs.length cb, .int .i64 t, .int .i64 s] ∧ KI W noM A xs ∧ KI W noM B hs ∧ xs.length < 100000000000000 ∧ hs.length < 100000000000000 := by
  obtain ⟨vs, rfl, hvs⟩ := okWide_struct Try.underlying28 hv
  obtain ⟨fuel, hf⟩ := h
  obtain ⟨hl, hp⟩ := opened_struct Try.underlying28 hf hw
  have hl4 : vs.toList.length = 4 := hl.trans (by kernel_rfl)
  obtain ⟨l, rfl⟩ : ∃ l : List Value, vs = l.toArray := ⟨vs.toList, by simp⟩
  match l, hl4 with
  | [a, b, c, e], _ =>
    obtain ⟨y0, f0, g0, w0⟩ := hp 0 _ rfl
    obtain ⟨y1, f1, g1, w1⟩ := hp 1 _ rfl
    obtain ⟨y2, f2, g2, w2⟩ := hp 2 _ rfl
    obtain ⟨y3, f3, g3, w3⟩ := hp 3 _ rfl
    obtain ⟨A, c0, xs, e0, h0, l0⟩ := opened_ints (B := 8) Try.underlying22 Try.underlying3 (by kernel_rfl) (by kernel_rfl) g0 w0
    obtain ⟨B, c1, hs, e1, h1, l1⟩ := opened_ints (B := 8) Try.underlying22 Try.underlying3 (by kernel_rfl) (by kernel_rfl) g1 w1
    obtain ⟨m, e2, _⟩ := opened_int Try.underlying3 g2
    obtain ⟨n, e3, _⟩ := opened_int Try.underlying3 g3
    have c3 : Try.prog.cellsOf 3 = 1 := by kernel_rfl
    have c22 : Try.prog.cellsOf 22 = 1 := by kernel_rfl
    have e0' : a = _ := Option.some.inj (take1 c22 e0)
    have e1' : b = _ := Option.some.inj (take1 c22 e1)
    have e2' : c = _ := Option.some.inj (take1 c3 e2)
    have e3' : e = _ := Option.some.inj (take1 c3 e3)
    exact ⟨A, B, c0, c1, xs, hs, m, n, by rw [e0', e1', e2', e3'], h0.ki, h1.ki, by omega, by omega⟩
end
end Go.Proofs.Ytfbmeponhejbhaa
