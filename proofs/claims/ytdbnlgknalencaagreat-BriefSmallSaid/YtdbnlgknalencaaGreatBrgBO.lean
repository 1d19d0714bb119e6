/- Layer 23 (brief): the parameters of the laws, opened: lists of numbers, a brief, briefs. -/
import Derived.Test.YtdbnlgknalencaaGreatBrgBB
import Derived.Test.YtdbnlgknalencaaGreatEEc
import Derived.KernelRfl
set_option linter.unusedVariables false
namespace Go.Proofs.YtdbnlgknalencaaGreat
open Go Go.E Go.ChangeShapes Go.WideShapes
section
set_option maxRecDepth 100000
variable {H : Type} {enc : TypeId × Value → H} {W : World} {base : Nat} {v : Value} {d : DataW H} {p : List MemPlace}
theorem opened_list (hv : Value.okWide Tryz.prog W .any base 22 v) (h : DataW.Trod enc Tryz.prog W 0 (fun _ => true) true 22 v d p) (hw : okW Tryz.prog 22 d) :
    ∃ (A : Option Addr) (c : Nat) (xs : List Int), v = .slice A xs.length c ∧ KI W noM A xs ∧ xs.length < 100000000000000 := by
  obtain ⟨a, n, c, rfl⟩ := okWide_slice Tryz.underlying22 hv
  obtain ⟨fuel, hf⟩ := h
  obtain ⟨A, c', xs, e, h1, h2⟩ := opened_ints (B := 8) Tryz.underlying22 Tryz.underlying3 (by kernel_rfl) (by kernel_rfl) hf hw
  simp only [Value.cells, List.cons.injEq, and_true] at e
  exact ⟨A, c', xs, e, h1.ki, by omega⟩
theorem opened_briefC {fuel : Nat} {cs : List Value} {y : DataW H × List MemPlace} (hy : DataW.trod enc Tryz.prog W 0 (fun _ => true) true fuel 43 cs = some y) (hwy : okW Tryz.prog 43 y.1) : ∃ b : BrD, cs = encBr b ∧ KR W noM b ∧ b.ok := by
  obtain ⟨hl, hp⟩ := opened_struct Tryz.underlying43 hy hwy
  have hl3 : cs.length = 3 := hl.trans (by kernel_rfl)
  have c22 : Tryz.prog.cellsOf 22 = 1 := by kernel_rfl
  match cs, hl3 with
  | [x0, x1, x2], _ =>
    obtain ⟨y0, f0, g0, w0⟩ := hp 0 _ rfl
    obtain ⟨y1, f1, g1, w1⟩ := hp 1 _ rfl
    obtain ⟨y2, f2, g2, w2⟩ := hp 2 _ rfl
    obtain ⟨A, c, xs, e0, h0, l0⟩ := opened_ints (B := 8) Tryz.underlying22 Tryz.underlying3 (by kernel_rfl) (by kernel_rfl) g0 w0
    obtain ⟨B, c', ys, e1, h1, l1⟩ := opened_ints (B := 8) Tryz.underlying22 Tryz.underlying3 (by kernel_rfl) (by kernel_rfl) g1 w1
    obtain ⟨C, c'', zs, e2, h2, l2⟩ := opened_ints (B := 8) Tryz.underlying22 Tryz.underlying3 (by kernel_rfl) (by kernel_rfl) g2 w2
    have a0 : x0 = _ := Option.some.inj (take1c c22 e0)
    have a1 : x1 = _ := Option.some.inj (take1c c22 e1)
    have a2 : x2 = _ := Option.some.inj (take1c c22 e2)
    exact ⟨⟨A, c, xs, B, c', ys, C, c'', zs⟩, by rw [a0, a1, a2], ⟨h0.ki, h1.ki, h2.ki⟩, ⟨by dsimp only; omega, by dsimp only; omega, by dsimp only; omega⟩⟩
theorem opened_brief (hv : Value.okWide Tryz.prog W .any base 43 v) (h : DataW.Trod enc Tryz.prog W 0 (fun _ => true) true 43 v d p) (hw : okW Tryz.prog 43 d) : ∃ b : BrD, v = .agg (encBr b).toArray ∧ KR W noM b ∧ b.ok := by
  obtain ⟨vs, rfl, hvs⟩ := okWide_struct Tryz.underlying43 hv
  obtain ⟨fuel, hf⟩ := h
  obtain ⟨i, e, hq⟩ := opened_briefC hf hw
  exact ⟨i, by congr 1; rw [← e]; simp [Value.cells], hq⟩
theorem opened_briefs (hv : Value.okWide Tryz.prog W .any base 23 v) (h : DataW.Trod enc Tryz.prog W 0 (fun _ => true) true 23 v d p) (hw : okW Tryz.prog 23 d) :
    ∃ (T : Option Addr) (t : Nat) (l : List BrD), v = .slice T l.length t ∧ KBr W noM T l ∧ (∀ b ∈ l, b.ok) ∧ l.length < 100000000000000 := by
  obtain ⟨a, n, c, rfl⟩ := okWide_slice Tryz.underlying23 hv
  obtain ⟨fuel, hf⟩ := h
  obtain ⟨A, c', xs, e, r0, q0, l0⟩ := opened_rowQ (en := encBr) (Q := fun b => KR W noM b ∧ b.ok) (sz := 3) (B := 72) .no Tryz.underlying23 (by kernel_rfl) (by kernel_rfl) (fun _ => rfl) (fun fuel cs y hy hwy => opened_briefC hy hwy) hf hw
  simp only [Value.cells, List.cons.injEq, and_true] at e
  exact ⟨A, c', xs, e, ⟨fun w' hw' => (RdE.kept r0 (fun _ _ x => x.elim)) w' hw', fun b hb => (q0 b hb).1⟩, fun b hb => (q0 b hb).2, by omega⟩
end
end Go.Proofs.YtdbnlgknalencaaGreat
