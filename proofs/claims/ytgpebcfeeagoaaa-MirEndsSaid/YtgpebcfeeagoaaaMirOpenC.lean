/- Layer 6 (mir): a machine opened, the capacity of its arguments told. -/
import Derived.Test.YtgpebcfeeagoaaaMirOpen
set_option linter.unusedVariables false
namespace Go.Proofs.Ytgpebcfeeagoaaa
open Go Go.E Go.ChangeShapes Go.WideShapes
section
set_option maxRecDepth 100000
variable {H : Type} {enc : TypeId × Value → H} {W : World} {base : Nat} {v : Value} {d : DataW H} {p : List MemPlace}
theorem opened_machineC (hv : Value.okWide Try.prog W .any base 24 v) (h : DataW.Trod enc Try.prog W 0 (fun _ => true) true 24 v d p) (hw : okW Try.prog 24 d) :
    ∃ (m : MV) (A : Option Addr) (c : Nat) (B : Option Addr) (e : Nat), v = .agg (mval m A c B e).toArray ∧ KI W noM A m.args ∧ KI W noM B m.saved ∧ m.args.length < 100000000000000 ∧ m.saved.length < 100000000000000 ∧ m.args.length ≤ c := by
  obtain ⟨vs, rfl, hvs⟩ := okWide_struct Try.underlying24 hv
  obtain ⟨fuel, hf⟩ := h
  obtain ⟨hl, hp⟩ := opened_struct Try.underlying24 hf hw
  have hl4 : vs.toList.length = 4 := hl.trans (by kernel_rfl)
  obtain ⟨l, rfl⟩ : ∃ l : List Value, vs = l.toArray := ⟨vs.toList, by simp⟩
  match l, hl4 with
  | [a, b, c, e], _ =>
    obtain ⟨y0, f0, g0, w0⟩ := hp 0 _ rfl
    obtain ⟨y1, f1, g1, w1⟩ := hp 1 _ rfl
    obtain ⟨y2, f2, g2, w2⟩ := hp 2 _ rfl
    obtain ⟨y3, f3, g3, w3⟩ := hp 3 _ rfl
    obtain ⟨n0, e0, _⟩ := opened_int Try.underlying3 g0
    obtain ⟨A, c1, xs, e1, h1, l1, k1⟩ := opened_intsC (B := 8) Try.underlying22 Try.underlying3 (by kernel_rfl) (by kernel_rfl) g1 w1
    obtain ⟨n2, e2, _⟩ := opened_int Try.underlying3 g2
    obtain ⟨B, c3, hs, e3, h3, l3⟩ := opened_ints (B := 8) Try.underlying22 Try.underlying3 (by kernel_rfl) (by kernel_rfl) g3 w3
    have q3 : Try.prog.cellsOf 3 = 1 := by kernel_rfl
    have q22 : Try.prog.cellsOf 22 = 1 := by kernel_rfl
    have a0 : a = _ := Option.some.inj (take1c q3 e0)
    have a1 : b = _ := Option.some.inj (take1c q22 e1)
    have a2 : c = _ := Option.some.inj (take1c q3 e2)
    have a3 : e = _ := Option.some.inj (take1c q22 e3)
    exact ⟨⟨n0, xs, n2, hs⟩, A, c1, B, c3, by rw [a0, a1, a2, a3], h1.ki, h3.ki, by dsimp only; omega, by dsimp only; omega, k1⟩
theorem opened_term (hv : Value.okWide Try.prog W .any base 40 v) (h : DataW.Trod enc Try.prog W 0 (fun _ => true) true 40 v d p) (hw : okW Try.prog 40 d) :
    ∃ k a t0 t1 : Int, v = .agg #[.int .i64 k, .int .i64 a, .int .i64 t0, .int .i64 t1] := by
  obtain ⟨vs, rfl, hvs⟩ := okWide_struct Try.underlying40 hv
  obtain ⟨fuel, hf⟩ := h
  obtain ⟨hl, hp⟩ := opened_struct Try.underlying40 hf hw
  have hl4 : vs.toList.length = 4 := hl.trans (by kernel_rfl)
  obtain ⟨l, rfl⟩ : ∃ l : List Value, vs = l.toArray := ⟨vs.toList, by simp⟩
  have c37 : Try.prog.cellsOf 37 = 1 := by kernel_rfl
  have c3 : Try.prog.cellsOf 3 = 1 := by kernel_rfl
  have c38 : Try.prog.cellsOf 38 = 2 := by kernel_rfl
  match l, hl4 with
  | [x1, x2, x3, x4], _ =>
    obtain ⟨z0, k0, u0, _⟩ := hp 0 _ rfl
    obtain ⟨z1, k1, u1, _⟩ := hp 1 _ rfl
    obtain ⟨z2, k2, u2, _⟩ := hp 2 _ rfl
    obtain ⟨n1, e1, _⟩ := opened_int Try.underlying37 u0
    obtain ⟨n2, e2, _⟩ := opened_int Try.underlying3 u1
    obtain ⟨n3, n4, e3⟩ := opened_arr2 Try.underlying38 Try.underlying3 c3 c38 u2
    change List.take (Try.prog.cellsOf 37) (List.drop 0 [x1, x2, x3, x4]) = _ at e1
    change List.take (Try.prog.cellsOf 3) (List.drop 1 [x1, x2, x3, x4]) = _ at e2
    change List.take (Try.prog.cellsOf 38) (List.drop 2 [x1, x2, x3, x4]) = _ at e3
    rw [c37] at e1
    rw [c3] at e2
    rw [c38] at e3
    have a1 : x1 = .int .i64 n1 := by simpa using e1
    have a2 : x2 = .int .i64 n2 := by simpa using e2
    have a3 : x3 = .int .i64 n3 ∧ x4 = .int .i64 n4 := by simpa using e3
    exact ⟨n1, n2, n3, n4, by rw [a1, a2, a3.1, a3.2]⟩
end
end Go.Proofs.Ytgpebcfeeagoaaa
