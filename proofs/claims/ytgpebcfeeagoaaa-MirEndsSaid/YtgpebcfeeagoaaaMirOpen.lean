/- Layer 6 (mir): the parameters of the laws, opened: a machine, a target, an instruction. -/
import Derived.Test.YtgpebcfeeagoaaaMirG
import Derived.Test.YtgpebcfeeagoaaaEEc
import Derived.KernelRfl
set_option linter.unusedVariables false
namespace Go.Proofs.Ytgpebcfeeagoaaa
open Go Go.E Go.ChangeShapes Go.WideShapes
section
set_option maxRecDepth 100000
variable {H : Type} {enc : TypeId × Value → H} {W : World} {base : Nat} {v : Value} {d : DataW H} {p : List MemPlace}
def insQ (W : World) (i : InsD) : Prop := KI W noM i.A i.xs ∧ i.ok ∧ i.xs.length < 100000000000000
theorem opened_insC {fuel : Nat} {cs : List Value} {y : DataW H × List MemPlace} (hy : DataW.trod enc Try.prog W 0 (fun _ => true) true fuel 30 cs = some y) (hwy : okW Try.prog 30 y.1) : ∃ i : InsD, cs = encIns i ∧ insQ W i := by
  obtain ⟨hl, hp⟩ := opened_struct Try.underlying30 hy hwy
  have hl8 : cs.length = 8 := hl.trans (by kernel_rfl)
  have c3 : Try.prog.cellsOf 3 = 1 := by kernel_rfl
  have c22 : Try.prog.cellsOf 22 = 1 := by kernel_rfl
  have c28 : Try.prog.cellsOf 28 = 1 := by kernel_rfl
  match cs, hl8 with
  | [x0, x1, x2, x3, x4, x5, x6, x7], _ =>
    obtain ⟨y0, f0, g0, w0⟩ := hp 0 _ rfl
    obtain ⟨y1, f1, g1, w1⟩ := hp 1 _ rfl
    obtain ⟨y2, f2, g2, w2⟩ := hp 2 _ rfl
    obtain ⟨y3, f3, g3, w3⟩ := hp 3 _ rfl
    obtain ⟨y4, f4, g4, w4⟩ := hp 4 _ rfl
    obtain ⟨y5, f5, g5, w5⟩ := hp 5 _ rfl
    obtain ⟨y6, f6, g6, w6⟩ := hp 6 _ rfl
    obtain ⟨y7, f7, g7, w7⟩ := hp 7 _ rfl
    obtain ⟨n0, e0, l0⟩ := opened_int Try.underlying28 g0
    obtain ⟨n1, e1, l1⟩ := opened_int Try.underlying3 g1
    obtain ⟨n2, e2, l2⟩ := opened_int Try.underlying3 g2
    obtain ⟨n3, e3, l3⟩ := opened_int Try.underlying3 g3
    obtain ⟨n4, e4, l4⟩ := opened_int Try.underlying3 g4
    obtain ⟨n5, e5, l5⟩ := opened_int Try.underlying3 g5
    obtain ⟨A, c, xs, e6, h6, l6⟩ := opened_ints (B := 8) Try.underlying22 Try.underlying3 (by kernel_rfl) (by kernel_rfl) g6 w6
    obtain ⟨n7, e7, l7⟩ := opened_int Try.underlying3 g7
    have a0 : x0 = _ := Option.some.inj (take1c c28 e0)
    have a1 : x1 = _ := Option.some.inj (take1c c3 e1)
    have a2 : x2 = _ := Option.some.inj (take1c c3 e2)
    have a3 : x3 = _ := Option.some.inj (take1c c3 e3)
    have a4 : x4 = _ := Option.some.inj (take1c c3 e4)
    have a5 : x5 = _ := Option.some.inj (take1c c3 e5)
    have a6 : x6 = _ := Option.some.inj (take1c c22 e6)
    have a7 : x7 = _ := Option.some.inj (take1c c3 e7)
    exact ⟨⟨n0, n1, n2, n3, n4, n5, A, c, xs, n7⟩, by rw [a0, a1, a2, a3, a4, a5, a6, a7], h6.ki, ⟨lit64 l4, lit64 l5, lit64 l7⟩, by dsimp only; omega⟩
def blkQ (W : World) (b : BlkD) : Prop := KE 8 encIns .no W noM b.A b.ins ∧ (∀ i ∈ b.ins, insQ W i) ∧ b.ins.length < 100000000000000
theorem opened_blkC {fuel : Nat} {cs : List Value} {y : DataW H × List MemPlace} (hy : DataW.trod enc Try.prog W 0 (fun _ => true) true fuel 42 cs = some y) (hwy : okW Try.prog 42 y.1) : ∃ b : BlkD, cs = encBlk b ∧ blkQ W b := by
  obtain ⟨hl, hp⟩ := opened_struct Try.underlying42 hy hwy
  have hl5 : cs.length = 5 := hl.trans (by kernel_rfl)
  have c36 : Try.prog.cellsOf 36 = 1 := by kernel_rfl
  have c40 : Try.prog.cellsOf 40 = 4 := by kernel_rfl
  have c37 : Try.prog.cellsOf 37 = 1 := by kernel_rfl
  have c3 : Try.prog.cellsOf 3 = 1 := by kernel_rfl
  have c38 : Try.prog.cellsOf 38 = 2 := by kernel_rfl
  match cs, hl5 with
  | [x0, x1, x2, x3, x4], _ =>
    obtain ⟨y0, f0, g0, w0⟩ := hp 0 _ rfl
    obtain ⟨y1, f1, g1, w1⟩ := hp 1 _ rfl
    obtain ⟨A, c, xs, e0, r0, q0, l0⟩ := opened_rowQ (en := encIns) (Q := insQ W) (sz := 8) (B := 80) .no Try.underlying36 (by kernel_rfl) (by kernel_rfl) (fun _ => rfl) (fun fuel cs y hy hwy => opened_insC hy hwy) g0 w0
    have a0 : x0 = _ := Option.some.inj (take1c c36 e0)
    obtain ⟨hl4, hp4⟩ := opened_struct Try.underlying40 g1 w1
    obtain ⟨z0, k0, t0, u0⟩ := hp4 0 _ rfl
    obtain ⟨z1, k1, t1, u1⟩ := hp4 1 _ rfl
    obtain ⟨z2, k2, t2, u2⟩ := hp4 2 _ rfl
    obtain ⟨n1, e1, _⟩ := opened_int Try.underlying37 t0
    obtain ⟨n2, e2, _⟩ := opened_int Try.underlying3 t1
    obtain ⟨n3, n4, e3⟩ := opened_arr2 Try.underlying38 Try.underlying3 c3 c38 t2
    change List.take (Try.prog.cellsOf 37) (List.drop 0 (List.take (Try.prog.cellsOf 40) [x1, x2, x3, x4])) = _ at e1
    change List.take (Try.prog.cellsOf 3) (List.drop 1 (List.take (Try.prog.cellsOf 40) [x1, x2, x3, x4])) = _ at e2
    change List.take (Try.prog.cellsOf 38) (List.drop 2 (List.take (Try.prog.cellsOf 40) [x1, x2, x3, x4])) = _ at e3
    rw [c37, c40] at e1
    rw [c3, c40] at e2
    rw [c38, c40] at e3
    have a1 : x1 = .int .i64 n1 := by simpa using e1
    have a2 : x2 = .int .i64 n2 := by simpa using e2
    have a3 : x3 = .int .i64 n3 ∧ x4 = .int .i64 n4 := by simpa using e3
    exact ⟨⟨A, c, xs, n1, n2, n3, n4⟩, by rw [a0, a1, a2, a3.1, a3.2], (fun w' hw' => (RdE.kept r0 (fun _ _ x => x.elim)) w' hw'), q0, by dsimp only; omega⟩
theorem opened_ins (hv : Value.okWide Try.prog W .any base 30 v) (h : DataW.Trod enc Try.prog W 0 (fun _ => true) true 30 v d p) (hw : okW Try.prog 30 d) : ∃ i : InsD, v = .agg (encIns i).toArray ∧ insQ W i := by
  obtain ⟨vs, rfl, hvs⟩ := okWide_struct Try.underlying30 hv
  obtain ⟨fuel, hf⟩ := h
  obtain ⟨i, e, hq⟩ := opened_insC hf hw
  exact ⟨i, by congr 1; rw [← e]; simp [Value.cells], hq⟩
theorem opened_machine (hv : Value.okWide Try.prog W .any base 24 v) (h : DataW.Trod enc Try.prog W 0 (fun _ => true) true 24 v d p) (hw : okW Try.prog 24 d) :
    ∃ (m : MV) (A : Option Addr) (c : Nat) (B : Option Addr) (e : Nat), v = .agg (mval m A c B e).toArray ∧ KI W noM A m.args ∧ KI W noM B m.saved ∧ m.args.length < 100000000000000 ∧ m.saved.length < 100000000000000 := by
  obtain ⟨vs, rfl, hvs⟩ := okWide_struct Try.underlying24 hv
  obtain ⟨fuel, hf⟩ := h
  obtain ⟨hl, hp⟩ := opened_struct Try.underlying24 hf hw
  have hl4 : vs.toList.length = 4 := hl.trans (by kernel_rfl)
  obtain ⟨l, rfl⟩ : ∃ l : List Value, vs = l.toArray := ⟨vs.toList, by simp⟩
  match l, hl4 with
  | [a, b, c, e], _ =>
    obtain ⟨y0, f0, g0, w0⟩ := hp 0 _ rfl
    obtain ⟨y1, f1, g1, w1⟩ := hp 1 _ rfl
    obtain ⟨y2, f2, g2, w2⟩ := hp 2 _ rfl
    obtain ⟨y3, f3, g3, w3⟩ := hp 3 _ rfl
    obtain ⟨n0, e0, _⟩ := opened_int Try.underlying3 g0
    obtain ⟨A, c1, xs, e1, h1, l1⟩ := opened_ints (B := 8) Try.underlying22 Try.underlying3 (by kernel_rfl) (by kernel_rfl) g1 w1
    obtain ⟨n2, e2, _⟩ := opened_int Try.underlying3 g2
    obtain ⟨B, c3, hs, e3, h3, l3⟩ := opened_ints (B := 8) Try.underlying22 Try.underlying3 (by kernel_rfl) (by kernel_rfl) g3 w3
    have q3 : Try.prog.cellsOf 3 = 1 := by kernel_rfl
    have q22 : Try.prog.cellsOf 22 = 1 := by kernel_rfl
    have a0 : a = _ := Option.some.inj (take1c q3 e0)
    have a1 : b = _ := Option.some.inj (take1c q22 e1)
    have a2 : c = _ := Option.some.inj (take1c q3 e2)
    have a3 : e = _ := Option.some.inj (take1c q22 e3)
    exact ⟨⟨n0, xs, n2, hs⟩, A, c1, B, c3, by rw [a0, a1, a2, a3], h1.ki, h3.ki, by dsimp only; omega, by dsimp only; omega⟩
theorem opened_target (hv : Value.okWide Try.prog W .any base 27 v) (h : DataW.Trod enc Try.prog W 0 (fun _ => true) true 27 v d p) (hw : okW Try.prog 27 d) :
    ∃ (f : Int) (T : Option Addr) (q : Nat) (bs : List BlkD), v = .agg #[.int .i64 f, .slice T bs.length q] ∧ KB W noM T bs ∧ TOK bs ∧ i64 f := by
  obtain ⟨vs, rfl, hvs⟩ := okWide_struct Try.underlying27 hv
  obtain ⟨fuel, hf⟩ := h
  obtain ⟨hl, hp⟩ := opened_struct Try.underlying27 hf hw
  have hl2 : vs.toList.length = 2 := hl.trans (by kernel_rfl)
  obtain ⟨l, rfl⟩ : ∃ l : List Value, vs = l.toArray := ⟨vs.toList, by simp⟩
  match l, hl2 with
  | [a, b], _ =>
    obtain ⟨y0, f0, g0, w0⟩ := hp 0 _ rfl
    obtain ⟨y1, f1, g1, w1⟩ := hp 1 _ rfl
    obtain ⟨n0, e0, l0⟩ := opened_int Try.underlying3 g0
    obtain ⟨T, q, bs, e1, r1, q1, l1⟩ := opened_rowQ (en := encBlk) (Q := blkQ W) (sz := 5) (B := 56) .no Try.underlying25 (by kernel_rfl) (by kernel_rfl) (fun _ => rfl) (fun fuel cs y hy hwy => opened_blkC hy hwy) g1 w1
    have q3 : Try.prog.cellsOf 3 = 1 := by kernel_rfl
    have q25 : Try.prog.cellsOf 25 = 1 := by kernel_rfl
    have a0 : a = _ := Option.some.inj (take1c q3 e0)
    have a1 : b = _ := Option.some.inj (take1c q25 e1)
    refine ⟨n0, T, q, bs, by rw [a0, a1], ⟨fun w' hw' => (RdE.kept r1 (fun _ _ x => x.elim)) w' hw', fun b hb => (q1 b hb).1, fun b hb i hi => ((q1 b hb).2.1 i hi).1⟩, ⟨by omega, fun b hb => (q1 b hb).2.2, fun b hb i hi => ((q1 b hb).2.1 i hi).2.1, fun b hb i hi => ((q1 b hb).2.1 i hi).2.2⟩, lit64 l0⟩
end
end Go.Proofs.Ytgpebcfeeagoaaa
