/- Kit E, part 23: == and != of arrays of two numbers. -/
import Derived.Test.YtgpebcfeeagoaaaE22
import Derived.ChangeKeysEq
set_option linter.unusedVariables false
namespace Go.E
open Go Go.RowKit
section
variable {P : Program} {fr : Fr P} {ds : List Deferred} {ρ : Env} {L : List HP} {k : List It} {ty : TypeId}
theorem run_eqA2 {t e : TypeId} {a b c d : Int} {i j : TI} {w : World} (ht : TI.of P t = some i) (hi : i.ty = .ar 2 e) (he : TI.of P e = some j) (hj : j.ty = .int .i64) (hc : P.cellsOf e = 1) :
    (Op.equalIn 10000 t (.agg #[.int .i64 a, .int .i64 b]) (.agg #[.int .i64 c, .int .i64 d])).run P w = .ok (decide (a = c ∧ b = d)) w := by
  obtain ⟨dd, inf, z, g1, g2, g3, g4, g5, g6, g7⟩ := TI.of_spec ht
  rw [hi] at g4
  have := Ty.of_ar g4; subst this
  obtain ⟨dd', inf', z', k1, k2, k3, k4, k5, k6, k7⟩ := TI.of_spec he
  rw [hj] at k4
  have := Ty.of_int k4; subst this
  have hk : fkind P e = some true := by simp [fkind, k1]
  have part1 : ∀ (cs : Array Value) (o : Nat) (v : Value), cs[o]? = some v → (part e cs o).run P w = .ok v w := fun cs o v h => run_part1 hk h
  have q1 : ∀ x y : Int, (Op.equalIn 9999 e (.int .i64 x) (.int .i64 y)).run P w = .ok (x == y) w := fun x y => run_equalIn_int w 9998 e .i64 .i64 x y k1
  have h0 : (Op.equalIn 10000 t (.agg #[.int .i64 a, .int .i64 b]) (.agg #[.int .i64 c, .int .i64 d])).run P w = (Op.eqItems 9999 e 1 #[.int .i64 a, .int .i64 b] #[.int .i64 c, .int .i64 d] [0, 1]).run P w := by
    have := run_equalIn_array w 9999 #[.int .i64 a, .int .i64 b] #[.int .i64 c, .int .i64 d] g1 k2
    rw [hc] at this
    exact this
  rw [h0]
  have p1 := part1 #[.int .i64 a, .int .i64 b] 0 _ rfl
  have p2 := part1 #[.int .i64 c, .int .i64 d] 0 _ rfl
  have p3 := part1 #[.int .i64 a, .int .i64 b] 1 _ rfl
  have p4 := part1 #[.int .i64 c, .int .i64 d] 1 _ rfl
  by_cases h1 : a = c
  · subst h1
    by_cases h2 : b = d
    · subst h2; simp [Op.eqItems, p1, p3, q1]
    · simp [Op.eqItems, p1, p2, p3, p4, q1, h2]
  · simp [Op.eqItems, p1, p2, q1, h1]
theorem y_neqA2 {t t' e : TypeId} {x y : Operand} {a b c d : Int} {i j : TI} (hx : ρ.ev x = some (.agg #[.int .i64 a, .int .i64 b])) (hy : ρ.ev y = some (.agg #[.int .i64 c, .int .i64 d])) (ht : fr.X.tab[t]? = some (some i)) (hi : i.ty = .ar 2 e) (he : fr.X.tab[e]? = some (some j)) (hj : j.ty = .int .i64)
    (hc : P.cellsOf e = 1) (hg : P.eqGuardType P.depth t = false) : Yd fr ds ρ L (.binOp .neq t x y t') ty (.bool (decide (¬ (a = c ∧ b = d)))) :=
  binOp_run hx hy fun w => by
    have r1 := run_eqA2 (w := w) (a := a) (b := b) (c := c) (d := d) (fr.X.ti ht) hi (fr.X.ti he) hj hc
    simp [run_eqGuard_agg w .neq t x y _ _ hg, run_neq_struct, r1]
end
end Go.E
