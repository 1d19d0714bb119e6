/- Kit E, part 26: strings: how long, which byte, compared. -/
import Derived.Test.YtgpebcfeeagoaaaE25
set_option linter.unusedVariables false
namespace Go.E
open Go
section
variable {P : Program} {fr : Fr P} {ds : List Deferred} {ρ : Env} {L : List HP} {ty : TypeId}
theorem y_lenStr {t1 : TypeId} {x : Operand} {s : ByteArray} {i : TI} (hx : ρ.ev x = some (.string s)) (ht : fr.X.tab[t1]? = some (some i)) (hi : i.ty = .str) :
    Yd fr ds ρ L (.call ⟨.builtin .len, #[x], #[t1]⟩) ty (.int .i64 s.size) :=
  exec_v (fun c e => by cases e) fun a w ha _ _ _ _ _ => by
    obtain ⟨d, inf, z, g1, g2, g3, g4, g5, g6, g7⟩ := TI.of_spec (fr.X.ti ht)
    rw [hi] at g4
    have hu : P.underlying t1 = some .string := by rw [g1]; cases d <;> first | rfl | cases g4
    simp [execOp, resolve, invoke, builtin, Builtin.len_, ha.ev hx, run_underlying hu, goInt]
theorem y_indexStr {t1 : TypeId} {x ix : Operand} {s : ByteArray} {i : TI} {kd : IntKind} {q : Int} {b : UInt8} (hx : ρ.ev x = some (.string s)) (hix : ρ.ev ix = some (.int kd q)) (ht : fr.X.tab[t1]? = some (some i)) (hi : i.ty = .str)
    (h0 : 0 ≤ q) (hb : s[q.toNat]? = some b) : Yd fr ds ρ L (.index t1 x ix) ty (.int .u8 b.toNat) :=
  exec_v (fun c e => by cases e) fun a w ha _ _ _ _ _ => by
    obtain ⟨d, inf, z, g1, g2, g3, g4, g5, g6, g7⟩ := TI.of_spec (fr.X.ti ht)
    rw [hi] at g4
    have hu : P.underlying t1 = some .string := by rw [g1]; cases d <;> first | rfl | cases g4
    simp [execOp, Instr.index, asIntOf, ha.ev hx, ha.ev hix, run_underlying hu, h0, hb]
theorem y_eqlStr {t t' : TypeId} {x y : Operand} {s u : ByteArray} (hx : ρ.ev x = some (.string s)) (hy : ρ.ev y = some (.string u)) : Yd fr ds ρ L (.binOp .eql t x y t') ty (.bool (decide (s.data.toList = u.data.toList))) :=
  binOp_run hx hy fun w => by
    simp [eqGuard, Go.binOp, Op.stringOp]
    rw [Bool.eq_iff_iff, ByteArray.toList_eq, ByteArray.toList_eq]; simp
end
end Go.E
