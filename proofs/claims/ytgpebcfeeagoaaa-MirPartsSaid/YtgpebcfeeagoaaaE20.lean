/- Kit E, part 20: & and >>; the begin of a row that is read; many rows, read. -/
import Derived.Test.YtgpebcfeeagoaaaE19
import Derived.Test.YtgpebcfeeagoaaaE10
set_option linter.unusedVariables false
namespace Go.E
open Go Go.RowKit
section
variable {P : Program} {fr : Fr P} {ds : List Deferred} {ρ : Env} {L : List HP} {k : List It} {ty t t' : TypeId} {x y : Operand}
def iand (kd : IntKind) (m n : Int) : Int := kd.wrap ((BitVec.ofInt kd.bits m) &&& (BitVec.ofInt kd.bits n)).toNat
theorem y_and {kd : IntKind} {m n : Int} (hx : ρ.ev x = some (.int kd m)) (hy : ρ.ev y = some (.int kd n)) : Yd fr ds ρ L (.binOp .and t x y t') ty (.int kd (iand kd m n)) :=
  binOp_run hx hy fun w => by simp [eqGuard, Go.binOp, Op.intBits, iand]
theorem y_shr {kd kd' : IntKind} {m n : Int} (hx : ρ.ev x = some (.int kd m)) (hy : ρ.ev y = some (.int kd' n)) (hn : 0 ≤ n) : Yd fr ds ρ L (.binOp .shr t x y t') ty (.int kd (m.fdiv (2 ^ (min n.toNat kd.bits)))) :=
  binOp_run hx hy fun w => by simp [eqGuard, Go.binOp, Op.shift, show ¬ n < 0 by omega]
theorem KI.take {base : World} {M : Nat → Prop} {A : Option Addr} {xs : List Int} (h : KI base M A xs) (m : Nat) : KI base M A (xs.take m) := KI.pre (ys := xs.drop m) (by rw [List.take_append_drop]; exact h)
theorem KI.nil {w : World} {M : Nat → Prop} : KI w M none [] := fun w hw i hi => absurd hi (Nat.not_lt_zero i)
theorem KE.nil {α : Type} {sz : Nat} {enc : α → List Value} {dd : α} {w : World} {M : Nat → Prop} : KE sz enc dd w M none [] := fun w hw i hi => absurd hi (Nat.not_lt_zero i)
theorem Sat.focus {base : World} {M : Nat → Prop} {w : World} {f : Nat → HP} {n j : Nat} (hj : j < n) (h : Sat base M L w) (hm : bs f n ∈ L) : ∃ R, Sat base M (f j :: R) w := by
  obtain ⟨l1, l2, rfl⟩ := List.append_of_mem hm
  have h2 := (h.perm List.perm_middle).imp (B := star [f j, bx f n j]) fun hp hh => (bs_focus hj hp).1 hh
  exact ⟨_, Sat.group.1 h2⟩
theorem KI.ofBs {base w : World} {M N : Nat → Prop} {f : Nat → HP} {n j e nn c : Nat} {A : Option Addr} {xs : List Int} (hl : ∀ w', Since w N w' → Sat base M L w') (hm : bs f n ∈ L) (hj : j < n) (hf : f j = Sl e 1 A nn c (ints xs)) : KI w N A xs := fun w' h' => by
  obtain ⟨R, h⟩ := (hl w' h').focus hj hm
  rw [hf] at h
  exact h.slRdI List.mem_cons_self
/-! Choices, where the value is looked at without reckoning. -/
theorem s_condT2 {c : Operand} {x y : Code} {v : Value} (hc : ρ.ev c = some v) (hv : v = .bool true) (h : J fr ds ρ L (.code x :: k)) : J fr ds ρ L (.code (.cond c x y) :: k) := s_condT (hv ▸ hc) h
theorem s_condF2 {c : Operand} {x y : Code} {v : Value} (hc : ρ.ev c = some v) (hv : v = .bool false) (h : J fr ds ρ L (.code y :: k)) : J fr ds ρ L (.code (.cond c x y) :: k) := s_condF (hv ▸ hc) h
theorem s_guard2 {all : Array Oper} {rest : List Oper} {dst : Option Tmp} {op : Op} {ty : TypeId} {pos : String} {af : Array Edge} {j t : Nat} {b : Bool} {v : Value} (hj : (all[j]?).bind (·.dst) = some t) (ht : ρ.get t = some v) (hv : v = .bool b)
    (h : J fr ds ρ L (.ops all (⟨dst, op, ty, pos, af, none⟩ :: rest) :: k)) : J fr ds ρ L (.ops all (⟨dst, op, ty, pos, af, some (j, b)⟩ :: rest) :: k) := s_guard hj (hv ▸ ht) h
theorem s_unguard2 {all : Array Oper} {rest : List Oper} {d : Nat} {op : Op} {ty : TypeId} {pos : String} {af : Array Edge} {j t : Nat} {b c : Bool} {v : Value} (hj : (all[j]?).bind (·.dst) = some t) (ht : ρ.get t = some v) (hv : v = .bool b) (hc : (b == c) = false)
    (hd : Nat.ble (d + 1) fr.n = true) (h : J fr ds ((d, undef) :: ρ) L (.ops all rest :: k)) : J fr ds ρ L (.ops all (⟨some d, op, ty, pos, af, some (j, c)⟩ :: rest) :: k) := s_unguard hj (hv ▸ ht) hc hd h
end
end Go.E
