/- Kit E, part 21: arrays of the call's own. -/
import Derived.Test.YtgpebcfeeagoaaaE20
set_option linter.unusedVariables false
namespace Go.E
open Go Go.RowKit
section
variable {P : Program} {fr : Fr P} {ds : List Deferred} {ρ : Env} {L : List HP} {k : List It} {ty : TypeId} {all : Array Oper} {rest : List Oper} {pos : String} {af : Array Edge}
theorem y_ldA {t : TypeId} {x : Operand} {i : TI} {b T sz : Nat} {q : Int} {l : List Value} {v : Value} (hx : ρ.ev x = some (.pointer (some ((⟨b, 0, none⟩ : Addr).add (q.toNat * sz))))) [hm : HasB b T l L] (ht : fr.X.tab[t]? = some (some i)) (hi : i.ty.agg = false)
    (h1 : Nat.beq sz 1 = true) (hv : l[q.toNat]? = some v) : Yd fr ds ρ L (.load t x) ty v :=
  y_load1 hx ht hi fun w hw => by
    have e : sz = 1 := Nat.eq_of_beq_eq_true h1
    subst e
    rw [addr_add, Nat.zero_add, Nat.mul_one]
    exact hw.cbcell hm.mem hv
theorem s_storeA {t : TypeId} {x y : Operand} {it : Ty} {ib : Nat} {iv : List Value} {b T sz : Nat} {l : List Value} {rem : List HP} {v : Value} {q : Int}
    (hx : ρ.ev x = some (.pointer (some ((⟨b, 0, none⟩ : Addr).add (q.toNat * sz))))) (hy : ρ.ev y = some v) [hm : UpdB b T l L rem]
    (ht : fr.X.tab[t]? = some (some ⟨it, 1, ib, iv⟩)) (h1 : Nat.beq sz 1 = true) (hv : Value.one v = true) (h0 : 0 ≤ q) (hq : q < l.length)
    (h : J fr ds ρ (cb b T (l.set q.toNat v) :: rem) (.ops all rest :: k)) : J fr ds ρ L (.ops all (⟨none, .store t x y, ty, pos, af, none⟩ :: rest) :: k) := by
  have e : sz = 1 := Nat.eq_of_beq_eq_true h1
  subst e
  exact s_store (b := b) (o := q.toNat) (by rw [hx, addr_add, Nat.zero_add, Nat.mul_one]) hy ht hv (by rw [Nat.ble_eq]; omega) h
def bools (bs : List Bool) : List Value := bs.map Value.bool
theorem bools_get {bs : List Bool} {i : Nat} (h : i < bs.length) : (bools bs)[i]? = some (.bool (bs.getD i false)) := by simp [bools, List.getD_eq_getElem?_getD, h]
theorem bools_length (bs : List Bool) : (bools bs).length = bs.length := by simp [bools]
theorem bools_one (bs : List Bool) : (bools bs).all Value.one = true := by
  rw [List.all_eq_true]; intro v hv
  obtain ⟨b, -, rfl⟩ := List.mem_map.1 hv; rfl
/-- A whole block. -/
theorem y_ldW {t : TypeId} {x : Operand} {it : Ty} {iz ib : Nat} {iv : List Value} {b T : Nat} {l : List Value} (hx : ρ.ev x = some (.pointer (some ⟨b, 0, none⟩))) [hm : HasB b T l L] (ht : fr.X.tab[t]? = some (some ⟨it, iz, ib, iv⟩)) (hi : it.agg = true) (hn : l.length = iz) :
    Yd fr ds ρ L (.load t x) ty (.agg l.toArray) :=
  y_loadN hx ht hi hn fun w hw j v hj => by rw [addr_add, Nat.zero_add]; exact hw.cbcell hm.mem hj
theorem bools_set (bs : List Bool) (j : Nat) (v : Bool) : (bools bs).set j (.bool v) = bools (bs.set j v) := by simp [bools, List.map_set]
end
end Go.E
