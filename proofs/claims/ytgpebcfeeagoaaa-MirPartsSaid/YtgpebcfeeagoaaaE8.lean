/- The proof kit 'E', part 8: rows of structs that are only read. -/
import Derived.Test.YtgpebcfeeagoaaaE7
namespace Go.E
open Go Go.RowKit
/-- A row of elements of sz cells each, read in a world. -/
def RdE {α : Type} (sz : Nat) (enc : α → List Value) (d : α) (w : World) (A : Option Addr) (xs : List α) : Prop :=
  ∀ i, i < xs.length → ∃ ad, A = some ad ∧ ∀ j u, (enc (xs.getD i d))[j]? = some u → w.cell? (ad.add (i * sz + j)) = some u
def KE {α : Type} (sz : Nat) (enc : α → List Value) (d : α) (base : World) (M : Nat → Prop) (A : Option Addr) (xs : List α) : Prop := ∀ w, Since base M w → RdE sz enc d w A xs
theorem RdE.kept {α : Type} {sz : Nat} {enc : α → List Value} {d : α} {base : World} {M : Nat → Prop} {A : Option Addr} {xs : List α} (h : RdE sz enc d base A xs) (hM : ∀ ad, A = some ad → ¬ M ad.block) : KE sz enc d base M A xs := fun w hw i hi => by
  obtain ⟨ad, hA, hc⟩ := h i hi
  exact ⟨ad, hA, fun j u hj => hw.old (hc j u hj) (by rw [addr_add_block]; exact hM ad hA)⟩
theorem KE.of {α : Type} {sz : Nat} {enc : α → List Value} {d : α} {base w : World} {M N : Nat → Prop} {L : List HP} {A : Option Addr} {xs : List α} (h : KE sz enc d base M A xs) (hl : ∀ w', Since w N w' → Sat base M L w') : KE sz enc d w N A xs := fun w' h' => h w' (hl w' h').since
theorem addr_add_add (a : Addr) (m n : Nat) : (a.add m).add n = a.add (m + n) := by
  unfold Addr.add
  by_cases hm : m = 0
  · subst hm; simp
  · by_cases hn : n = 0
    · subst hn; simp [hm]
    · have : m + n ≠ 0 := by omega
      simp [hm, hn, Nat.add_assoc]
section
variable {P : Program} {fr : Fr P} {ds : List Deferred} {ρ : Env} {L : List HP} {ty : TypeId} {α : Type} {sz : Nat} {enc : α → List Value} {dd : α}
theorem y_ixE {t e : TypeId} {x ix : Operand} {i : TI} {jt : Ty} {jz jb : Nat} {jv : List Value} {A : Option Addr} {n c : Nat} {kd : IntKind} {q : Int} {xs : List α} (hr : KE sz enc dd fr.base fr.M A xs) (hx : ρ.ev x = some (.slice A n c)) (hix : ρ.ev ix = some (.int kd q)) (hs : fr.X.tab[t]? = some (some i))
    (hi : i.ty = .sl e) (hj : fr.X.tab[e]? = some (some ⟨jt, jz, jb, jv⟩)) (hn : n = xs.length) (h0 : 0 ≤ q) (h1 : q < n) : Yd fr ds ρ L (.indexAddr t x ix) ty (.pointer (some ((A.getD default).add (q.toNat * jz)))) := by
  refine exec_v (fun c e => by cases e) fun a w ha hw dst pos af g => ?_
  obtain ⟨ad, rfl, _⟩ := hr w hw.since q.toNat (by omega)
  exact (y_indexAddr (ad := ad) hx hix hs hi hj h0 h1 rfl).2 a w ha hw _ rfl rfl
/-- A whole element. -/
theorem y_ldE {t : TypeId} {x : Operand} {it : Ty} {iz ib : Nat} {iv : List Value} {A : Option Addr} {q : Nat} {xs : List α} (hr : KE sz enc dd fr.base fr.M A xs) (hx : ρ.ev x = some (.pointer (some ((A.getD default).add ((q : Int).toNat * sz))))) (ht : fr.X.tab[t]? = some (some ⟨it, iz, ib, iv⟩)) (hi : it.agg = true)
    (hq : q < xs.length) (hn : (enc (xs.getD q dd)).length = iz) : Yd fr ds ρ L (.load t x) ty (.agg (enc (xs.getD q dd)).toArray) :=
  y_loadN hx ht hi hn fun w hw j v hj => by
    obtain ⟨ad, rfl, hc⟩ := hr w hw.since q hq
    rw [Option.getD_some, addr_add_add]
    exact hc j v hj
/-- One field of an element. -/
theorem y_ldF {t : TypeId} {x : Operand} {i : TI} {A : Option Addr} {q off : Nat} {xs : List α} {v : Value} (hr : KE sz enc dd fr.base fr.M A xs) (hx : ρ.ev x = some (.pointer (some (((A.getD default).add ((q : Int).toNat * sz)).add off)))) (ht : fr.X.tab[t]? = some (some i)) (hi : i.ty.agg = false)
    (hq : q < xs.length) (hv : (enc (xs.getD q dd))[off]? = some v) : Yd fr ds ρ L (.load t x) ty v :=
  y_load1 hx ht hi fun w hw => by
    obtain ⟨ad, rfl, hc⟩ := hr w hw.since q hq
    rw [Option.getD_some, addr_add_add]
    exact hc off v hv
end
end Go.E
