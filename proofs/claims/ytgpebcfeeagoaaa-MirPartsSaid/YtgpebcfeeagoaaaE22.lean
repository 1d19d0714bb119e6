/- Kit E, part 22: arrays built and sliced; functions made; numbers of other kinds. -/
import Derived.Test.YtgpebcfeeagoaaaE21
set_option linter.unusedVariables false
namespace Go.E
open Go Go.RowKit
section
variable {P : Program} {fr : Fr P} {ds : List Deferred} {ρ : Env} {L : List HP} {k : List It} {ty : TypeId} {all : Array Oper} {rest : List Oper} {pos : String} {af : Array Edge}
theorem y_buildA {t e : TypeId} {parts : List (Nat × Operand)} {vs : List Value} {n iz ib sz eb : Nat} {iv ev : List Value} {et : Ty} (hx : ρ.evs (parts.map (·.2)) = some vs) (ht : fr.X.tab[t]? = some (some ⟨.ar n e, iz, ib, iv⟩))
    (he : fr.X.tab[e]? = some (some ⟨et, sz, eb, ev⟩)) (hf : ((parts.map (·.1)).zip vs).all (fun p => Nat.beq p.2.cells.size sz && Nat.ble (p.1 * sz + sz) iv.length) = true) :
    Yd fr ds ρ L (.build t parts.toArray) ty (.agg (layS sz ((parts.map (·.1)).zip vs) iv).toArray) :=
  exec_v (fun c e => by cases e) fun a w haa _ _ _ _ _ => by
    obtain ⟨d, inf, z, g1, g2, g3, g4, g5, g6, g7⟩ := TI.of_spec (fr.X.ti ht)
    simp only at g4 g7
    have := Ty.of_ar g4
    subst this
    have hev : (parts.map fun p => (p.1, a.eval p.2)) = (parts.map (·.1)).zip vs := by
      rw [← haa.evs hx]
      simp [List.zip_map', List.map_map, Function.comp_def]
    have hz : (zeroValue t).run P w = .ok z w := by simp [zeroValue, typeInfo, g2, g3]
    have hsz := run_sizeOf (w := w) (fr.X.ti he)
    simp only at hsz
    have hfill := fill_layS sz ((parts.map (·.1)).zip vs) iv fun p hp => by
      rw [List.all_eq_true] at hf
      have := hf p hp
      simp only [Bool.and_eq_true] at this
      exact ⟨Nat.eq_of_beq_eq_true this.1, Nat.le_of_ble_eq_true this.2⟩
    have hzc : z.cells = iv.toArray := by rw [← g7]
    simp [execOp, Instr.build, hz, run_underlying g1, hsz, hev, hzc, hfill]
theorem y_makeFunc {f : FuncId} {xs : List Operand} {vs : List Value} (hx : ρ.evs xs = some vs) : Yd fr ds ρ L (.makeFunc (.func f) #[] xs.toArray) ty (.func (.func f) #[] vs.toArray) :=
  exec_v (fun c e => by cases e) fun a w haa _ _ _ _ _ => by
    have hm : xs.map a.eval = vs := haa.evs hx
    simp [execOp, Instr.makeFunc, hm]
theorem y_convertI {s t : TypeId} {x : Operand} {kd kt : IntKind} {m : Int} {iz ib jz jb : Nat} {iv jv : List Value} (hx : ρ.ev x = some (.int kd m)) (hs : fr.X.tab[s]? = some (some ⟨.int kd, iz, ib, iv⟩)) (ht : fr.X.tab[t]? = some (some ⟨.int kt, jz, jb, jv⟩)) :
    Yd fr ds ρ L (.convert s t x) ty (.int kt (kt.wrap m)) :=
  exec_v (fun c e => by cases e) fun a w haa _ _ _ _ _ => by
    obtain ⟨d, inf, z, g1, g2, g3, g4, g5, g6, g7⟩ := TI.of_spec (fr.X.ti hs)
    obtain ⟨d', inf', z', k1, k2, k3, k4, k5, k6, k7⟩ := TI.of_spec (fr.X.ti ht)
    have := Ty.of_int g4; subst this
    have := Ty.of_int k4; subst this
    simp [execOp, convert, run_underlying g1, run_underlying k1, haa.ev hx, Conv.intToInt]
/-- The begin of an array of the call's own, as a slice. -/
theorem y_sliceA {t e : TypeId} {x : Operand} {hi : Option Operand} {b o n sz m : Nat} {kd : IntKind} {iz ib eb : Nat} {iv ev : List Value} {et : Ty} (hx : ρ.ev x = some (.pointer (some ⟨b, o, none⟩))) (ht : fr.X.tab[t]? = some (some ⟨.ar n e, iz, ib, iv⟩))
    (he : fr.X.tab[e]? = some (some ⟨et, sz, eb, ev⟩)) (hh : (hi = none ∧ m = n) ∨ ∃ y, hi = some y ∧ ρ.ev y = some (.int kd (m : Int))) (hm : Nat.ble m n = true) : Yd fr ds ρ L (.slice t x none hi none) ty (.slice (some ⟨b, o, none⟩) m n) :=
  exec_v (fun c e => by cases e) fun a w haa _ _ _ _ _ => by
    obtain ⟨d, inf, z, g1, g2, g3, g4, g5, g6, g7⟩ := TI.of_spec (fr.X.ti ht)
    have := Ty.of_ar g4; subst this
    have hsz := run_sizeOf (w := w) (fr.X.ti he)
    simp only at hsz
    have hle : m ≤ n := Nat.le_of_ble_eq_true hm
    have ha0 : ∀ b : Addr, b.add 0 = b := fun b => by unfold Addr.add; split <;> simp_all
    rcases hh with ⟨rfl, rfl⟩ | ⟨y, rfl, hy⟩
    · simp [execOp, haa.ev hx, Instr.sliceAt, Instr.sureAddr, run_underlying g1, hsz, Instr.sliceBounds, ha0]
    · have hb : (Instr.sliceBound (.int kd m) n .sliceAlen).run P w = .ok m w := by
        simp [Instr.sliceBound, asIntOf, Sem.run_pure, hle]
      simp [execOp, haa.ev hx, haa.ev hy, Instr.sliceAt, Instr.sureAddr, run_underlying g1, hsz, Instr.sliceBounds, hb, ha0]
/-- The end of an array of the call's own, as a slice. -/
theorem y_sliceAt {t e : TypeId} {x y : Operand} {b o n sz m : Nat} {kd : IntKind} {iz ib eb : Nat} {iv ev : List Value} {et : Ty} (hx : ρ.ev x = some (.pointer (some ⟨b, o, none⟩))) (ht : fr.X.tab[t]? = some (some ⟨.ar n e, iz, ib, iv⟩))
    (he : fr.X.tab[e]? = some (some ⟨et, sz, eb, ev⟩)) (hy : ρ.ev y = some (.int kd (m : Int))) (hm : Nat.ble m n = true) : Yd fr ds ρ L (.slice t x (some y) none none) ty (.slice (some ⟨b, if n = m then o else o + m * sz, none⟩) (n - m) (n - m)) :=
  exec_v (fun c e => by cases e) fun a w haa _ _ _ _ _ => by
    obtain ⟨d, inf, z, g1, g2, g3, g4, g5, g6, g7⟩ := TI.of_spec (fr.X.ti ht)
    have := Ty.of_ar g4; subst this
    have hsz := run_sizeOf (w := w) (fr.X.ti he)
    simp only at hsz
    have hle : m ≤ n := Nat.le_of_ble_eq_true hm
    have hb : (Instr.sliceBound (.int kd m) n .sliceB).run P w = .ok m w := by
      simp [Instr.sliceBound, asIntOf, Sem.run_pure, hle]
    by_cases e : n = m
    · subst e
      simp [execOp, haa.ev hx, haa.ev hy, Instr.sliceAt, Instr.sureAddr, run_underlying g1, hsz, Instr.sliceBounds, hb]
    · simp [execOp, haa.ev hx, haa.ev hy, Instr.sliceAt, Instr.sureAddr, run_underlying g1, hsz, Instr.sliceBounds, hb, e, addr_add]
/-- Numbers that lie in a block of the call's own, from a place on. -/
theorem kiOfCO {base w : World} {M N : Nat → Prop} {L : List HP} {T b o : Nat} {l : List Value} {xs : List Int} (hl : ∀ w', Since w N w' → Sat base M L w') (hm : cb b T l ∈ L) (hx : (l.drop o).take xs.length = ints xs) : KI w N (some ⟨b, o, none⟩) xs := fun w' h' i hi => by
  have h1 : ((l.drop o).take xs.length)[i]? = some (.int .i64 (xs.getD i 0)) := by rw [hx]; exact ints_get hi
  have := (hl w' h').cbcell hm (o := o + i) (take_get h1)
  exact ⟨_, rfl, by rw [addr_add]; exact this⟩
end
end Go.E
