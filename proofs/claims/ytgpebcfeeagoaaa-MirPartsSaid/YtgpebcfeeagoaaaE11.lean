/- Kit E, part 11: Bools compared. -/
import Derived.Test.YtgpebcfeeagoaaaE10
set_option linter.unusedVariables false
namespace Go.E
open Go
section
variable {P : Program} {fr : Fr P} {ds : List Deferred} {ρ : Env} {L : List HP} {t t' : TypeId} {ty : TypeId} {x y : Operand} {b c : Bool}
theorem run_eqB {w : World} (hu : P.underlying t = some .bool) : (Op.equal t (.bool b) (.bool c)).run P w = .ok (b == c) w := by
  unfold Op.equal Op.maxDepth
  rw [show (10000 : Nat) = 9999 + 1 from rfl]
  unfold Op.equalIn
  simp only [Sem.run_bind, run_underlying hu, Result.andThen_ok]
  rfl
theorem y_eqlB {sz ib : Nat} {iv : List Value} (hx : ρ.ev x = some (.bool b)) (hy : ρ.ev y = some (.bool c)) (ht : fr.X.tab[t]? = some (some ⟨.bool, sz, ib, iv⟩)) : Yd fr ds ρ L (.binOp .eql t x y t') ty (.bool (b == c)) :=
  binOp_run hx hy fun w => by
    obtain ⟨d', inf, z', g1, g2, g3, g4, g5, g6, g7⟩ := TI.of_spec (fr.X.ti ht)
    have hu : P.underlying t = some .bool := by rw [g1]; cases d' <;> first | rfl | cases g4
    simp [eqGuard, Go.binOp, run_eqB hu]
theorem y_neqB {sz ib : Nat} {iv : List Value} (hx : ρ.ev x = some (.bool b)) (hy : ρ.ev y = some (.bool c)) (ht : fr.X.tab[t]? = some (some ⟨.bool, sz, ib, iv⟩)) : Yd fr ds ρ L (.binOp .neq t x y t') ty (.bool (b != c)) :=
  binOp_run hx hy fun w => by
    obtain ⟨d', inf, z', g1, g2, g3, g4, g5, g6, g7⟩ := TI.of_spec (fr.X.ti ht)
    have hu : P.underlying t = some .bool := by rw [g1]; cases d' <;> first | rfl | cases g4
    simp [eqGuard, Go.binOp, run_eqB hu, bne]
end
/-! ### More than one effect may come up -/
section
variable {P : Program} {fr : Fr P} {ds : List Deferred} {ρ : Env} {L : List HP} {k : List It} {all : Array Oper} {pend : List Pd} {fuel : Nat} {listed : Array Bool}
def EffOK (fr : Fr P) (ds : List Deferred) (ρ : Env) (L : List HP) (all : Array Oper) (pend : List Pd) (fuel : Nat) (listed : Array Bool) (k : List It) (i : Nat) : Prop :=
  ∃ o, all[i]? = some o ∧ ∃ (js : List Nat) (m : List Bool), pend.map (·.j) = js ∧ js.map (fun j => !waits all i j) = m ∧
    ∀ K : Act → World → Prop, (∀ ρ' L', ReM fr ds L' all m pend → JD fr ds ρ' L' all (sift m pend) fuel (listed.setIfInBounds i true) k → J fr.q ds ρ' L' [.then_ K]) →
      J fr.q ds ρ L [.ops all [o], .then_ K]
theorem all2 {p : Nat → Prop} {a b : Nat} (ha : p a) (hb : p b) : ∀ i ∈ [a, b], p i := fun i hi => by
  rcases List.mem_cons.1 hi with rfl | hi
  · exact ha
  · rcases List.mem_cons.1 hi with rfl | hi
    · exact hb
    · cases hi
theorem all3 {p : Nat → Prop} {a b c : Nat} (ha : p a) (hb : p b) (hc : p c) : ∀ i ∈ [a, b, c], p i := fun i hi => by
  rcases List.mem_cons.1 hi with rfl | hi
  · exact ha
  · exact all2 hb hc i hi
theorem d_effs (is : List Nat) (hr : Region.ready .any all listed = is) (hne : is.isEmpty = false) (h : ∀ i ∈ is, EffOK fr ds ρ L all pend fuel listed k i) : JD fr ds ρ L all pend (fuel + 1) listed k := by
  intro pa hpa a w ha hw hre
  refine ⟨fun e => (by rw [hr] at e; rw [e] at hne; cases hne), fun j hj => ?_⟩
  rw [hr] at hj
  obtain ⟨o, hi, js, m, hjs, hm, hE⟩ := h j hj
  subst hjs
  have hJ := hE (fun a1 w1 => ReS P all (pa.filter fun p => !waits all j p.1) w1 ∧ wpAnyP P fr.r all (onlyN (post fr k .normal)) fuel (pa.filter fun p => !waits all j p.1) (listed.setIfInBounds j true) a1 w1) (fun ρ' L' hRe hJD a1 w1 ha1 hw1 => by
    have hS := Re.spec hpa (hRe.re hm) hre hw1
    rw [← sift_filter hm] at hJD
    exact ⟨hS, hJD _ (hpa.filter fun x => !waits all j x) a1 w1 ha1 hw1 hS⟩) a w ha hw
  change wpListIn (FW fr.r) 0 P all (post fr.q [.then_ _]) [o] a w at hJ
  unfold wpOpIn
  simp only [hi]
  simp only [wpListIn] at hJ
  split
  · rename_i hwn
    rw [if_pos hwn] at hJ
    refine ⟨fun _ _ => trivial, uponIn_mono2 (fun a w h => h) (fun e a w hne h => ?_) hJ.2⟩
    cases e with
    | normal => exact absurd rfl hne
    | _ => exact h
  · rename_i hwn
    rw [if_neg hwn] at hJ
    exact ⟨fun _ _ => trivial, hJ.2⟩
end
end Go.E
