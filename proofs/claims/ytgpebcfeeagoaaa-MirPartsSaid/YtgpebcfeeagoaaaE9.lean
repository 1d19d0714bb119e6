/- Kit E, part 9: an effect in a region that draws its order, with a mask of what still waits (the mask is printed by ex.py). -/
import Derived.Test.YtgpebcfeeagoaaaE8
set_option linter.unusedVariables false
namespace Go.E
open Go
def sift {α : Type} : List Bool → List α → List α
  | true :: m, p :: l => p :: sift m l
  | false :: m, _ :: l => sift m l
  | _, _ => []
theorem sift_filter {α : Type} {j : α → Nat} {f : Nat → Bool} : ∀ {l : List α} {m : List Bool}, (l.map j).map f = m → l.filter (fun p => f (j p)) = sift m l
  | [], m, h => by cases m <;> first | rfl | cases h
  | p :: l, m, h => by
    cases m with
    | nil => cases h
    | cons b m =>
      simp only [List.map_cons, List.cons.injEq] at h
      have := sift_filter (j := j) (f := f) (l := l) (m := m) h.2
      cases b with
      | true => rw [List.filter_cons_of_pos (by simpa using h.1), this]; rfl
      | false => rw [List.filter_cons_of_neg (by simp [h.1]), this]; rfl
section
variable {P : Program} {fr : Fr P} {ds : List Deferred} {ρ : Env} {L : List HP} {k : List It} {all : Array Oper} {pend : List Pd} {fuel : Nat} {listed : Array Bool}
def ReM (fr : Fr P) (ds : List Deferred) (L : List HP) (all : Array Oper) : List Bool → List Pd → Prop
  | true :: m, p :: l => (∃ o, all[p.j]? = some o ∧ Yd fr ds p.ρ L o.op o.type p.v) ∧ ReM fr ds L all m l
  | false :: m, _ :: l => ReM fr ds L all m l
  | _, _ => True
theorem rm_nil : ReM fr ds L all [] [] := trivial
theorem rm_skip {p : Pd} {m : List Bool} {l : List Pd} (t : ReM fr ds L all m l) : ReM fr ds L all (false :: m) (p :: l) := t
theorem rm_yd {j : Nat} {v : Value} {σ : Env} {m : List Bool} {l : List Pd} {dst : Option Tmp} {op : Op} {ty : TypeId} {pos : String} {af : Array Edge} {g : Option (Nat × Bool)} (ho : all[j]? = some ⟨dst, op, ty, pos, af, g⟩) (hy : Yd fr ds σ L op ty v) (t : ReM fr ds L all m l) :
    ReM fr ds L all (true :: m) (⟨j, v, σ⟩ :: l) := ⟨⟨_, ho, hy⟩, t⟩
theorem ReM.re {i : Nat} : ∀ {pend : List Pd} {m : List Bool}, (pend.map (·.j)).map (fun j => !waits all i j) = m → ReM fr ds L all m pend → Re fr ds L all i pend
  | [], m, _, _ => trivial
  | p :: l, m, h, hr => by
    cases m with
    | nil => cases h
    | cons b m =>
      simp only [List.map_cons, List.cons.injEq] at h
      cases b with
      | true => exact ⟨.inr hr.1, ReM.re h.2 hr.2⟩
      | false => exact ⟨.inl (by simpa using h.1), ReM.re h.2 hr⟩
theorem d_effM (i : Nat) (js : List Nat) (m : List Bool) {o : Oper} (hi : all[i]? = some o) (hok : okOnly all listed i = true) (hjs : pend.map (·.j) = js) (hm : js.map (fun j => !waits all i j) = m)
    (h : ∀ K : Act → World → Prop, (∀ ρ' L', ReM fr ds L' all m pend → JD fr ds ρ' L' all (sift m pend) fuel (listed.setIfInBounds i true) k → J fr.q ds ρ' L' [.then_ K]) →
      J fr.q ds ρ L [.ops all [o], .then_ K]) : JD fr ds ρ L all pend (fuel + 1) listed k := by
  subst hjs
  refine d_eff i hi hok fun K hK => h K fun ρ' L' hre hj => hK ρ' L' (hre.re hm) ?_
  rw [sift_filter hm]
  exact hj
end
end Go.E
