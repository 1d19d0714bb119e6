/- Kit E, part 12: a cut behind a piece of code. -/
import Derived.Test.YtgpebcfeeagoaaaE11
set_option linter.unusedVariables false
namespace Go.E
open Go
section
variable {P : Program} {fr : Fr P} {ds : List Deferred} {ρ : Env} {L : List HP} {k : List It}
theorem J.to {ρ' : Env} {L' junk : List HP} (h : J fr ds ρ' L' k) (hρ : Env.sub ρ' ρ) (hL : L.Perm (L' ++ junk)) : J fr ds ρ L k := J.perm hL (J.drop (J.env hρ h))
/-- A cut: whatever way a piece of code goes, it comes out at one state. -/
theorem s_join {σ : Type} {c : Code} (ρI : σ → Env) (LI : σ → List HP) (φ : σ → Prop) (h1 : ∀ k', (∀ x, φ x → J fr ds (ρI x) (LI x) k') → J fr ds ρ L (.code c :: k')) (h2 : ∀ x, φ x → J fr ds (ρI x) (LI x) k) : J fr ds ρ L (.code c :: k) := h1 k h2
end
end Go.E
