/- Kit E, part 15: a part of a function's body, by its way, so that a part can have a theorem of its own. -/
import Derived.Test.YtgpebcfeeagoaaaE14
namespace Go.E
open Go
/-- Down into a body: 0 and 1: the first, the second of two; 2: into a block, a loop, a scope; 3, 4: the branches; 5: the body of a range over a function. -/
def sub : List Nat → Code → Code
  | [], c => c
  | 0 :: p, .seq a _ => sub p a
  | 1 :: p, .seq _ b => sub p b
  | 2 :: p, .block _ b => sub p b
  | 2 :: p, .loop b => sub p b
  | 2 :: p, .scope b => sub p b
  | 3 :: p, .cond _ a _ => sub p a
  | 4 :: p, .cond _ _ b => sub p b
  | 5 :: p, .rangeFunc _ _ _ b => sub p b
  | _, _ => .skip
def bodyOf (f : Func) : Code := f.body.getD .skip
/-- The frame of a part: what the whole call owes. -/
abbrev frOf {P : Program} (X : Cx P) (f : Func) (w : World) (M : Nat → Prop) (R : Value → List HP → Prop) : Fr P := ⟨X, none, w, M, f.ntmps, bodyPostM (FW none) 0 P f fun e w' => ∃ v L', e = .returned v ∧ R v L' ∧ Sat w M L' w'⟩
end Go.E
