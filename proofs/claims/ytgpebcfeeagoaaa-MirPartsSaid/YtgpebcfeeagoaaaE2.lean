/- The proof kit 'E', part 2: what is known of the slots; types; the judgement 'J'; control; a function's beginning and end; calls. -/
import Derived.Test.YtgpebcfeeagoaaaE1
import Derived.Scope
namespace Go.E
open Go Go.RowKit

/-! ### The slots -/
abbrev Env := List (Nat × Value)
def Env.get : Env → Nat → Option Value
  | [], _ => none
  | (k, v) :: r, t => bif Nat.beq k t then some v else Env.get r t
def Env.ev (ρ : Env) : Operand → Option Value
  | .tmp t => ρ.get t
  | .const v => some v
  | .global g => some (.pointer (some ⟨g, 0, none⟩))
  | .func f => some (.func (.func f) #[] #[])
def Env.evs (ρ : Env) : List Operand → Option (List Value)
  | [] => some []
  | x :: r => match ρ.ev x, Env.evs ρ r with | some v, some vs => some (v :: vs) | _, _ => none
structure Env.ok (n : Nat) (ds : List Deferred) (ρ : Env) (a : Act) : Prop where
  size : a.tmps.size = n
  defers : a.defers = ds
  get : ∀ t v, ρ.get t = some v → a.tmps.getD t undef = v
theorem Env.ok.ev {n : Nat} {ds : List Deferred} {ρ : Env} {a : Act} (h : Env.ok n ds ρ a) {x : Operand} {v : Value} (e : ρ.ev x = some v) : a.eval x = v := by
  cases x with
  | tmp t => exact h.get t v e
  | const u => exact Option.some.inj e
  | global g => exact Option.some.inj e
  | func f => exact Option.some.inj e
theorem Env.ok.evs {n : Nat} {ds : List Deferred} {ρ : Env} {a : Act} (h : Env.ok n ds ρ a) : ∀ {xs : List Operand} {vs : List Value}, ρ.evs xs = some vs → xs.map a.eval = vs
  | [], _, e => by cases e; rfl
  | x :: xs, vs, e => by
    simp only [Env.evs] at e
    cases hx : ρ.ev x with
    | none => rw [hx] at e; cases e
    | some v =>
      cases hr : ρ.evs xs with
      | none => rw [hx, hr] at e; cases e
      | some us => rw [hx, hr] at e; cases e; rw [List.map_cons, h.ev hx, h.evs hr]
theorem Env.ok.put {n : Nat} {ds : List Deferred} {ρ : Env} {a : Act} (h : Env.ok n ds ρ a) {d : Nat} (hd : Nat.ble (d + 1) n = true) (v : Value) : Env.ok n ds ((d, v) :: ρ) (a.put (some d) v) := by
  have hlt : d < n := Nat.le_of_ble_eq_true hd
  refine ⟨by simp [Act.put, h.size], h.defers, fun t u e => ?_⟩
  simp only [Env.get] at e
  simp only [Act.put]
  cases hb : Nat.beq d t with
  | true =>
    rw [hb] at e
    have hdt : d = t := Nat.eq_of_beq_eq_true hb
    cases e
    subst hdt
    simp [Array.getD_eq_getD_getElem?, h.size, hlt]
  | false =>
    rw [hb] at e
    have hne : d ≠ t := fun x => by rw [x] at hb; rw [show Nat.beq t t = true from Nat.beq_refl t] at hb; cases hb
    have := h.get t u e
    rw [← this]
    simp [Array.getD_eq_getD_getElem?, hne]
theorem Env.ok.skip {n : Nat} {ds : List Deferred} {ρ : Env} {a : Act} (h : Env.ok n ds ρ a) (v : Value) : Env.ok n ds ρ (a.put none v) := h
/-- 'σ' tells no more than 'ρ'. -/
def Env.sub : Env → Env → Prop
  | [], _ => True
  | (t, v) :: σ, ρ => ρ.get t = some v ∧ Env.sub σ ρ
theorem Env.sub_get {σ ρ : Env} (h : Env.sub σ ρ) {t : Nat} {v : Value} (e : σ.get t = some v) : ρ.get t = some v := by
  induction σ with
  | nil => cases e
  | cons p σ ih =>
    obtain ⟨k, u⟩ := p
    simp only [Env.get] at e
    cases hb : Nat.beq k t with
    | true => rw [hb] at e; cases e; rw [← Nat.eq_of_beq_eq_true hb]; exact h.1
    | false => rw [hb] at e; exact ih h.2 e
theorem Env.ok.sub {n : Nat} {ds : List Deferred} {ρ σ : Env} {a : Act} (h : Env.ok n ds ρ a) (s : Env.sub σ ρ) : Env.ok n ds σ a :=
  ⟨h.size, h.defers, fun t v e => h.get t v (Env.sub_get s e)⟩
def Env.ofArgs (k : Nat) : List Value → Env
  | [] => []
  | v :: vs => (k, v) :: Env.ofArgs (k + 1) vs
theorem Env.ofArgs_get : ∀ (vs : List Value) (k t : Nat) (v : Value), (Env.ofArgs k vs).get t = some v → k ≤ t ∧ vs[t - k]? = some v
  | [], _, _, _, e => by cases e
  | u :: vs, k, t, v, e => by
    simp only [Env.ofArgs, Env.get] at e
    cases hb : Nat.beq k t with
    | true => rw [hb] at e; cases e; have := Nat.eq_of_beq_eq_true hb; subst this; simp
    | false =>
      rw [hb] at e
      obtain ⟨h1, h2⟩ := Env.ofArgs_get vs (k + 1) t v e
      refine ⟨by omega, ?_⟩
      rw [show t - k = (t - (k + 1)) + 1 from by omega]
      simpa using h2

/-! ### Types -/
inductive Ty where
  | bool | int (k : IntKind) | str | st (fs : List (Nat × TypeId)) | ar (n : Nat) (e : TypeId) | sl (e : TypeId) | mp (k e : TypeId) | pr (e : TypeId) | ifc | fn | other
def Ty.of : TypeDesc → Ty
  | .bool => .bool
  | .int k => .int k
  | .string => .str
  | .struct fs => .st (fs.toList.map fun f => (f.offset, f.type))
  | .array n e => .ar n e
  | .slice e => .sl e
  | .map k e => .mp k e
  | .pointer e => .pr e
  | .interface _ => .ifc
  | .func _ _ _ => .fn
  | _ => .other
def Ty.agg : Ty → Bool
  | .st _ => true
  | .ar _ _ => true
  | _ => false
structure TI where
  ty : Ty
  size : Nat
  bytes : Nat
  zero : List Value
def isAggV : Value → Bool
  | .agg _ => true
  | _ => false
def TI.of (P : Program) (t : TypeId) : Option TI :=
  match P.info? t, P.underlying t with
  | some i, some d => match i.zero with | some z => bif (isAggV z == (Ty.of d).agg) then some ⟨Ty.of d, i.size, i.bytes, z.cells.toList⟩ else none | none => none
  | _, _ => none
def callable (P : Program) (f : FuncId) : Bool :=
  match P.funcs[f]? with
  | some fn => fn.name != "runtime.NumGoroutine" && fn.body.isSome
  | none => false
/-- What is asked of the program once a seat. -/
structure Cx (P : Program) where
  mix : P.follows .mixedOrders = true
  tab : List (Option TI)
  htab : (List.range tab.length).map (TI.of P) = tab
  lo : Nat
  calls : Nat
  hcalls : (List.range' lo calls).all (callable P) = true
theorem Cx.ti {P : Program} (X : Cx P) {t : TypeId} {i : TI} (h : X.tab[t]? = some (some i)) : TI.of P t = some i := by
  rw [← X.htab] at h
  simp only [List.getElem?_map, Option.map_eq_some_iff] at h
  obtain ⟨a, h1, h2⟩ := h
  have : a = t := by
    have := List.getElem?_eq_some_iff.1 h1
    obtain ⟨hl, he⟩ := this
    simpa using he.symm
  rw [← this]; exact h2
theorem TI.of_spec' {P : Program} {t : TypeId} {i : TI} (h : TI.of P t = some i) :
    ∃ d inf z, P.underlying t = some d ∧ P.info? t = some inf ∧ inf.zero = some z ∧ Ty.of d = i.ty ∧ inf.size = i.size ∧ inf.bytes = i.bytes ∧ z.cells.toList = i.zero ∧ isAggV z = i.ty.agg := by
  unfold TI.of at h
  cases hi : P.info? t with
  | none => rw [hi] at h; cases h
  | some inf =>
    cases hd : P.underlying t with
    | none => rw [hi, hd] at h; cases h
    | some d =>
      rw [hi, hd] at h
      simp only at h
      cases hz : inf.zero with
      | none => rw [hz] at h; cases h
      | some z =>
        rw [hz] at h
        simp only at h
        cases ha : (isAggV z == (Ty.of d).agg) with
        | false => rw [ha] at h; cases h
        | true => rw [ha] at h; cases h; exact ⟨d, inf, z, rfl, rfl, hz, rfl, rfl, rfl, rfl, by simpa using ha⟩
theorem TI.of_spec {P : Program} {t : TypeId} {i : TI} (h : TI.of P t = some i) :
    ∃ d inf z, P.underlying t = some d ∧ P.info? t = some inf ∧ inf.zero = some z ∧ Ty.of d = i.ty ∧ inf.size = i.size ∧ inf.bytes = i.bytes ∧ z.cells.toList = i.zero := by
  obtain ⟨d, inf, z, a, b, c, d', e, f, g, _⟩ := TI.of_spec' h
  exact ⟨d, inf, z, a, b, c, d', e, f, g⟩
def Cx.has {P : Program} (X : Cx P) (f : FuncId) : Bool := Nat.ble X.lo f && Nat.blt f (X.lo + X.calls)
theorem Cx.call {P : Program} (X : Cx P) {f : FuncId} (h : X.has f = true) : callable P f = true := by
  have := X.hcalls
  rw [List.all_eq_true] at this
  simp only [Cx.has, Bool.and_eq_true, Nat.blt_eq] at h
  exact this f (List.mem_range'_1.2 ⟨Nat.le_of_ble_eq_true h.1, h.2⟩)

/-! ### Items pulled out of the list -/
class Pl (A : HP) (L : List HP) (R : outParam (List HP)) : Prop where
  perm : L.Perm (A :: R)
instance (A : HP) (L : List HP) : Pl A (A :: L) L := ⟨List.Perm.refl _⟩
instance (priority := low) (A B : HP) (L R : List HP) [h : Pl A L R] : Pl A (B :: L) (B :: R) := ⟨(List.Perm.cons B h.perm).trans (List.Perm.swap _ _ _)⟩
class Tk (K L : List HP) (R : outParam (List HP)) : Prop where
  perm : L.Perm (K ++ R)
instance (L : List HP) : Tk [] L L := ⟨List.Perm.refl _⟩
instance (A : HP) (K L R R' : List HP) [h : Pl A L R] [h' : Tk K R R'] : Tk (A :: K) L R' := ⟨h.perm.trans (List.Perm.cons A h'.perm)⟩
theorem tk {K L R : List HP} [h : Tk K L R] : L.Perm (K ++ R) := h.perm
theorem tk0 {K L : List HP} [h : Tk K L []] : L.Perm K := by have := h.perm; rwa [List.append_nil] at this
theorem tk1 {A : HP} {K L R : List HP} [h : Tk (A :: K) L R] : L.Perm (A :: (K ++ R)) := h.perm
/-! ### The judgement -/
inductive It where
  | code (c : Code)
  | endb (id : Nat)
  | ends
  | inv (φ : Act → World → Prop)
  | ops (all : Array Oper) (l : List Oper)
  | then_ (K : Act → World → Prop)
def FW (r : Option Nat) : Fence := { Fence.wide with round := r }
structure Fr (P : Program) where
  X : Cx P
  r : Option Nat
  base : World
  M : Nat → Prop
  n : Nat
  Q : Exit → Act → World → Prop
/-- What is still asked. -/
def post {P : Program} (fr : Fr P) : List It → Exit → Act → World → Prop
  | [] => fr.Q
  | .code c :: k => Exit.then (c.wpIn (FW fr.r) 0 P (post fr k)) (post fr k)
  | .endb id :: k => Exit.inBlock id (post fr k)
  | .ends :: k => Exit.noGoto (post fr k)
  | .inv φ :: k => Exit.then φ (post fr k)
  | .ops all l :: k => Exit.then (wpListIn (FW fr.r) 0 P all (post fr k) l) (post fr k)
  | .then_ K :: k => Exit.then K (post fr k)
/-- **Whatever state is told by ρ and L: the items still to be done do what is asked.** -/
def J {P : Program} (fr : Fr P) (ds : List Deferred) (ρ : Env) (L : List HP) (k : List It) : Prop :=
  ∀ a w, Env.ok fr.n ds ρ a → Sat fr.base fr.M L w → post fr k .normal a w

section
variable {P : Program} {fr : Fr P} {ds : List Deferred} {ρ : Env} {L : List HP} {k : List It}

theorem J.weak {σ : Env} {K : List HP} (s : Env.sub σ ρ) (p : L.Perm K) (h : J fr ds σ K k) : J fr ds ρ L k :=
  fun a w ha hw => h a w (ha.sub s) (hw.perm p)
theorem J.drop {K : List HP} (h : J fr ds ρ L k) : J fr ds ρ (L ++ K) k := fun a w ha hw => h a w ha hw.left
theorem J.world (h : ∀ w, Sat fr.base fr.M L w → J fr ds ρ L k) : J fr ds ρ L k := fun a w ha hw => h w hw a w ha hw

theorem s_seq {x y : Code} (h : J fr ds ρ L (.code x :: .code y :: k)) : J fr ds ρ L (.code (.seq x y) :: k) :=
  fun a w ha hw => wpIn_seq (h a w ha hw)
theorem s_skip (h : J fr ds ρ L k) : J fr ds ρ L (.code .skip :: k) := fun a w ha hw => wpIn_skip (h a w ha hw)
theorem s_label {l : Nat} (h : J fr ds ρ L k) : J fr ds ρ L (.code (.label l) :: k) := fun a w ha hw => wpIn_label (h a w ha hw)
theorem s_block {id : Nat} {c : Code} (h : J fr ds ρ L (.code c :: .endb id :: k)) : J fr ds ρ L (.code (.block id c) :: k) :=
  fun a w ha hw => wpIn_block (h a w ha hw)
theorem s_endb {id : Nat} (h : J fr ds ρ L k) : J fr ds ρ L (.endb id :: k) := fun a w ha hw => h a w ha hw
theorem s_ends (h : J fr ds ρ L k) : J fr ds ρ L (.ends :: k) := fun a w ha hw => h a w ha hw
theorem wpIn_scope_straight {F : Fence} {n : Nat} {Q : Exit → Act → World → Prop} {a : Act} {w : World} {c : Code} (h : c.wpIn F n P (Exit.noGoto Q) a w) : (Code.scope c).wpIn F n P Q a w := by
  intro b k cs hro hb hr
  have s0 : step P (lone (b.atR a (.code (.scope c) :: k)) cs w) = .next (lone (b.atR a (.code c :: .inScope c :: k)) cs w) :=
    step_lone_go (by simp [stepG, stepG.exec, Frame.atR])
  have s1 : ∀ a w, step P (lone (b.atR a (.inScope c :: k)) cs w) = .next (lone (b.atR a k) cs w) := fun a w =>
    step_lone_go (by simp [stepG, stepG.exec, Frame.atR])
  have h0 : (lone (b.atR a (.code (.scope c) :: k)) cs w).fenced P F := fenced_calm hb hr rfl
  obtain ⟨e, a₁, w₁, hq, harr⟩ := h b (.inScope c :: k) cs hro hb hr
  cases e with
  | normal => exact ⟨.normal, a₁, w₁, hq, .head h0 s0 (StepsIn.trans harr (.one (fenced_calm hb hr rfl) (s1 a₁ w₁)))⟩
  | exit id =>
    have hx : ∀ id, exitTo id (.inScope c :: k) = exitTo id k := fun id => by simp [exitTo]
    exact ⟨.exit id, a₁, w₁, hq, fun k' hk => .head h0 s0 (harr.1 k' (by rw [hx]; exact hk)),
      fun hr' hk => let ⟨k₁, h1, h2⟩ := harr.2 hr' (by rw [hx]; exact hk); ⟨k₁, h1, .head h0 s0 h2⟩⟩
  | goto l => exact hq.elim
  | ret => exact ⟨.ret, a₁, w₁, hq, .of_steps (b := b) (k := k) (cs := cs) (e := .ret) (.one h0 s0) harr⟩
  | panic ch => exact ⟨.panic ch, a₁, w₁, hq, .of_steps (b := b) (k := k) (cs := cs) (e := .panic ch) (.one h0 s0) harr⟩
  | outgrown => exact ⟨.outgrown, a₁, w₁, hq, .of_steps (b := b) (k := k) (cs := cs) (e := .outgrown) (.one h0 s0) harr⟩
theorem s_scope {c : Code} (h : J fr ds ρ L (.code c :: .ends :: k)) : J fr ds ρ L (.code (.scope c) :: k) :=
  fun a w ha hw => wpIn_scope_straight (h a w ha hw)
def It.to (id : Nat) : List It → Option (List It)
  | [] => none
  | .endb i :: k => bif Nat.beq i id then some k else It.to id k
  | _ :: k => It.to id k
theorem post_exit {id : Nat} : ∀ {k k' : List It}, It.to id k = some k' → ∀ a w, post fr k' .normal a w → post fr k (.exit id) a w
  | .endb i :: k, k', e, a, w, h => by
    simp only [It.to] at e
    simp only [post, Exit.inBlock]
    cases hb : Nat.beq i id with
    | true => rw [hb] at e; cases e; rw [if_pos (Nat.eq_of_beq_eq_true hb).symm]; exact h
    | false =>
      rw [hb] at e
      rw [if_neg (fun x => by rw [x] at hb; rw [show Nat.beq i i = true from Nat.beq_refl i] at hb; cases hb)]
      exact post_exit e a w h
  | .code _ :: k, _, e, a, w, h => post_exit (k := k) e a w h
  | .ends :: k, _, e, a, w, h => post_exit (k := k) e a w h
  | .inv _ :: k, _, e, a, w, h => post_exit (k := k) e a w h
  | .ops _ _ :: k, _, e, a, w, h => post_exit (k := k) e a w h
  | .then_ _ :: k, _, e, a, w, h => post_exit (k := k) e a w h
theorem s_exit {id : Nat} {k' : List It} (e : It.to id k = some k') (h : J fr ds ρ L k') : J fr ds ρ L (.code (.exit id) :: k) :=
  fun a w ha hw => wpIn_exit (post_exit e a w (h a w ha hw))
/-- Out of the whole list: what the frame asks at that exit (a round's body). -/
theorem post_out {id : Nat} : ∀ {k : List It}, It.to id k = none → ∀ a w, fr.Q (.exit id) a w → post fr k (.exit id) a w
  | [], _, _, _, h => h
  | .endb i :: k, e, a, w, h => by
    simp only [It.to] at e
    simp only [post, Exit.inBlock]
    cases hb : Nat.beq i id with
    | true => rw [hb] at e; cases e
    | false =>
      rw [hb] at e
      rw [if_neg (fun x => by rw [x] at hb; rw [show Nat.beq i i = true from Nat.beq_refl i] at hb; cases hb)]
      exact post_out e a w h
  | .code _ :: k, e, a, w, h => post_out (k := k) e a w h
  | .ends :: k, e, a, w, h => post_out (k := k) e a w h
  | .inv _ :: k, e, a, w, h => post_out (k := k) e a w h
  | .ops _ _ :: k, e, a, w, h => post_out (k := k) e a w h
  | .then_ _ :: k, e, a, w, h => post_out (k := k) e a w h
theorem s_out {id : Nat} (e : It.to id k = none) (h : ∀ a w, Env.ok fr.n ds ρ a → Sat fr.base fr.M L w → fr.Q (.exit id) a w) : J fr ds ρ L (.code (.exit id) :: k) :=
  fun a w ha hw => wpIn_exit (post_out e a w (h a w ha hw))
theorem post_ret : ∀ (k : List It) (a : Act) (w : World), fr.Q .ret a w → post fr k .ret a w
  | [], _, _, h => h
  | .code _ :: k, a, w, h => post_ret k a w h
  | .endb _ :: k, a, w, h => post_ret k a w h
  | .ends :: k, a, w, h => post_ret k a w h
  | .inv _ :: k, a, w, h => post_ret k a w h
  | .ops _ _ :: k, a, w, h => post_ret k a w h
  | .then_ _ :: k, a, w, h => post_ret k a w h
theorem s_ret (h : ∀ a w, Env.ok fr.n ds ρ a → Sat fr.base fr.M L w → fr.Q .ret a w) : J fr ds ρ L (.code .ret :: k) :=
  fun a w ha hw => wpIn_ret (post_ret k a w (h a w ha hw))

/-! #### Choices -/
theorem s_condT {c : Operand} {x y : Code} (hc : ρ.ev c = some (.bool true)) (h : J fr ds ρ L (.code x :: k)) : J fr ds ρ L (.code (.cond c x y) :: k) :=
  fun a w ha hw => wpIn_cond_true (ha.ev hc) (h a w ha hw)
theorem s_condF {c : Operand} {x y : Code} (hc : ρ.ev c = some (.bool false)) (h : J fr ds ρ L (.code y :: k)) : J fr ds ρ L (.code (.cond c x y) :: k) :=
  fun a w ha hw => wpIn_cond_false (ha.ev hc) (h a w ha hw)
theorem s_cond {c : Operand} {x y : Code} {p : Prop} [Decidable p] (hc : ρ.ev c = some (.bool (decide p))) (hT : p → J fr ds ρ L (.code x :: k)) (hF : ¬ p → J fr ds ρ L (.code y :: k)) :
    J fr ds ρ L (.code (.cond c x y) :: k) := by
  intro a w ha hw
  by_cases hp : p
  · exact wpIn_cond_true (by rw [ha.ev hc, decide_eq_true hp]) (hT hp a w ha hw)
  · exact wpIn_cond_false (by rw [ha.ev hc, decide_eq_false hp]) (hF hp a w ha hw)
theorem s_condb {c : Operand} {x y : Code} {b : Bool} (hc : ρ.ev c = some (.bool b)) (hT : b = true → J fr ds ρ L (.code x :: k)) (hF : b = false → J fr ds ρ L (.code y :: k)) :
    J fr ds ρ L (.code (.cond c x y) :: k) := by
  intro a w ha hw
  cases hb : b with
  | true => exact wpIn_cond_true (by rw [ha.ev hc, hb]) (hT hb a w ha hw)
  | false => exact wpIn_cond_false (by rw [ha.ev hc, hb]) (hF hb a w ha hw)

/-! #### Loops -/
/-- The head of a loop: for some ghost state. -/
def Head {σ : Type} (fr : Fr P) (ds : List Deferred) (ρI : σ → Env) (LI : σ → List HP) (φ : σ → Prop) (μ : σ → Nat) (m : Nat) (a : Act) (w : World) : Prop :=
  ∃ s, φ s ∧ μ s < m ∧ Env.ok fr.n ds (ρI s) a ∧ Sat fr.base fr.M (LI s) w
theorem wpIn_loop_ghost {F : Fence} {n : Nat} {Q : Exit → Act → World → Prop} {σ : Type} {c : Code} (I : σ → Act → World → Prop) (μ : σ → Nat) (s0 : σ) {a : Act} {w : World} (h₀ : I s0 a w)
    (round : ∀ s a w, I s a w → c.wpIn F n P (Exit.then (fun a' w' => ∃ s', I s' a' w' ∧ μ s' < μ s) Q) a w) : (Code.loop c).wpIn F n P Q a w := by
  intro b k cs hro hb hr
  have key : ∀ j s a w, μ s = j → I s a w →
      ∃ e a' w', Q e a' w' ∧ ArrivesIn (Machine.fenced P F) P (lone (b.atR a (.code c :: .inLoop c :: k)) cs w) b k cs e a' w' := by
    intro j
    induction j using Nat.strongRecOn with
    | _ j ih =>
      intro s a w hn hI
      obtain ⟨e, a₁, w₁, hq, harr⟩ := round s a w hI b (.inLoop c :: k) cs hro hb hr
      cases e with
      | normal =>
        obtain ⟨s', hI₁, hlt⟩ := hq
        obtain ⟨e₂, a₂, w₂, hq₂, harr₂⟩ := ih (μ s') (hn ▸ hlt) s' a₁ w₁ rfl hI₁
        exact ⟨e₂, a₂, w₂, hq₂, .of_steps (StepsIn.trans harr (.one (fenced_calm hb hr rfl) stepR_inLoop)) harr₂⟩
      | exit id => exact ⟨_, a₁, w₁, hq, .pass (x := .inLoop c) rfl (fun _ _ => .inl (by simp)) harr⟩
      | goto l => exact ⟨_, a₁, w₁, hq, .pass (x := .inLoop c) rfl (fun _ _ => .inl (by simp)) harr⟩
      | ret => exact ⟨_, a₁, w₁, hq, .pass (x := .inLoop c) rfl (fun _ _ => .inl (by simp)) harr⟩
      | panic ch => exact ⟨_, a₁, w₁, hq, .pass (x := .inLoop c) rfl (fun _ _ => .inl (by simp)) harr⟩
      | outgrown => exact ⟨_, a₁, w₁, hq, .pass (x := .inLoop c) rfl (fun _ _ => .inl (by simp)) harr⟩
  obtain ⟨e, a', w', hq, harr⟩ := key _ s0 a w rfl h₀
  exact ⟨e, a', w', hq, .of_steps (.one (fenced_calm hb hr rfl) stepR_loop) harr⟩
theorem s_loop {σ : Type} {c : Code} (ρI : σ → Env) (LI : σ → List HP) (φ : σ → Prop) (μ : σ → Nat) (s0 : σ) {junk : List HP} (hρ : Env.sub (ρI s0) ρ) (hL : L.Perm (LI s0 ++ junk)) (h0 : φ s0)
    (round : ∀ s, φ s → J fr ds (ρI s) (LI s) (.code c :: .inv (Head fr ds ρI LI φ μ (μ s)) :: k)) : J fr ds ρ L (.code (.loop c) :: k) := by
  intro a w ha hw
  refine wpIn_loop_ghost (fun s a w => φ s ∧ Env.ok fr.n ds (ρI s) a ∧ Sat fr.base fr.M (LI s) w) μ s0 ⟨h0, ha.sub hρ, (hw.perm hL).left⟩ ?_
  rintro s a w ⟨hs, ha, hw⟩
  refine wpIn_mono (round s hs a w ha hw) ?_
  rintro e a w hq
  cases e with
  | normal => obtain ⟨s', h1, h2, h3, h4⟩ := hq; exact ⟨s', ⟨h1, h3, h4⟩, h2⟩
  | _ => exact hq
/-- .. whose rounds leave what is owned as it is. -/
theorem s_loop0 {σ : Type} {c : Code} (ρI : σ → Env) (φ : σ → Prop) (μ : σ → Nat) (s0 : σ) (hρ : Env.sub (ρI s0) ρ) (h0 : φ s0)
    (round : ∀ s, φ s → J fr ds (ρI s) L (.code c :: .inv (Head fr ds ρI (fun _ => L) φ μ (μ s)) :: k)) : J fr ds ρ L (.code (.loop c) :: k) :=
  s_loop ρI (fun _ => L) φ μ s0 (junk := []) hρ (by rw [List.append_nil]) h0 round
theorem s_inv {σ : Type} {ρI : σ → Env} {LI : σ → List HP} {φ : σ → Prop} {μ : σ → Nat} {m : Nat} (s : σ) {junk : List HP} (hs : φ s) (hμ : μ s < m) (hρ : Env.sub (ρI s) ρ) (hL : L.Perm (LI s ++ junk)) :
    J fr ds ρ L (.inv (Head fr ds ρI LI φ μ m) :: k) := fun _ _ ha hw => ⟨s, hs, hμ, ha.sub hρ, (hw.perm hL).left⟩
theorem s_then {K : Act → World → Prop} (h : ∀ a w, Env.ok fr.n ds ρ a → Sat fr.base fr.M L w → K a w) : J fr ds ρ L (.then_ K :: k) := h

/-! #### Regions -/
theorem s_region {id : Nat} {l : List Oper} (h : J fr ds ρ L (.ops l.toArray l :: k)) : J fr ds ρ L (.code (.region id l.toArray false) :: k) :=
  fun a w ha hw => wpIn_region_lit (h a w ha hw)
theorem s_done {all : Array Oper} (h : J fr ds ρ L k) : J fr ds ρ L (.ops all [] :: k) := fun a w ha hw => h a w ha hw
variable {all : Array Oper} {rest : List Oper}
theorem fw_about {r : Option Nat} {f : FuncId} : (FW r).fn f := trivial
/-- One operation, in whatever way it goes on. -/
theorem s_op {o : Oper} (hg : o.guard = none) (hdf : ∀ c, o.op ≠ .defer c)
    (h : ∀ a w, Env.ok fr.n ds ρ a → Sat fr.base fr.M L w → o.uponIn (FW fr.r) 0 P a (wpListIn (FW fr.r) 0 P all (post fr k) rest) (post fr k) ((execOp a.eval o).run P w)) :
    J fr ds ρ L (.ops all (o :: rest) :: k) := by
  intro a w ha hw
  show wpListIn (FW fr.r) 0 P all (post fr k) (o :: rest) a w
  simp only [wpListIn, Region.wanted, hg, if_true, Oper.wpIn]
  refine ⟨fun _ _ => trivial, ?_⟩
  rw [Oper.semAt_eq _ _ _ hdf]
  exact h a w ha hw
/-- Guards. -/
theorem yielded_of {a : Act} {j t : Nat} {b : Bool} (hj : (all[j]?).bind (·.dst) = some t) (ha : Env.ok fr.n ds ρ a) (ht : ρ.get t = some (.bool b)) : yielded all a.tmps j = some b := by
  have h1 := ha.get t _ ht
  unfold yielded
  rw [hj, Option.bind_some]
  rw [Array.getD_eq_getD_getElem?] at h1
  cases h2 : a.tmps[t]? with
  | none => rw [h2] at h1; simp only [Option.getD_none] at h1; cases h1
  | some u => rw [h2] at h1; simp only [Option.getD_some] at h1; rw [h1]
theorem s_guard {dst : Option Tmp} {op : Op} {ty : TypeId} {pos : String} {af : Array Edge} {j t : Nat} {b : Bool} (hj : (all[j]?).bind (·.dst) = some t) (ht : ρ.get t = some (.bool b))
    (h : J fr ds ρ L (.ops all (⟨dst, op, ty, pos, af, none⟩ :: rest) :: k)) : J fr ds ρ L (.ops all (⟨dst, op, ty, pos, af, some (j, b)⟩ :: rest) :: k) := by
  intro a w ha hw
  have := h a w ha hw
  have hy := yielded_of hj ha ht
  change wpListIn (FW fr.r) 0 P all (post fr k) (⟨dst, op, ty, pos, af, none⟩ :: rest) a w at this
  show wpListIn (FW fr.r) 0 P all (post fr k) (⟨dst, op, ty, pos, af, some (j, b)⟩ :: rest) a w
  simp only [wpListIn, Region.wanted, hy, beq_self_eq_true, if_true] at this ⊢
  exact this
theorem s_unguard {d : Nat} {op : Op} {ty : TypeId} {pos : String} {af : Array Edge} {j t : Nat} {b c : Bool} (hj : (all[j]?).bind (·.dst) = some t) (ht : ρ.get t = some (.bool b)) (hc : (b == c) = false)
    (hd : Nat.ble (d + 1) fr.n = true) (h : J fr ds ((d, undef) :: ρ) L (.ops all rest :: k)) : J fr ds ρ L (.ops all (⟨some d, op, ty, pos, af, some (j, c)⟩ :: rest) :: k) := by
  intro a w ha hw
  have := h _ w (ha.put hd undef) hw
  have hy := yielded_of hj ha ht
  change wpListIn (FW fr.r) 0 P all (post fr k) rest _ w at this
  show wpListIn (FW fr.r) 0 P all (post fr k) (⟨some d, op, ty, pos, af, some (j, c)⟩ :: rest) a w
  have hf : (some b == some c) = false := hc
  simp only [wpListIn, Region.wanted, hy, hf, Bool.false_eq_true, if_false]
  exact ⟨fun _ _ => trivial, this⟩
/-- A Bool in a slot is parted. -/
theorem s_split {x : List It} {t : Nat} {p : Prop} [Decidable p] (ht : ρ.get t = some (.bool (decide p))) (hT : p → J fr ds ((t, .bool true) :: ρ) L x) (hF : ¬ p → J fr ds ((t, .bool false) :: ρ) L x) :
    J fr ds ρ L x := by
  intro a w ha hw
  have key : ∀ b, decide p = b → Env.ok fr.n ds ((t, .bool b) :: ρ) a := fun b hb => ⟨ha.size, ha.defers, fun u v e => by
    simp only [Env.get] at e
    cases hbq : Nat.beq t u with
    | true => rw [hbq] at e; cases e; have := Nat.eq_of_beq_eq_true hbq; subst this; rw [← hb]; exact ha.get _ _ ht
    | false => rw [hbq] at e; exact ha.get u v e⟩
  by_cases hp : p
  · exact hT hp a w (key true (decide_eq_true hp)) hw
  · exact hF hp a w (key false (decide_eq_false hp)) hw
theorem s_splitb {x : List It} {t : Nat} {b : Bool} (ht : ρ.get t = some (.bool b)) (hT : b = true → J fr ds ((t, .bool true) :: ρ) L x) (hF : b = false → J fr ds ((t, .bool false) :: ρ) L x) :
    J fr ds ρ L x :=
  s_split (p := b = true) (by rw [ht]; cases b <;> rfl) hT (fun h => hF (by simpa using h))

/-- .. a guard's. -/
theorem s_gsplit {dst : Option Tmp} {op : Op} {ty : TypeId} {pos : String} {af : Array Edge} {j t : Nat} {b : Bool} {p : Prop} [Decidable p] (_hj : (all[j]?).bind (·.dst) = some t) (ht : ρ.get t = some (.bool (decide p)))
    (hT : p → J fr ds ((t, .bool true) :: ρ) L (.ops all (⟨dst, op, ty, pos, af, some (j, b)⟩ :: rest) :: k)) (hF : ¬ p → J fr ds ((t, .bool false) :: ρ) L (.ops all (⟨dst, op, ty, pos, af, some (j, b)⟩ :: rest) :: k)) :
    J fr ds ρ L (.ops all (⟨dst, op, ty, pos, af, some (j, b)⟩ :: rest) :: k) := s_split ht hT hF
theorem s_gsplitb {dst : Option Tmp} {op : Op} {ty : TypeId} {pos : String} {af : Array Edge} {j t : Nat} {b c : Bool} (_hj : (all[j]?).bind (·.dst) = some t) (ht : ρ.get t = some (.bool c))
    (hT : c = true → J fr ds ((t, .bool true) :: ρ) L (.ops all (⟨dst, op, ty, pos, af, some (j, b)⟩ :: rest) :: k)) (hF : c = false → J fr ds ((t, .bool false) :: ρ) L (.ops all (⟨dst, op, ty, pos, af, some (j, b)⟩ :: rest) :: k)) :
    J fr ds ρ L (.ops all (⟨dst, op, ty, pos, af, some (j, b)⟩ :: rest) :: k) := s_splitb ht hT hF

/-- 'op' makes 'v' and turns nothing, in whatever state is told by ρ and L. -/
def Yd {P : Program} (fr : Fr P) (ds : List Deferred) (ρ : Env) (L : List HP) (op : Op) (ty : TypeId) (v : Value) : Prop :=
  (∀ c, op ≠ .defer c) ∧ ∀ a w, Env.ok fr.n ds ρ a → Sat fr.base fr.M L w → ∀ o : Oper, o.op = op → o.type = ty → (execOp a.eval o).run P w = .ok (.value v) w
theorem s_q {d : Nat} {op : Op} {ty : TypeId} {pos : String} {af : Array Edge} {v : Value} (hy : Yd fr ds ρ L op ty v) (hd : Nat.ble (d + 1) fr.n = true)
    (h : J fr ds ((d, v) :: ρ) L (.ops all rest :: k)) : J fr ds ρ L (.ops all (⟨some d, op, ty, pos, af, none⟩ :: rest) :: k) := by
  refine s_op rfl hy.1 fun a w ha hw => ?_
  rw [hy.2 a w ha hw _ rfl rfl]
  exact h _ w (ha.put hd v) hw
/-- An operation that has an effect on the world. -/
theorem s_eff {d : Nat} {op : Op} {ty : TypeId} {pos : String} {af : Array Edge} (hdf : ∀ c, op ≠ .defer c) (hd : Nat.ble (d + 1) fr.n = true)
    (h : ∀ a w, Env.ok fr.n ds ρ a → Sat fr.base fr.M L w → ∀ o : Oper, o.op = op → o.type = ty → ∃ v w' L', (execOp a.eval o).run P w = .ok (.value v) w' ∧ Sat fr.base fr.M L' w' ∧ J fr ds ((d, v) :: ρ) L' (.ops all rest :: k)) :
    J fr ds ρ L (.ops all (⟨some d, op, ty, pos, af, none⟩ :: rest) :: k) := by
  refine s_op rfl hdf fun a w ha hw => ?_
  obtain ⟨v, w', L', h1, h2, h3⟩ := h a w ha hw ⟨some d, op, ty, pos, af, none⟩ rfl rfl
  rw [h1]
  exact h3 _ w' (ha.put hd v) h2
/-- .. and leaves no value. -/
theorem s_eff0 {op : Op} {ty : TypeId} {pos : String} {af : Array Edge} (hdf : ∀ c, op ≠ .defer c)
    (h : ∀ a w, Env.ok fr.n ds ρ a → Sat fr.base fr.M L w → ∀ o : Oper, o.op = op → o.type = ty → ∃ x w' L', (execOp a.eval o).run P w = .ok x w' ∧ (x = .skip ∨ ∃ v, x = .value v) ∧ Sat fr.base fr.M L' w' ∧ J fr ds ρ L' (.ops all rest :: k)) :
    J fr ds ρ L (.ops all (⟨none, op, ty, pos, af, none⟩ :: rest) :: k) := by
  refine s_op rfl hdf fun a w ha hw => ?_
  obtain ⟨x, w', L', h1, h2, h3, h4⟩ := h a w ha hw ⟨none, op, ty, pos, af, none⟩ rfl rfl
  rw [h1]
  rcases h2 with rfl | ⟨v, rfl⟩
  · exact h4 _ w' (ha.skip undef) h3
  · exact h4 _ w' (ha.skip v) h3

/-! #### Calls -/
/-- **What a call comes to**: it returns v; what it then owns is L'; nothing else that was there has turned, but what it was handed to own (M). -/
def Ret (P : Program) (f : FuncId) (args : List Value) (w : World) (M : Nat → Prop) (R : Value → List HP → Prop) : Prop :=
  Calls P f args.toArray w fun e w' => ∃ v L', e = .returned v ∧ R v L' ∧ Sat w M L' w'
theorem Ret.mono {f : FuncId} {args : List Value} {w : World} {M : Nat → Prop} {R R' : Value → List HP → Prop} (h : Ret P f args w M R) (hr : ∀ v L', R v L' → R' v L') : Ret P f args w M R' :=
  Calls.mono h fun _ _ ⟨v, L', he, hR, hS⟩ => ⟨v, L', he, hr v L' hR, hS⟩
theorem run_callFunc {f : FuncId} {args : Array Value} {w : World} (h : callable P f = true) : (callFunc f args).run P w = .ok (.enter f args) w := by
  unfold callable at h
  cases hf : P.funcs[f]? with
  | none => rw [hf] at h; cases h
  | some fn =>
    rw [hf] at h
    simp only [Bool.and_eq_true, bne_iff_ne, ne_eq] at h
    have h2 : ¬ fn.body = none := by intro e; rw [e] at h; simp at h
    simp [callFunc, hf, h.1, h2]
theorem uponIn_call {o : Oper} {a : Act} {w : World} {f : FuncId} {args : List Value} {M : Nat → Prop} {R : Value → List HP → Prop} {next : Act → World → Prop} {Q : Exit → Act → World → Prop}
    (h : Ret P f args w M R) (hn : ∀ v L' w', R v L' → Sat w M L' w' → next (a.put o.dst v) w') :
    o.uponIn (FW fr.r) 0 P a next Q (.ok (.enter f args.toArray) w) := by
  rw [Oper.uponIn_enter]
  refine ⟨fun x => absurd x (by simp [FW, Fence.wide]), ?_⟩
  have key : CallsIn Fence.wide (0 - 1) P f args.toArray w fun | .returned v, w'' => next (a.put o.dst v) w'' | .panicked chain, w'' => Q (.panic chain) a w'' | .outgrown, _ => LetsOut Q := by
    refine (callsIn_wide (n := 0 - 1)).2 (Calls.mono h ?_)
    rintro e w' ⟨v, L', rfl, hR, hS⟩
    exact hn v L' w' hR hS
  cases hr : fr.r with
  | none => exact key
  | some l => exact key
theorem run_static {a : Act} {w : World} {f : FuncId} {xs : List Operand} {ts : Array TypeId} {vs : List Value} {o : Oper} (ho : o.op = .call ⟨.value (.func f), xs.toArray, ts⟩)
    (hx : xs.map a.eval = vs) (hf : callable P f = true) : (execOp a.eval o).run P w = .ok (.enter f vs.toArray) w := by
  unfold execOp
  rw [ho]
  have hm : (xs.toArray.map a.eval) = vs.toArray := by rw [List.map_toArray, hx]
  simp only [resolve, Act.eval, Deferred.ofValue, Sem.run_bind, Sem.run_pure, Result.andThen_ok, invoke, hm]
  simpa using run_callFunc hf
/-- A call of a function by its name. 'pre': what it is handed to own. -/
theorem s_call {d : Nat} {f : FuncId} {xs : List Operand} {ts : Array TypeId} {ty : TypeId} {pos : String} {af : Array Edge} {vs : List Value} {pre rem : List HP} {R : Value → List HP → Prop}
    (hx : ρ.evs xs = some vs) (hf : fr.X.has f = true) (hL : L.Perm (pre ++ rem))
    (hc : ∀ w N, Owns w pre N → (∀ w', Since w N w' → Sat fr.base fr.M rem w') → Ret P f vs w N R) (hd : Nat.ble (d + 1) fr.n = true)
    (h : ∀ v L', R v L' → J fr ds ((d, v) :: ρ) (L' ++ rem) (.ops all rest :: k)) :
    J fr ds ρ L (.ops all (⟨some d, .call ⟨.value (.func f), xs.toArray, ts⟩, ty, pos, af, none⟩ :: rest) :: k) := by
  refine s_op rfl (fun c e => by cases e) fun a w ha hw => ?_
  rw [run_static rfl (ha.evs hx) (fr.X.call hf)]
  have hw' := hw.perm hL
  obtain ⟨N, ho, hframe, hl⟩ := hw'.framed
  refine uponIn_call (hc w N ho hl) fun v L' w' hR hS => ?_
  exact h v L' hR _ w' (ha.put hd v) (hframe L' w' hS)
theorem s_call0 {f : FuncId} {xs : List Operand} {ts : Array TypeId} {ty : TypeId} {pos : String} {af : Array Edge} {vs : List Value} {pre rem : List HP} {R : Value → List HP → Prop}
    (hx : ρ.evs xs = some vs) (hf : fr.X.has f = true) (hL : L.Perm (pre ++ rem))
    (hc : ∀ w N, Owns w pre N → (∀ w', Since w N w' → Sat fr.base fr.M rem w') → Ret P f vs w N R)
    (h : ∀ v L', R v L' → J fr ds ρ (L' ++ rem) (.ops all rest :: k)) :
    J fr ds ρ L (.ops all (⟨none, .call ⟨.value (.func f), xs.toArray, ts⟩, ty, pos, af, none⟩ :: rest) :: k) := by
  refine s_op rfl (fun c e => by cases e) fun a w ha hw => ?_
  rw [run_static rfl (ha.evs hx) (fr.X.call hf)]
  have hw' := hw.perm hL
  obtain ⟨N, ho, hframe, hl⟩ := hw'.framed
  refine uponIn_call (hc w N ho hl) fun v L' w' hR hS => ?_
  exact h v L' hR _ w' (ha.skip v) (hframe L' w' hS)

/-! #### A function's beginning and end -/
theorem ret_of_J {f : FuncId} {fn : Func} {c : Code} {args : List Value} {w : World} {M : Nat → Prop} {pre : List HP} {R : Value → List HP → Prop} (X : Cx P) (hf : P.funcs[f]? = some fn) (hb : fn.body = some c)
    (hn : args.length ≤ fn.ntmps) (hM : Owns w pre M)
    (h : J ⟨X, none, w, M, fn.ntmps, bodyPostM (FW none) 0 P fn fun e w' => ∃ v L', e = .returned v ∧ R v L' ∧ Sat w M L' w'⟩ [] (Env.ofArgs 0 args) pre [.code c]) : Ret P f args w M R := by
  refine (callsIn_wide (n := 0)).1 (callsIn_of_wp_marks (F := Fence.wide) hf hb trivial ?_ rfl)
  refine h _ w ⟨?_, rfl, fun t v e => ?_⟩ hM.sat
  · simp; omega
  · obtain ⟨_, h2⟩ := Env.ofArgs_get args 0 t v e
    obtain ⟨hl, he⟩ := List.getElem?_eq_some_iff.1 h2
    simp only [Nat.sub_zero] at hl he
    simp [Array.getD_eq_getD_getElem?, Array.getElem?_append, hl, he]
/-- The results are told by ρ and L. -/
def Res {P : Program} (fr : Fr P) (ds : List Deferred) (ρ : Env) (L : List HP) (fn : Func) (v : Value) : Prop :=
  ∀ a w, Env.ok fr.n ds ρ a → Sat fr.base fr.M L w → (results fn a.tmps).run P w = .ok v w
theorem s_return {X : Cx P} {base : World} {M : Nat → Prop} {n : Nat} {fn : Func} {R : Value → List HP → Prop} {v : Value} {L' junk : List HP} (hR : R v L') [hL : Tk L' L junk]
    (hv : Res ⟨X, none, base, M, n, bodyPostM (FW none) 0 P fn fun e w' => ∃ v L', e = .returned v ∧ R v L' ∧ Sat base M L' w'⟩ [] ρ L fn v) :
    J ⟨X, none, base, M, n, bodyPostM (FW none) 0 P fn fun e w' => ∃ v L', e = .returned v ∧ R v L' ∧ Sat base M L' w'⟩ [] ρ L (.code .ret :: k) := by
  refine s_ret fun a w ha hw => ?_
  show LeavesInM _ _ _ _ _ _ a.defers _ _
  rw [ha.defers]
  exact ⟨v, hv a w ha hw, v, L', rfl, hR, (hw.perm hL.perm).left⟩
theorem s_end {X : Cx P} {base : World} {M : Nat → Prop} {n : Nat} {fn : Func} {R : Value → List HP → Prop} {v : Value} {L' junk : List HP} (hR : R v L') [hL : Tk L' L junk]
    (hv : Res ⟨X, none, base, M, n, bodyPostM (FW none) 0 P fn fun e w' => ∃ v L', e = .returned v ∧ R v L' ∧ Sat base M L' w'⟩ [] ρ L fn v) :
    J ⟨X, none, base, M, n, bodyPostM (FW none) 0 P fn fun e w' => ∃ v L', e = .returned v ∧ R v L' ∧ Sat base M L' w'⟩ [] ρ L [] := by
  intro a w ha hw
  show LeavesInM _ _ _ _ _ _ a.defers _ _
  rw [ha.defers]
  exact ⟨v, hv a w ha hw, v, L', rfl, hR, (hw.perm hL.perm).left⟩
end
end Go.E
