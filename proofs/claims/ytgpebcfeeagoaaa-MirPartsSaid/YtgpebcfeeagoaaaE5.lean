/- The proof kit 'E', part 5: regions that draw their order. What only reads is taken first; behind each operation that has an effect, what was taken and need not have come before it must read the same. -/
import Derived.Test.YtgpebcfeeagoaaaE4
namespace Go.E
open Go Go.RowKit
section
variable {P : Program} {r : Option Nat} {ops : Array Oper} {Q : Exit → Act → World → Prop}
def YA (P : Program) (ops : Array Oper) (o : Oper) (v : Value) (a : Act) (w : World) : Prop :=
  (Region.wanted o (yielded ops a.tmps) = true ∧ (execOp a.eval o).run P w = .ok (.value v) w) ∨ (Region.wanted o (yielded ops a.tmps) = false ∧ v = undef)
def waits (ops : Array Oper) (j i : Nat) : Bool := match ops[j]? with
  | some o => o.after.any fun e => Region.binds .any e && Nat.beq e.on i
  | none => false
abbrev PA := Nat × Value × Act
def ReS (P : Program) (ops : Array Oper) (pend : List PA) (w : World) : Prop := ∀ p ∈ pend, ∀ o, ops[p.1]? = some o → YA P ops o p.2.1 p.2.2 w
def wpAnyP (P : Program) (r : Option Nat) (ops : Array Oper) (Q : Exit → Act → World → Prop) : Nat → List PA → Array Bool → Act → World → Prop
  | 0, _, listed, a, w => Region.ready .any ops listed = [] ∧ Q .normal a w
  | fuel + 1, pend, listed, a, w => (Region.ready .any ops listed = [] → Q .normal a w) ∧
    ∀ j ∈ Region.ready .any ops listed, wpOpIn (FW r) 0 P ops Q j (fun a1 w1 => ReS P ops (pend.filter fun p => !waits ops j p.1) w1 ∧ wpAnyP P r ops Q fuel (pend.filter fun p => !waits ops j p.1) (listed.setIfInBounds j true) a1 w1) a w
theorem wpAnyP_any : ∀ (fuel : Nat) (pend : List PA) (listed : Array Bool) (a : Act) (w : World), wpAnyP P r ops Q fuel pend listed a w → wpAnyIn (FW r) 0 P .any ops Q fuel listed a w
  | 0, _, _, _, _, h => h
  | fuel + 1, _, _, _, _, h => ⟨h.1, fun j hj => wpOpIn_mono (fun a' w' h' => wpAnyP_any fuel _ _ a' w' h'.2) (h.2 j hj)⟩
theorem ReS.sub {p1 p2 : List PA} {w : World} (h : ReS P ops p1 w) (s : ∀ p ∈ p2, p ∈ p1) : ReS P ops p2 w := fun p hp => h p (s p hp)
theorem wpAnyP_sub : ∀ (fuel : Nat) (p1 p2 : List PA) (listed : Array Bool) (a : Act) (w : World), (∀ p ∈ p2, p ∈ p1) → wpAnyP P r ops Q fuel p1 listed a w → wpAnyP P r ops Q fuel p2 listed a w
  | 0, _, _, _, _, _, _, h => h
  | fuel + 1, p1, p2, listed, a, w, s, h => ⟨h.1, fun j hj => wpOpIn_mono (fun a' w' h' => by
      have s' : ∀ p ∈ (p2.filter fun p => !waits ops j p.1), p ∈ (p1.filter fun p => !waits ops j p.1) := fun p hp => by
        rw [List.mem_filter] at hp ⊢; exact ⟨s p hp.1, hp.2⟩
      exact ⟨h'.1.sub s', wpAnyP_sub fuel _ _ _ a' w' s' h'.2⟩) (h.2 j hj)⟩
/-- An operation that is apart from what has been put. -/
theorem wpOpIn_move {j : Nat} {oi oj : Oper} {v : Value} {ai : Act} (hj : ops[j]? = some oj) (hap : oi.apart ops oj = true)
    (hsi : ∀ cs b, oi.op ≠ .select cs b) (hsj : ∀ cs b, oj.op ≠ .select cs b) (hQ : ∀ c a w, ¬ Q (.panic c) a w) {K : Act → World → Prop} {a : Act} {w : World}
    (he : execOp a.eval oi = execOp ai.eval oi ∧ Region.wanted oi (yielded ops a.tmps) = Region.wanted oi (yielded ops ai.tmps)) (h : wpOpIn (FW r) 0 P ops Q j K (a.put oi.dst v) w) :
    wpOpIn (FW r) 0 P ops Q j (fun a' w' => (execOp a'.eval oi = execOp ai.eval oi ∧ Region.wanted oi (yielded ops a'.tmps) = Region.wanted oi (yielded ops ai.tmps)) ∧ K (a'.put oi.dst v) w') a w := by
  obtain ⟨h1, h2, h3⟩ := Oper.apart_spec hap
  have keep : ∀ (a : Act), (execOp a.eval oi = execOp ai.eval oi ∧ Region.wanted oi (yielded ops a.tmps) = Region.wanted oi (yielded ops ai.tmps)) → ∀ u,
      (execOp (a.put oj.dst u).eval oi = execOp ai.eval oi ∧ Region.wanted oi (yielded ops (a.put oj.dst u).tmps) = Region.wanted oi (yielded ops ai.tmps)) := fun a hy u =>
    ⟨(execOp_put oi hsi a oj.dst u h3).trans hy.1, (wanted_put oi a oj.dst u h3).trans hy.2⟩
  unfold wpOpIn at *
  simp only [hj] at *
  rw [wanted_put oj a oi.dst v h1] at h
  split
  · rename_i hw
    simp only [hw, if_true] at h
    unfold Oper.wpIn at *
    refine ⟨fun _ _ => trivial, ?_⟩
    have h := h.2
    have hsem : Oper.semAt (FW r).round (a.put oi.dst v).eval oj = Oper.semAt (FW r).round a.eval oj := by
      have e1 := execOp_put (ops := ops) oj hsj a oi.dst v h1
      unfold Oper.semAt
      cases hro : (FW r).round with
      | none => exact e1
      | some l =>
        cases ho : oj.op <;> simp only [] <;> first | exact e1 | skip
        rename_i c
        have e2 : resolve (a.put oi.dst v).eval c oj.type = resolve a.eval c oj.type := resolve_congr c _ fun x hx => Act.eval_put fun d hd hxd => h1 d hd (by
          subst hxd
          exact List.mem_append_left _ (List.mem_filterMap.2 ⟨.tmp d, by rw [ho]; simpa [Op.operands] using hx, rfl⟩))
        rw [e2]
    rw [hsem] at h
    generalize (Oper.semAt (FW r).round a.eval oj).run P w = res at *
    cases res with
    | ok x w' =>
      cases x <;> simp only [Oper.uponIn] at h ⊢
      case value u => exact ⟨keep a he u, by rw [← Act.put_comm a v u h2]; exact h⟩
      case skip => exact ⟨keep a he _, by rw [← Act.put_comm a v undef h2]; exact h⟩
      case defer d =>
        refine ⟨keep { a with defers := d :: a.defers } he _, ?_⟩
        rw [← Act.put_comm _ v undef h2, ← Act.put_defers]
        exact h
      case enter f args =>
        refine ⟨h.1, CallsIn.mono h.2 fun e w'' hx => ?_⟩
        cases e with
        | returned u => exact ⟨keep a he u, by rw [← Act.put_comm a v u h2]; exact hx⟩
        | panicked c => exact absurd hx (hQ _ _ _)
        | outgrown => exact hx
      case row row args => exact ⟨h.1, RowsIn.mono h.2 fun u w'' hx => ⟨keep a he u, by rw [← Act.put_comm a v u h2]; exact hx⟩⟩
      case round l f tmps assign body =>
        refine ⟨h.1, RoundIn.mono h.2 fun e w'' hx => ?_⟩
        cases e with
        | returned u => exact ⟨keep a he u, by rw [← Act.put_comm a v u h2]; exact hx⟩
        | panicked c => exact absurd hx (hQ _ _ _)
        | outgrown => exact hx
    | halt x w' =>
      cases x <;> simp only [Oper.uponIn] at h ⊢
      case panic u => exact absurd h (hQ _ _ _)
  · rename_i hw
    simp only [hw] at h
    exact ⟨fun _ _ => trivial, keep a he _, by rw [← Act.put_comm a v undef h2]; exact h.2⟩
/-- An operation that reads, carried out. -/
theorem YA.wpOpIn {i : Nat} {o : Oper} {v : Value} {a ai : Act} {w : World} (hi : ops[i]? = some o) (hdf : ∀ c, o.op ≠ .defer c) (hy : YA P ops o v ai w)
    (he : execOp a.eval o = execOp ai.eval o ∧ Region.wanted o (yielded ops a.tmps) = Region.wanted o (yielded ops ai.tmps)) {K : Act → World → Prop} (h : K (a.put o.dst v) w) : wpOpIn (FW r) 0 P ops Q i K a w := by
  unfold Go.wpOpIn
  simp only [hi]
  rcases hy with ⟨hw, hv⟩ | ⟨hw, rfl⟩
  · rw [he.2, hw, if_pos rfl]
    refine ⟨fun _ _ => trivial, ?_⟩
    rw [Oper.semAt_eq _ _ _ hdf, he.1, hv]
    exact h
  · rw [he.2, hw, if_neg (by simp)]
    exact ⟨fun _ _ => trivial, h⟩
theorem wpAnyP_first {i : Nat} {oi : Oper} {v : Value} {ai : Act} (hi : ops[i]? = some oi) (hdf : ∀ c, oi.op ≠ .defer c) (hsel : ∀ (j : Nat) (o : Oper) cs b, ops[j]? = some o → o.op ≠ .select cs b)
    (hQ : ∀ c a w, ¬ Q (.panic c) a w) : ∀ (fuel : Nat) (pend : List PA) (listed : Array Bool) (a : Act) (w : World),
      (∀ j oj, ops[j]? = some oj → j ≠ i → listed.getD j true = false → (∀ e ∈ oj.after, Region.binds .any e = true → e.on ≠ i) → oi.apart ops oj = true) →
      i ∈ Region.ready .any ops listed → (execOp a.eval oi = execOp ai.eval oi ∧ Region.wanted oi (yielded ops a.tmps) = Region.wanted oi (yielded ops ai.tmps)) → YA P ops oi v ai w → ReS P ops pend w →
      wpAnyP P r ops Q fuel ((i, v, ai) :: pend) (listed.setIfInBounds i true) (a.put oi.dst v) w → wpAnyP P r ops Q (fuel + 1) pend listed a w := by
  intro fuel
  induction fuel with
  | zero =>
    intro pend listed a w _ hr he hy hre H
    refine ⟨fun h => (by rw [h] at hr; cases hr), fun j hj => ?_⟩
    by_cases hji : j = i
    · subst hji
      exact hy.wpOpIn hi hdf he ⟨hre.sub fun p hp => (List.mem_filter.1 hp).1, H⟩
    · have := ready_mono hj hji
      rw [H.1] at this
      cases this
  | succ fuel ih =>
    intro pend listed a w hfree hr he hy hre H
    refine ⟨fun h => (by rw [h] at hr; cases hr), fun j hj => ?_⟩
    by_cases hji : j = i
    · subst hji
      refine hy.wpOpIn hi hdf he ⟨hre.sub fun p hp => (List.mem_filter.1 hp).1, ?_⟩
      exact wpAnyP_sub _ _ _ _ _ _ (fun p hp => List.mem_cons_of_mem _ (List.mem_filter.1 hp).1) H
    · have h1 := H.2 j (ready_mono hj hji)
      obtain ⟨hjun, oj, hoj, hall⟩ := mem_ready.1 hj
      have hnot : ∀ e ∈ oj.after, Region.binds .any e = true → e.on ≠ i := fun e he hb heq => by
        have h1 := hall e he hb
        have h0 := (mem_ready.1 hr).1
        rw [heq] at h1
        rcases Nat.lt_or_ge i listed.size with h' | h'
        · simp [h'] at h0 h1; rw [h0] at h1; cases h1
        · simp [Array.getElem?_eq_none h'] at h1
      have hnw : waits ops j i = false := by
        unfold waits
        rw [hoj]
        cases hx : oj.after.any fun e => Region.binds .any e && Nat.beq e.on i with
        | false => exact hx
        | true =>
          obtain ⟨e, hem, hb⟩ := Array.any_eq_true'.1 hx
          simp only [Bool.and_eq_true] at hb
          exact absurd (Nat.eq_of_beq_eq_true hb.2) (hnot e hem hb.1)
      have h2 := wpOpIn_move (ai := ai) hoj (hfree j oj hoj hji hjun hnot) (fun cs b => hsel i oi cs b hi) (fun cs b => hsel j oj cs b hoj) hQ he h1
      have hfree' : ∀ k ok, ops[k]? = some ok → k ≠ i → (listed.setIfInBounds j true).getD k true = false →
          (∀ e ∈ ok.after, Region.binds .any e = true → e.on ≠ i) → oi.apart ops ok = true := fun k ok hk hki hun hno => by
        refine hfree k ok hk hki ?_ hno
        by_cases hjk : j = k
        · subst hjk; exact hjun
        · rw [getD_set_ne true hjk] at hun; exact hun
      refine wpOpIn_mono (fun a' w' h3 => ?_) h2
      obtain ⟨he', hre', H'⟩ := h3
      have hf : (((i, v, ai) :: pend).filter fun p => !waits ops j p.1) = (i, v, ai) :: pend.filter fun p => !waits ops j p.1 := by
        rw [List.filter_cons_of_pos (by simp [hnw])]
      rw [hf] at hre' H'
      have hre'' := hre'.sub (p2 := pend.filter fun p => !waits ops j p.1) (fun p hp => List.mem_cons_of_mem _ hp)
      refine ⟨hre'', ih _ (listed.setIfInBounds j true) a' w' hfree' (ready_mono hr (Ne.symm hji)) he' (hre' _ List.mem_cons_self oi hi) hre'' ?_⟩
      rw [Array.setIfInBounds_comm _ _ hji]
      exact H'
/-- What reads the same whatever the world may be added. -/
theorem wpAnyP_add {i : Nat} {v : Value} {ai : Act} (hy : ∀ w o, ops[i]? = some o → YA P ops o v ai w) : ∀ (fuel : Nat) (pend : List PA) (listed : Array Bool) (a : Act) (w : World),
    wpAnyP P r ops Q fuel pend listed a w → wpAnyP P r ops Q fuel ((i, v, ai) :: pend) listed a w
  | 0, _, _, _, _, h => h
  | fuel + 1, pend, listed, a, w, h => ⟨h.1, fun j hj => wpOpIn_mono (fun a' w' h' => by
      by_cases hw : (!waits ops j i) = true
      · rw [List.filter_cons_of_pos (by simpa using hw)]
        refine ⟨fun p hp o ho => ?_, wpAnyP_add hy fuel _ _ a' w' h'.2⟩
        rcases List.mem_cons.1 hp with rfl | hp
        · exact hy w' o ho
        · exact h'.1 p hp o ho
      · rw [List.filter_cons_of_neg (by simpa using hw)]
        exact h') (h.2 j hj)⟩
theorem uponIn_mono2 {F : Fence} {n : Nat} {o : Oper} {a : Act} {K K' : Act → World → Prop} {Q Q' : Exit → Act → World → Prop} {x : Result Next} (hK : ∀ a w, K a w → K' a w) (hQ : ∀ e a w, e ≠ .normal → Q e a w → Q' e a w)
    (h : o.uponIn F n P a K Q x) : o.uponIn F n P a K' Q' x := by
  have hl : LetsOut Q → LetsOut Q' := fun ⟨a, w, q⟩ => ⟨a, w, hQ _ _ _ (by simp) q⟩
  cases x with
  | ok x w' =>
    cases x <;> simp only [Oper.uponIn] at h ⊢ <;>
      first
        | exact hK _ _ h
        | exact ⟨h.1, CallsIn.mono h.2 (fun e w'' he => by cases e <;> first | exact hK _ _ he | exact hQ _ _ _ (by simp) he | exact hl he)⟩
        | exact ⟨h.1, RowsIn.mono h.2 (fun _ _ he => hK _ _ he)⟩
        | exact ⟨h.1, RoundIn.mono h.2 (fun e w'' he => by cases e <;> first | exact hK _ _ he | exact hQ _ _ _ (by simp) he | exact hl he)⟩
  | halt x w' => cases x <;> simp only [Oper.uponIn] at h ⊢ <;> exact hQ _ _ _ (by simp) h
end

/-! ### The judgement on a region that draws its order -/
structure Pd where
  j : Nat
  v : Value
  ρ : Env
inductive Fit (n : Nat) (ds : List Deferred) : List Pd → List PA → Prop
  | nil : Fit n ds [] []
  | cons {j : Nat} {v : Value} {ρ : Env} {a : Act} {l : List Pd} {m : List PA} (h : Env.ok n ds ρ a) (t : Fit n ds l m) : Fit n ds (⟨j, v, ρ⟩ :: l) ((j, v, a) :: m)
def onlyN (K : Act → World → Prop) : Exit → Act → World → Prop
  | .normal, a, w => K a w
  | _, _, _ => False
def JD {P : Program} (fr : Fr P) (ds : List Deferred) (ρ : Env) (L : List HP) (all : Array Oper) (pend : List Pd) (fuel : Nat) (listed : Array Bool) (k : List It) : Prop :=
  ∀ pa, Fit fr.n ds pend pa → ∀ a w, Env.ok fr.n ds ρ a → Sat fr.base fr.M L w → ReS P all pa w → wpAnyP P fr.r all (onlyN (post fr k .normal)) fuel pa listed a w
def Fr.q {P : Program} (fr : Fr P) : Fr P := ⟨fr.X, fr.r, fr.base, fr.M, fr.n, fun _ _ _ => False⟩
section
variable {P : Program} {fr : Fr P} {ds : List Deferred} {ρ : Env} {L : List HP} {k : List It} {all : Array Oper} {pend : List Pd} {fuel : Nat} {listed : Array Bool}
theorem d_start {id : Nat} {l : List Oper} (h : JD fr ds ρ L l.toArray [] l.length (Array.replicate l.length false) k) : J fr ds ρ L (.code (.region id l.toArray true) :: k) := by
  intro a w ha hw
  refine wpIn_mono (Q := onlyN (post fr k .normal)) (wpIn_region_any fr.X.mix ?_) fun e a w hq => ?_
  · have := h [] .nil a w.drew ha hw.drew (fun p hp => by cases hp)
    have := wpAnyP_any _ _ _ _ _ this
    simpa using this
  · cases e with
    | normal => exact hq
    | _ => exact hq.elim
/-- May number i be taken first? -/
def okTake (all : Array Oper) (listed : Array Bool) (i : Nat) : Bool := Region.noSelect all && (Region.free .any all listed i && (Region.ready .any all listed).contains i)
def okOnly (all : Array Oper) (listed : Array Bool) (i : Nat) : Bool := match Region.ready .any all listed with | [j] => Nat.beq i j | _ => false
theorem Fit.of_ReS {pa : List PA} {i : Nat} {v : Value} {a : Act} {w : World} {o : Oper} (ho : all[i]? = some o) (h : ReS P all pa w) (hy : YA P all o v a w) : ReS P all ((i, v, a) :: pa) w := by
  intro p hp o' ho'
  rcases List.mem_cons.1 hp with rfl | hp
  · simp only at ho'; rw [ho] at ho'; cases ho'; exact hy
  · exact h p hp o' ho'
theorem d_take (i : Nat) {d : Nat} {op : Op} {ty : TypeId} {pos : String} {af : Array Edge} {v : Value} (hi : all[i]? = some ⟨some d, op, ty, pos, af, none⟩) (hok : okTake all listed i = true) (hy : Yd fr ds ρ L op ty v) (hd : Nat.ble (d + 1) fr.n = true)
    (h : JD fr ds ((d, v) :: ρ) L all (⟨i, v, ρ⟩ :: pend) fuel (listed.setIfInBounds i true) k) : JD fr ds ρ L all pend (fuel + 1) listed k := by
  intro pa hpa a w ha hw hre
  simp only [okTake, Bool.and_eq_true] at hok
  have hya : YA P all ⟨some d, op, ty, pos, af, none⟩ v a w := .inl ⟨rfl, hy.2 a w ha hw _ rfl rfl⟩
  refine wpAnyP_first hi hy.1 (Region.noSelect_spec hok.1) (fun _ _ _ => id) fuel pa listed a w (Region.free_spec hi hok.2.1) (by simpa using hok.2.2) ⟨rfl, rfl⟩ hya hre ?_
  exact h _ (.cons ha hpa) _ w (ha.put hd v) hw (Fit.of_ReS hi hre hya)
theorem d_takeG (i : Nat) {d : Nat} {op : Op} {ty : TypeId} {pos : String} {af : Array Edge} {v : Value} {j t : Nat} {b : Bool} (hi : all[i]? = some ⟨some d, op, ty, pos, af, some (j, b)⟩) (hok : okTake all listed i = true)
    (hj : (all[j]?).bind (·.dst) = some t) (ht : ρ.get t = some (.bool b)) (hy : Yd fr ds ρ L op ty v) (hd : Nat.ble (d + 1) fr.n = true)
    (h : JD fr ds ((d, v) :: ρ) L all (⟨i, v, ρ⟩ :: pend) fuel (listed.setIfInBounds i true) k) : JD fr ds ρ L all pend (fuel + 1) listed k := by
  intro pa hpa a w ha hw hre
  simp only [okTake, Bool.and_eq_true] at hok
  have hya : YA P all ⟨some d, op, ty, pos, af, some (j, b)⟩ v a w := .inl ⟨by simp [Region.wanted, yielded_of hj ha ht], hy.2 a w ha hw _ rfl rfl⟩
  refine wpAnyP_first hi hy.1 (Region.noSelect_spec hok.1) (fun _ _ _ => id) fuel pa listed a w (Region.free_spec hi hok.2.1) (by simpa using hok.2.2) ⟨rfl, rfl⟩ hya hre ?_
  exact h _ (.cons ha hpa) _ w (ha.put hd v) hw (Fit.of_ReS hi hre hya)
theorem d_skip (i : Nat) {d : Nat} {op : Op} {ty : TypeId} {pos : String} {af : Array Edge} {j t : Nat} {b c : Bool} (hi : all[i]? = some ⟨some d, op, ty, pos, af, some (j, c)⟩) (hok : okTake all listed i = true) (hdf : ∀ c, op ≠ .defer c)
    (hj : (all[j]?).bind (·.dst) = some t) (ht : ρ.get t = some (.bool b)) (hc : (b == c) = false) (hd : Nat.ble (d + 1) fr.n = true)
    (h : JD fr ds ((d, undef) :: ρ) L all pend fuel (listed.setIfInBounds i true) k) : JD fr ds ρ L all pend (fuel + 1) listed k := by
  intro pa hpa a w ha hw hre
  simp only [okTake, Bool.and_eq_true] at hok
  have hf : (some b == some c) = false := hc
  have hya : YA P all ⟨some d, op, ty, pos, af, some (j, c)⟩ undef a w := .inr ⟨by simp only [Region.wanted, yielded_of hj ha ht, hf], rfl⟩
  refine wpAnyP_first hi hdf (Region.noSelect_spec hok.1) (fun _ _ _ => id) fuel pa listed a w (Region.free_spec hi hok.2.1) (by simpa using hok.2.2) ⟨rfl, rfl⟩ hya hre ?_
  refine wpAnyP_add (fun w o ho => ?_) _ _ _ _ _ (h _ hpa _ w (ha.put hd undef) hw hre)
  rw [hi] at ho
  cases ho
  exact .inr ⟨by simp only [Region.wanted, yielded_of hj ha ht, hf], rfl⟩
theorem d_split {t : Nat} {p : Prop} [Decidable p] (ht : ρ.get t = some (.bool (decide p))) (hT : p → JD fr ds ((t, .bool true) :: ρ) L all pend fuel listed k) (hF : ¬ p → JD fr ds ((t, .bool false) :: ρ) L all pend fuel listed k) :
    JD fr ds ρ L all pend fuel listed k := by
  intro pa hpa a w ha hw hre
  have key : ∀ b, decide p = b → Env.ok fr.n ds ((t, .bool b) :: ρ) a := fun b hb => ⟨ha.size, ha.defers, fun u v e => by
    simp only [Env.get] at e
    cases hbq : Nat.beq t u with
    | true => rw [hbq] at e; cases e; have := Nat.eq_of_beq_eq_true hbq; subst this; rw [← hb]; exact ha.get _ _ ht
    | false => rw [hbq] at e; exact ha.get u v e⟩
  by_cases hp : p
  · exact hT hp pa hpa a w (key true (decide_eq_true hp)) hw hre
  · exact hF hp pa hpa a w (key false (decide_eq_false hp)) hw hre
theorem d_splitb {t : Nat} {b : Bool} (ht : ρ.get t = some (.bool b)) (hT : b = true → JD fr ds ((t, .bool true) :: ρ) L all pend fuel listed k) (hF : b = false → JD fr ds ((t, .bool false) :: ρ) L all pend fuel listed k) :
    JD fr ds ρ L all pend fuel listed k :=
  d_split (p := b = true) (by rw [ht]; cases b <;> rfl) hT (fun h => hF (by simpa using h))
/-- What has been taken, and need not have come before number i, reads the same. -/
def Re {P : Program} (fr : Fr P) (ds : List Deferred) (L : List HP) (all : Array Oper) (i : Nat) : List Pd → Prop
  | [] => True
  | p :: l => (waits all i p.j = true ∨ ∃ o, all[p.j]? = some o ∧ Yd fr ds p.ρ L o.op o.type p.v) ∧ Re fr ds L all i l
theorem re_nil {i : Nat} : Re fr ds L all i [] := trivial
theorem re_waits {i : Nat} {p : Pd} {l : List Pd} (h : waits all i p.j = true) (t : Re fr ds L all i l) : Re fr ds L all i (p :: l) := ⟨.inl h, t⟩
theorem re_yd {i : Nat} {j : Nat} {v : Value} {σ : Env} {l : List Pd} {dst : Option Tmp} {op : Op} {ty : TypeId} {pos : String} {af : Array Edge} {g : Option (Nat × Bool)} (ho : all[j]? = some ⟨dst, op, ty, pos, af, g⟩) (hy : Yd fr ds σ L op ty v) (t : Re fr ds L all i l) :
    Re fr ds L all i (⟨j, v, σ⟩ :: l) := ⟨.inr ⟨_, ho, hy⟩, t⟩
theorem Re.spec {i : Nat} {l : List Pd} {pa : List PA} (hf : Fit fr.n ds l pa) (h : Re fr ds L all i l) {w w' : World} (hre : ReS P all pa w) (hw : Sat fr.base fr.M L w') : ReS P all (pa.filter fun p => !waits all i p.1) w' := by
  induction hf with
  | nil => intro p hp; cases hp
  | cons ha _ ih =>
    have hre' := hre.sub fun p hp => List.mem_cons_of_mem _ hp
    have ih' := ih h.2 hre'
    intro p hp o ho
    rw [List.mem_filter] at hp
    rcases List.mem_cons.1 hp.1 with rfl | hp1
    · rcases h.1 with hwt | ⟨o', ho', hy⟩
      · simp [hwt] at hp
      · simp only at ho ho'
        rw [ho] at ho'; cases ho'
        rcases hre _ List.mem_cons_self o ho with ⟨h1, h2⟩ | h2
        · exact .inl ⟨h1, hy.2 _ _ ha hw o rfl rfl⟩
        · exact .inr h2
    · exact ih' p (List.mem_filter.2 ⟨hp1, hp.2⟩) o ho
theorem Fit.filter {n : Nat} {l : List Pd} {pa : List PA} (f : Nat → Bool) (h : Fit n ds l pa) : Fit n ds (l.filter fun p => f p.j) (pa.filter fun p => f p.1) := by
  induction h with
  | nil => exact .nil
  | cons ha _ ih =>
    rename_i j v ρ a l m _
    by_cases hf : f j = true
    · rw [List.filter_cons_of_pos (by simpa using hf), List.filter_cons_of_pos (by simpa using hf)]; exact .cons ha ih
    · rw [List.filter_cons_of_neg (by simpa using hf), List.filter_cons_of_neg (by simpa using hf)]; exact ih
/-- An operation that has an effect, where none but it may come up. -/
theorem d_eff (i : Nat) {o : Oper} (hi : all[i]? = some o) (hok : okOnly all listed i = true)
    (h : ∀ K : Act → World → Prop, (∀ ρ' L', Re fr ds L' all i pend → JD fr ds ρ' L' all (pend.filter fun p => !waits all i p.j) fuel (listed.setIfInBounds i true) k → J fr.q ds ρ' L' [.then_ K]) →
      J fr.q ds ρ L [.ops all [o], .then_ K]) : JD fr ds ρ L all pend (fuel + 1) listed k := by
  intro pa hpa a w ha hw hre
  have hr : Region.ready .any all listed = [i] := by
    unfold okOnly at hok
    split at hok
    · rename_i j e; rw [e, Nat.eq_of_beq_eq_true hok]
    · cases hok
  refine ⟨fun e => (by rw [hr] at e; cases e), fun j hj => ?_⟩
  rw [hr] at hj
  obtain rfl : j = i := by simpa using hj
  have hJ := h (fun a1 w1 => ReS P all (pa.filter fun p => !waits all j p.1) w1 ∧ wpAnyP P fr.r all (onlyN (post fr k .normal)) fuel (pa.filter fun p => !waits all j p.1) (listed.setIfInBounds j true) a1 w1) (fun ρ' L' hRe hJD a1 w1 ha1 hw1 => by
    have hS := Re.spec hpa hRe hre hw1
    exact ⟨hS, hJD _ (hpa.filter fun x => !waits all j x) a1 w1 ha1 hw1 hS⟩) a w ha hw
  change wpListIn (FW fr.r) 0 P all (post fr.q [.then_ _]) [o] a w at hJ
  unfold wpOpIn
  simp only [hi]
  simp only [wpListIn] at hJ
  split
  · rename_i hwn
    rw [if_pos hwn] at hJ
    refine ⟨fun _ _ => trivial, uponIn_mono2 (fun a w h => h) (fun e a w hne h => ?_) hJ.2⟩
    cases e with
    | normal => exact absurd rfl hne
    | _ => exact h
  · rename_i hwn
    rw [if_neg hwn] at hJ
    exact ⟨fun _ _ => trivial, hJ.2⟩
theorem d_done (hr : Region.ready .any all listed = []) (h : J fr ds ρ L k) : JD fr ds ρ L all pend fuel listed k := by
  intro pa hpa a w ha hw hre
  have hq := h a w ha hw
  cases fuel with
  | zero => exact ⟨hr, hq⟩
  | succ n => exact ⟨fun _ => hq, fun j hj => by rw [hr] at hj; cases hj⟩
end
end Go.E
