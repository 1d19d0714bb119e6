/- Kit E, part 19: == and != of structs of numbers and Bools; a whole element of an owned row; what a call owns, told otherwise. -/
import Derived.Test.YtgpebcfeeagoaaaE18
import Derived.Test.YtgpebcfeeagoaaaE11
import Derived.Laws.StructEq
set_option linter.unusedVariables false
namespace Go.E
open Go Go.RowKit
theorem Owns.mono {w : World} {pre pre' : List HP} {M : Nat → Prop} (f : ∀ h, star pre h → star pre' h) (h : Owns w pre M) : Owns w pre' M := let ⟨k, s, i, g⟩ := h; ⟨k, f k s, i, g⟩
/-- A part of a struct: a number, or a Bool. -/
inductive Prim where
  | i (n : Int)
  | b (c : Bool)
deriving DecidableEq
def Prim.val : Prim → Value
  | .i n => .int .i64 n
  | .b c => .bool c
def Prim.num : Prim → Bool
  | .i _ => true
  | .b _ => false
def fkind (P : Program) (t : TypeId) : Option Bool := match P.underlying t with | some (.int .i64) => some true | some .bool => some false | _ => none
/-- What is asked of a struct type, once: where its fields lie, of which sorts. -/
def fieldsAre (P : Program) (t : TypeId) (l : List (Nat × Bool)) : Bool :=
  (P.fieldsOf t).toList.map (fun f => (f.offset, f.name != "_", fkind P f.type)) == l.map (fun x => (x.1, true, some x.2)) &&
  (match P.underlying t with | some (.struct fs) => fs.size == l.length | _ => false) && !P.stoodInHeld t && !P.eqGuardType P.depth t && (P.fieldsOf t).toList.all (fun f => match P.info? f.type with | some i => i.size == 1 && (match P.underlying f.type with | some (.int _) => true | some .bool => true | _ => false) | none => false)
section
variable {P : Program} {fr : Fr P} {ds : List Deferred} {ρ : Env} {L : List HP} {k : List It} {ty : TypeId}
theorem fkind_int {t : TypeId} (h : fkind P t = some true) : P.underlying t = some (.int .i64) := by
  unfold fkind at h
  split at h
  · assumption
  · cases h
  · cases h
theorem fkind_bool {t : TypeId} (h : fkind P t = some false) : P.underlying t = some .bool := by
  unfold fkind at h
  split at h
  · cases h
  · assumption
  · cases h
theorem run_part1 {t : TypeId} {cs : Array Value} {o : Nat} {w : World} {v : Value} {b : Bool} (hk : fkind P t = some b) (hv : cs[o]? = some v) : (part t cs o).run P w = .ok v w := by
  have hu : ∃ d, P.underlying t = some d ∧ (d = .int .i64 ∨ d = .bool) := by
    cases b with
    | true => exact ⟨_, fkind_int hk, .inl rfl⟩
    | false => exact ⟨_, fkind_bool hk, .inr rfl⟩
  obtain ⟨d, hd, h2⟩ := hu
  obtain ⟨hl, he⟩ := Array.getElem?_eq_some_iff.1 hv
  rcases h2 with rfl | rfl <;> simp [part, isAgg, run_underlying hd, hl, he]
theorem run_eqFields {xs ys : Array Value} {w : World} (d : Nat) : ∀ (fs : List Field) (l : List (Nat × Bool)) (ps qs : List Prim), fs.map (fun f => (f.offset, f.name != "_", fkind P f.type)) = l.map (fun x => (x.1, true, some x.2)) →
    ps.length = l.length → qs.length = l.length → (∀ (j : Nat) (x : Nat × Bool) (p q : Prim), l[j]? = some x → ps[j]? = some p → qs[j]? = some q → xs[x.1]? = some p.val ∧ ys[x.1]? = some q.val ∧ p.num = x.2 ∧ q.num = x.2) →
    (Op.eqFields (d + 1) xs ys fs).run P w = .ok (decide (ps = qs)) w
  | [], [], [], [], _, _, _, _ => by simp [Op.eqFields]
  | f :: fs, x :: l, p :: ps, q :: qs, hf, h1, h2, h3 => by
    simp only [List.map_cons, List.cons.injEq, Prod.mk.injEq] at hf
    obtain ⟨⟨e1, e2, e3⟩, hf⟩ := hf
    obtain ⟨a1, a2, a3, a4⟩ := h3 0 x p q rfl rfl rfl
    have ih := run_eqFields (xs := xs) (ys := ys) (w := w) d fs l ps qs hf (by simpa using h1) (by simpa using h2) (fun j x' p' q' b1 b2 b3 => h3 (j + 1) x' p' q' b1 b2 b3)
    have p1 := run_part1 (w := w) e3 (e1 ▸ a1)
    have p2 := run_part1 (w := w) e3 (e1 ▸ a2)
    have hne : f.name ≠ "_" := by simpa using e2
    have he : (Op.equalIn (d + 1) f.type p.val q.val).run P w = .ok (decide (p = q)) w := by
      rw [← a3] at e3
      cases p with
      | i m =>
        cases q with
        | i n =>
          have := fkind_int e3
          rw [show Prim.val (.i m) = Value.int .i64 m from rfl, show Prim.val (.i n) = Value.int .i64 n from rfl, run_equalIn_int w d f.type .i64 .i64 m n this]
          congr 1
          rw [Bool.eq_iff_iff]; simp
        | b c => rw [← a3] at a4; cases a4
      | b c =>
        cases q with
        | i n => rw [← a3] at a4; cases a4
        | b c' =>
          have := fkind_bool e3
          rw [show Prim.val (.b c) = Value.bool c from rfl, show Prim.val (.b c') = Value.bool c' from rfl, run_equalIn_bool' w d f.type c c' this]
          congr 1
          rw [Bool.eq_iff_iff]; simp
    simp only [Op.eqFields, Sem.run_bind, Sem.run_ite, if_pos hne, p1, p2, Result.andThen_ok, he]
    by_cases hpq : p = q
    · subst hpq
      simp [ih]
    · simp [hpq]
theorem run_eqSt {t : TypeId} {l : List (Nat × Bool)} {xs ys : List Value} {ps qs : List Prim} {w : World} (hf : fieldsAre P t l = true) (h1 : ps.length = l.length) (h2 : qs.length = l.length) (hl : l.map (·.1) = List.range l.length)
    (hx : xs = ps.map Prim.val) (hy : ys = qs.map Prim.val) (hp : ps.map Prim.num = l.map (·.2)) (hq : qs.map Prim.num = l.map (·.2)) :
    (Op.equalIn 10000 t (.agg xs.toArray) (.agg ys.toArray)).run P w = .ok (decide (ps = qs)) w ∧ P.eqGuardType P.depth t = false := by
  simp only [fieldsAre, Bool.and_eq_true, Bool.not_eq_true'] at hf
  obtain ⟨⟨⟨⟨f1, f2⟩, f3⟩, f4⟩, _⟩ := hf
  refine ⟨?_, f4⟩
  have hu : P.underlying t = some (.struct (P.fieldsOf t)) := by
    unfold Program.fieldsOf
    cases hd : P.underlying t with
    | none => rw [hd] at f2; simp at f2
    | some d => cases d <;> first | (rw [hd] at f2; simp at f2; done) | rfl
  rw [show (10000 : Nat) = 9998 + 1 + 1 from rfl, run_equalIn_struct w (9998 + 1) t xs.toArray ys.toArray hu f3]
  refine run_eqFields 9998 _ l ps qs (by simpa using f1) h1 h2 fun j x p q b1 b2 b3 => ?_
  have hj : j < l.length := (List.getElem?_eq_some_iff.1 b1).1
  have hx1 : x.1 = j := by
    have : (l.map (·.1))[j]? = some x.1 := by rw [List.getElem?_map, b1]; rfl
    rw [hl, List.getElem?_range hj] at this
    exact (Option.some.inj this).symm
  have n1 : p.num = x.2 := by
    have e1 : (ps.map Prim.num)[j]? = some p.num := by rw [List.getElem?_map, b2]; rfl
    rw [hp, List.getElem?_map, b1] at e1
    exact (Option.some.inj e1).symm
  have n2 : q.num = x.2 := by
    have e1 : (qs.map Prim.num)[j]? = some q.num := by rw [List.getElem?_map, b3]; rfl
    rw [hq, List.getElem?_map, b1] at e1
    exact (Option.some.inj e1).symm
  rw [hx1, hx, hy]
  exact ⟨by simp [b2], by simp [b3], n1, n2⟩
theorem y_eqlSt {t t' : TypeId} {x y : Operand} {xs ys : List Value} (l : List (Nat × Bool)) (ps qs : List Prim) (hf : fieldsAre P t l = true) (hx : ρ.ev x = some (.agg xs.toArray)) (hy : ρ.ev y = some (.agg ys.toArray))
    (e1 : xs = ps.map Prim.val) (e2 : ys = qs.map Prim.val) (hl : l.map (·.1) = List.range l.length) (hp : ps.map Prim.num = l.map (·.2)) (hq : qs.map Prim.num = l.map (·.2)) : Yd fr ds ρ L (.binOp .eql t x y t') ty (.bool (decide (ps = qs))) :=
  binOp_run hx hy fun w => by
    have l1 : ps.length = l.length := by have := congrArg List.length hp; simpa using this
    have l2 : qs.length = l.length := by have := congrArg List.length hq; simpa using this
    obtain ⟨r1, r2⟩ := run_eqSt (w := w) hf l1 l2 hl e1 e2 hp hq
    simp [run_eqGuard_agg w .eql t x y _ _ r2, run_eql_struct, r1]
theorem y_neqSt {t t' : TypeId} {x y : Operand} {xs ys : List Value} (l : List (Nat × Bool)) (ps qs : List Prim) (hf : fieldsAre P t l = true) (hx : ρ.ev x = some (.agg xs.toArray)) (hy : ρ.ev y = some (.agg ys.toArray))
    (e1 : xs = ps.map Prim.val) (e2 : ys = qs.map Prim.val) (hl : l.map (·.1) = List.range l.length) (hp : ps.map Prim.num = l.map (·.2)) (hq : qs.map Prim.num = l.map (·.2)) : Yd fr ds ρ L (.binOp .neq t x y t') ty (.bool (decide (¬ ps = qs))) :=
  binOp_run hx hy fun w => by
    have l1 : ps.length = l.length := by have := congrArg List.length hp; simpa using this
    have l2 : qs.length = l.length := by have := congrArg List.length hq; simpa using this
    obtain ⟨r1, r2⟩ := run_eqSt (w := w) hf l1 l2 hl e1 e2 hp hq
    simp [run_eqGuard_agg w .neq t x y _ _ r2, run_neq_struct, r1]
/-- A whole element (of more cells) of an owned row. -/
theorem y_ldON {t : TypeId} {x : Operand} {it : Ty} {iz ib : Nat} {iv : List Value} {A : Option Addr} {e n c sz : Nat} {q : Nat} {xs vs : List Value} (hx : ρ.ev x = some (.pointer (some ((A.getD default).add ((q : Int).toNat * sz))))) (ht : fr.X.tab[t]? = some (some ⟨it, iz, ib, iv⟩)) (hi : it.agg = true)
    [hm : HasS A e sz n c xs L] (hn : vs.length = iz) (hv : ∀ j v, vs[j]? = some v → xs[q * sz + j]? = some v) : Yd fr ds ρ L (.load t x) ty (.agg vs.toArray) :=
  y_loadN hx ht hi hn fun w hw j v hj => by
    obtain ⟨ad, rfl, hc⟩ := hw.slRd hm.mem _ _ (hv j v hj)
    rw [Option.getD_some, addr_add_add]
    simpa using hc
end
end Go.E
